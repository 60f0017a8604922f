/- Walks: the length of a vector. -/
import Derived.Test.YtbaohbpfnlicpaaN1
namespace Go.Proofs.Ytbaohbpfnlicpaa
open Go Go.RowKit
set_option linter.unusedVariables false
set_option linter.unusedSimpArgs false
attribute [local go_sem] run_store_float

theorem RootNumber_any (x : Nat) (w : World) : Calls Try.prog 185 #[.float .f32 x] w fun e w' => Ext w w' ∧ ∃ r, e = .returned (.float .f32 r) ∧ cn .f32 r = rootP (cn .f32 x) := by
  go_enter Try.func185, Try.ntmps185
  go_wp2_with (first
    | (refine wpList_fconv rfl 22 38 _ rfl .f32 .f64 isF32 Try.underlying38 _ rfl (fun _ => ovf_widen _) ?_; intro r1 n1 q1; have HQ1 := Lib.hid q1)
    | (go_at_call 200; refine (Sqrt_any _ _).mono ?_; rintro e w1 ⟨he1, r2, rfl, hr2⟩; have HR2 := Lib.hid hr2)
    | (refine wpList_fconv rfl 38 22 _ rfl .f64 .f32 isF64 Try.underlying22 _ rfl (fun _ => by rw [HR2.out, show cn .f64 r1 = wid (cn .f32 x) from HQ1.out]; exact ovf_root _) ?_; intro r3 n3 q3))
  go_ret
  refine ⟨by (repeat first | with_reducible exact Ext.rfl' _ | with_reducible refine Ext.drewN ?_ _ | with_reducible refine Ext.drew' ?_ | with_reducible refine Ext.alloc' ?_ _ | with_reducible refine Ext.setCell_at ?_ _ _ _ (by first | exact Nat.le_refl _ | omega) | with_reducible assumption | refine Ext.trans ?_ (by with_reducible assumption)), _, rfl, ?_⟩
  rw [show cn .f32 r3 = _ from q3, HR2.out, show cn .f64 r1 = wid (cn .f32 x) from HQ1.out]
  rfl
theorem l01Narrow_any (y : Nat) (hov : ovf .f64 (cn .f64 y) .f32 = false) (w : World) : Calls Try.prog 169 #[.float .f64 y] w fun e w' => Ext w w' ∧ ∃ r, e = .returned (.float .f32 r) ∧ cn .f32 r = fconv .f64 (cn .f64 y) .f32 := by
  have HO := Lib.hid hov
  clear hov
  go_enter Try.func169, Try.ntmps169
  go_wp2_with (first
    | (refine wpList_fconv rfl 38 22 _ rfl .f64 .f32 isF64 Try.underlying22 _ rfl (fun _ => HO.out) ?_; intro r3 n3 q3))
  go_ret
  exact ⟨by (repeat first | with_reducible exact Ext.rfl' _ | with_reducible refine Ext.drewN ?_ _ | with_reducible refine Ext.drew' ?_ | with_reducible refine Ext.alloc' ?_ _ | with_reducible refine Ext.setCell_at ?_ _ _ _ (by first | exact Nat.le_refl _ | omega) | with_reducible assumption | refine Ext.trans ?_ (by with_reducible assumption)), _, rfl, q3⟩
theorem l01Sqrt_any (x : Nat) (w : World) : Calls Try.prog 183 #[.float .f32 x] w fun e w' => Ext w w' ∧ ∃ r, e = .returned (.float .f32 r) ∧ cn .f32 r = rootP (cn .f32 x) := by
  go_enter Try.func183, Try.ntmps183
  go_wp2_with (first
    | (refine wpList_fconv rfl 22 38 _ rfl .f32 .f64 isF32 Try.underlying38 _ rfl (fun _ => ovf_widen _) ?_; intro r1 n1 q1; have HQ1 := Lib.hid q1)
    | (go_at_call 200; refine (Sqrt_any _ _).mono ?_; rintro e w1 ⟨he1, r2, rfl, hr2⟩; have HR2 := Lib.hid hr2)
    | (go_at_call 169; refine (l01Narrow_any _ (by rw [HR2.out, show cn .f64 r1 = wid (cn .f32 x) from HQ1.out]; exact ovf_root _) _).mono ?_; rintro e w2 ⟨he2, r3, rfl, hr3⟩; have HR3 := Lib.hid hr3))
  go_ret
  refine ⟨by (repeat first | with_reducible exact Ext.rfl' _ | with_reducible refine Ext.drewN ?_ _ | with_reducible refine Ext.drew' ?_ | with_reducible refine Ext.alloc' ?_ _ | with_reducible refine Ext.setCell_at ?_ _ _ _ (by first | exact Nat.le_refl _ | omega) | with_reducible assumption | refine Ext.trans ?_ (by with_reducible assumption)), _, rfl, ?_⟩
  rw [HR3.out, HR2.out, show cn .f64 r1 = wid (cn .f32 x) from HQ1.out]
  rfl
theorem l01VLong_any (x y z : Nat) (w : World) : Calls Try.prog 146 #[.agg #[.float .f32 x, .float .f32 y, .float .f32 z]] w fun e w' => Ext w w' ∧ ∃ r, e = .returned (.float .f32 r) ∧ cn .f32 r = longP (cv x y z) := by
  go_enter Try.func146, Try.ntmps146
  go_wp2_with (first
    | (go_at_call 183; refine (l01Sqrt_any _ _).mono ?_; rintro e w2 ⟨he2, r2, rfl, hr2⟩; have HR2 := Lib.hid hr2)
    | (go_at_call 184; refine (l01VInner_any _ _ _ _ _ _ _).mono ?_; rintro e w1 ⟨he1, r1, rfl, hr1⟩; have HR1 := Lib.hid hr1))
  go_ret
  refine ⟨by (repeat first | with_reducible exact Ext.rfl' _ | with_reducible refine Ext.drewN ?_ _ | with_reducible refine Ext.drew' ?_ | with_reducible refine Ext.alloc' ?_ _ | with_reducible refine Ext.setCell_at ?_ _ _ _ (by first | exact Nat.le_refl _ | omega) | with_reducible assumption | refine Ext.trans ?_ (by with_reducible assumption)), _, rfl, ?_⟩
  rw [HR2.out, HR1.out]
  rfl
theorem SizeOfVector_any (x y z : Nat) (w : World) : Calls Try.prog 148 #[.agg #[.float .f32 x, .float .f32 y, .float .f32 z]] w fun e w' => Ext w w' ∧ ∃ r, e = .returned (.float .f32 r) ∧ cn .f32 r = longP (cv x y z) := by
  go_enter Try.func148, Try.ntmps148
  go_wp2_with (first
    | (go_at_call 185; refine (RootNumber_any _ _).mono ?_; rintro e w2 ⟨he2, r2, rfl, hr2⟩; have HR2 := Lib.hid hr2)
    | (go_at_call 186; refine (InnerOf_any _ _ _ _ _ _ _).mono ?_; rintro e w1 ⟨he1, r1, rfl, hr1⟩; have HR1 := Lib.hid hr1))
  go_ret
  refine ⟨by (repeat first | with_reducible exact Ext.rfl' _ | with_reducible refine Ext.drewN ?_ _ | with_reducible refine Ext.drew' ?_ | with_reducible refine Ext.alloc' ?_ _ | with_reducible refine Ext.setCell_at ?_ _ _ _ (by first | exact Nat.le_refl _ | omega) | with_reducible assumption | refine Ext.trans ?_ (by with_reducible assumption)), _, rfl, ?_⟩
  rw [HR2.out, HR1.out]
  rfl
end Go.Proofs.Ytbaohbpfnlicpaa
