/- Walks: whether numbers are the same. -/
import Derived.Test.YtbaohbpfnlicpaaW2
import Derived.Laws.Externs
namespace Go.Proofs.Ytbaohbpfnlicpaa
open Go Go.RowKit
set_option linter.unusedVariables false
set_option linter.unusedSimpArgs false
attribute [local go_sem] run_store_float

theorem run_bits (x : Nat) (w : World) : (callFunc 168 #[.float .f32 x]).run Try.prog w = .ok (.value (.int .u32 x)) w := by
  rw [run_callFunc_extern Try.func168 (by kernel_rfl) (by kernel_rfl) (by kernel_rfl) (e := Extern.MathFloatBits.float32bits) (by kernel_rfl)]
  rfl
/-- a number's bits lie in their bounds -/
def In32 (x : Nat) : Prop := x < 4294967296
/-- the two numbers are the same -/
def sameB (a b : Nat) : Bool := decide (cn .f32 a = cn .f32 b)
theorem sameB_num {x y : Nat} (hx : isN .f32 x = false) (hy : isN .f32 y = false) : sameB x y = ((x : Int) == (y : Int)) := by
  unfold sameB
  rw [cn_of_not hx, cn_of_not hy]
  by_cases h : x = y
  · subst h; simp
  · have h' : ¬ ((x : Int) = (y : Int)) := by omega
    simp [h, h']
theorem sameB_mixed {x y : Nat} (h : isN .f32 x ≠ isN .f32 y) : sameB x y = false := by
  unfold sameB
  refine decide_eq_false fun e => h ?_
  rw [← isN_cn .f32 x, e, isN_cn]
theorem sameB_nan {x y : Nat} (hx : isN .f32 x = true) (hy : isN .f32 y = true) : sameB x y = true := by
  unfold sameB
  rw [cn_of hx, cn_of hy]
  simp
theorem sameB_int (x y : Nat) : sameB x y = (((cn .f32 x : Nat) : Int) == ((cn .f32 y : Nat) : Int)) := by
  unfold sameB
  by_cases h : cn .f32 x = cn .f32 y
  · simp [h]
  · have h' : ¬ (((cn .f32 x : Nat) : Int) = ((cn .f32 y : Nat) : Int)) := by omega
    simp [h, h']
theorem isN_lt {x : Nat} (h : isN .f32 x = false) (hx : In32 (cn .f32 x)) : x < 4294967296 := by rw [cn_of_not h] at hx; exact hx

set_option maxRecDepth 100000 in
theorem isNaN_any (x : Nat) (b : Bool) (hb : isN .f32 x = b) (w : World) : Calls Try.prog 167 #[.float .f32 x] w fun e w' => Ext w w' ∧ e = .returned (.bool b) := by
  have h := fcmp_neq_self .f32 (cn .f32 x)
  rw [isN_cn, hb] at h
  go_enter Try.func167, Try.ntmps167
  go_wp2_with (first | (refine wpList_float rfl _ _ _ _ _ rfl (by decide) _ _ _ rfl rfl ?_; intro r1 n1 q1) | (refine wpList_fcmp rfl _ _ _ _ _ rfl rfl _ _ _ rfl rfl _ (by first | with_reducible assumption | rfl) ?_) | (refine wpList_fneg rfl _ _ rfl _ _ rfl ?_; intro r1 q1))
  go_ret
  exact ⟨by (repeat first | with_reducible exact Ext.rfl' _ | with_reducible refine Ext.drewN ?_ _ | with_reducible refine Ext.drew' ?_ | with_reducible refine Ext.alloc' ?_ _ | with_reducible refine Ext.setCell_at ?_ _ _ _ (by first | exact Nat.le_refl _ | omega) | with_reducible assumption | refine Ext.trans ?_ (by with_reducible assumption)), rfl⟩
set_option maxRecDepth 100000 in
theorem l01Bits_any (x : Nat) (hx : In32 (cn .f32 x)) (w : World) : Calls Try.prog 194 #[.float .f32 x] w fun e w' => Ext w w' ∧ e = .returned (.int .i64 (cn .f32 x)) := by
  have h := fcmp_neq_self .f32 (cn .f32 x)
  rw [isN_cn] at h
  have HX := Lib.hid hx
  clear hx
  have hd := fun w => run_bits x w
  cases hn : isN .f32 x with
  | true =>
    rw [hn] at h
    have hc : cn .f32 x = 2143289344 := cn_of hn
    go_enter Try.func194, Try.ntmps194
    go_wp2_with (first | (refine wpList_float rfl _ _ _ _ _ rfl (by decide) _ _ _ rfl rfl ?_; intro r1 n1 q1) | (refine wpList_fcmp rfl _ _ _ _ _ rfl rfl _ _ _ rfl rfl _ (by first | with_reducible assumption | rfl) ?_) | (refine wpList_fneg rfl _ _ rfl _ _ rfl ?_; intro r1 q1))
    go_ret
    exact ⟨by (repeat first | with_reducible exact Ext.rfl' _ | with_reducible refine Ext.drewN ?_ _ | with_reducible refine Ext.drew' ?_ | with_reducible refine Ext.alloc' ?_ _ | with_reducible refine Ext.setCell_at ?_ _ _ _ (by first | exact Nat.le_refl _ | omega) | with_reducible assumption | refine Ext.trans ?_ (by with_reducible assumption)), by rw [hc]; rfl⟩
  | false =>
    rw [hn] at h
    have hc : cn .f32 x = x := cn_of_not hn
    have hw : IntKind.i64.wrap (x : Int) = (x : Int) := IntWalk.i64_in _ (by have := isN_lt hn HX.out; omega)
    go_enter Try.func194, Try.ntmps194
    go_wp2_with (first | (refine wpList_float rfl _ _ _ _ _ rfl (by decide) _ _ _ rfl rfl ?_; intro r1 n1 q1) | (refine wpList_fcmp rfl _ _ _ _ _ rfl rfl _ _ _ rfl rfl _ (by first | with_reducible assumption | rfl) ?_) | (refine wpList_fneg rfl _ _ rfl _ _ rfl ?_; intro r1 q1))
    go_ret
    exact ⟨by (repeat first | with_reducible exact Ext.rfl' _ | with_reducible refine Ext.drewN ?_ _ | with_reducible refine Ext.drew' ?_ | with_reducible refine Ext.alloc' ?_ _ | with_reducible refine Ext.setCell_at ?_ _ _ _ (by first | exact Nat.le_refl _ | omega) | with_reducible assumption | refine Ext.trans ?_ (by with_reducible assumption)), by rw [hc]; rfl⟩
theorem l01BitsE_any (x : Nat) (hx : In32 (cn .f32 x)) (w : World) : Calls Try.prog 194 #[.float .f32 x] w fun e w' => Ext w w' ∧ ∃ m : Int, e = .returned (.int .i64 m) ∧ m = (cn .f32 x : Nat) :=
  (l01Bits_any x hx w).mono fun e w' ⟨a, b⟩ => ⟨a, _, b, rfl⟩
set_option maxRecDepth 100000 in
theorem l01Same_any (x y : Nat) (hx : In32 (cn .f32 x)) (hy : In32 (cn .f32 y)) (b : Bool) (hb : sameB x y = b) (w : World) : Calls Try.prog 163 #[.float .f32 x, .float .f32 y] w fun e w' => Ext w w' ∧ e = .returned (.bool b) := by
  have HX := Lib.hid hx
  have HY := Lib.hid hy
  clear hx hy
  go_enter Try.func163, Try.ntmps163
  have HB := Lib.hid hb
  clear hb
  go_wp2_with fail
  refine (l01BitsE_any _ HX.out _).mono ?_
  rintro e w1 ⟨he1, m1, rfl, hm1⟩
  have HX1 := Lib.hid he1
  have HM1 := Lib.hid hm1
  clear he1 hm1
  go_wp2_with fail
  refine (l01BitsE_any _ HY.out _).mono ?_
  rintro e w2 ⟨he2, m2, rfl, hm2⟩
  have HM2 := Lib.hid hm2
  clear hm2
  go_wp2_with fail
  go_ret
  exact ⟨by have := HX1.out; (repeat first | with_reducible exact Ext.rfl' _ | with_reducible refine Ext.drewN ?_ _ | with_reducible refine Ext.drew' ?_ | with_reducible refine Ext.alloc' ?_ _ | with_reducible refine Ext.setCell_at ?_ _ _ _ (by first | exact Nat.le_refl _ | omega) | with_reducible assumption | refine Ext.trans ?_ (by with_reducible assumption)), by rw [← HB.out, sameB_int, ← HM1.out, ← HM2.out]; rfl⟩
set_option maxRecDepth 100000 in
theorem SameNumber_any (x y : Nat) (b : Bool) (hb : sameB x y = b) (w : World) : Calls Try.prog 98 #[.float .f32 x, .float .f32 y] w fun e w' => Ext w w' ∧ e = .returned (.bool b) := by
  have hd := fun w => run_bits x w
  have hd' := fun w => run_bits y w
  have HB := Lib.hid hb
  clear hb
  cases hn : isN .f32 x
  all_goals cases hm : isN .f32 y
  all_goals
    go_enter Try.func98, Try.ntmps98
    go_wp2_with (first
      | (go_at_call 167; refine (isNaN_any _ _ (by first | exact hn | exact hm) _).mono ?_; rintro e w1 ⟨he1, rfl⟩))
    go_ret
    exact ⟨by (repeat first | with_reducible exact Ext.rfl' _ | with_reducible refine Ext.drewN ?_ _ | with_reducible refine Ext.drew' ?_ | with_reducible refine Ext.alloc' ?_ _ | with_reducible refine Ext.setCell_at ?_ _ _ _ (by first | exact Nat.le_refl _ | omega) | with_reducible assumption | refine Ext.trans ?_ (by with_reducible assumption)), by first | (rw [← HB.out, sameB_num hn hm]; rfl) | (rw [← HB.out, sameB_mixed (by rw [hn, hm]; decide)]; rfl) | (rw [← HB.out, sameB_nan hn hm]; rfl)⟩
end Go.Proofs.Ytbaohbpfnlicpaa
