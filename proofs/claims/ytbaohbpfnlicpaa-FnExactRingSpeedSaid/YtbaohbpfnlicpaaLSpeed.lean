/- The law FnExactRingSpeed: for all arguments it answers true, and changes nothing that was there. -/
import Derived.Test.YtbaohbpfnlicpaaE8
namespace Go.Proofs.Ytbaohbpfnlicpaa
open Go Go.RowKit
set_option linter.unusedVariables false
set_option linter.unusedSimpArgs false
attribute [local go_sem] run_store_float

theorem RN2.open {e : Ending} {P : Bool × Nat} {pb : Bool} {v : Nat} (h : RN2 e P) (hP : P = (pb, v)) : ∃ r, e = .returned (.tuple #[.float .f32 r, .bool pb]) ∧ cn .f32 r = v := by subst hP; exact h
set_option maxRecDepth 100000 in
theorem lawSpeed (radius core spin : Nat) (w : World) :
    Calls Try.prog 6 #[.float .f32 radius, .float .f32 core, .float .f32 spin] w fun e w' => Ext w w' ∧ e = .returned (.bool true) := by
  obtain ⟨Q, hQ⟩ : ∃ Q, speedP (cn .f32 radius) (cn .f32 core) (cn .f32 spin) = Q := ⟨_, rfl⟩
  obtain ⟨pb, v⟩ := Q
  have HQ := Lib.hid hQ
  clear hQ
  go_enter Try.func6, Try.ntmps6
  go_wp2_with fail
  refine (specSpeed_any radius core spin _).mono ?_
  rintro e w1 ⟨he1, hrn⟩
  obtain ⟨r1, rfl, hr1⟩ := RN2.open hrn HQ.out
  have HR1 := Lib.hid hr1
  have HE1 := Lib.hid he1
  clear hrn hr1 he1
  go_wp2_with fail
  refine (implSpeed_any radius core spin _).mono ?_
  rintro e w2 ⟨he2, hrn⟩
  obtain ⟨r2, rfl, hr2⟩ := RN2.open hrn HQ.out
  have HR2 := Lib.hid hr2
  have HE2 := Lib.hid (Ext.trans HE1.out he2)
  clear hrn hr2 he2 HE1
  go_wp2_with (first
    | (refine wpList_fconv rfl 22 38 _ rfl .f32 .f64 isF32 Try.underlying38 _ rfl (fun _ => ovf_widen _) ?_; intro r3 n3 q3; have HC := Lib.hid q3; clear q3))
  rename_i a1 k1 HA KK hKK
  refine (sameFloat_any _ _ (by rw [show cn .f64 r3 = _ from HC.out, show cn .f64 a1 = _ from HA.out, HR1.out, HR2.out]) _).mono ?_
  rintro e w3 ⟨he3, rfl⟩
  have HE3 := Lib.hid (show Ext w w3 by have := HE2.out; (repeat first | with_reducible exact Ext.rfl' _ | with_reducible refine Ext.drewN ?_ _ | with_reducible refine Ext.drew' ?_ | with_reducible refine Ext.alloc' ?_ _ | with_reducible refine Ext.setCell_at ?_ _ _ _ (by first | exact Nat.le_refl _ | omega) | with_reducible assumption | refine Ext.trans ?_ (by with_reducible assumption)))
  clear he3 HE2 HC HA
  go_wp2_with fail
  go_ret
  exact ⟨HE3.out, rfl⟩
end Go.Proofs.Ytbaohbpfnlicpaa
