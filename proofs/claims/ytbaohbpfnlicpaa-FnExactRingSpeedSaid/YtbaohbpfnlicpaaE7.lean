/- Walks: the speed of a ring, by the reference and by the program. -/
import Derived.Test.YtbaohbpfnlicpaaE6
import Derived.Test.YtbaohbpfnlicpaaQ1
namespace Go.Proofs.Ytbaohbpfnlicpaa
open Go Go.RowKit
set_option linter.unusedVariables false
set_option linter.unusedSimpArgs false
attribute [local go_sem] run_store_float

def c4pi : Nat := 1095307227
def c8 : Nat := 1090519040
theorem cn_c4pi : cn .f32 1095307227 = c4pi := by decide
theorem cn_c8 : cn .f32 1090519040 = c8 := by decide
/-- what the speed is, if it is finite -/
def speedV (radius core spin : Nat) : Nat := fop .mul .f32 (fop .quo .f32 spin (fop .mul .f32 c4pi radius)) (fop .sub .f32 (logP (fop .quo .f32 (fop .mul .f32 c8 radius) core)) quart32)
def tellP (v : Nat) : Bool × Nat := if finF v then (true, v) else (false, 0)
def speedOk (radius core spin : Nat) : Bool := aboveP radius && (aboveP core && finF spin)
def speedP (radius core spin : Nat) : Bool × Nat := if speedOk radius core spin then tellP (speedV radius core spin) else (false, 0)
/-- a call's result: a number, and whether there is one -/
def RN2 (e : Ending) (P : Bool × Nat) : Prop := ∃ r, e = .returned (.tuple #[.float .f32 r, .bool P.1]) ∧ cn .f32 r = P.2
theorem RN2.no : RN2 (.returned (.tuple #[.float .f32 0, .bool false])) (false, 0) := ⟨0, rfl, cn_zero32⟩

theorem lengthOk2_any (A : Option Addr) (cap : Nat) (x y : Nat) (w : World) (hA : FS w A [cn .f32 x, cn .f32 y]) (b : Bool) (hb : (aboveP (cn .f32 x) && aboveP (cn .f32 y)) = b) :
    Calls Try.prog 104 #[.slice A 2 cap] w fun e w' => Ext w w' ∧ e = .returned (.bool b) := by
  have HA := Lib.hid hA
  have HB := Lib.hid hb
  clear hA hb
  cases h0 : finF (cn .f32 x) && finF (cn .f32 y) with
  | false =>
    go_enter Try.func104, Try.ntmps104
    go_wp2_with fail
    refine (finite_any A cap [cn .f32 x, cn .f32 y] _ HA.out (by simp) false (by simpa using h0)).mono ?_
    rintro e w1 ⟨he1, rfl⟩
    go_wp2_with fail
    go_ret
    refine ⟨he1, ret_bool ?_⟩
    rw [← HB.out]
    unfold aboveP
    revert h0
    cases finF (cn .f32 x) <;> cases finF (cn .f32 y) <;> simp
  | true =>
    go_enter Try.func104, Try.ntmps104
    go_wp2_with fail
    refine (finite_any A cap [cn .f32 x, cn .f32 y] _ HA.out (by simp) true (by simpa using h0)).mono ?_
    rintro e w1 ⟨he1, rfl⟩
    have HE1 := Lib.hid he1
    clear he1
    go_wp2_with fail
    refine (ContainsFuncF_any _ _ asks_lengthOk1 A cap [cn .f32 x, cn .f32 y] _ (HA.out.ext HE1.out) (by simp) (!b) (by
      rw [← HB.out]
      rw [Bool.and_eq_true] at h0
      unfold aboveP
      rw [h0.1, h0.2]
      simp)).mono ?_
    rintro e w2 ⟨he2, rfl⟩
    go_wp2_with fail
    go_ret
    exact ⟨Ext.trans HE1.out he2, ret_bool (by simp)⟩
theorem l02Number_any (x : Nat) (w : World) : Calls Try.prog 102 #[.float .f32 x] w fun e w' => Ext w w' ∧ RN2 e (tellP (cn .f32 x)) := by
  unfold tellP
  cases h : finF (cn .f32 x) with
  | false =>
    have HF := Lib.hid h
    clear h
    go_enter Try.func102, Try.ntmps102
    go_wp2_with fail
    refine (l01Finite_any _ false HF.out _).mono ?_
    rintro e w1 ⟨he1, rfl⟩
    go_wp2_with fail
    go_ret2
    exact ⟨he1, RN2.no⟩
  | true =>
    have HF := Lib.hid h
    clear h
    go_enter Try.func102, Try.ntmps102
    go_wp2_with fail
    refine (l01Finite_any _ true HF.out _).mono ?_
    rintro e w1 ⟨he1, rfl⟩
    go_wp2_with fail
    go_ret2
    exact ⟨he1, x, rfl, rfl⟩
theorem toldNumber_any (x : Nat) (w : World) : Calls Try.prog 106 #[.float .f32 x] w fun e w' => Ext w w' ∧ RN2 e (tellP (cn .f32 x)) := by
  unfold tellP
  cases h : finF (cn .f32 x) with
  | false =>
    have HF := Lib.hid h
    clear h
    go_enter Try.func106, Try.ntmps106
    go_wp2_with fail
    refine (IsFinite_any _ false HF.out _).mono ?_
    rintro e w1 ⟨he1, rfl⟩
    go_wp2_with fail
    go_ret2
    exact ⟨he1, RN2.no⟩
  | true =>
    have HF := Lib.hid h
    clear h
    go_enter Try.func106, Try.ntmps106
    go_wp2_with fail
    refine (IsFinite_any _ true HF.out _).mono ?_
    rintro e w1 ⟨he1, rfl⟩
    go_wp2_with fail
    go_ret2
    exact ⟨he1, x, rfl, rfl⟩
end Go.Proofs.Ytbaohbpfnlicpaa
