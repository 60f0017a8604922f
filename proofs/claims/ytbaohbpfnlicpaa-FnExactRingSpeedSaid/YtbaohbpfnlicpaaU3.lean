/- A float64's whole part, by the reference's way and by the program's. -/
import Derived.Test.YtbaohbpfnlicpaaU2
namespace Go.Proofs.Ytbaohbpfnlicpaa
open Go Ieee

theorem cut_zero (s : Bool) (n drop : Nat) : Toward.zero.cut s n drop = n / 2 ^ drop := by
  unfold Toward.cut
  dsimp only
  rw [Nat.shiftLeft_eq, Nat.one_mul]
  simp only [Bool.toNat_false, Nat.add_zero]
  by_cases hd : drop ≤ n.log2 + 2
  · rw [Nat.min_eq_left hd]
  · rw [Nat.min_eq_right (by omega)]
    by_cases hn : n = 0
    · subst hn; simp
    · have hlt : n < 2 ^ (n.log2 + 1) := Nat.lt_log2_self
      have h1 : 2 ^ (n.log2 + 1) ≤ 2 ^ (n.log2 + 2) := Nat.pow_le_pow_right (by decide) (by omega)
      have h2 : 2 ^ (n.log2 + 1) ≤ 2 ^ drop := Nat.pow_le_pow_right (by decide) (by omega)
      rw [Nat.div_eq_of_lt (by omega), Nat.div_eq_of_lt (by omega)]
/-- the size of the whole part -/
def wholeM (m : Nat) (p : Int) : Nat := (m <<< p.toNat) / 2 ^ (-p).toNat
theorem floatOfInt_whole (s : Bool) (T : Nat) (hT : T ≠ 0) : floatOfInt .f64 (signed s T 0) = FloatKind.f64.format.write (.number s T 0) := by
  show Ieee.double.nearest (decide (signed s T 0 < 0)) (signed s T 0).natAbs 0 = Ieee.double.nearest s T 0
  unfold signed
  rw [Nat.shiftLeft_zero]
  cases s with
  | false =>
    simp only [Bool.false_eq_true, if_false]
    rw [show decide ((T : Int) < 0) = false from decide_eq_false (by omega)]
    simp
  | true =>
    simp only [if_true]
    rw [show decide (-(T : Int) < 0) = true from decide_eq_true (by omega)]
    simp
theorem floatOfInt_zero (s : Bool) : floatOfInt .f64 (signed s 0 0) = 0 := by
  cases s <;> decide
end Go.Proofs.Ytbaohbpfnlicpaa
