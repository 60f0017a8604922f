/- What is left of a float64 when its whole part is taken away is at most 1. -/
import Derived.Test.YtbaohbpfnlicpaaU4
namespace Go.Proofs.Ytbaohbpfnlicpaa
open Go Ieee

theorem whole_rest (m : Nat) (p : Int) (b : Nat) (hb : (-p).toNat ≤ b) : wholeM m p * 2 ^ b ≤ m * 2 ^ (p + b).toNat ∧ m * 2 ^ (p + b).toNat - wholeM m p * 2 ^ b ≤ 2 ^ b := by
  unfold wholeM
  rw [Nat.shiftLeft_eq]
  rcases Int.le_total 0 p with hp | hp
  · rw [show (-p).toNat = 0 by omega, Nat.pow_zero, Nat.div_one, show (p + b).toNat = p.toNat + b by omega, Nat.pow_add, ← Nat.mul_assoc]
    exact ⟨Nat.le_refl _, by rw [Nat.sub_self]; exact Nat.zero_le _⟩
  · generalize hd : (-p).toNat = d at *
    rw [show p.toNat = 0 by omega, Nat.pow_zero, Nat.mul_one, show (p + b).toNat = b - d by omega]
    have hs : 2 ^ b = 2 ^ d * 2 ^ (b - d) := by rw [← Nat.pow_add]; congr 1; omega
    have hdm := Nat.div_add_mod m (2 ^ d)
    have hml : m % 2 ^ d < 2 ^ d := Nat.mod_lt _ (Nat.two_pow_pos _)
    have he : m * 2 ^ (b - d) = m / 2 ^ d * 2 ^ b + m % 2 ^ d * 2 ^ (b - d) := by
      rw [hs, ← Nat.mul_assoc, ← Nat.add_mul, Nat.mul_comm (m / 2 ^ d), hdm]
    rw [he]
    refine ⟨Nat.le_add_right _ _, ?_⟩
    rw [Nat.add_sub_cancel_left, hs]
    exact Nat.mul_le_mul_right _ (Nat.le_of_lt hml)
theorem frac_bnd (y : Nat) {s : Bool} {m : Nat} {p : Int} (h : FloatKind.f64.decode y = .number s m p) (hT : wholeM m p ≠ 0) (hT2 : wholeM m p < 2 ^ 53) : bnd (fop .sub .f64 y (floatOfInt .f64 (signed s (wholeM m p) 0))) 0 := by
  have hg : (wholeM m p).log2 ≤ 52 := by
    have a := Nat.log2_self_le hT
    have := (Nat.pow_lt_pow_iff_right (show 1 < 2 by decide)).1 (Nat.lt_of_le_of_lt a hT2)
    omega
  rw [floatOfInt_whole s _ hT]
  have hr := read_whole s _ hT hT2
  generalize hw : FloatKind.f64.format.write (.number s (wholeM m p) 0) = wd at *
  have hf : fop .sub .f64 y wd = (((Datum.number s m p).sum (.number (!s) (wholeM m p <<< (52 - (wholeM m p).log2)) (((wholeM m p).log2 : Int) - 52))).map FloatKind.f64.format.write).getD (qn .f64) := by
    unfold fop floatBits Format.sub
    rw [show FloatKind.f64.format.read y = _ from h, show FloatKind.f64.format.read wd = _ from hr]
    rfl
  simp only [Datum.sum, Option.map_some, Option.getD_some] at hf
  refine bnd_of_write hf ?_ (by decide) (by decide)
  generalize hgg : (wholeM m p).log2 = g at *
  generalize hbs : min p ((g : Int) - 52) = base at *
  have hb0 : base ≤ 0 := by omega
  obtain ⟨b, hb⟩ : ∃ b : Nat, base = -(b : Int) := ⟨(-base).toNat, by omega⟩
  obtain ⟨r1, r2⟩ := whole_rest m p b (by omega)
  have e1 : m <<< (p - base).toNat = m * 2 ^ (p + b).toNat := by rw [Nat.shiftLeft_eq]; congr 2; omega
  have e2 : (wholeM m p <<< (52 - g)) <<< ((g : Int) - 52 - base).toNat = wholeM m p * 2 ^ b := by
    rw [Nat.shiftLeft_eq, Nat.shiftLeft_eq, Nat.mul_assoc, ← Nat.pow_add]
    congr 2; omega
  refine .inr ⟨hb0, ?_⟩
  rw [show (0 - base).toNat = b by omega]
  unfold signed
  rw [e1, e2]
  generalize m * 2 ^ (p + b).toNat = u at *
  generalize wholeM m p * 2 ^ b = v at *
  generalize 2 ^ b = c at *
  cases s <;> simp only [Bool.not_true, Bool.not_false, if_true, if_false, Bool.false_eq_true] <;> omega
end Go.Proofs.Ytbaohbpfnlicpaa
