/- Numbers that a float64 has are written back as they were read. -/
import Derived.Test.YtfehhbmmdbpdpaaT0
namespace Go.Proofs.Ytfehhbmmdbpdpaa
open Go Ieee

theorem cut_exact (s : Bool) (m k : Nat) : Toward.even.cut s (m <<< k) k = m := by
  unfold Toward.cut
  dsimp only
  rw [Nat.shiftLeft_eq, Nat.shiftLeft_eq, Nat.one_mul]
  by_cases hm : m = 0
  · subst hm
    have h1 : 0 < 2 ^ min k (Nat.log2 (0 * 2 ^ k) + 2) := Nat.two_pow_pos _
    generalize 2 ^ min k (Nat.log2 (0 * 2 ^ k) + 2) = g at *
    simp
  · have hl : k ≤ (m * 2 ^ k).log2 + 2 := by
      have h1 : 2 ^ k ≤ m * 2 ^ k := Nat.le_mul_of_pos_left _ (by omega)
      have h2 : (m * 2 ^ k) < 2 ^ ((m * 2 ^ k).log2 + 1) := Nat.lt_log2_self
      have h3 := (Nat.pow_lt_pow_iff_right (show 1 < 2 by decide)).1 (Nat.lt_of_le_of_lt h1 h2)
      omega
    rw [Nat.min_eq_left hl, Nat.mul_div_cancel _ (Nat.two_pow_pos _), Nat.mul_mod_left]
    have h1 : decide (2 ^ k < 2 * 0) = false := by simp
    have h2 : (2 ^ k == 2 * 0) = false := by
      have := Nat.two_pow_pos k
      rw [beq_eq_false_iff_ne]; omega
    simp only [h1, h2, Bool.false_and, Bool.or_false, Bool.toNat_false, Nat.add_zero]
theorem log2_eq {m g : Nat} (h1 : 2 ^ g ≤ m) (h2 : m < 2 ^ (g + 1)) : m.log2 = g := by
  have hm : m ≠ 0 := by have := Nat.two_pow_pos g; omega
  have a := Nat.log2_self_le hm
  have b : m < 2 ^ (m.log2 + 1) := Nat.lt_log2_self
  have c := (Nat.pow_lt_pow_iff_right (show 1 < 2 by decide)).1 (Nat.lt_of_le_of_lt h1 b)
  have d := (Nat.pow_lt_pow_iff_right (show 1 < 2 by decide)).1 (Nat.lt_of_le_of_lt a h2)
  omega
theorem log2_shl {m k : Nat} (hm : m ≠ 0) : (m <<< k).log2 = m.log2 + k := by
  rw [Nat.shiftLeft_eq]
  refine log2_eq ?_ ?_
  · rw [Nat.pow_add]; exact Nat.mul_le_mul_right _ (Nat.log2_self_le hm)
  · rw [show m.log2 + k + 1 = m.log2 + 1 + k by omega, Nat.pow_add]
    exact Nat.mul_lt_mul_of_pos_right Nat.lt_log2_self (Nat.two_pow_pos _)
/-- what a format has is written as the word it was read from -/
theorem nearest_exact (f : Format) (hinf : f.binade ≤ f.infRung) (y : Nat) (hy : y < 2 * f.signWeight) {s : Bool} {m : Nat} {p : Int} (h : f.read y = .number s m p) (k : Nat) : f.nearest s (m <<< k) (p - k) = y := by
  have hb : 0 < f.binade := Nat.two_pow_pos _
  have hs : 0 < f.signWeight := by unfold Format.signWeight; exact Nat.two_pow_pos _
  have hsy : f.word (y / f.signWeight % 2 == 1) (y % f.signWeight) = y := by
    have hd := Nat.div_add_mod y f.signWeight
    have hq : y / f.signWeight < 2 := (Nat.div_lt_iff_lt_mul hs).2 hy
    generalize y / f.signWeight = qq at *
    unfold Format.word
    rcases (by omega : qq = 0 ∨ qq = 1) with e | e
    · rw [e, Nat.mul_zero, Nat.zero_add] at hd
      rw [e, show ((0 : Nat) % 2 == 1) = false from rfl, if_neg (by decide)]
      exact hd
    · rw [e, Nat.mul_one] at hd
      rw [e, show ((1 : Nat) % 2 == 1) = true from rfl, if_pos rfl]
      exact hd
  unfold Format.read at h
  dsimp only at h
  generalize hr : y % f.signWeight = rung at *
  generalize hng : (y / f.signWeight % 2 == 1) = ng at *
  by_cases h1 : rung < f.binade
  · rw [if_pos h1] at h
    injection h with h2 h3 h4
    subst h2; subst h3; subst h4
    unfold Format.nearest
    by_cases hm : rung = 0
    · rw [if_pos (by rw [hm]; simp)]
      rw [hm] at hsy; exact hsy
    · have hne : rung <<< k ≠ 0 := by rw [Nat.shiftLeft_eq]; have := Nat.two_pow_pos k; exact Nat.mul_ne_zero hm (by omega)
      rw [if_neg hne]
      dsimp only
      have hl : rung.log2 < f.fractionBits := by
        have a := Nat.log2_self_le hm
        exact (Nat.pow_lt_pow_iff_right (show 1 < 2 by decide)).1 (Nat.lt_of_le_of_lt a h1)
      have hlast : max (f.leastPlace - (k : Int) + ((rung <<< k).log2 : Int) - (f.fractionBits : Int)) f.leastPlace = f.leastPlace := by rw [log2_shl hm]; omega
      rw [hlast]
      rw [show (f.leastPlace - (k : Int) - f.leastPlace).toNat = 0 by omega, show (f.leastPlace - (f.leastPlace - (k : Int))).toNat = k by omega, show (f.leastPlace - f.leastPlace).toNat = 0 by omega]
      rw [Nat.shiftLeft_zero, cut_exact, Nat.zero_mul, Nat.zero_add]
      rw [Nat.min_eq_left (by omega)]; exact hsy
  · rw [if_neg h1] at h
    by_cases h2 : rung < f.infRung
    · rw [if_pos h2] at h
      injection h with h3 h4 h5
      subst h3; subst h4; subst h5
      have hmod : rung % f.binade < f.binade := Nat.mod_lt _ hb
      have hm : f.binade + rung % f.binade ≠ 0 := by omega
      have hlog : (f.binade + rung % f.binade).log2 = f.fractionBits := by
        refine log2_eq (show f.binade ≤ _ by omega) ?_
        rw [Nat.pow_succ]
        show _ < f.binade * 2
        omega
      unfold Format.nearest
      have hne : (f.binade + rung % f.binade) <<< k ≠ 0 := by rw [Nat.shiftLeft_eq]; have := Nat.two_pow_pos k; exact Nat.mul_ne_zero hm (by omega)
      rw [if_neg hne]
      dsimp only
      generalize hq : rung / f.binade - 1 = q
      have hlast : max (f.leastPlace + (q : Int) - (k : Int) + (((f.binade + rung % f.binade) <<< k).log2 : Int) - (f.fractionBits : Int)) f.leastPlace = f.leastPlace + (q : Int) := by rw [log2_shl hm, hlog]; omega
      rw [hlast]
      rw [show (f.leastPlace + (q : Int) - (k : Int) - (f.leastPlace + (q : Int))).toNat = 0 by omega, show (f.leastPlace + (q : Int) - (f.leastPlace + (q : Int) - (k : Int))).toNat = k by omega, show (f.leastPlace + (q : Int) - f.leastPlace).toNat = q by omega]
      rw [Nat.shiftLeft_zero, cut_exact]
      have htot : q * f.binade + (f.binade + rung % f.binade) = rung := by
        have hd := Nat.div_add_mod rung f.binade
        have hq1 : 1 ≤ rung / f.binade := (Nat.le_div_iff_mul_le hb).2 (by omega)
        have : rung / f.binade = q + 1 := by omega
        rw [this, Nat.mul_add, Nat.mul_one, Nat.mul_comm] at hd
        omega
      rw [htot, Nat.min_eq_left (Nat.le_of_lt h2)]
      exact hsy
    · rw [if_neg h2] at h
      split at h <;> cases h
end Go.Proofs.Ytfehhbmmdbpdpaa
