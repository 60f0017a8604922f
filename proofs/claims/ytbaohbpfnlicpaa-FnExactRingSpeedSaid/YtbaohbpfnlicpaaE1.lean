/- Normal float64 numbers: read as they were written; halved, doubled, compared. -/
import Derived.Test.YtbaohbpfnlicpaaU6
namespace Go.Proofs.Ytbaohbpfnlicpaa
open Go Ieee

theorem dbl_lp : Ieee.double.leastPlace = -1074 := by decide
theorem dbl_bin : Ieee.double.binade = 4503599627370496 := by decide
theorem dbl_inf : Ieee.double.infRung = 9218868437227405312 := by rfl
/-- a number that a float64 has, written and read -/
theorem read_norm (s : Bool) (m : Nat) (p : Int) (h0 : m ≠ 0) (h1 : m < 2 ^ 53) (hlo : -1074 ≤ p + (m.log2 : Int) - 52) (hhi : p + (m.log2 : Int) - 52 ≤ 971) :
    FloatKind.f64.decode (FloatKind.f64.format.write (.number s m p)) = .number s (m <<< (52 - m.log2)) (p + (m.log2 : Int) - 52) := by
  have hg : m.log2 ≤ 52 := by
    have a := Nat.log2_self_le h0
    have := (Nat.pow_lt_pow_iff_right (show 1 < 2 by decide)).1 (Nat.lt_of_le_of_lt a h1)
    omega
  have ha := Nat.log2_self_le h0
  have hb : m < 2 ^ (m.log2 + 1) := Nat.lt_log2_self
  show Ieee.double.read (Ieee.double.nearest s m p) = _
  unfold Format.nearest
  rw [if_neg h0]
  dsimp only
  have hfb : Ieee.double.fractionBits = 52 := rfl
  have hlast : max (p + (m.log2 : Int) - (Ieee.double.fractionBits : Int)) Ieee.double.leastPlace = p + (m.log2 : Int) - 52 := by rw [dbl_lp, hfb]; omega
  rw [hlast, show (p - (p + (m.log2 : Int) - 52)).toNat = 52 - m.log2 by omega, show (p + (m.log2 : Int) - 52 - p).toNat = 0 by omega]
  have hcut : Toward.even.cut s (m <<< (52 - m.log2)) 0 = m <<< (52 - m.log2) := by
    have := cut_exact s (m <<< (52 - m.log2)) 0
    simpa using this
  rw [hcut]
  have hk1 : 2 ^ 52 ≤ m <<< (52 - m.log2) := by
    rw [Nat.shiftLeft_eq, show (2 : Nat) ^ 52 = 2 ^ m.log2 * 2 ^ (52 - m.log2) by rw [← Nat.pow_add]; congr 1; omega]
    exact Nat.mul_le_mul_right _ ha
  have hk2 : m <<< (52 - m.log2) < 2 ^ 53 := by
    rw [Nat.shiftLeft_eq, show (2 : Nat) ^ 53 = 2 ^ (m.log2 + 1) * 2 ^ (52 - m.log2) by rw [← Nat.pow_add]; congr 1; omega]
    exact Nat.mul_lt_mul_of_pos_right hb (Nat.two_pow_pos _)
  generalize hkk : m <<< (52 - m.log2) = kept at *
  generalize hlg : (m.log2 : Int) = lg at *
  obtain ⟨q, hq⟩ : ∃ q : Nat, p + lg - 52 - Ieee.double.leastPlace = (q : Int) := ⟨(p + lg - 52 - Ieee.double.leastPlace).toNat, by rw [dbl_lp]; omega⟩
  rw [hq, Int.toNat_natCast]
  have e52 : (2 : Nat) ^ 52 = 4503599627370496 := by decide
  have e53 : (2 : Nat) ^ 53 = 9007199254740992 := by decide
  rw [e52] at hk1
  rw [e53] at hk2
  rw [dbl_lp] at hq
  have hle : q * Ieee.double.binade + kept < Ieee.double.infRung := by rw [dbl_bin, dbl_inf]; omega
  rw [Nat.min_eq_left (Nat.le_of_lt hle)]
  obtain ⟨m', p', hr, hc⟩ := read_word Ieee.double s q kept (by rw [dbl_bin]; omega) (fun h => by rw [dbl_bin] at h; omega) hle
  rw [hr]
  rcases hc with ⟨-, hm', hp'⟩ | ⟨h, -⟩
  · have hpp : p' = p + lg - 52 := by rw [hp', dbl_lp]; omega
    rw [hm', hpp]
  · rw [dbl_bin] at h; omega

/-- a normal significand -/
def Norm (M : Nat) : Prop := 4503599627370496 ≤ M ∧ M < 9007199254740992
/-- the float64 that is M times 2^P -/
def Yp (M : Nat) (P : Int) : Nat := FloatKind.f64.format.write (.number false M P)
theorem Norm.log2 {M : Nat} (h : Norm M) : M.log2 = 52 := by
  have e1 : (2 : Nat) ^ 52 = 4503599627370496 := by decide
  have e2 : (2 : Nat) ^ (52 + 1) = 9007199254740992 := by decide
  exact log2_eq (by rw [e1]; exact h.1) (by rw [e2]; exact h.2)
theorem Yp_read {M : Nat} {P : Int} (h : Norm M) (h1 : -1074 ≤ P) (h2 : P ≤ 971) : FloatKind.f64.decode (Yp M P) = .number false M P := by
  have hl := h.log2
  have e2 : (2 : Nat) ^ 53 = 9007199254740992 := by decide
  have := read_norm false M P (by have := h.1; omega) (by rw [e2]; exact h.2) (by rw [hl]; omega) (by rw [hl]; omega)
  rw [hl, Nat.sub_self, Nat.shiftLeft_zero, show P + ((52 : Nat) : Int) - 52 = P by omega] at this
  exact this
theorem Yp_lt (M : Nat) (P : Int) : Yp M P < 18446744073709551616 := by
  have h : (Lit.float .f64 (FloatKind.f64.encode (.number false M P))).wf = true := encode_wf .f64 (.number false M P)
  have h2 : FloatKind.f64.encode (.number false M P) < 18446744073709551616 := by simpa [Lit.wf] using h
  exact h2
theorem Yp_shl {M : Nat} {P : Int} (h : Norm M) (h1 : -1074 ≤ P) (h2 : P ≤ 971) (k : Nat) : Ieee.double.nearest false (M <<< k) (P - k) = Yp M P := by
  have e : Ieee.double.signWeight = 9223372036854775808 := by decide
  have hl := Yp_lt M P
  exact nearest_exact Ieee.double (by decide) (Yp M P) (by rw [e]; omega) (Yp_read h h1 h2) k
def two64 : Nat := 4611686018427387904
theorem Yp_half {M : Nat} {P : Int} (h : Norm M) (h1 : -1073 ≤ P) (h2 : P ≤ 971) : fop .quo .f64 (Yp M P) two64 = Yp M (P - 1) := by
  unfold fop floatBits Format.div
  rw [show FloatKind.f64.format.read (Yp M P) = _ from Yp_read h (by omega) h2, show FloatKind.f64.format.read two64 = .number false 4503599627370496 (-51) from by decide]
  unfold Datum.quotient
  simp only [if_neg (show ¬ (4503599627370496 : Nat) = 0 by decide), Option.map_some, Option.getD_some]
  have hfb : FloatKind.f64.format.fractionBits = 52 := rfl
  rw [hfb, h.log2, show Nat.log2 4503599627370496 = 52 from by decide]
  rw [show 52 + 2 + 52 - 52 = 54 from rfl, Nat.shiftLeft_eq]
  have e1 : M * 2 ^ 54 / 4503599627370496 = M * 4 := by omega
  have e2 : M * 2 ^ 54 % 4503599627370496 = 0 := by omega
  rw [e1, e2]
  have hx := Yp_shl h (P := P - 1) (by omega) (by omega) 3
  rw [Nat.shiftLeft_eq, show M * 2 ^ 3 = 2 * (M * 4) + ((0 : Nat) != 0).toNat by simp; omega, show P - 1 - ((3 : Nat) : Int) = P - -51 - ((54 : Nat) : Int) - 1 by omega] at hx
  exact hx
theorem mul_numbers {x y m n : Nat} {p q : Int} (hx : FloatKind.f64.decode x = .number false m p) (hy : FloatKind.f64.decode y = .number false n q) : fop .mul .f64 x y = Ieee.double.nearest false (m * n) (p + q) := by
  unfold fop floatBits Format.mul
  rw [show FloatKind.f64.format.read x = _ from hx, show FloatKind.f64.format.read y = _ from hy]
  rfl
theorem Yp_double {M : Nat} {P : Int} (h : Norm M) (h1 : -1074 ≤ P) (h2 : P ≤ 970) : fop .mul .f64 (Yp M P) two64 = Yp M (P + 1) := by
  have hx := Yp_shl h (P := P + 1) (by omega) (by omega) 52
  have hc : (2 : Nat) ^ 52 = 4503599627370496 := by decide
  rw [mul_numbers (Yp_read h h1 (by omega)) (show FloatKind.f64.decode two64 = .number false 4503599627370496 (-51) from by decide)]
  rw [Nat.shiftLeft_eq, show P + 1 - ((52 : Nat) : Int) = P + -51 by omega, hc] at hx
  exact hx
/-- two normal numbers compared -/
theorem norm_order {M c : Nat} {P Q : Int} (h : Norm M) (hc : Norm c) :
    (Datum.number false M P).order (.number false c Q) = some (if Q < P then .gt else if P < Q then .lt else compare (M : Int) (c : Int)) := by
  simp only [Datum.order]
  congr 1
  unfold signed
  simp only [Bool.false_eq_true, if_false]
  obtain ⟨a1, a2⟩ := h
  obtain ⟨b1, b2⟩ := hc
  by_cases h1 : Q < P
  · rw [if_pos h1]
    obtain ⟨d, hd⟩ : ∃ d : Nat, P - min P Q = (d + 1 : Nat) := ⟨(P - min P Q).toNat - 1, by omega⟩
    rw [hd, Int.toNat_natCast, show (Q - min P Q).toNat = 0 by omega, Nat.shiftLeft_zero, Nat.shiftLeft_eq, Nat.pow_succ]
    have hp : 0 < 2 ^ d := Nat.two_pow_pos d
    have hm : M * 2 ≤ M * (2 ^ d * 2) := Nat.mul_le_mul_left _ (by omega)
    generalize M * (2 ^ d * 2) = V at *
    have x1 : ¬ ((V : Int) < (c : Int)) := by omega
    have x2 : ¬ ((V : Int) = (c : Int)) := by omega
    simp only [compare, compareOfLessAndEq, if_neg x1, if_neg x2]
  · rw [if_neg h1]
    by_cases h2 : P < Q
    · rw [if_pos h2]
      obtain ⟨d, hd⟩ : ∃ d : Nat, Q - min P Q = (d + 1 : Nat) := ⟨(Q - min P Q).toNat - 1, by omega⟩
      rw [hd, Int.toNat_natCast, show (P - min P Q).toNat = 0 by omega, Nat.shiftLeft_zero, Nat.shiftLeft_eq, Nat.pow_succ]
      have hp : 0 < 2 ^ d := Nat.two_pow_pos d
      have hm : c * 2 ≤ c * (2 ^ d * 2) := Nat.mul_le_mul_left _ (by omega)
      generalize c * (2 ^ d * 2) = V at *
      have x1 : (M : Int) < (V : Int) := by omega
      simp only [compare, compareOfLessAndEq, if_pos x1]
    · rw [if_neg h2, show (P - min P Q).toNat = 0 by omega, show (Q - min P Q).toNat = 0 by omega, Nat.shiftLeft_zero, Nat.shiftLeft_zero]
/-- the place at which M lies from 3/4 to 3/2 -/
def placeOf (M : Nat) : Int := if M < 6755399441055744 then -52 else -53
def c15 : Nat := 4609434218613702656
def c075 : Nat := 4604930618986332160
theorem geq15 {M : Nat} {P : Int} (h : Norm M) (h1 : -1074 ≤ P) (h2 : P ≤ 971) : fcmp .geq .f64 (Yp M P) c15 = decide (placeOf M < P) := by
  unfold fcmp Format.order
  rw [show FloatKind.f64.format.read (Yp M P) = _ from Yp_read h h1 h2, show FloatKind.f64.format.read c15 = .number false 6755399441055744 (-52) from by decide, norm_order h ⟨by decide, by decide⟩]
  unfold placeOf
  by_cases a1 : -52 < P
  · rw [if_pos a1, decide_eq_true (by split <;> omega)]; rfl
  · rw [if_neg a1]
    by_cases a2 : P < -52
    · rw [if_pos a2, decide_eq_false (by split <;> omega)]; rfl
    · rw [if_neg a2]
      have hP : P = -52 := by omega
      subst hP
      by_cases a3 : M < 6755399441055744
      · have x1 : (M : Int) < (6755399441055744 : Nat) := by omega
        rw [if_pos a3]
        simp only [compare, compareOfLessAndEq, if_pos x1]
        rfl
      · rw [if_neg a3]
        have x1 : ¬ (M : Int) < (6755399441055744 : Nat) := by omega
        by_cases a4 : (M : Int) = (6755399441055744 : Nat)
        · simp only [compare, compareOfLessAndEq, if_neg x1, if_pos a4]; rfl
        · simp only [compare, compareOfLessAndEq, if_neg x1, if_neg a4]; rfl
theorem lss075 {M : Nat} {P : Int} (h : Norm M) (h1 : -1074 ≤ P) (h2 : P ≤ 971) : fcmp .lss .f64 (Yp M P) c075 = decide (P < placeOf M) := by
  unfold fcmp Format.order
  rw [show FloatKind.f64.format.read (Yp M P) = _ from Yp_read h h1 h2, show FloatKind.f64.format.read c075 = .number false 6755399441055744 (-53) from by decide, norm_order h ⟨by decide, by decide⟩]
  unfold placeOf
  by_cases a1 : -53 < P
  · rw [if_pos a1, decide_eq_false (by split <;> omega)]; rfl
  · rw [if_neg a1]
    by_cases a2 : P < -53
    · rw [if_pos a2, decide_eq_true (by split <;> omega)]; rfl
    · rw [if_neg a2]
      have hP : P = -53 := by omega
      subst hP
      by_cases a3 : M < 6755399441055744
      · have x1 : (M : Int) < (6755399441055744 : Nat) := by omega
        rw [if_pos a3]
        simp only [compare, compareOfLessAndEq, if_pos x1]
        rfl
      · rw [if_neg a3]
        have x1 : ¬ (M : Int) < (6755399441055744 : Nat) := by omega
        by_cases a4 : (M : Int) = (6755399441055744 : Nat)
        · simp only [compare, compareOfLessAndEq, if_neg x1, if_pos a4]; rfl
        · simp only [compare, compareOfLessAndEq, if_neg x1, if_neg a4]; rfl
end Go.Proofs.Ytbaohbpfnlicpaa
