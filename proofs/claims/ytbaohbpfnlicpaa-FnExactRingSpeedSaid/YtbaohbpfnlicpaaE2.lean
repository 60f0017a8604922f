/- The logarithm: what is computed, and that it is small. -/
import Derived.Test.YtbaohbpfnlicpaaE1
import Derived.Handy
namespace Go.Proofs.Ytbaohbpfnlicpaa
open Go Ieee

theorem inc_all : (List.range 320).all (fun i => fop .add .f64 (floatOfInt .f64 ((i : Int) - 160)) one64 == floatOfInt .f64 ((i : Int) - 160 + 1)) = true := by kernel_rfl
theorem dec_all : (List.range 320).all (fun i => fop .sub .f64 (floatOfInt .f64 ((i : Int) - 160)) one64 == floatOfInt .f64 ((i : Int) - 160 - 1)) = true := by kernel_rfl
theorem float_inc (n : Int) (h1 : -160 ≤ n) (h2 : n < 160) : fop .add .f64 (floatOfInt .f64 n) one64 = floatOfInt .f64 (n + 1) := by
  have h := List.all_eq_true.1 inc_all (n + 160).toNat (List.mem_range.2 (by omega))
  rw [show (((n + 160).toNat : Nat) : Int) - 160 = n by omega] at h
  exact eq_of_beq h
theorem float_dec (n : Int) (h1 : -160 ≤ n) (h2 : n < 160) : fop .sub .f64 (floatOfInt .f64 n) one64 = floatOfInt .f64 (n - 1) := by
  have h := List.all_eq_true.1 dec_all (n + 160).toNat (List.mem_range.2 (by omega))
  rw [show (((n + 160).toNat : Nat) : Int) - 160 = n by omega] at h
  exact eq_of_beq h
def ln2 : Nat := 4604418534313441775
def logS (y : Nat) : Nat := fop .quo .f64 (fop .sub .f64 y one64) (fop .add .f64 y one64)
def logU (y : Nat) : Nat := fop .mul .f64 (logS y) (logS y)
/-- so many rounds, from 25 downwards -/
def logQ (u : Nat) : Nat → Nat
  | 0 => 0
  | n + 1 => fop .add .f64 (fop .quo .f64 one64 (floatOfInt .f64 ((25 - 2 * n : Nat) : Int))) (fop .mul .f64 u (logQ u n))
def logR (y : Nat) (e : Int) : Nat := fop .add .f64 (fop .mul .f64 two64 (fop .mul .f64 (logS y) (logQ (logU y) 13))) (fop .mul .f64 (floatOfInt .f64 e) ln2)
/-- the logarithm of M times 2^P -/
def logN (M : Nat) (P : Int) : Nat := logR (Yp M (placeOf M)) (P - placeOf M)

theorem place_in (M : Nat) : placeOf M = -52 ∧ M < 6755399441055744 ∨ placeOf M = -53 ∧ 6755399441055744 ≤ M := by
  unfold placeOf
  by_cases h : M < 6755399441055744
  · rw [if_pos h]; exact .inl ⟨rfl, h⟩
  · rw [if_neg h]; exact .inr ⟨rfl, by omega⟩
theorem bnd_two : bnd two64 1 := ⟨false, 4503599627370496, -51, by decide, .inr ⟨by decide, by decide⟩⟩
theorem bnd_ln2 : bnd ln2 0 := ⟨false, 6243314768165359, -53, by decide, .inr ⟨by decide, by decide⟩⟩
theorem bnd_zero : bnd 0 0 := ⟨false, 0, -1074, by decide, .inl rfl⟩
theorem bnd_Yp {M : Nat} (h : Norm M) : bnd (Yp M (placeOf M)) 1 := by
  obtain ⟨h1, h2⟩ := h
  rcases place_in M with ⟨e, -⟩ | ⟨e, -⟩
  · rw [e]
    exact ⟨false, M, -52, Yp_read ⟨h1, h2⟩ (by omega) (by omega), .inr ⟨by decide, by
      have : (2 : Nat) ^ ((1 : Int) - -52).toNat = 9007199254740992 := by decide
      omega⟩⟩
  · rw [e]
    exact ⟨false, M, -53, Yp_read ⟨h1, h2⟩ (by omega) (by omega), .inr ⟨by decide, by
      have : (2 : Nat) ^ ((1 : Int) - -53).toNat = 18014398509481984 := by decide
      omega⟩⟩
theorem add_numbers {x y m n : Nat} {p q : Int} (hx : FloatKind.f64.decode x = .number false m p) (hy : FloatKind.f64.decode y = .number false n q) :
    fop .add .f64 x y = Ieee.double.nearest false (m <<< (p - min p q).toNat + n <<< (q - min p q).toNat) (min p q) := by
  unfold fop floatBits Format.add
  rw [show FloatKind.f64.format.read x = _ from hx, show FloatKind.f64.format.read y = _ from hy]
  simp only [Datum.sum, Option.map_some, Option.getD_some]
  unfold signed
  simp only [Bool.false_eq_true, if_false]
  generalize m <<< (p - min p q).toNat = a
  generalize n <<< (q - min p q).toNat = b
  have h1 : ((a : Int) + (b : Int)).natAbs = a + b := by omega
  have h2 : decide ((a : Int) + (b : Int) < 0) = false := decide_eq_false (by omega)
  rw [h1, h2]
  have h3 : (if (a : Int) + (b : Int) = 0 then (false && false) else false) = false := by split <;> rfl
  rw [h3]
  rfl
theorem near54 {T : Nat} {p : Int} (h1 : 9007199254740992 ≤ T) (h2 : T < 18014398509481984) (hp : p = -52 ∨ p = -53) :
    ∃ n j, Ieee.double.read (Ieee.double.nearest false T p) = .number false n j ∧ j ≤ 0 ∧ 2 ^ (-j).toNat ≤ n := by
  have e53 : (2 : Nat) ^ 53 = 9007199254740992 := by decide
  have e54 : (2 : Nat) ^ (53 + 1) = 18014398509481984 := by decide
  have hl : T.log2 = 53 := log2_eq (by rw [e53]; exact h1) (by rw [e54]; exact h2)
  unfold Format.nearest
  rw [if_neg (by omega), hl]
  dsimp only
  have hfb : Ieee.double.fractionBits = 52 := rfl
  have hlast : max (p + ((53 : Nat) : Int) - (Ieee.double.fractionBits : Int)) Ieee.double.leastPlace = p + 1 := by rw [dbl_lp, hfb]; omega
  rw [hlast, show (p - (p + 1)).toNat = 0 by omega, show (p + 1 - p).toNat = 1 by omega, Nat.shiftLeft_zero]
  have hk2 : Toward.even.cut false T 1 ≤ 9007199254740992 := cut_even_le (by omega)
  have hk1 : 4503599627370496 ≤ Toward.even.cut false T 1 := by
    unfold Toward.cut
    dsimp only
    rw [hl, Nat.min_eq_left (by decide), Nat.shiftLeft_eq]
    refine Nat.le_trans ?_ (Nat.le_add_right _ _)
    omega
  generalize Toward.even.cut false T 1 = kept at *
  obtain ⟨q, hq⟩ : ∃ q : Nat, p + 1 - Ieee.double.leastPlace = (q : Int) := ⟨(p + 1 - Ieee.double.leastPlace).toNat, by rw [dbl_lp]; omega⟩
  rw [hq, Int.toNat_natCast]
  rw [dbl_lp] at hq
  have hle : q * Ieee.double.binade + kept < Ieee.double.infRung := by rw [dbl_bin, dbl_inf]; omega
  rw [Nat.min_eq_left (Nat.le_of_lt hle)]
  obtain ⟨m', p', hr, hc⟩ := read_word Ieee.double false q kept (by rw [dbl_bin]; omega) (fun h => by rw [dbl_bin] at h; omega) hle
  refine ⟨m', p', hr, ?_⟩
  have e1 : (2 : Nat) ^ 52 = 4503599627370496 := by decide
  rw [dbl_lp, dbl_bin] at hc
  rcases hc with ⟨-, hm', hp'⟩ | ⟨-, hm', hp'⟩
  · refine ⟨by omega, ?_⟩
    have : 2 ^ (-p').toNat ≤ 2 ^ 52 := Nat.pow_le_pow_right (by decide) (by omega)
    omega
  · refine ⟨by omega, ?_⟩
    have : 2 ^ (-p').toNat ≤ 2 ^ 52 := Nat.pow_le_pow_right (by decide) (by omega)
    omega
theorem one_le_sum {M : Nat} (h : Norm M) : one_le (fop .add .f64 (Yp M (placeOf M)) one64) := by
  have ho : FloatKind.f64.decode one64 = .number false 4503599627370496 (-52) := by decide
  obtain ⟨h1, h2⟩ := h
  rcases place_in M with ⟨e, hm⟩ | ⟨e, hm⟩
  · rw [e, add_numbers (Yp_read ⟨h1, h2⟩ (by omega) (by omega)) ho]
    rw [show min (-52 : Int) (-52) = -52 from by decide, show ((-52 : Int) - -52).toNat = 0 from by decide, Nat.shiftLeft_zero, Nat.shiftLeft_zero]
    obtain ⟨n, j, hr, hj, hn⟩ := near54 (T := M + 4503599627370496) (p := -52) (by omega) (by omega) (.inl rfl)
    exact ⟨n, j, hr, hj, hn⟩
  · rw [e, add_numbers (Yp_read ⟨h1, h2⟩ (by omega) (by omega)) ho]
    rw [show min (-53 : Int) (-52) = -53 from by decide, show ((-53 : Int) - -53).toNat = 0 from by decide, show ((-52 : Int) - -53).toNat = 1 from by decide, Nat.shiftLeft_zero, show 4503599627370496 <<< 1 = 9007199254740992 from by decide]
    obtain ⟨n, j, hr, hj, hn⟩ := near54 (T := M + 9007199254740992) (p := -53) (by omega) (by omega) (.inr rfl)
    exact ⟨n, j, hr, hj, hn⟩
theorem bnd_logQ {u : Nat} (hu : bnd u 6) : ∀ n : Nat, n ≤ 13 → bnd (logQ u n) (7 * n)
  | 0, _ => bnd_zero
  | n + 1, h => by
    have hq := bnd_logQ hu n (by omega)
    have a := bnd_quo bnd_one (one_le_int (T := 25 - 2 * n) (by omega) (by have e : (2 : Nat) ^ 53 = 9007199254740992 := by decide
                                                                           omega)) (by omega) (by omega)
    have b := bnd_mul hu hq (by omega) (by omega)
    exact (bnd_add (a.mono (show (0 : Int) + 1 ≤ 6 + 7 * (n : Int) by omega)) b (by omega) (by omega)).mono (by omega)
theorem bnd_ofInt (e : Int) (h1 : -160 ≤ e) (h2 : e < 160) : bnd (floatOfInt .f64 e) 8 := by
  obtain ⟨m, p, hr, hm⟩ := nearest_mle Ieee.double (by decide) (decide (e < 0)) e.natAbs 0 8 (.inr ⟨by decide, by show e.natAbs ≤ 256; omega⟩) (by decide) (by decide)
  exact ⟨_, m, p, hr, hm⟩
theorem bnd_logN {M : Nat} {P : Int} (h : Norm M) (h1 : -201 ≤ P) (h2 : P ≤ 76) : bnd (logN M P) 96 := by
  have hy := bnd_Yp h
  have hs : bnd (logS (Yp M (placeOf M))) 3 := bnd_quo (bnd_sub hy (bnd_one.mono (by decide)) (by decide) (by decide)) (one_le_sum h) (by decide) (by decide)
  have hu : bnd (logU (Yp M (placeOf M))) 6 := bnd_mul hs hs (by decide) (by decide)
  have hq := bnd_logQ hu 13 (by decide)
  have a := bnd_mul bnd_two (bnd_mul hs hq (by decide) (by decide)) (by decide) (by decide)
  have hpl := place_in M
  have b := bnd_mul (bnd_ofInt (P - placeOf M) (by omega) (by omega)) bnd_ln2 (by decide) (by decide)
  exact bnd_add (e := 95) (a.mono (by decide)) (b.mono (by decide)) (by decide) (by decide)
end Go.Proofs.Ytbaohbpfnlicpaa
