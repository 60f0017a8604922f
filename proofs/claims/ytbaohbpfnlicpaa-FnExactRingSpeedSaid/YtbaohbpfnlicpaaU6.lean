/- The sine of a number of turns: what is computed, and that it is small. -/
import Derived.Test.YtbaohbpfnlicpaaU5
namespace Go.Proofs.Ytbaohbpfnlicpaa
open Go Ieee

def one64 : Nat := 4607182418800017408
def half64 : Nat := 4602678819172646912
def quart64 : Nat := 4598175219545276416
def turn64 : Nat := 4618760256179416344
def big64 : Nat := 4841369599423283200
def nbig64 : Nat := 14064741636278059008

theorem bnd_one : bnd one64 0 := ⟨false, 4503599627370496, -52, by decide, .inr ⟨by decide, by decide⟩⟩
theorem bnd_half : bnd half64 0 := ⟨false, 4503599627370496, -53, by decide, .inr ⟨by decide, by decide⟩⟩
theorem bnd_turn : bnd turn64 3 := ⟨false, 7074237752028440, -50, by decide, .inr ⟨by decide, by decide⟩⟩

/-- a number less its whole part -/
def fracP (y : Nat) : Nat :=
  match FloatKind.f64.decode y with
  | .number s m p => if wholeM m p = 0 then y else fop .sub .f64 y (floatOfInt .f64 (signed s (wholeM m p) 0))
  | _ => y
def upP (f : Nat) : Nat := if fcmp .lss .f64 f 0 then fop .add .f64 f one64 else f
def isBelow (f : Nat) : Bool := fcmp .geq .f64 f half64
def downP (f : Nat) : Nat := if isBelow f then fop .sub .f64 f half64 else f
def foldP (f : Nat) : Nat := if fcmp .gtr .f64 f quart64 then fop .sub .f64 half64 f else f
def roundP (u p k : Nat) : Nat := fop .sub .f64 one64 (fop .quo .f64 (fop .mul .f64 u p) (floatOfInt .f64 ((2 * k * (2 * k + 1) : Nat) : Int)))
/-- so many rounds, from 8 downwards -/
def polyP (u : Nat) : Nat → Nat
  | 0 => one64
  | n + 1 => roundP u (polyP u n) (8 - n)
def tailZ (f : Nat) : Nat := fop .mul .f64 (foldP (downP f)) turn64
def tailR (f : Nat) : Nat := fop .mul .f64 (tailZ f) (polyP (fop .mul .f64 (tailZ f) (tailZ f)) 8)
def tailP (f : Nat) : Nat := if isBelow f then fneg .f64 (tailR f) else tailR f
def sinW (y : Nat) : Nat := tailP (upP (fracP y))
def isBig (y : Nat) : Bool := fcmp .geq .f64 y big64 || fcmp .leq .f64 y nbig64

theorem one_le_int {T : Nat} (h0 : T ≠ 0) (h1 : T < 2 ^ 53) : one_le (floatOfInt .f64 (T : Int)) := by
  have hw := floatOfInt_whole false T h0
  rw [show signed false T 0 = (T : Int) by simp [signed]] at hw
  rw [hw]
  have hr := read_whole false T h0 h1
  have hg : T.log2 ≤ 52 := by
    have a := Nat.log2_self_le h0
    have := (Nat.pow_lt_pow_iff_right (show 1 < 2 by decide)).1 (Nat.lt_of_le_of_lt a h1)
    omega
  refine ⟨_, _, hr, by omega, ?_⟩
  rw [show (-((T.log2 : Int) - 52)).toNat = 52 - T.log2 by omega, Nat.shiftLeft_eq]
  exact Nat.le_mul_of_pos_left _ (by omega)
theorem bnd_up {f : Nat} (h : bnd f 0) : bnd (upP f) 1 := by
  unfold upP
  split
  · exact bnd_add h bnd_one (by decide) (by decide)
  · exact h.mono (by decide)
theorem bnd_down {f : Nat} (h : bnd f 1) : bnd (downP f) 2 := by
  unfold downP
  split
  · exact bnd_sub h (bnd_half.mono (by decide)) (by decide) (by decide)
  · exact h.mono (by decide)
theorem bnd_fold {f : Nat} (h : bnd f 2) : bnd (foldP f) 3 := by
  unfold foldP
  split
  · exact bnd_sub (bnd_half.mono (by decide)) h (by decide) (by decide)
  · exact h.mono (by decide)
theorem bnd_round {u p k : Nat} {e : Int} (hu : bnd u 12) (hp : bnd p e) (h0 : 0 ≤ e) (h1 : e ≤ 900) (hk : 1 ≤ k) (hk8 : k ≤ 8) : bnd (roundP u p k) (e + 14) := by
  have hT : 2 * k * (2 * k + 1) ≠ 0 := Nat.mul_ne_zero (by omega) (by omega)
  have hT2 : 2 * k * (2 * k + 1) < 2 ^ 53 := by
    have : 2 * k * (2 * k + 1) ≤ 16 * 17 := Nat.mul_le_mul (by omega) (by omega)
    omega
  have a := bnd_mul hu hp (by omega) (by omega)
  have b := bnd_quo a (one_le_int hT hT2) (by omega) (by omega)
  have c := bnd_sub (bnd_one.mono (show (0 : Int) ≤ 12 + e + 1 by omega)) b (by omega) (by omega)
  exact c.mono (by omega)
theorem bnd_poly {u : Nat} (hu : bnd u 12) : ∀ n : Nat, n ≤ 8 → bnd (polyP u n) (14 * n)
  | 0, _ => bnd_one.mono (by decide)
  | n + 1, h => (bnd_round hu (bnd_poly hu n (by omega)) (by omega) (by omega) (by omega) (by omega)).mono (by omega)
/-- the sign changes no size -/
theorem read_sign (f : Format) {a b : Nat} (h : a % f.signWeight = b % f.signWeight) {s : Bool} {m : Nat} {p : Int} (hb : f.read b = .number s m p) : f.read a = .number (a / f.signWeight % 2 == 1) m p := by
  unfold Format.read at hb ⊢
  dsimp only at hb ⊢
  rw [h]
  by_cases h1 : b % f.signWeight < f.binade
  · rw [if_pos h1] at hb ⊢
    injection hb with h2 h3 h4
    rw [h3, h4]
  · rw [if_neg h1] at hb ⊢
    by_cases h2 : b % f.signWeight < f.infRung
    · rw [if_pos h2] at hb ⊢
      injection hb with h3 h4 h5
      rw [h4, h5]
    · rw [if_neg h2] at hb
      split at hb <;> cases hb
theorem bnd_neg {x : Nat} {e : Int} (h : bnd x e) : bnd (fneg .f64 x) e := by
  obtain ⟨s, m, p, h1, h2⟩ := h
  have hn : isN .f64 x = false := by unfold isN; rw [h1]; rfl
  unfold fneg
  rw [hn, if_neg (by decide)]
  have hr : (x ^^^ signBit .f64) % Ieee.double.signWeight = x % Ieee.double.signWeight := xor_mod_two_pow x 63
  exact ⟨_, m, p, read_sign Ieee.double hr h1, h2⟩
theorem bnd_tail {f : Nat} (h : bnd f 1) : bnd (tailP f) 118 := by
  have hz : bnd (tailZ f) 6 := (bnd_mul (bnd_fold (bnd_down h)) bnd_turn (by decide) (by decide)).mono (by decide)
  have hu : bnd (fop .mul .f64 (tailZ f) (tailZ f)) 12 := (bnd_mul hz hz (by decide) (by decide)).mono (by decide)
  have hr : bnd (tailR f) 118 := (bnd_mul hz (bnd_poly hu 8 (by decide)) (by decide) (by decide)).mono (by decide)
  unfold tailP
  split
  · exact bnd_neg hr
  · exact hr

theorem cmp_lt {a b : Int} (h : (some (compare a b) == some Ordering.gt || some (compare a b) == some Ordering.eq) = false) : a < b := by
  by_cases h1 : a < b
  · exact h1
  · by_cases h2 : a = b
    · subst h2; simp [compare, compareOfLessAndEq] at h
    · simp [compare, compareOfLessAndEq, h1, h2] at h
theorem cmp_gt {a b : Int} (h : (some (compare a b) == some Ordering.lt || some (compare a b) == some Ordering.eq) = false) : b < a := by
  by_cases h1 : a < b
  · simp [compare, compareOfLessAndEq, h1] at h
  · by_cases h2 : a = b
    · subst h2; simp [compare, compareOfLessAndEq] at h
    · omega
theorem whole_lt {y : Nat} {s : Bool} {m : Nat} {p : Int} (h : FloatKind.f64.decode y = .number s m p) (hb : isBig y = false) : wholeM m p < 2 ^ 52 := by
  unfold isBig at hb
  rw [Bool.or_eq_false_iff] at hb
  obtain ⟨h1, h2⟩ := hb
  unfold fcmp Format.order at h1 h2
  rw [show FloatKind.f64.format.read y = _ from h] at h1 h2
  rw [show FloatKind.f64.format.read big64 = .number false 4503599627370496 0 from by decide] at h1
  rw [show FloatKind.f64.format.read nbig64 = .number true 4503599627370496 0 from by decide] at h2
  simp only [Datum.order] at h1 h2
  have a := cmp_lt h1
  have b := cmp_gt h2
  rw [show (p - min p 0).toNat = p.toNat by omega, show (0 - min p 0).toNat = (-p).toNat by omega] at a b
  unfold wholeM
  rw [Nat.div_lt_iff_lt_mul (Nat.two_pow_pos _)]
  unfold signed at a b
  rw [Nat.shiftLeft_eq 4503599627370496] at a b
  have e52 : (2 : Nat) ^ 52 = 4503599627370496 := by decide
  rw [e52]
  generalize m <<< p.toNat = u at *
  generalize 4503599627370496 * 2 ^ (-p).toNat = v at *
  cases s <;> simp only [if_true, if_false, Bool.false_eq_true] at a b <;> omega
theorem bnd_frac {y : Nat} {s : Bool} {m : Nat} {p : Int} (h : FloatKind.f64.decode y = .number s m p) (hb : isBig y = false) : bnd (fracP y) 0 := by
  have hw := whole_lt h hb
  unfold fracP
  rw [h]
  dsimp only
  split
  · rename_i hT
    refine ⟨s, m, p, h, ?_⟩
    unfold wholeM at hT
    rw [Nat.shiftLeft_eq] at hT
    have hlt := Nat.lt_of_div_eq_zero (Nat.two_pow_pos _) hT
    rcases Int.le_total 0 p with hp | hp
    · rw [show (-p).toNat = 0 by omega] at hlt
      refine .inl ?_
      have : 0 < 2 ^ p.toNat := Nat.two_pow_pos _
      rcases Nat.eq_zero_or_pos m with hm | hm
      · exact hm
      · have := Nat.mul_pos hm this; omega
    · rw [show p.toNat = 0 by omega] at hlt
      refine .inr ⟨hp, ?_⟩
      rw [show (0 - p).toNat = (-p).toNat by omega]
      omega
  · rename_i hT
    exact frac_bnd y h hT (Nat.lt_trans hw (by decide))
theorem bnd_sinW {y : Nat} {s : Bool} {m : Nat} {p : Int} (h : FloatKind.f64.decode y = .number s m p) (hb : isBig y = false) : bnd (sinW y) 118 := bnd_tail (bnd_up (bnd_frac h hb))
theorem ovf_bnd {x : Nat} {e : Int} (h : bnd x e) (he : e ≤ 127) : ovf .f64 x .f32 = false := by
  obtain ⟨s, m, p, h1, h2⟩ := h
  refine ovf_narrow x fun s' m' p' h' => ?_
  rw [h1] at h'
  cases h'
  exact h2.mono he
/-! the two ways to the whole part -/
theorem integral_zero (s : Bool) (m : Nat) (p : Int) : (Datum.number s m p).integral .zero = .number s (wholeM m p) 0 := by
  unfold Datum.integral wholeM
  dsimp only
  rw [cut_zero]
theorem toInt_whole {y : Nat} {s : Bool} {m : Nat} {p : Int} (h : FloatKind.f64.decode y = .number s m p) (hb : isBig y = false) : floatToIntVal .f64 y .i64 = some (signed s (wholeM m p) 0) := by
  have hw := whole_lt h hb
  have hi : (FloatKind.f64.decode y).toInt .zero = some (signed s (wholeM m p) 0) := by
    rw [h]; unfold Datum.toInt; rw [integral_zero]
  unfold floatToIntVal
  rw [hi]
  dsimp only
  rw [if_pos]
  have e1 : IntKind.i64.min = -9223372036854775808 := by decide
  have e2 : IntKind.i64.max = 9223372036854775807 := by decide
  have e52 : (2 : Nat) ^ 52 = 4503599627370496 := by decide
  rw [e1, e2]
  unfold signed
  rw [Nat.shiftLeft_zero]
  generalize wholeM m p = T at *
  cases s <;> simp only [if_true, if_false, Bool.false_eq_true] <;> omega
theorem spec_frac {y : Nat} (hy : y < 18446744073709551616) {s : Bool} {m : Nat} {p : Int} (h : FloatKind.f64.decode y = .number s m p) : fop .sub .f64 y (floatOfInt .f64 (signed s (wholeM m p) 0)) = fracP y := by
  unfold fracP
  rw [h]
  dsimp only
  split
  · rename_i hT
    rw [hT, floatOfInt_zero]
    exact sub_zero64 y hy h
  · rfl
theorem whole_neq {s : Bool} {T : Nat} (h1 : T < 2 ^ 53) : fcmp .neq .f64 (FloatKind.f64.format.write (.number s T 0)) 0 = decide (T ≠ 0) := by
  by_cases h0 : T = 0
  · subst h0
    cases s <;> decide
  · rw [decide_eq_true h0]
    unfold fcmp Format.order
    rw [show FloatKind.f64.format.read (FloatKind.f64.format.write (.number s T 0)) = _ from read_whole s T h0 h1, show FloatKind.f64.format.read 0 = .number false 0 Ieee.double.leastPlace from by decide]
    simp only [Datum.order]
    generalize ((T.log2 : Int) - 52 - min ((T.log2 : Int) - 52) Ieee.double.leastPlace).toNat = k
    have hne : (T <<< (52 - T.log2)) <<< k ≠ 0 := by
      rw [Nat.shiftLeft_eq, Nat.shiftLeft_eq]
      exact Nat.mul_ne_zero (Nat.mul_ne_zero h0 (Nat.ne_of_gt (Nat.two_pow_pos _))) (Nat.ne_of_gt (Nat.two_pow_pos _))
    unfold signed
    generalize (T <<< (52 - T.log2)) <<< k = M at *
    rw [show ∀ q, (0 : Nat) <<< q = 0 from fun q => by rw [Nat.shiftLeft_eq, Nat.zero_mul]]
    cases s <;> simp only [if_true, if_false, Bool.false_eq_true] <;> simp only [compare, compareOfLessAndEq] <;> split <;> first | rfl | (split <;> first | rfl | (exfalso; omega))
theorem impl_frac {y : Nat} {s : Bool} {m : Nat} {p : Int} (h : FloatKind.f64.decode y = .number s m p) (hT : wholeM m p ≠ 0) : fop .sub .f64 y (FloatKind.f64.format.write (.number s (wholeM m p) 0)) = fracP y := by
  unfold fracP
  rw [h]
  dsimp only
  rw [if_neg hT, floatOfInt_whole s _ hT]
theorem impl_frac0 {y : Nat} {s : Bool} {m : Nat} {p : Int} (h : FloatKind.f64.decode y = .number s m p) (hT : wholeM m p = 0) : y = fracP y := by
  unfold fracP
  rw [h]
  dsimp only
  rw [if_pos hT]

/-! numbers less themselves -/
theorem self_sub (k : FloatKind) (x : Nat) : ((∃ s m p, k.decode x = .number s m p) ∧ fop .sub k x x = 0) ∨ ((∀ s m p, k.decode x ≠ .number s m p) ∧ fop .sub k x x = qn k) := by
  unfold fop floatBits Format.sub
  cases e : k.decode x with
  | number s m p =>
    refine .inl ⟨⟨s, m, p, rfl⟩, ?_⟩
    rw [show k.format.read x = _ from e]
    simp only [Datum.opposite, Datum.sum, Option.map_some, Option.getD_some]
    have h0 : signed s m (p - min p p).toNat + signed (!s) m (p - min p p).toNat = 0 := by
      unfold signed
      generalize m <<< (p - min p p).toNat = u
      cases s <;> simp only [Bool.not_true, Bool.not_false, if_true, if_false, Bool.false_eq_true] <;> omega
    rw [h0, if_pos rfl]
    have hs : (s && !s) = false := by cases s <;> rfl
    rw [hs]
    show k.format.nearest false _ _ = 0
    unfold Format.nearest
    rw [if_pos (by rfl)]
    rfl
  | infinity s =>
    refine .inr ⟨(fun _ _ _ h => by cases h), ?_⟩
    rw [show k.format.read x = _ from e]
    cases s <;> rfl
  | nan s t =>
    refine .inr ⟨(fun _ _ _ h => by cases h), ?_⟩
    rw [show k.format.read x = _ from e]
    rfl
end Go.Proofs.Ytbaohbpfnlicpaa
