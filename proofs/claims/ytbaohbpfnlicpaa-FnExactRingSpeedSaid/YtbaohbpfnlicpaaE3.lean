/- The logarithm of a float32. -/
import Derived.Test.YtbaohbpfnlicpaaE2
import Derived.Test.YtbaohbpfnlicpaaU7
namespace Go.Proofs.Ytbaohbpfnlicpaa
open Go Ieee

theorem wid_norm {x : Nat} {m : Nat} {p : Int} (h : FloatKind.f32.decode x = .number false m p) (h0 : m ≠ 0) : ∃ M P, Norm M ∧ -201 ≤ P ∧ P ≤ 76 ∧ wid x = Yp M P := by
  obtain ⟨a1, a2, a3⟩ := read_mle Ieee.single x h
  rw [show Ieee.single.leastPlace = -149 from by decide] at a1
  rw [show 2 * Ieee.single.binade = 16777216 from by decide] at a2
  rw [show Format.topPlace Ieee.single + 1 = 128 from by decide] at a3
  have hl := Nat.log2_self_le h0
  have hl2 : m < 2 ^ (m.log2 + 1) := Nat.lt_log2_self
  have hll : m.log2 ≤ 23 := by
    have e : (2 : Nat) ^ 24 = 16777216 := by decide
    have := (Nat.pow_lt_pow_iff_right (show 1 < 2 by decide)).1 (Nat.lt_of_le_of_lt hl (show m < 2 ^ 24 by omega))
    omega
  have hpl : p + (m.log2 : Int) ≤ 128 := by
    rcases a3 with a3 | ⟨b1, b2⟩
    · exact absurd a3 h0
    · have := (Nat.pow_le_pow_iff_right (show 1 < 2 by decide)).1 (Nat.le_trans hl b2)
      omega
  have e53 : (2 : Nat) ^ 53 = 9007199254740992 := by decide
  have e52 : (2 : Nat) ^ 52 = 4503599627370496 := by decide
  have hr := read_norm false m p h0 (by omega) (by omega) (by omega)
  have hN : Norm (m <<< (52 - m.log2)) := by
    constructor
    · rw [Nat.shiftLeft_eq, ← e52, show (2 : Nat) ^ 52 = 2 ^ m.log2 * 2 ^ (52 - m.log2) by rw [← Nat.pow_add]; congr 1; omega]
      exact Nat.mul_le_mul_right _ hl
    · rw [Nat.shiftLeft_eq, ← e53, show (2 : Nat) ^ 53 = 2 ^ (m.log2 + 1) * 2 ^ (52 - m.log2) by rw [← Nat.pow_add]; congr 1; omega]
      exact Nat.mul_lt_mul_of_pos_right hl2 (Nat.two_pow_pos _)
  refine ⟨m <<< (52 - m.log2), p + (m.log2 : Int) - 52, hN, by omega, by omega, ?_⟩
  have hw : wid x = FloatKind.f64.format.write (.number false m p) := by
    unfold wid fconv
    rw [if_neg (by decide), h]
    rfl
  have hx := nearest_exact Ieee.double (by decide) (wid x) (Nat.lt_of_lt_of_eq (wid_lt x) (by decide)) (show Ieee.double.read (wid x) = _ from by rw [hw]; exact hr) 0
  rw [Nat.shiftLeft_zero, show p + (m.log2 : Int) - 52 - ((0 : Nat) : Int) = p + (m.log2 : Int) - 52 by omega] at hx
  exact hx.symm
/-- the logarithm of a positive float64 -/
def logY (y : Nat) : Nat := match FloatKind.f64.decode y with | .number _ M P => logN M P | _ => 0
theorem logY_eq {M : Nat} {P : Int} (h : Norm M) (h1 : -1074 ≤ P) (h2 : P ≤ 971) : logY (Yp M P) = logN M P := by
  unfold logY; rw [Yp_read h h1 h2]
def isNeg (x : Nat) : Bool := isN .f32 x || fcmp .lss .f32 x 0
/-- the logarithm of a float32 -/
def logP (x : Nat) : Nat :=
  if isNeg x then qn .f32
  else if fcmp .eql .f32 x 0 then 4286578688
  else if finF x then fconv .f64 (logY (wid x)) .f32
  else 2139095040
/-- a number below nothing, or not a number: the same when it is widened -/
theorem zero_cmp {x : Nat} {s : Bool} {m : Nat} {p : Int} (h : FloatKind.f32.decode x = .number s m p) :
    ∃ m' p', FloatKind.f64.decode (wid x) = .number s m' p' ∧ (m' = 0 ↔ m = 0) := by
  by_cases h0 : m = 0
  · subst h0
    obtain ⟨m2, p2, hr, h2⟩ := nearest_mle Ieee.double (by decide) s 0 p 128 (.inl rfl) (by decide) (by decide)
    have hw : wid x = FloatKind.f64.format.write (.number s 0 p) := by unfold wid fconv; rw [if_neg (by decide), h]; rfl
    refine ⟨m2, p2, by rw [hw]; exact hr, ?_⟩
    have hz : Ieee.double.nearest s 0 p = Ieee.double.word s 0 := by unfold Format.nearest; rw [if_pos rfl]
    rw [hz] at hr
    have : m2 = 0 := by
      cases s
      · have e : Ieee.double.read (Ieee.double.word false 0) = .number false 0 (-1074) := by decide
        rw [e] at hr; injection hr with _ hr _; exact hr.symm
      · have e : Ieee.double.read (Ieee.double.word true 0) = .number true 0 (-1074) := by decide
        rw [e] at hr; injection hr with _ hr _; exact hr.symm
    simp [this]
  · obtain ⟨a1, a2, a3⟩ := read_mle Ieee.single x h
    rw [show Ieee.single.leastPlace = -149 from by decide] at a1
    rw [show 2 * Ieee.single.binade = 16777216 from by decide] at a2
    rw [show Format.topPlace Ieee.single + 1 = 128 from by decide] at a3
    have hl := Nat.log2_self_le h0
    have hpl : p + (m.log2 : Int) ≤ 128 := by
      rcases a3 with a3 | ⟨b1, b2⟩
      · exact absurd a3 h0
      · have := (Nat.pow_le_pow_iff_right (show 1 < 2 by decide)).1 (Nat.le_trans hl b2)
        omega
    have e53 : (2 : Nat) ^ 53 = 9007199254740992 := by decide
    have hr := read_norm s m p h0 (by omega) (by omega) (by omega)
    have hw : wid x = FloatKind.f64.format.write (.number s m p) := by unfold wid fconv; rw [if_neg (by decide), h]; rfl
    refine ⟨_, _, by rw [hw]; exact hr, ?_⟩
    rw [Nat.shiftLeft_eq]
    have : 0 < 2 ^ (52 - m.log2) := Nat.two_pow_pos _
    constructor
    · intro h; rcases Nat.mul_eq_zero.1 h with h | h <;> omega
    · intro h; exact absurd h h0
theorem zero_order (s : Bool) (m : Nat) (p q : Int) : (Datum.number s m p).order (.number false 0 q) = some (if m = 0 then .eq else if s then .lt else .gt) := by
  simp only [Datum.order]
  congr 1
  unfold signed
  rw [show (0 : Nat) <<< (q - min p q).toNat = 0 by rw [Nat.shiftLeft_eq, Nat.zero_mul], Nat.shiftLeft_eq]
  have hp : 0 < 2 ^ (p - min p q).toNat := Nat.two_pow_pos _
  by_cases h0 : m = 0
  · subst h0; cases s <;> simp [compare, compareOfLessAndEq]
  · have : 0 < m * 2 ^ (p - min p q).toNat := Nat.mul_pos (by omega) hp
    generalize m * 2 ^ (p - min p q).toNat = v at *
    rw [if_neg h0]
    cases s
    · have x1 : ¬ ((v : Int) < 0) := by omega
      have x2 : ¬ (v = 0) := by omega
      simp [compare, compareOfLessAndEq, x1, x2]
    · have x1 : (-(v : Int) < 0) := by omega
      simp [compare, compareOfLessAndEq]
      omega
theorem wid_cmp0 (op : BinOp) {x : Nat} (hf : isN .f32 x = false) : fcmp op .f64 (wid x) 0 = fcmp op .f32 x 0 := by
  have ho : FloatKind.f64.format.order (wid x) 0 = FloatKind.f32.format.order x 0 := by
    unfold Format.order
    rw [show FloatKind.f64.format.read 0 = .number false 0 (-1074) from by decide, show FloatKind.f32.format.read 0 = .number false 0 (-149) from by decide]
    cases e : FloatKind.f32.decode x with
    | number s m p =>
      obtain ⟨m', p', e', hz⟩ := zero_cmp e
      rw [show FloatKind.f64.format.read (wid x) = _ from e', show FloatKind.f32.format.read x = _ from e, zero_order, zero_order]
      by_cases h0 : m = 0
      · rw [if_pos h0, if_pos (hz.2 h0)]
      · rw [if_neg h0, if_neg (fun h => h0 (hz.1 h))]
    | infinity s =>
      have hw : wid x = FloatKind.f64.encode (.infinity s) := by unfold wid fconv; rw [if_neg (by decide), e]
      rw [hw, show FloatKind.f32.format.read x = _ from e, show FloatKind.f64.format.read (FloatKind.f64.encode (.infinity s)) = .infinity s from by cases s <;> decide]
      rfl
    | nan s t =>
      exfalso
      unfold isN at hf
      rw [e] at hf
      cases hf
  unfold fcmp
  rw [ho]
theorem wid_isN (x : Nat) : isN .f64 (wid x) = isN .f32 x := by
  cases e : FloatKind.f32.decode x with
  | number s m p =>
    obtain ⟨m', p', e'⟩ := wid_num e
    unfold isN; rw [e, e']; rfl
  | infinity s =>
    have hw : wid x = FloatKind.f64.encode (.infinity s) := by unfold wid fconv; rw [if_neg (by decide), e]
    unfold isN
    rw [hw, e, show FloatKind.f64.decode (FloatKind.f64.encode (.infinity s)) = .infinity s from by cases s <;> decide]
  | nan s t =>
    have hw : wid x = qn .f64 := by unfold wid fconv; rw [if_neg (by decide), e]
    rw [hw, isN_qn]
    unfold isN; rw [e]; rfl
/-- a float32 that is above nothing: a number, or infinite -/
theorem pos_cases {x : Nat} (h1 : isNeg x = false) (h2 : fcmp .eql .f32 x 0 = false) : (∃ m p, FloatKind.f32.decode x = .number false m p ∧ m ≠ 0) ∨ FloatKind.f32.decode x = .infinity false := by
  unfold isNeg at h1
  rw [Bool.or_eq_false_iff] at h1
  obtain ⟨hn, hl⟩ := h1
  unfold fcmp Format.order at hl h2
  rw [show FloatKind.f32.format.read 0 = .number false 0 (-149) from by decide] at hl h2
  cases e : FloatKind.f32.decode x with
  | number s m p =>
    rw [show FloatKind.f32.format.read x = _ from e, zero_order] at hl h2
    by_cases h0 : m = 0
    · rw [if_pos h0] at h2; cases h2
    · rw [if_neg h0] at hl
      cases s
      · exact .inl ⟨m, p, rfl, h0⟩
      · cases hl
  | infinity s =>
    rw [show FloatKind.f32.format.read x = _ from e] at hl
    cases s
    · exact .inr rfl
    · cases hl
  | nan s t =>
    exfalso
    unfold isN at hn
    rw [e] at hn
    cases hn
end Go.Proofs.Ytbaohbpfnlicpaa
