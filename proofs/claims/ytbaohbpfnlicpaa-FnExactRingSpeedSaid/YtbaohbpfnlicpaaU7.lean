/- The sine of a float32 number of turns. -/
import Derived.Test.YtbaohbpfnlicpaaU6
import Derived.Test.YtbaohbpfnlicpaaW1
import Derived.Test.YtbaohbpfnlicpaaPure
namespace Go.Proofs.Ytbaohbpfnlicpaa
open Go Ieee

theorem num32 {x : Nat} (h : finF x = true) : ∃ s m p, FloatKind.f32.decode x = .number s m p := by
  unfold finF at h
  rcases self_sub .f32 x with ⟨h1, _⟩ | ⟨_, h2⟩
  · exact h1
  · rw [h2] at h; exact absurd h (by decide)
theorem notnum32 {x : Nat} (h : finF x = false) : ∀ s m p, FloatKind.f32.decode x ≠ .number s m p := by
  unfold finF at h
  rcases self_sub .f32 x with ⟨_, h2⟩ | ⟨h1, _⟩
  · rw [h2] at h; exact absurd h (by decide)
  · exact h1
theorem wid_num {x : Nat} {s : Bool} {m : Nat} {p : Int} (h : FloatKind.f32.decode x = .number s m p) : ∃ m' p', FloatKind.f64.decode (wid x) = .number s m' p' := by
  unfold wid fconv
  rw [if_neg (by decide), h]
  obtain ⟨_, _, h3⟩ := read_mle Ieee.single x h
  obtain ⟨m2, p2, hr, _⟩ := nearest_mle Ieee.double (by decide) s m p 128 (h3.mono (by decide)) (by decide) (by decide)
  exact ⟨m2, p2, hr⟩
theorem wid_not {x : Nat} (h : finF x = false) : ∀ s m p, FloatKind.f64.decode (wid x) ≠ .number s m p := by
  intro s m p
  unfold wid fconv
  rw [if_neg (by decide)]
  cases e : FloatKind.f32.decode x with
  | number s' m' p' => exact absurd e (notnum32 h _ _ _)
  | infinity s' =>
    dsimp only
    rw [show FloatKind.f64.decode (FloatKind.f64.encode (.infinity s')) = .infinity s' from by cases s' <;> decide]
    exact fun h => by cases h
  | nan s' t' =>
    dsimp only
    obtain ⟨s2, t2, e2⟩ := isNaN_iff.1 (isN_qn .f64)
    rw [show FloatKind.f64.decode (qn .f64) = _ from e2]
    exact fun h => by cases h
/-- a float64 that is not finite -/
def noFin (y : Nat) : Bool := fcmp .neq .f64 (fop .sub .f64 y y) 0
theorem wid_fin (x : Nat) : noFin (wid x) = !finF x := by
  unfold noFin
  cases h : finF x with
  | true =>
    obtain ⟨s, m, p, e⟩ := num32 h
    obtain ⟨m', p', e'⟩ := wid_num e
    rcases self_sub .f64 (wid x) with ⟨_, h2⟩ | ⟨h1, _⟩
    · rw [h2]; decide
    · exact absurd e' (h1 _ _ _)
  | false =>
    rcases self_sub .f64 (wid x) with ⟨⟨s, m, p, h1⟩, _⟩ | ⟨_, h2⟩
    · exact absurd h1 (wid_not h _ _ _)
    · rw [h2]; decide
theorem wid_lt (x : Nat) : wid x < 18446744073709551616 := by
  unfold wid fconv
  rw [if_neg (by decide)]
  have hw : ∀ d : Datum, FloatKind.f64.encode d < 18446744073709551616 := fun d => by
    have := encode_wf .f64 d
    simpa [Lit.wf] using this
  split
  · decide
  · exact hw _

/-- the sine in 64 bits -/
def wideP (y : Nat) : Nat := if noFin y then qn .f64 else if isBig y then 0 else sinW y
/-- the sine of a number of turns -/
def sineP (x : Nat) : Nat := fconv .f64 (wideP (wid x)) .f32
theorem noFin_num {y : Nat} (h : noFin y = false) : ∃ s m p, FloatKind.f64.decode y = .number s m p := by
  unfold noFin at h
  rcases self_sub .f64 y with ⟨h1, _⟩ | ⟨_, h2⟩
  · exact h1
  · rw [h2] at h; exact absurd h (by decide)
theorem ovf_wide (y : Nat) : ovf .f64 (wideP y) .f32 = false := by
  unfold wideP
  split
  · decide
  · rename_i h
    split
    · decide
    · rename_i h2
      obtain ⟨s, m, p, e⟩ := noFin_num (y := y) (by simpa using h)
      exact ovf_bnd (bnd_sinW e (by simpa using h2)) (by decide)
theorem sineP_nan {x : Nat} (h : finF x = false) : sineP x = qn .f32 := by
  unfold sineP wideP
  rw [wid_fin, h, Bool.not_false, if_pos rfl]
  decide
theorem sineP_big {x : Nat} (h : finF x = true) (hb : isBig (wid x) = true) : sineP x = 0 := by
  unfold sineP wideP
  rw [wid_fin, h, hb, Bool.not_true, if_neg Bool.false_ne_true, if_pos rfl]
  decide
theorem sineP_sin {x : Nat} (h : finF x = true) (hb : isBig (wid x) = false) : sineP x = fconv .f64 (sinW (wid x)) .f32 := by
  unfold sineP wideP
  rw [wid_fin, h, hb]
  rfl
/-- the absolute value, by its bits -/
theorem abs_big {y : Nat} {s : Bool} {m : Nat} {p : Int} (h : FloatKind.f64.decode y = .number s m p) : fcmp .geq .f64 (y % 9223372036854775808) big64 = isBig y := by
  have hm : y % 9223372036854775808 % Ieee.double.signWeight = y % Ieee.double.signWeight := Nat.mod_mod _ _
  have ha := read_sign Ieee.double hm h
  have hz : (y % 9223372036854775808 / Ieee.double.signWeight % 2 == 1) = false := by
    have hlt : y % 9223372036854775808 < Ieee.double.signWeight := Nat.mod_lt _ (by decide)
    rw [Nat.div_eq_of_lt hlt]; rfl
  rw [hz] at ha
  unfold isBig fcmp Format.order
  rw [show FloatKind.f64.format.read y = _ from h, show FloatKind.f64.format.read (y % 9223372036854775808) = _ from ha]
  rw [show FloatKind.f64.format.read big64 = .number false 4503599627370496 0 from by decide]
  rw [show FloatKind.f64.format.read nbig64 = .number true 4503599627370496 0 from by decide]
  simp only [Datum.order]
  generalize (p - min p 0).toNat = i
  generalize (0 - min p 0).toNat = j
  unfold signed
  have hj : 0 < 4503599627370496 <<< j := by rw [Nat.shiftLeft_eq]; exact Nat.mul_pos (by decide) (Nat.two_pow_pos _)
  generalize m <<< i = u
  generalize 4503599627370496 <<< j = v at *
  cases s with
  | false =>
    simp only [if_true, if_false, Bool.false_eq_true]
    have h2 : ¬ ((u : Int) < -(v : Int)) := by omega
    have h3 : ¬ ((u : Int) = -(v : Int)) := by omega
    have : (some (compare (u : Int) (-(v : Int))) == some Ordering.lt || some (compare (u : Int) (-(v : Int))) == some Ordering.eq) = false := by
      simp [compare, compareOfLessAndEq, h2, h3]
    rw [this, Bool.or_false]
  | true =>
    simp only [if_true, if_false, Bool.false_eq_true]
    by_cases c1 : u < v
    · have h1 : (u : Int) < (v : Int) := by omega
      have h2 : ¬ (-(u : Int) < -(v : Int)) := by omega
      have h3 : ¬ (-(u : Int) = -(v : Int)) := by omega
      have h4 : (-(u : Int) < (v : Int)) := by omega
      simp [compare, compareOfLessAndEq, h1, h2, h3, h4]
    · by_cases c2 : u = v
      · subst c2
        simp [compare, compareOfLessAndEq]
      · have h1 : ¬ (u : Int) < (v : Int) := by omega
        have h2 : (-(u : Int) < -(v : Int)) := by omega
        have h3 : ¬ ((u : Int) = (v : Int)) := by omega
        simp [compare, compareOfLessAndEq, h1, h2, h3]
end Go.Proofs.Ytbaohbpfnlicpaa
