/- What is left of a float64 when its whole part is taken away is at most 1. -/
import Derived.Test.YtbaohbpfnlicpaaU3
namespace Go.Proofs.Ytbaohbpfnlicpaa
open Go Ieee

/-- a small whole number, written and read -/
theorem read_whole (s : Bool) (T : Nat) (h0 : T ≠ 0) (h1 : T < 2 ^ 53) : FloatKind.f64.decode (FloatKind.f64.format.write (.number s T 0)) = .number s (T <<< (52 - T.log2)) ((T.log2 : Int) - 52) := by
  have hg : T.log2 ≤ 52 := by
    have a := Nat.log2_self_le h0
    have := (Nat.pow_lt_pow_iff_right (show 1 < 2 by decide)).1 (Nat.lt_of_le_of_lt a h1)
    omega
  have ha := Nat.log2_self_le h0
  have hb : T < 2 ^ (T.log2 + 1) := Nat.lt_log2_self
  show Ieee.double.read (Ieee.double.nearest s T 0) = _
  unfold Format.nearest
  rw [if_neg h0]
  dsimp only
  have hlp : Ieee.double.leastPlace = -1074 := by decide
  have hfb : Ieee.double.fractionBits = 52 := rfl
  have hlast : max (0 + (T.log2 : Int) - (Ieee.double.fractionBits : Int)) Ieee.double.leastPlace = (T.log2 : Int) - 52 := by rw [hlp, hfb]; omega
  rw [hlast, show (0 - ((T.log2 : Int) - 52)).toNat = 52 - T.log2 by omega, show ((T.log2 : Int) - 52 - 0).toNat = 0 by omega]
  have hcut : Toward.even.cut s (T <<< (52 - T.log2)) 0 = T <<< (52 - T.log2) := by
    have := cut_exact s (T <<< (52 - T.log2)) 0
    simpa using this
  rw [hcut]
  have hk1 : 2 ^ 52 ≤ T <<< (52 - T.log2) := by
    rw [Nat.shiftLeft_eq, show (2 : Nat) ^ 52 = 2 ^ T.log2 * 2 ^ (52 - T.log2) by rw [← Nat.pow_add]; congr 1; omega]
    exact Nat.mul_le_mul_right _ ha
  have hk2 : T <<< (52 - T.log2) < 2 ^ 53 := by
    rw [Nat.shiftLeft_eq, show (2 : Nat) ^ 53 = 2 ^ (T.log2 + 1) * 2 ^ (52 - T.log2) by rw [← Nat.pow_add]; congr 1; omega]
    exact Nat.mul_lt_mul_of_pos_right hb (Nat.two_pow_pos _)
  generalize hkk : T <<< (52 - T.log2) = kept at *
  have hbin : Ieee.double.binade = 4503599627370496 := by decide
  have hinf : Ieee.double.infRung = 9218868437227405312 := by rfl
  have hq : ((T.log2 : Int) - 52 - Ieee.double.leastPlace).toNat = T.log2 + 1022 := by rw [hlp]; omega
  have e52 : (2 : Nat) ^ 52 = 4503599627370496 := by decide
  have e53 : (2 : Nat) ^ 53 = 9007199254740992 := by decide
  rw [e52] at hk1
  rw [e53] at hk2
  have hle : (T.log2 + 1022) * Ieee.double.binade + kept < Ieee.double.infRung := by rw [hbin, hinf]; omega
  rw [hq, Nat.min_eq_left (Nat.le_of_lt hle)]
  obtain ⟨m', p', hr, hc⟩ := read_word Ieee.double s (T.log2 + 1022) kept (by rw [hbin]; omega) (fun h => by rw [hbin] at h; omega) hle
  rw [hr]
  rcases hc with ⟨-, hm', hp'⟩ | ⟨h, -⟩
  · have hpp : p' = (T.log2 : Int) - 52 := by rw [hp', hlp]; omega
    rw [hm', hpp]
  · rw [hbin] at h; omega
end Go.Proofs.Ytbaohbpfnlicpaa
