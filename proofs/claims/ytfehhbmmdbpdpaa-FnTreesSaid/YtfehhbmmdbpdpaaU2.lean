/- A float64 and its whole part. -/
import Derived.Test.YtfehhbmmdbpdpaaU1
namespace Go.Proofs.Ytfehhbmmdbpdpaa
open Go Ieee

theorem read_lp (f : Format) (y : Nat) {s : Bool} {m : Nat} {p : Int} (h : f.read y = .number s m p) : f.leastPlace ≤ p := (read_mle f y h).1
/-- nothing taken away -/
theorem sub_zero64 (y : Nat) (hy : y < 18446744073709551616) {s : Bool} {m : Nat} {p : Int} (h : FloatKind.f64.decode y = .number s m p) : fop .sub .f64 y 0 = y := by
  have hlp := read_lp Ieee.double y h
  obtain ⟨k, hk⟩ : ∃ k : Nat, p - Ieee.double.leastPlace = k := ⟨(p - Ieee.double.leastPlace).toNat, by omega⟩
  have hx := nearest_exact Ieee.double (by decide) y (by have : Ieee.double.signWeight = 9223372036854775808 := by decide
                                                         omega) h k
  unfold fop floatBits Format.sub
  rw [show FloatKind.f64.format.read y = _ from h, show FloatKind.f64.format.read 0 = .number false 0 Ieee.double.leastPlace from by decide]
  simp only [Datum.opposite, Datum.sum, Option.map_some, Option.getD_some]
  rw [show min p Ieee.double.leastPlace = Ieee.double.leastPlace by omega, show (p - Ieee.double.leastPlace).toNat = k by omega]
  show Ieee.double.nearest _ _ _ = y
  rw [show Ieee.double.leastPlace = p - (k : Int) by omega]
  have h0 : signed (!false) 0 (p - (k : Int) - (p - (k : Int))).toNat = 0 := by simp [signed]
  rw [h0, Int.add_zero]
  unfold signed
  generalize m <<< k = M at *
  cases s with
  | false =>
    simp only [Bool.false_eq_true, if_false]
    by_cases hz : (M : Int) = 0
    · rw [if_pos hz]
      simpa using hx
    · rw [if_neg hz, show decide ((M : Int) < 0) = false from decide_eq_false (by omega)]
      simpa using hx
  | true =>
    simp only [if_true]
    by_cases hz : -(M : Int) = 0
    · rw [if_pos hz]
      simpa using hx
    · rw [if_neg hz, show decide (-(M : Int) < 0) = true from decide_eq_true (by omega)]
      simpa using hx
end Go.Proofs.Ytfehhbmmdbpdpaa
