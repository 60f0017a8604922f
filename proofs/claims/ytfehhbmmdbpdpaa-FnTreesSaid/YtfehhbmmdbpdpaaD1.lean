/- Dyadic float32 numbers: exact arithmetic. -/
import Derived.Test.YtfehhbmmdbpdpaaU2
import Derived.Handy
namespace Go.Proofs.Ytfehhbmmdbpdpaa
open Go Ieee

/-- k / 1024 -/
def Fk (kd : FloatKind) (k : Int) : Nat := kd.format.nearest (decide (k < 0)) k.natAbs (-10)
abbrev F (k : Int) : Nat := Fk .f32 k
abbrev G (k : Int) : Nat := Fk .f64 k
theorem sgl_lp : Ieee.single.leastPlace = -149 := by decide
theorem sgl_bin : Ieee.single.binade = 8388608 := by decide
theorem sgl_inf : Ieee.single.infRung = 2139095040 := by decide
theorem sgl_fb : Ieee.single.fractionBits = 23 := rfl
theorem cut0 (s : Bool) (n : Nat) : Toward.even.cut s n 0 = n := by
  have := cut_exact s n 0
  simpa using this
theorem log2_24 {m : Nat} (h0 : m ≠ 0) (h1 : m < 16777216) : m.log2 ≤ 23 := by
  have a := Nat.log2_self_le h0
  have e : (2 : Nat) ^ 24 = 16777216 := by decide
  have := (Nat.pow_lt_pow_iff_right (show 1 < 2 by decide)).1 (Nat.lt_of_le_of_lt a (show m < 2 ^ 24 by rw [e]; exact h1))
  omega
theorem kind_ok (kd : FloatKind) : kd.format.leastPlace ≤ -149 ∧ 23 ≤ kd.format.fractionBits := by cases kd <;> decide
theorem nearest_small (kd : FloatKind) {s : Bool} {m : Nat} {p : Int} (h0 : m ≠ 0) (hm : m < 16777216) (hp : -149 ≤ p) (k : Nat) : kd.format.nearest s (m <<< k) (p - k) = kd.format.nearest s m p := by
  have hl := log2_24 h0 hm
  have hne : m <<< k ≠ 0 := by rw [Nat.shiftLeft_eq]; exact Nat.mul_ne_zero h0 (Nat.ne_of_gt (Nat.two_pow_pos k))
  obtain ⟨hlp, hfb⟩ := kind_ok kd
  generalize kd.format = f at *
  unfold Format.nearest
  rw [if_neg h0, if_neg hne]
  dsimp only
  rw [log2_shl h0]
  have hlast : max (p - (k : Int) + ((m.log2 + k : Nat) : Int) - (f.fractionBits : Int)) f.leastPlace = max (p + (m.log2 : Int) - (f.fractionBits : Int)) f.leastPlace := by congr 1; omega
  rw [hlast]
  generalize hL : max (p + (m.log2 : Int) - (f.fractionBits : Int)) f.leastPlace = last
  have hlp2 : last ≤ p := by omega
  have hc : Toward.even.cut s ((m <<< k) <<< (p - (k : Int) - last).toNat) (last - (p - (k : Int))).toNat = Toward.even.cut s (m <<< (p - last).toNat) (last - p).toNat := by
    rw [show (last - p).toNat = 0 by omega, cut0]
    by_cases hk : (k : Int) ≤ p - last
    · rw [show (last - (p - (k : Int))).toNat = 0 by omega, cut0, Nat.shiftLeft_eq, Nat.shiftLeft_eq, Nat.shiftLeft_eq, Nat.mul_assoc, ← Nat.pow_add]
      congr 2; omega
    · rw [show (p - (k : Int) - last).toNat = 0 by omega, Nat.shiftLeft_zero]
      have : m <<< k = (m <<< (p - last).toNat) <<< (last - (p - (k : Int))).toNat := by
        rw [Nat.shiftLeft_eq, Nat.shiftLeft_eq, Nat.shiftLeft_eq, Nat.mul_assoc, ← Nat.pow_add]
        congr 2; omega
      rw [this, cut_exact]
  rw [hc]
/-- a number that a float32 has, written and read -/
theorem read_norm32 (s : Bool) (m : Nat) (p : Int) (h0 : m ≠ 0) (h1 : m < 16777216) (hlo : -149 ≤ p + (m.log2 : Int) - 23) (hhi : p + (m.log2 : Int) - 23 ≤ 104) :
    FloatKind.f32.decode (Ieee.single.nearest s m p) = .number s (m <<< (23 - m.log2)) (p + (m.log2 : Int) - 23) := by
  have hg := log2_24 h0 h1
  have ha := Nat.log2_self_le h0
  have hb : m < 2 ^ (m.log2 + 1) := Nat.lt_log2_self
  show Ieee.single.read (Ieee.single.nearest s m p) = _
  unfold Format.nearest
  rw [if_neg h0]
  dsimp only
  have hlast : max (p + (m.log2 : Int) - (Ieee.single.fractionBits : Int)) Ieee.single.leastPlace = p + (m.log2 : Int) - 23 := by rw [sgl_lp, sgl_fb]; omega
  rw [hlast, show (p - (p + (m.log2 : Int) - 23)).toNat = 23 - m.log2 by omega, show (p + (m.log2 : Int) - 23 - p).toNat = 0 by omega, cut0]
  have e23 : (2 : Nat) ^ 23 = 8388608 := by decide
  have e24 : (2 : Nat) ^ 24 = 16777216 := by decide
  have hk1 : 8388608 ≤ m <<< (23 - m.log2) := by
    rw [Nat.shiftLeft_eq, ← e23, show (2 : Nat) ^ 23 = 2 ^ m.log2 * 2 ^ (23 - m.log2) by rw [← Nat.pow_add]; congr 1; omega]
    exact Nat.mul_le_mul_right _ ha
  have hk2 : m <<< (23 - m.log2) < 16777216 := by
    rw [Nat.shiftLeft_eq, ← e24, show (2 : Nat) ^ 24 = 2 ^ (m.log2 + 1) * 2 ^ (23 - m.log2) by rw [← Nat.pow_add]; congr 1; omega]
    exact Nat.mul_lt_mul_of_pos_right hb (Nat.two_pow_pos _)
  generalize hkk : m <<< (23 - m.log2) = kept at *
  generalize hlg : (m.log2 : Int) = lg at *
  obtain ⟨q, hq⟩ : ∃ q : Nat, p + lg - 23 - Ieee.single.leastPlace = (q : Int) := ⟨(p + lg - 23 - Ieee.single.leastPlace).toNat, by rw [sgl_lp]; omega⟩
  rw [hq, Int.toNat_natCast]
  rw [sgl_lp] at hq
  have hle : q * Ieee.single.binade + kept < Ieee.single.infRung := by rw [sgl_bin, sgl_inf]; omega
  rw [Nat.min_eq_left (Nat.le_of_lt hle)]
  obtain ⟨m', p', hr, hc⟩ := read_word Ieee.single s q kept (by rw [sgl_bin]; omega) (fun h => by rw [sgl_bin] at h; omega) hle
  rw [hr]
  rcases hc with ⟨-, hm', hp'⟩ | ⟨h, -⟩
  · have hpp : p' = p + lg - 23 := by rw [hp', sgl_lp]; omega
    rw [hm', hpp]
  · rw [sgl_bin] at h; omega
/-- what a float64 has, written and read -/
theorem read_norm64 (s : Bool) (m : Nat) (p : Int) (h0 : m ≠ 0) (h1 : m < 16777216) (hlo : -1074 ≤ p + (m.log2 : Int) - 52) (hhi : p + (m.log2 : Int) - 52 ≤ 971) :
    FloatKind.f64.decode (Ieee.double.nearest s m p) = .number s (m <<< (52 - m.log2)) (p + (m.log2 : Int) - 52) := by
  have hg := log2_24 h0 h1
  have ha := Nat.log2_self_le h0
  have hb : m < 2 ^ (m.log2 + 1) := Nat.lt_log2_self
  have dlp : Ieee.double.leastPlace = -1074 := by decide
  have dbin : Ieee.double.binade = 4503599627370496 := by decide
  have dinf : Ieee.double.infRung = 9218868437227405312 := by rfl
  have dfb : Ieee.double.fractionBits = 52 := rfl
  show Ieee.double.read (Ieee.double.nearest s m p) = _
  unfold Format.nearest
  rw [if_neg h0]
  dsimp only
  have hlast : max (p + (m.log2 : Int) - (Ieee.double.fractionBits : Int)) Ieee.double.leastPlace = p + (m.log2 : Int) - 52 := by rw [dlp, dfb]; omega
  rw [hlast, show (p - (p + (m.log2 : Int) - 52)).toNat = 52 - m.log2 by omega, show (p + (m.log2 : Int) - 52 - p).toNat = 0 by omega, cut0]
  have e52 : (2 : Nat) ^ 52 = 4503599627370496 := by decide
  have e53 : (2 : Nat) ^ 53 = 9007199254740992 := by decide
  have hk1 : 4503599627370496 ≤ m <<< (52 - m.log2) := by
    rw [Nat.shiftLeft_eq, ← e52, show (2 : Nat) ^ 52 = 2 ^ m.log2 * 2 ^ (52 - m.log2) by rw [← Nat.pow_add]; congr 1; omega]
    exact Nat.mul_le_mul_right _ ha
  have hk2 : m <<< (52 - m.log2) < 9007199254740992 := by
    rw [Nat.shiftLeft_eq, ← e53, show (2 : Nat) ^ 53 = 2 ^ (m.log2 + 1) * 2 ^ (52 - m.log2) by rw [← Nat.pow_add]; congr 1; omega]
    exact Nat.mul_lt_mul_of_pos_right hb (Nat.two_pow_pos _)
  generalize hkk : m <<< (52 - m.log2) = kept at *
  generalize hlg : (m.log2 : Int) = lg at *
  obtain ⟨q, hq⟩ : ∃ q : Nat, p + lg - 52 - Ieee.double.leastPlace = (q : Int) := ⟨(p + lg - 52 - Ieee.double.leastPlace).toNat, by rw [dlp]; omega⟩
  rw [hq, Int.toNat_natCast]
  rw [dlp] at hq
  have hle : q * Ieee.double.binade + kept < Ieee.double.infRung := by rw [dbin, dinf]; omega
  rw [Nat.min_eq_left (Nat.le_of_lt hle)]
  obtain ⟨m', p', hr, hc⟩ := read_word Ieee.double s q kept (by rw [dbin]; omega) (fun h => by rw [dbin] at h; omega) hle
  rw [hr]
  rcases hc with ⟨-, hm', hp'⟩ | ⟨h, -⟩
  · have hpp : p' = p + lg - 52 := by rw [hp', dlp]; omega
    rw [hm', hpp]
  · rw [dbin] at h; omega
theorem F_zero (kd : FloatKind) : Fk kd 0 = 0 := by cases kd <;> decide
theorem F_dec (kd : FloatKind) (k : Int) (h : k.natAbs < 16777216) : ∃ a : Nat, kd.decode (Fk kd k) = .number (decide (k < 0)) (k.natAbs <<< a) (-10 - (a : Int)) := by
  by_cases h0 : k = 0
  · subst h0
    cases kd
    · exact ⟨139, by decide⟩
    · exact ⟨1064, by decide⟩
  · have hl := log2_24 (show k.natAbs ≠ 0 by omega) h
    cases kd
    · refine ⟨23 - k.natAbs.log2, ?_⟩
      have := read_norm32 (decide (k < 0)) k.natAbs (-10) (by omega) h (by omega) (by omega)
      unfold Fk
      rw [show FloatKind.f32.format = Ieee.single from rfl, this]
      congr 1
      omega
    · refine ⟨52 - k.natAbs.log2, ?_⟩
      have := read_norm64 (decide (k < 0)) k.natAbs (-10) (by omega) h (by omega) (by omega)
      unfold Fk
      rw [show FloatKind.f64.format = Ieee.double from rfl, this]
      congr 1
      omega
theorem signed_F (k : Int) (a W : Nat) (h : a ≤ W) (d : Int) (hd : d = (W : Int) - a) : signed (decide (k < 0)) (k.natAbs <<< a) d.toNat = k * ((2 ^ W : Nat) : Int) := by
  have hs : (k.natAbs <<< a) <<< d.toNat = k.natAbs * 2 ^ W := by
    rw [Nat.shiftLeft_eq, Nat.shiftLeft_eq, Nat.mul_assoc, ← Nat.pow_add]
    congr 2; omega
  unfold signed
  rw [hs]
  by_cases h0 : k < 0
  · rw [decide_eq_true h0, if_pos rfl, Int.natCast_mul, show ((k.natAbs : Nat) : Int) = -k by omega, Int.neg_mul, Int.neg_neg]
  · rw [decide_eq_false h0, if_neg (by decide), Int.natCast_mul, show ((k.natAbs : Nat) : Int) = k by omega]
theorem signed_Fn (k : Int) (a W : Nat) (h : a ≤ W) (d : Int) (hd : d = (W : Int) - a) : signed (!decide (k < 0)) (k.natAbs <<< a) d.toNat = -(k * ((2 ^ W : Nat) : Int)) := by
  rw [← signed_F k a W h d hd]
  unfold signed
  by_cases h0 : k < 0
  · rw [decide_eq_true h0]; simp
  · rw [decide_eq_false h0]; simp
/-- a sum of numbers at one place, written -/
theorem write_F (kd : FloatKind) (c : Int) (hc : c.natAbs < 16777216) (W : Nat) (z : Bool) (hz : c = 0 → z = false) :
    kd.format.nearest (if c * ((2 ^ W : Nat) : Int) = 0 then z else decide (c * ((2 ^ W : Nat) : Int) < 0)) (c * ((2 ^ W : Nat) : Int)).natAbs (-10 - (W : Int)) = Fk kd c := by
  have hp : 0 < (2 : Nat) ^ W := Nat.two_pow_pos W
  by_cases h0 : c = 0
  · subst h0
    rw [Int.zero_mul, if_pos rfl, hz rfl, F_zero]
    unfold Format.nearest
    rw [if_pos (by rfl)]
    cases kd <;> rfl
  · have hne : c * ((2 ^ W : Nat) : Int) ≠ 0 := Int.mul_ne_zero h0 (by omega)
    rw [if_neg hne]
    have hlt : decide (c * ((2 ^ W : Nat) : Int) < 0) = decide (c < 0) := by
      by_cases h1 : c < 0
      · rw [decide_eq_true h1, decide_eq_true (Int.mul_neg_of_neg_of_pos h1 (by omega))]
      · rw [decide_eq_false h1, decide_eq_false (by
          have := Int.mul_nonneg (show 0 ≤ c by omega) (show (0 : Int) ≤ ((2 ^ W : Nat) : Int) by omega)
          omega)]
    rw [hlt, Int.natAbs_mul, Int.natAbs_natCast]
    have := nearest_small kd (s := decide (c < 0)) (m := c.natAbs) (p := -10) (by omega) hc (by omega) W
    rw [Nat.shiftLeft_eq] at this
    exact this
theorem F_add (kd : FloatKind) (a b : Int) (ha : a.natAbs < 16777216) (hb : b.natAbs < 16777216) (hab : (a + b).natAbs < 16777216) : floatBits .add kd (Fk kd a) (Fk kd b) = some (Fk kd (a + b)) := by
  obtain ⟨u, hu⟩ := F_dec kd a ha
  obtain ⟨v, hv⟩ := F_dec kd b hb
  unfold floatBits Format.add
  rw [show kd.format.read (Fk kd a) = _ from hu, show kd.format.read (Fk kd b) = _ from hv]
  simp only [Datum.sum, Option.map_some]
  obtain ⟨W, hW⟩ : ∃ W : Nat, W = max u v := ⟨_, rfl⟩
  have hbase : min (-10 - (u : Int)) (-10 - (v : Int)) = -10 - (W : Int) := by omega
  rw [hbase, signed_F a u W (by omega) _ (by omega), signed_F b v W (by omega) _ (by omega), ← Int.add_mul]
  congr 1
  exact write_F kd (a + b) hab W _ (fun h => by
    by_cases h1 : a < 0
    · rw [decide_eq_false (show ¬ b < 0 by omega), Bool.and_false]
    · rw [decide_eq_false h1, Bool.false_and])
theorem F_sub (kd : FloatKind) (a b : Int) (ha : a.natAbs < 16777216) (hb : b.natAbs < 16777216) (hab : (a - b).natAbs < 16777216) : floatBits .sub kd (Fk kd a) (Fk kd b) = some (Fk kd (a - b)) := by
  obtain ⟨u, hu⟩ := F_dec kd a ha
  obtain ⟨v, hv⟩ := F_dec kd b hb
  unfold floatBits Format.sub
  rw [show kd.format.read (Fk kd a) = _ from hu, show kd.format.read (Fk kd b) = _ from hv]
  simp only [Datum.opposite, Datum.sum, Option.map_some]
  obtain ⟨W, hW⟩ : ∃ W : Nat, W = max u v := ⟨_, rfl⟩
  have hbase : min (-10 - (u : Int)) (-10 - (v : Int)) = -10 - (W : Int) := by omega
  rw [hbase, signed_F a u W (by omega) _ (by omega), signed_Fn b v W (by omega) _ (by omega), ← Int.sub_eq_add_neg, ← Int.sub_mul]
  congr 1
  exact write_F kd (a - b) hab W _ (fun h => by
    have : a = b := by omega
    subst this
    cases decide (a < 0) <;> rfl)
theorem F_order (kd : FloatKind) (a b : Int) (ha : a.natAbs < 16777216) (hb : b.natAbs < 16777216) : kd.format.order (Fk kd a) (Fk kd b) = some (compare a b) := by
  obtain ⟨u, hu⟩ := F_dec kd a ha
  obtain ⟨v, hv⟩ := F_dec kd b hb
  unfold Format.order
  rw [show kd.format.read (Fk kd a) = _ from hu, show kd.format.read (Fk kd b) = _ from hv]
  simp only [Datum.order]
  obtain ⟨W, hW⟩ : ∃ W : Nat, W = max u v := ⟨_, rfl⟩
  have hbase : min (-10 - (u : Int)) (-10 - (v : Int)) = -10 - (W : Int) := by omega
  rw [hbase, signed_F a u W (by omega) _ (by omega), signed_F b v W (by omega) _ (by omega)]
  congr 1
  have hp : (0 : Int) < ((2 ^ W : Nat) : Int) := by have := Nat.two_pow_pos W; omega
  generalize ((2 ^ W : Nat) : Int) = c at *
  unfold compare instOrdInt
  dsimp only
  unfold compareOfLessAndEq
  by_cases h1 : a < b
  · rw [if_pos h1, if_pos (Int.mul_lt_mul_of_pos_right h1 hp)]
  · have h2 : ¬ a * c < b * c := fun h => h1 (Int.lt_of_mul_lt_mul_right h (by omega))
    rw [if_neg h1, if_neg h2]
    by_cases h3 : a = b
    · subst h3; rw [if_pos rfl, if_pos rfl]
    · rw [if_neg h3, if_neg (fun h => h3 (Int.eq_of_mul_eq_mul_right (by omega) h))]
end Go.Proofs.Ytfehhbmmdbpdpaa
