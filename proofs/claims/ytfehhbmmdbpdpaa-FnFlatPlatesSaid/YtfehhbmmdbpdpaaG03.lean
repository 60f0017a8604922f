/- Dyadic float32 numbers: exact arithmetic. -/
import Derived.Test.YtfehhbmmdbpdpaaG02
import Derived.Handy
import Derived.KernelRfl
namespace Go.Proofs.Ytfehhbmmdbpdpaa
open Go Ieee

/-- k / 1024 -/
def Fk (kd : FloatKind) (k : Int) : Nat := kd.format.nearest (decide (k < 0)) k.natAbs (-10)
abbrev F (k : Int) : Nat := Fk .f32 k
abbrev G (k : Int) : Nat := Fk .f64 k
theorem sgl_lp : Ieee.single.leastPlace = -149 := by decide
theorem sgl_bin : Ieee.single.binade = 8388608 := by decide
theorem sgl_inf : Ieee.single.infRung = 2139095040 := by decide
theorem sgl_fb : Ieee.single.fractionBits = 23 := rfl
theorem cut0 (s : Bool) (n : Nat) : Toward.even.cut s n 0 = n := by
  have := cut_exact s n 0
  simpa using this
theorem log2_24 {m : Nat} (h0 : m ≠ 0) (h1 : m < 16777216) : m.log2 ≤ 23 := by
  have a := Nat.log2_self_le h0
  have e : (2 : Nat) ^ 24 = 16777216 := by decide
  have := (Nat.pow_lt_pow_iff_right (show 1 < 2 by decide)).1 (Nat.lt_of_le_of_lt a (show m < 2 ^ 24 by rw [e]; exact h1))
  omega
theorem kind_ok (kd : FloatKind) : kd.format.leastPlace ≤ -149 ∧ 23 ≤ kd.format.fractionBits := by cases kd <;> decide
theorem nearest_small (kd : FloatKind) {s : Bool} {m : Nat} {p : Int} (h0 : m ≠ 0) (hm : m < 16777216) (hp : -149 ≤ p) (k : Nat) : kd.format.nearest s (m <<< k) (p - k) = kd.format.nearest s m p := by
  have hl := log2_24 h0 hm
  have hne : m <<< k ≠ 0 := by rw [Nat.shiftLeft_eq]; exact Nat.mul_ne_zero h0 (Nat.ne_of_gt (Nat.two_pow_pos k))
  obtain ⟨hlp, hfb⟩ := kind_ok kd
  generalize kd.format = f at *
  unfold Format.nearest
  rw [if_neg h0, if_neg hne]
  dsimp only
  rw [log2_shl h0]
  have hlast : max (p - (k : Int) + ((m.log2 + k : Nat) : Int) - (f.fractionBits : Int)) f.leastPlace = max (p + (m.log2 : Int) - (f.fractionBits : Int)) f.leastPlace := by congr 1; omega
  rw [hlast]
  generalize hL : max (p + (m.log2 : Int) - (f.fractionBits : Int)) f.leastPlace = last
  have hlp2 : last ≤ p := by omega
  have hc : Toward.even.cut s ((m <<< k) <<< (p - (k : Int) - last).toNat) (last - (p - (k : Int))).toNat = Toward.even.cut s (m <<< (p - last).toNat) (last - p).toNat := by
    rw [show (last - p).toNat = 0 by omega, cut0]
    by_cases hk : (k : Int) ≤ p - last
    · rw [show (last - (p - (k : Int))).toNat = 0 by omega, cut0, Nat.shiftLeft_eq, Nat.shiftLeft_eq, Nat.shiftLeft_eq, Nat.mul_assoc, ← Nat.pow_add]
      congr 2; omega
    · rw [show (p - (k : Int) - last).toNat = 0 by omega, Nat.shiftLeft_zero]
      have : m <<< k = (m <<< (p - last).toNat) <<< (last - (p - (k : Int))).toNat := by
        rw [Nat.shiftLeft_eq, Nat.shiftLeft_eq, Nat.shiftLeft_eq, Nat.mul_assoc, ← Nat.pow_add]
        congr 2; omega
      rw [this, cut_exact]
  rw [hc]
/-- a number that a float32 has, written and read -/
theorem read_norm32 (s : Bool) (m : Nat) (p : Int) (h0 : m ≠ 0) (h1 : m < 16777216) (hlo : -149 ≤ p + (m.log2 : Int) - 23) (hhi : p + (m.log2 : Int) - 23 ≤ 104) :
    FloatKind.f32.decode (Ieee.single.nearest s m p) = .number s (m <<< (23 - m.log2)) (p + (m.log2 : Int) - 23) := by
  have hg := log2_24 h0 h1
  have ha := Nat.log2_self_le h0
  have hb : m < 2 ^ (m.log2 + 1) := Nat.lt_log2_self
  show Ieee.single.read (Ieee.single.nearest s m p) = _
  unfold Format.nearest
  rw [if_neg h0]
  dsimp only
  have hlast : max (p + (m.log2 : Int) - (Ieee.single.fractionBits : Int)) Ieee.single.leastPlace = p + (m.log2 : Int) - 23 := by rw [sgl_lp, sgl_fb]; omega
  rw [hlast, show (p - (p + (m.log2 : Int) - 23)).toNat = 23 - m.log2 by omega, show (p + (m.log2 : Int) - 23 - p).toNat = 0 by omega, cut0]
  have e23 : (2 : Nat) ^ 23 = 8388608 := by decide
  have e24 : (2 : Nat) ^ 24 = 16777216 := by decide
  have hk1 : 8388608 ≤ m <<< (23 - m.log2) := by
    rw [Nat.shiftLeft_eq, ← e23, show (2 : Nat) ^ 23 = 2 ^ m.log2 * 2 ^ (23 - m.log2) by rw [← Nat.pow_add]; congr 1; omega]
    exact Nat.mul_le_mul_right _ ha
  have hk2 : m <<< (23 - m.log2) < 16777216 := by
    rw [Nat.shiftLeft_eq, ← e24, show (2 : Nat) ^ 24 = 2 ^ (m.log2 + 1) * 2 ^ (23 - m.log2) by rw [← Nat.pow_add]; congr 1; omega]
    exact Nat.mul_lt_mul_of_pos_right hb (Nat.two_pow_pos _)
  generalize hkk : m <<< (23 - m.log2) = kept at *
  generalize hlg : (m.log2 : Int) = lg at *
  obtain ⟨q, hq⟩ : ∃ q : Nat, p + lg - 23 - Ieee.single.leastPlace = (q : Int) := ⟨(p + lg - 23 - Ieee.single.leastPlace).toNat, by rw [sgl_lp]; omega⟩
  rw [hq, Int.toNat_natCast]
  rw [sgl_lp] at hq
  have hle : q * Ieee.single.binade + kept < Ieee.single.infRung := by rw [sgl_bin, sgl_inf]; omega
  rw [Nat.min_eq_left (Nat.le_of_lt hle)]
  obtain ⟨m', p', hr, hc⟩ := read_word Ieee.single s q kept (by rw [sgl_bin]; omega) (fun h => by rw [sgl_bin] at h; omega) hle
  rw [hr]
  rcases hc with ⟨-, hm', hp'⟩ | ⟨h, -⟩
  · have hpp : p' = p + lg - 23 := by rw [hp', sgl_lp]; omega
    rw [hm', hpp]
  · rw [sgl_bin] at h; omega
/-- what a float64 has, written and read -/
theorem read_norm64 (s : Bool) (m : Nat) (p : Int) (h0 : m ≠ 0) (h1 : m < 16777216) (hlo : -1074 ≤ p + (m.log2 : Int) - 52) (hhi : p + (m.log2 : Int) - 52 ≤ 971) :
    FloatKind.f64.decode (Ieee.double.nearest s m p) = .number s (m <<< (52 - m.log2)) (p + (m.log2 : Int) - 52) := by
  have hg := log2_24 h0 h1
  have ha := Nat.log2_self_le h0
  have hb : m < 2 ^ (m.log2 + 1) := Nat.lt_log2_self
  have dlp : Ieee.double.leastPlace = -1074 := by decide
  have dbin : Ieee.double.binade = 4503599627370496 := by decide
  have dinf : Ieee.double.infRung = 9218868437227405312 := by rfl
  have dfb : Ieee.double.fractionBits = 52 := rfl
  show Ieee.double.read (Ieee.double.nearest s m p) = _
  unfold Format.nearest
  rw [if_neg h0]
  dsimp only
  have hlast : max (p + (m.log2 : Int) - (Ieee.double.fractionBits : Int)) Ieee.double.leastPlace = p + (m.log2 : Int) - 52 := by rw [dlp, dfb]; omega
  rw [hlast, show (p - (p + (m.log2 : Int) - 52)).toNat = 52 - m.log2 by omega, show (p + (m.log2 : Int) - 52 - p).toNat = 0 by omega, cut0]
  have e52 : (2 : Nat) ^ 52 = 4503599627370496 := by decide
  have e53 : (2 : Nat) ^ 53 = 9007199254740992 := by decide
  have hk1 : 4503599627370496 ≤ m <<< (52 - m.log2) := by
    rw [Nat.shiftLeft_eq, ← e52, show (2 : Nat) ^ 52 = 2 ^ m.log2 * 2 ^ (52 - m.log2) by rw [← Nat.pow_add]; congr 1; omega]
    exact Nat.mul_le_mul_right _ ha
  have hk2 : m <<< (52 - m.log2) < 9007199254740992 := by
    rw [Nat.shiftLeft_eq, ← e53, show (2 : Nat) ^ 53 = 2 ^ (m.log2 + 1) * 2 ^ (52 - m.log2) by rw [← Nat.pow_add]; congr 1; omega]
    exact Nat.mul_lt_mul_of_pos_right hb (Nat.two_pow_pos _)
  generalize hkk : m <<< (52 - m.log2) = kept at *
  generalize hlg : (m.log2 : Int) = lg at *
  obtain ⟨q, hq⟩ : ∃ q : Nat, p + lg - 52 - Ieee.double.leastPlace = (q : Int) := ⟨(p + lg - 52 - Ieee.double.leastPlace).toNat, by rw [dlp]; omega⟩
  rw [hq, Int.toNat_natCast]
  rw [dlp] at hq
  have hle : q * Ieee.double.binade + kept < Ieee.double.infRung := by rw [dbin, dinf]; omega
  rw [Nat.min_eq_left (Nat.le_of_lt hle)]
  obtain ⟨m', p', hr, hc⟩ := read_word Ieee.double s q kept (by rw [dbin]; omega) (fun h => by rw [dbin] at h; omega) hle
  rw [hr]
  rcases hc with ⟨-, hm', hp'⟩ | ⟨h, -⟩
  · have hpp : p' = p + lg - 52 := by rw [hp', dlp]; omega
    rw [hm', hpp]
  · rw [dbin] at h; omega
theorem F_zero (kd : FloatKind) : Fk kd 0 = 0 := by cases kd <;> decide
theorem F_dec (kd : FloatKind) (k : Int) (h : k.natAbs < 16777216) : ∃ a : Nat, kd.decode (Fk kd k) = .number (decide (k < 0)) (k.natAbs <<< a) (-10 - (a : Int)) := by
  by_cases h0 : k = 0
  · subst h0
    cases kd
    · exact ⟨139, by decide⟩
    · exact ⟨1064, by decide⟩
  · have hl := log2_24 (show k.natAbs ≠ 0 by omega) h
    cases kd
    · refine ⟨23 - k.natAbs.log2, ?_⟩
      have := read_norm32 (decide (k < 0)) k.natAbs (-10) (by omega) h (by omega) (by omega)
      unfold Fk
      rw [show FloatKind.f32.format = Ieee.single from rfl, this]
      congr 1
      omega
    · refine ⟨52 - k.natAbs.log2, ?_⟩
      have := read_norm64 (decide (k < 0)) k.natAbs (-10) (by omega) h (by omega) (by omega)
      unfold Fk
      rw [show FloatKind.f64.format = Ieee.double from rfl, this]
      congr 1
      omega
theorem signed_F (k : Int) (a W : Nat) (h : a ≤ W) (d : Int) (hd : d = (W : Int) - a) : signed (decide (k < 0)) (k.natAbs <<< a) d.toNat = k * ((2 ^ W : Nat) : Int) := by
  have hs : (k.natAbs <<< a) <<< d.toNat = k.natAbs * 2 ^ W := by
    rw [Nat.shiftLeft_eq, Nat.shiftLeft_eq, Nat.mul_assoc, ← Nat.pow_add]
    congr 2; omega
  unfold signed
  rw [hs]
  by_cases h0 : k < 0
  · rw [decide_eq_true h0, if_pos rfl, Int.natCast_mul, show ((k.natAbs : Nat) : Int) = -k by omega, Int.neg_mul, Int.neg_neg]
  · rw [decide_eq_false h0, if_neg (by decide), Int.natCast_mul, show ((k.natAbs : Nat) : Int) = k by omega]
theorem signed_Fn (k : Int) (a W : Nat) (h : a ≤ W) (d : Int) (hd : d = (W : Int) - a) : signed (!decide (k < 0)) (k.natAbs <<< a) d.toNat = -(k * ((2 ^ W : Nat) : Int)) := by
  rw [← signed_F k a W h d hd]
  unfold signed
  by_cases h0 : k < 0
  · rw [decide_eq_true h0]; simp
  · rw [decide_eq_false h0]; simp
/-- a sum of numbers at one place, written -/
theorem write_F (kd : FloatKind) (c : Int) (hc : c.natAbs < 16777216) (W : Nat) (z : Bool) (hz : c = 0 → z = false) :
    kd.format.nearest (if c * ((2 ^ W : Nat) : Int) = 0 then z else decide (c * ((2 ^ W : Nat) : Int) < 0)) (c * ((2 ^ W : Nat) : Int)).natAbs (-10 - (W : Int)) = Fk kd c := by
  have hp : 0 < (2 : Nat) ^ W := Nat.two_pow_pos W
  by_cases h0 : c = 0
  · subst h0
    rw [Int.zero_mul, if_pos rfl, hz rfl, F_zero]
    unfold Format.nearest
    rw [if_pos (by rfl)]
    cases kd <;> rfl
  · have hne : c * ((2 ^ W : Nat) : Int) ≠ 0 := Int.mul_ne_zero h0 (by omega)
    rw [if_neg hne]
    have hlt : decide (c * ((2 ^ W : Nat) : Int) < 0) = decide (c < 0) := by
      by_cases h1 : c < 0
      · rw [decide_eq_true h1, decide_eq_true (Int.mul_neg_of_neg_of_pos h1 (by omega))]
      · rw [decide_eq_false h1, decide_eq_false (by
          have := Int.mul_nonneg (show 0 ≤ c by omega) (show (0 : Int) ≤ ((2 ^ W : Nat) : Int) by omega)
          omega)]
    rw [hlt, Int.natAbs_mul, Int.natAbs_natCast]
    have := nearest_small kd (s := decide (c < 0)) (m := c.natAbs) (p := -10) (by omega) hc (by omega) W
    rw [Nat.shiftLeft_eq] at this
    exact this
theorem F_add (kd : FloatKind) (a b : Int) (ha : a.natAbs < 16777216) (hb : b.natAbs < 16777216) (hab : (a + b).natAbs < 16777216) : floatBits .add kd (Fk kd a) (Fk kd b) = some (Fk kd (a + b)) := by
  obtain ⟨u, hu⟩ := F_dec kd a ha
  obtain ⟨v, hv⟩ := F_dec kd b hb
  unfold floatBits Format.add
  rw [show kd.format.read (Fk kd a) = _ from hu, show kd.format.read (Fk kd b) = _ from hv]
  simp only [Datum.sum, Option.map_some]
  obtain ⟨W, hW⟩ : ∃ W : Nat, W = max u v := ⟨_, rfl⟩
  have hbase : min (-10 - (u : Int)) (-10 - (v : Int)) = -10 - (W : Int) := by omega
  rw [hbase, signed_F a u W (by omega) _ (by omega), signed_F b v W (by omega) _ (by omega), ← Int.add_mul]
  congr 1
  exact write_F kd (a + b) hab W _ (fun h => by
    by_cases h1 : a < 0
    · rw [decide_eq_false (show ¬ b < 0 by omega), Bool.and_false]
    · rw [decide_eq_false h1, Bool.false_and])
theorem F_sub (kd : FloatKind) (a b : Int) (ha : a.natAbs < 16777216) (hb : b.natAbs < 16777216) (hab : (a - b).natAbs < 16777216) : floatBits .sub kd (Fk kd a) (Fk kd b) = some (Fk kd (a - b)) := by
  obtain ⟨u, hu⟩ := F_dec kd a ha
  obtain ⟨v, hv⟩ := F_dec kd b hb
  unfold floatBits Format.sub
  rw [show kd.format.read (Fk kd a) = _ from hu, show kd.format.read (Fk kd b) = _ from hv]
  simp only [Datum.opposite, Datum.sum, Option.map_some]
  obtain ⟨W, hW⟩ : ∃ W : Nat, W = max u v := ⟨_, rfl⟩
  have hbase : min (-10 - (u : Int)) (-10 - (v : Int)) = -10 - (W : Int) := by omega
  rw [hbase, signed_F a u W (by omega) _ (by omega), signed_Fn b v W (by omega) _ (by omega), ← Int.sub_eq_add_neg, ← Int.sub_mul]
  congr 1
  exact write_F kd (a - b) hab W _ (fun h => by
    have : a = b := by omega
    subst this
    cases decide (a < 0) <;> rfl)
theorem F_order (kd : FloatKind) (a b : Int) (ha : a.natAbs < 16777216) (hb : b.natAbs < 16777216) : kd.format.order (Fk kd a) (Fk kd b) = some (compare a b) := by
  obtain ⟨u, hu⟩ := F_dec kd a ha
  obtain ⟨v, hv⟩ := F_dec kd b hb
  unfold Format.order
  rw [show kd.format.read (Fk kd a) = _ from hu, show kd.format.read (Fk kd b) = _ from hv]
  simp only [Datum.order]
  obtain ⟨W, hW⟩ : ∃ W : Nat, W = max u v := ⟨_, rfl⟩
  have hbase : min (-10 - (u : Int)) (-10 - (v : Int)) = -10 - (W : Int) := by omega
  rw [hbase, signed_F a u W (by omega) _ (by omega), signed_F b v W (by omega) _ (by omega)]
  congr 1
  have hp : (0 : Int) < ((2 ^ W : Nat) : Int) := by have := Nat.two_pow_pos W; omega
  generalize ((2 ^ W : Nat) : Int) = c at *
  unfold compare instOrdInt
  dsimp only
  unfold compareOfLessAndEq
  by_cases h1 : a < b
  · rw [if_pos h1, if_pos (Int.mul_lt_mul_of_pos_right h1 hp)]
  · have h2 : ¬ a * c < b * c := fun h => h1 (Int.lt_of_mul_lt_mul_right h (by omega))
    rw [if_neg h1, if_neg h2]
    by_cases h3 : a = b
    · subst h3; rw [if_pos rfl, if_pos rfl]
    · rw [if_neg h3, if_neg (fun h => h3 (Int.eq_of_mul_eq_mul_right (by omega) h))]
end Go.Proofs.Ytfehhbmmdbpdpaa
/- Dyadic numbers: compared, multiplied, halved, widened. -/
namespace Go.Proofs.Ytfehhbmmdbpdpaa
open Go Ieee

theorem F_isN (kd : FloatKind) (k : Int) (h : k.natAbs < 16777216) : isN kd (Fk kd k) = false := by
  obtain ⟨a, ha⟩ := F_dec kd k h
  unfold isN; rw [ha]; rfl
theorem F_cn (kd : FloatKind) (k : Int) (h : k.natAbs < 16777216) : cn kd (Fk kd k) = Fk kd k := cn_of_not (F_isN kd k h)
theorem F_cmp (kd : FloatKind) (op : BinOp) (a b : Int) (ha : a.natAbs < 16777216) (hb : b.natAbs < 16777216) :
    fcmp op kd (Fk kd a) (Fk kd b) = match op with | .eql => decide (a = b) | .neq => decide (a ≠ b) | .lss => decide (a < b) | .leq => decide (a ≤ b) | .gtr => decide (b < a) | .geq => decide (b ≤ a) | _ => false := by
  have ho := F_order kd a b ha hb
  unfold fcmp
  rw [ho]
  rcases Int.lt_trichotomy a b with h | h | h
  · have hc : compare a b = .lt := by unfold compare instOrdInt; dsimp only; unfold compareOfLessAndEq; rw [if_pos h]
    rw [hc]
    have h1 : ¬ a = b := by omega
    have h2 : ¬ b < a := by omega
    have h3 : ¬ b ≤ a := by omega
    have h4 : a ≤ b := by omega
    cases op <;> simp [h, h1, h2, h3, h4] <;> decide
  · subst h
    have hc : compare a a = .eq := by unfold compare instOrdInt; dsimp only; unfold compareOfLessAndEq; rw [if_neg (by omega), if_pos rfl]
    rw [hc]
    cases op <;> simp <;> decide
  · have h0 : ¬ a < b := by omega
    have h1 : ¬ a = b := by omega
    have hc : compare a b = .gt := by unfold compare instOrdInt; dsimp only; unfold compareOfLessAndEq; rw [if_neg h0, if_neg h1]
    rw [hc]
    have h3 : ¬ a ≤ b := by omega
    have h4 : b ≤ a := by omega
    cases op <;> simp [h, h0, h1, h3, h4] <;> decide
/-- a product; where it is nothing it may have a sign -/
def mulF (d s : Int) : Nat := (floatBits .mul .f32 (F d) (F s)).getD 0
theorem F_mul (a d s q : Int) (hq : d * s = 1024 * q) (ha : a.natAbs < 16777216) (hd : d.natAbs < 16777216) (hs : s.natAbs < 16777216) (hqb : q.natAbs < 16777216) (haq : (a + q).natAbs < 16777216) :
    floatBits .mul .f32 (F d) (F s) = some (mulF d s) ∧ floatBits .add .f32 (F a) (mulF d s) = some (F (a + q)) := by
  obtain ⟨u, hu⟩ := F_dec .f32 d hd
  obtain ⟨v, hv⟩ := F_dec .f32 s hs
  have hm : floatBits .mul .f32 (F d) (F s) = some (Ieee.single.nearest (decide (d < 0) ^^ decide (s < 0)) (q.natAbs <<< (10 + u + v)) (-10 - ((10 + u + v : Nat) : Int))) := by
    unfold floatBits Format.mul
    rw [show FloatKind.f32.format.read (F d) = _ from hu, show FloatKind.f32.format.read (F s) = _ from hv]
    simp only [Datum.product, Option.map_some]
    have e1 : (d.natAbs <<< u) * (s.natAbs <<< v) = q.natAbs <<< (10 + u + v) := by
      have h1 : d.natAbs * s.natAbs = 1024 * q.natAbs := by rw [← Int.natAbs_mul, hq, Int.natAbs_mul]; rfl
      rw [Nat.shiftLeft_eq, Nat.shiftLeft_eq, Nat.shiftLeft_eq, Nat.pow_add, Nat.pow_add, show (2 : Nat) ^ 10 = 1024 from rfl]
      rw [Nat.mul_mul_mul_comm, h1, Nat.mul_comm 1024, Nat.mul_assoc, Nat.mul_assoc 1024]
    rw [e1, show -10 - (u : Int) + (-10 - (v : Int)) = -10 - ((10 + u + v : Nat) : Int) by omega]
    rfl
  have hmf : mulF d s = Ieee.single.nearest (decide (d < 0) ^^ decide (s < 0)) (q.natAbs <<< (10 + u + v)) (-10 - ((10 + u + v : Nat) : Int)) := by
    unfold mulF; rw [hm]; rfl
  refine ⟨by rw [hm, hmf], ?_⟩
  by_cases h0 : q = 0
  · subst h0
    have hz : mulF d s = Ieee.single.word (decide (d < 0) ^^ decide (s < 0)) 0 := by
      rw [hmf]
      unfold Format.nearest
      rw [if_pos (by rw [Nat.shiftLeft_eq]; simp)]
    have hr : ∀ b : Bool, FloatKind.f32.format.read (Ieee.single.word b 0) = .number b 0 (-149) := by decide
    obtain ⟨w, hw⟩ := F_dec .f32 a ha
    rw [hz]
    generalize (decide (d < 0) ^^ decide (s < 0)) = b at *
    unfold floatBits Format.add
    rw [show FloatKind.f32.format.read (F a) = _ from hw, hr]
    simp only [Datum.sum, Option.map_some]
    obtain ⟨W, hW⟩ : ∃ W : Nat, W = max w 139 := ⟨_, rfl⟩
    have hbase : min (-10 - (w : Int)) (-149) = -10 - (W : Int) := by omega
    have hs0 : ∀ n : Nat, signed b 0 n = 0 := fun n => by
      unfold signed
      rw [Nat.shiftLeft_eq, Nat.zero_mul]
      cases b <;> rfl
    rw [hbase, signed_F a w W (by omega) _ (by omega), hs0, Int.add_zero]
    congr 1
    rw [Int.add_zero]
    exact write_F .f32 a ha W _ (fun h => by rw [h]; simp)
  · have hsg : (decide (d < 0) ^^ decide (s < 0)) = decide (q < 0) := by
      have hd0 : d ≠ 0 := fun h => h0 (by rw [h, Int.zero_mul] at hq; omega)
      have hs0 : s ≠ 0 := fun h => h0 (by rw [h, Int.mul_zero] at hq; omega)
      by_cases h1 : d < 0
      · by_cases h2 : s < 0
        · have := Int.mul_pos_of_neg_of_neg h1 h2
          rw [decide_eq_true h1, decide_eq_true h2, decide_eq_false (by omega)]; rfl
        · have := Int.mul_neg_of_neg_of_pos h1 (show 0 < s by omega)
          rw [decide_eq_true h1, decide_eq_false h2, decide_eq_true (by omega)]; rfl
      · by_cases h2 : s < 0
        · have := Int.mul_neg_of_pos_of_neg (show 0 < d by omega) h2
          rw [decide_eq_false h1, decide_eq_true h2, decide_eq_true (by omega)]; rfl
        · have := Int.mul_pos (show 0 < d by omega) (show 0 < s by omega)
          rw [decide_eq_false h1, decide_eq_false h2, decide_eq_false (by omega)]; rfl
    have hF : mulF d s = F q := by
      rw [hmf, hsg]
      exact nearest_small .f32 (m := q.natAbs) (p := -10) (by omega) hqb (by omega) (10 + u + v)
    rw [hF]
    exact F_add .f32 a q ha hqb haq
/-! found by looking -/
/-- the half of a node at a depth -/
def hP (d w : Nat) : Int := ((2 ^ (7 - d) * w : Nat) : Int)
def c001 : Nat := 4562254508917369340
theorem half_all : (List.range 6).all (fun d => (List.range 33).all (fun w => floatBits .quo .f32 (F (hP d w)) 1073741824 == some (F (hP (d + 1) w)))) = true := by kernel_rfl
theorem neg_all : (List.range 7).all (fun d => (List.range 32).all (fun w => Op.negFloat .f32 (F (hP d (w + 1))) == F (-(hP d (w + 1))))) = true := by kernel_rfl
theorem root_all : (List.range 33).all (fun w => floatBits .quo .f32 (F (256 * (w : Int))) 1073741824 == some (F (hP 0 w))) = true := by kernel_rfl
theorem mid_all : (List.range 65).all (fun i => floatBits .quo .f32 (F (256 * ((i : Int) - 32))) 1073741824 == some (F (128 * ((i : Int) - 32)))) = true := by kernel_rfl
theorem quarter_all : (List.range 33).all (fun i => floatBits .quo .f32 (floatOfInt .f32 ((i : Int) - 16)) 1082130432 == some (F (256 * ((i : Int) - 16)))) = true := by kernel_rfl
theorem spin_all : (List.range 9).all (fun i => floatBits .quo .f32 (floatOfInt .f32 ((i : Int) - 4)) 1073741824 == some (F (512 * ((i : Int) - 4)))) = true := by kernel_rfl
/-- a node's half and a thousandth, in 64 bits -/
def slackP (d w : Nat) : Nat := (floatBits .add .f64 (G (hP d w)) c001).getD 0
theorem slack_all : (List.range 7).all (fun d => (List.range 33).all (fun w => floatBits .add .f64 (G (hP d w)) c001 == some (slackP d w) && (FloatKind.f64.format.order (G (hP d w)) (slackP d w) == some .lt))) = true := by kernel_rfl
theorem F_half {d w : Nat} (hd : d < 6) (hw : w < 33) : floatBits .quo .f32 (F (hP d w)) 1073741824 = some (F (hP (d + 1) w)) := by
  have h := List.all_eq_true.1 (List.all_eq_true.1 half_all d (List.mem_range.2 hd)) w (List.mem_range.2 hw)
  exact eq_of_beq h
theorem F_neg {d w : Nat} (hd : d < 7) (hw : w < 33) (h0 : w ≠ 0) : Op.negFloat .f32 (F (hP d w)) = F (-(hP d w)) := by
  obtain ⟨v, rfl⟩ : ∃ v, w = v + 1 := ⟨w - 1, by omega⟩
  have h := List.all_eq_true.1 (List.all_eq_true.1 neg_all d (List.mem_range.2 hd)) v (List.mem_range.2 (by omega))
  exact eq_of_beq h
theorem F_root {w : Nat} (hw : w < 33) : floatBits .quo .f32 (F (256 * (w : Int))) 1073741824 = some (F (hP 0 w)) := eq_of_beq (List.all_eq_true.1 root_all w (List.mem_range.2 hw))
theorem F_mid {s : Int} (h1 : -32 ≤ s) (h2 : s ≤ 32) : floatBits .quo .f32 (F (256 * s)) 1073741824 = some (F (128 * s)) := by
  have h := List.all_eq_true.1 mid_all (s + 32).toNat (List.mem_range.2 (by omega))
  rw [show (((s + 32).toNat : Nat) : Int) - 32 = s by omega] at h
  exact eq_of_beq h
theorem F_quarter {s : Int} (h1 : -16 ≤ s) (h2 : s ≤ 16) : floatBits .quo .f32 (floatOfInt .f32 s) 1082130432 = some (F (256 * s)) := by
  have h := List.all_eq_true.1 quarter_all (s + 16).toNat (List.mem_range.2 (by omega))
  rw [show (((s + 16).toNat : Nat) : Int) - 16 = s by omega] at h
  exact eq_of_beq h
theorem F_spin {s : Int} (h1 : -4 ≤ s) (h2 : s ≤ 4) : floatBits .quo .f32 (floatOfInt .f32 s) 1073741824 = some (F (512 * s)) := by
  have h := List.all_eq_true.1 spin_all (s + 4).toNat (List.mem_range.2 (by omega))
  rw [show (((s + 4).toNat : Nat) : Int) - 4 = s by omega] at h
  exact eq_of_beq h
theorem signed_scale (s : Bool) (m a b : Nat) : signed s m (a + b) = signed s m a * ((2 ^ b : Nat) : Int) := by
  unfold signed
  rw [Nat.shiftLeft_eq, Nat.shiftLeft_eq, Nat.pow_add, ← Nat.mul_assoc]
  cases s
  · rw [if_neg (by decide), if_neg (by decide), Int.natCast_mul]
  · rw [if_pos rfl, if_pos rfl, Int.natCast_mul, Int.neg_mul]
theorem cmp_scale (a b c : Int) (hc : 0 < c) : compare (a * c) (b * c) = compare a b := by
  unfold compare instOrdInt
  dsimp only
  unfold compareOfLessAndEq
  by_cases h1 : a < b
  · rw [if_pos h1, if_pos (Int.mul_lt_mul_of_pos_right h1 hc)]
  · have h2 : ¬ a * c < b * c := fun h => h1 (Int.lt_of_mul_lt_mul_right h (by omega))
    rw [if_neg h1, if_neg h2]
    by_cases h3 : a = b
    · subst h3; rw [if_pos rfl, if_pos rfl]
    · rw [if_neg h3, if_neg (fun h => h3 (Int.eq_of_mul_eq_mul_right (by omega) h))]
theorem order_scale (s t : Bool) (m n : Nat) (i j B : Int) (hB : B ≤ min i j) : (Datum.number s m i).order (.number t n j) = some (compare (signed s m (i - B).toNat) (signed t n (j - B).toNat)) := by
  simp only [Datum.order]
  congr 1
  obtain ⟨e, he⟩ : ∃ e : Nat, min i j - B = (e : Int) := ⟨(min i j - B).toNat, by omega⟩
  rw [show (i - B).toNat = (i - min i j).toNat + e by omega, show (j - B).toNat = (j - min i j).toNat + e by omega, signed_scale, signed_scale]
  exact (cmp_scale _ _ _ (by have := Nat.two_pow_pos e; omega)).symm
/-- at most a node's half is not above its half and a thousandth -/
theorem slack_gtr {d w : Nat} {a : Int} (hd : d < 7) (hw : w < 33) (h0 : 0 ≤ a) (ha : a ≤ hP d w) (hb : (hP d w).natAbs < 16777216) :
    floatBits .add .f64 (G (hP d w)) c001 = some (slackP d w) ∧ fcmp .gtr .f64 (G a) (slackP d w) = false := by
  have h := List.all_eq_true.1 (List.all_eq_true.1 slack_all d (List.mem_range.2 hd)) w (List.mem_range.2 hw)
  rw [Bool.and_eq_true] at h
  refine ⟨eq_of_beq h.1, ?_⟩
  have ho := eq_of_beq h.2
  have hle := F_order .f64 a (hP d w) (by omega) hb
  obtain ⟨u, hu⟩ := F_dec .f64 a (by omega)
  obtain ⟨v, hv⟩ := F_dec .f64 (hP d w) hb
  unfold Format.order at ho hle
  unfold fcmp Format.order
  rw [show FloatKind.f64.format.read (G (hP d w)) = _ from hv] at ho hle
  rw [show FloatKind.f64.format.read (G a) = _ from hu] at hle ⊢
  cases e : FloatKind.f64.format.read (slackP d w) with
  | nan s t => rw [e] at ho; cases ho
  | infinity s =>
    rw [e] at ho
    cases s
    · rfl
    · cases ho
  | number s m p =>
    rw [e] at ho
    obtain ⟨B, hB⟩ : ∃ B : Int, B = min (min (-10 - (u : Int)) (-10 - (v : Int))) p := ⟨_, rfl⟩
    rw [order_scale _ _ _ _ _ _ B (by omega)] at ho hle ⊢
    generalize signed (decide (a < 0)) (a.natAbs <<< u) (-10 - (u : Int) - B).toNat = x at *
    generalize signed (decide (hP d w < 0)) ((hP d w).natAbs <<< v) (-10 - (v : Int) - B).toNat = y at *
    generalize signed s m (p - B).toNat = z at *
    have hyz : y < z := by
      by_cases h1 : y < z
      · exact h1
      · exfalso
        unfold compare instOrdInt at ho
        dsimp only at ho
        unfold compareOfLessAndEq at ho
        rw [if_neg h1] at ho
        split at ho <;> cases ho
    have hxy : x ≤ y := by
      by_cases h1 : x ≤ y
      · exact h1
      · exfalso
        have h2 : compare x y = .gt := by unfold compare instOrdInt; dsimp only; unfold compareOfLessAndEq; rw [if_neg (by omega), if_neg (by omega)]
        rw [h2] at hle
        have h3 : compare a (hP d w) ≠ .gt := by
          unfold compare instOrdInt
          dsimp only
          unfold compareOfLessAndEq
          by_cases h4 : a < hP d w
          · rw [if_pos h4]; exact fun h => by cases h
          · rw [if_neg h4, if_pos (by omega)]; exact fun h => by cases h
        exact h3 (by injection hle with hle; exact hle.symm)
    have hxz : x < z := by omega
    have h5 : compare x z = .lt := by unfold compare instOrdInt; dsimp only; unfold compareOfLessAndEq; rw [if_pos hxz]
    rw [h5]
    rfl
/-- widening is exact -/
theorem F_wide (k : Int) (h : k.natAbs < 16777216) : fconv .f32 (F k) .f64 = G k := by
  obtain ⟨a, ha⟩ := F_dec .f32 k h
  by_cases h0 : k = 0
  · subst h0; decide
  · unfold fconv
    rw [if_neg (by decide), ha]
    dsimp only
    exact nearest_small .f64 (m := k.natAbs) (p := -10) (by omega) h (by omega) a
end Go.Proofs.Ytfehhbmmdbpdpaa
/- The tree of whirls in whole numbers: what is made, and that it is good. No Go in sight. -/
namespace Go.Proofs.Ytfehhbmmdbpdpaa
open Go

/-- a whirl: its place and its spin, in 1024ths -/
abbrev Wh := Int × Int × Int
structure Nd where
  cx : Int
  cy : Int
  d : Nat
  ws : List Nat
  nx : List Nat
  sp : Int
  mx : Int
  my : Int
def atW (ps : List Wh) (i : Nat) : Wh := ps.getD i (0, 0, 0)
def spinP (ps : List Wh) (ws : List Nat) : Int := ws.foldl (fun a i => a + (atW ps i).2.2) 0
def momX (ps : List Wh) (c : Int) (ws : List Nat) : Int := ws.foldl (fun a i => a + ((atW ps i).1 - c) * (atW ps i).2.2 / 1024) 0
def momY (ps : List Wh) (c : Int) (ws : List Nat) : Int := ws.foldl (fun a i => a + ((atW ps i).2.1 - c) * (atW ps i).2.2 / 1024) 0
def nodeP (ps : List Wh) (d : Nat) (cx cy : Int) (ws nx : List Nat) : Nd := ⟨cx, cy, d, ws, nx, spinP ps ws, momX ps cx ws, momY ps cy ws⟩
def quadP (ps : List Wh) (cx cy : Int) (i : Nat) : Nat := (if cx ≤ (atW ps i).1 then 1 else 0) + (if cy ≤ (atW ps i).2.1 then 2 else 0)
def partP (ps : List Wh) (cx cy : Int) (ws : List Nat) (q : Nat) : List Nat := ws.filter (fun i => quadP ps cx cy i == q)
def sgnP (b : Nat) (h : Int) : Int := if b = 0 then -h else h
/-- one quarter more -/
def kidP (g : Nat → Int → Int → List Nat → List Nd) (ps : List Wh) (w base d : Nat) (cx cy : Int) (ws : List Nat) (q : Nat) (acc : List Nd × List Nat) : List Nd × List Nat :=
  if (partP ps cx cy ws q).length = 0 then acc
  else (acc.1 ++ g (base + 1 + acc.1.length) (cx + sgnP (q % 2) (hP (d + 1) w)) (cy + sgnP (q / 2) (hP (d + 1) w)) (partP ps cx cy ws q), acc.2 ++ [base + 1 + acc.1.length])
def kidsP (g : Nat → Int → Int → List Nat → List Nd) (ps : List Wh) (w base d : Nat) (cx cy : Int) (ws : List Nat) : Nat → List Nd × List Nat
  | 0 => ([], [])
  | q + 1 => kidP g ps w base d cx cy ws q (kidsP g ps w base d cx cy ws q)
/-- a node and all behind it -/
def growP (ps : List Wh) (w : Nat) : Nat → Nat → Nat → Int → Int → List Nat → List Nd
  | 0, _, d, cx, cy, ws => [nodeP ps d cx cy ws []]
  | f + 1, base, d, cx, cy, ws =>
    if ws.length ≤ 3 ∨ w = 0 then [nodeP ps d cx cy ws []]
    else nodeP ps d cx cy ws (kidsP (fun b => growP ps w f b (d + 1)) ps w base d cx cy ws 4).2 :: (kidsP (fun b => growP ps w f b (d + 1)) ps w base d cx cy ws 4).1

/-- the whirls of a node lie in it -/
def Inside (ps : List Wh) (w d : Nat) (cx cy : Int) (ws : List Nat) : Prop :=
  ∀ i ∈ ws, cx - hP d w ≤ (atW ps i).1 ∧ (atW ps i).1 ≤ cx + hP d w ∧ cy - hP d w ≤ (atW ps i).2.1 ∧ (atW ps i).2.1 ≤ cy + hP d w
/-- what holds of a node by itself -/
structure Alone (ps : List Wh) (w N : Nat) (n : Nd) : Prop where
  inside : Inside ps w n.d n.cx n.cy n.ws
  sorted : n.ws.Pairwise (· < ·)
  below : ∀ i ∈ n.ws, i < N
  some_ : n.ws ≠ []
  deep : n.d ≤ 6
  bx : n.cx.natAbs + (hP n.d w).natAbs ≤ 8192
  by_ : n.cy.natAbs + (hP n.d w).natAbs ≤ 8192
  ex : n.cx % 2 = 0
  ey : n.cy % 2 = 0
  sp_ : n.sp = spinP ps n.ws
  mx_ : n.mx = momX ps n.cx n.ws
  my_ : n.my = momY ps n.cy n.ws
  leaf : n.nx = [] → n.ws.length ≤ 3 ∨ 6 ≤ n.d ∨ w = 0
def lenAt (L : List Nd) (base j : Nat) : Nat := match L[j - base]? with | some m => m.ws.length | none => 0
/-- what holds of a node among others -/
structure Among (L : List Nd) (base i : Nat) (n : Nd) : Prop where
  next : ∀ j ∈ n.nx, base + i < j ∧ j < base + L.length ∧ ∃ m, L[j - base]? = some m ∧ m.d = n.d + 1
  sum : n.nx ≠ [] → (n.nx.map (lenAt L base)).sum = n.ws.length
  first : n.nx ≠ [] → n.nx.head? = some (base + i + 1)
def Good (ps : List Wh) (w N : Nat) (L : List Nd) (base : Nat) : Prop := ∀ i n, L[i]? = some n → Alone ps w N n ∧ Among L base i n

theorem hP_two (d w : Nat) (h : d < 6) : hP d w = 2 * hP (d + 1) w := by
  unfold hP
  rw [show 7 - d = (7 - (d + 1)) + 1 by omega, Nat.pow_succ]
  have : 2 ^ (7 - (d + 1)) * 2 * w = 2 * (2 ^ (7 - (d + 1)) * w) := by rw [Nat.mul_comm (2 ^ (7 - (d + 1))) 2, Nat.mul_assoc]
  rw [this, Int.natCast_mul]; rfl
theorem hP_nonneg (d w : Nat) : 0 ≤ hP d w := by unfold hP; omega
theorem hP_even (d w : Nat) (h : d ≤ 6) : hP d w % 2 = 0 := by
  unfold hP
  rw [show 7 - d = (6 - d) + 1 by omega, Nat.pow_succ]
  have : 2 ^ (6 - d) * 2 * w = 2 * (2 ^ (6 - d) * w) := by rw [Nat.mul_comm (2 ^ (6 - d)) 2, Nat.mul_assoc]
  rw [this]; omega
theorem getElem?_shift {L : List Nd} {A : List Nd} {j base : Nat} (h : base + A.length ≤ j) : (A ++ L)[j - base]? = L[j - (base + A.length)]? := by
  rw [List.getElem?_append_right (by omega)]
  congr 1; omega
theorem Among.left {A B : List Nd} {base i : Nat} {n : Nd} (h : Among A base i n) : Among (A ++ B) base i n := by
  have hg : ∀ j ∈ n.nx, (A ++ B)[j - base]? = A[j - base]? := fun j hj => by
    obtain ⟨h1, h2, -⟩ := h.next j hj
    rw [List.getElem?_append_left (by omega)]
  refine ⟨fun j hj => ?_, fun hne => ?_, h.first⟩
  · obtain ⟨h1, h2, m, h3, h4⟩ := h.next j hj
    exact ⟨h1, by rw [List.length_append]; omega, m, by rw [hg j hj]; exact h3, h4⟩
  · rw [← h.sum hne]
    congr 1
    apply List.map_congr_left
    intro j hj
    unfold lenAt
    rw [hg j hj]
theorem Among.right {A B : List Nd} {base i : Nat} {n : Nd} (h : Among B (base + A.length) i n) : Among (A ++ B) base (A.length + i) n := by
  have hg : ∀ j ∈ n.nx, (A ++ B)[j - base]? = B[j - (base + A.length)]? := fun j hj => by
    obtain ⟨h1, h2, -⟩ := h.next j hj
    exact getElem?_shift (by omega)
  refine ⟨fun j hj => ?_, fun hne => ?_, fun hne => ?_⟩
  · obtain ⟨h1, h2, m, h3, h4⟩ := h.next j hj
    exact ⟨by omega, by rw [List.length_append]; omega, m, by rw [hg j hj]; exact h3, h4⟩
  · rw [← h.sum hne]
    congr 1
    apply List.map_congr_left
    intro j hj
    unfold lenAt
    rw [hg j hj]
  · rw [h.first hne]; congr 1; omega
theorem Good.append {ps : List Wh} {w N base : Nat} {A B : List Nd} (h : Good ps w N A base) (k : Good ps w N B (base + A.length)) : Good ps w N (A ++ B) base := by
  intro i n hn
  by_cases hi : i < A.length
  · rw [List.getElem?_append_left hi] at hn
    obtain ⟨h1, h2⟩ := h i n hn
    exact ⟨h1, h2.left⟩
  · rw [List.getElem?_append_right (by omega)] at hn
    obtain ⟨h1, h2⟩ := k _ n hn
    refine ⟨h1, ?_⟩
    have := h2.right
    rw [show A.length + (i - A.length) = i by omega] at this
    exact this
theorem Good.nil {ps : List Wh} {w N base : Nat} : Good ps w N [] base := fun i n h => by simp at h
end Go.Proofs.Ytfehhbmmdbpdpaa
/- The tree of whirls in whole numbers is good. -/
namespace Go.Proofs.Ytfehhbmmdbpdpaa
open Go

/-- what is asked of a node ahead of its growth -/
structure Pre (ps : List Wh) (w N d : Nat) (cx cy : Int) (ws : List Nat) : Prop where
  inside : Inside ps w d cx cy ws
  sorted : ws.Pairwise (· < ·)
  below : ∀ i ∈ ws, i < N
  some_ : ws ≠ []
  bx : cx.natAbs + (hP d w).natAbs ≤ 8192
  by_ : cy.natAbs + (hP d w).natAbs ≤ 8192
  ex : cx % 2 = 0
  ey : cy % 2 = 0
theorem Pre.alone {ps : List Wh} {w N d : Nat} {cx cy : Int} {ws nx : List Nat} (h : Pre ps w N d cx cy ws) (hd : d ≤ 6) (hl : nx = [] → ws.length ≤ 3 ∨ 6 ≤ d ∨ w = 0) : Alone ps w N (nodeP ps d cx cy ws nx) :=
  ⟨h.inside, h.sorted, h.below, h.some_, hd, h.bx, h.by_, h.ex, h.ey, rfl, rfl, rfl, hl⟩
theorem quad_mod (ps : List Wh) (cx cy : Int) (i q : Nat) (h : quadP ps cx cy i = q) : q < 4 ∧ (q % 2 = 1 ↔ cx ≤ (atW ps i).1) ∧ (q / 2 = 1 ↔ cy ≤ (atW ps i).2.1) := by
  unfold quadP at h
  by_cases h1 : cx ≤ (atW ps i).1
  · by_cases h2 : cy ≤ (atW ps i).2.1
    · rw [if_pos h1, if_pos h2] at h; subst h; simp [h1, h2]
    · rw [if_pos h1, if_neg h2] at h; subst h; simp [h1, h2]
  · by_cases h2 : cy ≤ (atW ps i).2.1
    · rw [if_neg h1, if_pos h2] at h; subst h; simp [h1, h2]
    · rw [if_neg h1, if_neg h2] at h; subst h; simp [h1, h2]
theorem side_in {c x h : Int} {b : Nat} (hb : b = 0 ∨ b = 1) (hq : b = 1 ↔ c ≤ x) (h1 : c - 2 * h ≤ x) (h2 : x ≤ c + 2 * h) : c + sgnP b h - h ≤ x ∧ x ≤ c + sgnP b h + h := by
  unfold sgnP
  rcases hb with rfl | rfl
  · have : ¬ c ≤ x := fun hc => by have := hq.2 hc; omega
    rw [if_pos rfl]; omega
  · have : c ≤ x := hq.1 rfl
    rw [if_neg (by decide)]; omega
theorem side_bound {c h : Int} {b : Nat} (h0 : 0 ≤ h) (hb : c.natAbs + (2 * h).natAbs ≤ 8192) : (c + sgnP b h).natAbs + h.natAbs ≤ 8192 := by
  unfold sgnP; split <;> omega
theorem side_even {c h : Int} {b : Nat} (hc : c % 2 = 0) (hh : h % 2 = 0) : (c + sgnP b h) % 2 = 0 := by
  unfold sgnP; split <;> omega
theorem Pre.kid {ps : List Wh} {w N d : Nat} {cx cy : Int} {ws : List Nat} (h : Pre ps w N d cx cy ws) (hd : d < 6) (q : Nat) (hne : (partP ps cx cy ws q).length ≠ 0) :
    Pre ps w N (d + 1) (cx + sgnP (q % 2) (hP (d + 1) w)) (cy + sgnP (q / 2) (hP (d + 1) w)) (partP ps cx cy ws q) := by
  have h2 := hP_two d w hd
  have hn := hP_nonneg (d + 1) w
  have hev := hP_even (d + 1) w (by omega)
  have bx := h.bx
  have by_ := h.by_
  rw [h2] at bx by_
  refine ⟨fun i hi => ?_, h.sorted.filter _, fun i hi => h.below i (List.mem_filter.1 hi).1, fun e => hne (by rw [e]; rfl), side_bound hn bx, side_bound hn by_, side_even h.ex hev, side_even h.ey hev⟩
  obtain ⟨hi1, hi2⟩ := List.mem_filter.1 hi
  obtain ⟨a1, a2, a3, a4⟩ := h.inside i hi1
  obtain ⟨q4, qx, qy⟩ := quad_mod ps cx cy i q (eq_of_beq hi2)
  rw [h2] at a1 a2 a3 a4
  obtain ⟨b1, b2⟩ := side_in (by omega) qx a1 a2
  obtain ⟨b3, b4⟩ := side_in (by omega) qy a3 a4
  exact ⟨b1, b2, b3, b4⟩
theorem part_sum (ps : List Wh) (cx cy : Int) : ∀ ws : List Nat, (partP ps cx cy ws 0).length + (partP ps cx cy ws 1).length + (partP ps cx cy ws 2).length + (partP ps cx cy ws 3).length = ws.length
  | [] => rfl
  | i :: ws => by
    have ih := part_sum ps cx cy ws
    obtain ⟨h4, -⟩ := quad_mod ps cx cy i _ rfl
    unfold partP at *
    simp only [List.filter_cons, List.length_cons]
    rcases (by omega : quadP ps cx cy i = 0 ∨ quadP ps cx cy i = 1 ∨ quadP ps cx cy i = 2 ∨ quadP ps cx cy i = 3) with e | e | e | e <;> simp [e] <;> omega
/-- how many whirls the first quarters hold -/
def partsTo (ps : List Wh) (cx cy : Int) (ws : List Nat) : Nat → Nat
  | 0 => 0
  | q + 1 => partsTo ps cx cy ws q + (partP ps cx cy ws q).length
structure KidsOk (ps : List Wh) (w N base d : Nat) (cx cy : Int) (ws : List Nat) (f q : Nat) (K : List Nd × List Nat) : Prop where
  good : Good ps w N K.1 (base + 1)
  next : ∀ j ∈ K.2, base + 1 ≤ j ∧ j < base + 1 + K.1.length ∧ ∃ m, K.1[j - (base + 1)]? = some m ∧ m.d = d + 1
  sum : (K.2.map (lenAt K.1 (base + 1))).sum = partsTo ps cx cy ws q
  size : K.1.length ≤ (f + 1) * partsTo ps cx cy ws q
  first : K.2 ≠ [] → K.2.head? = some (base + 1)
  none_ : K.2 = [] → K.1 = []
  few : K.2.length ≤ q
def GrowOk (ps : List Wh) (w N base d : Nat) (ws : List Nat) (f : Nat) (L : List Nd) : Prop :=
  Good ps w N L base ∧ (∃ n0 rest, L = n0 :: rest ∧ n0.d = d ∧ n0.ws = ws) ∧ L.length ≤ (f + 1) * ws.length
theorem lenAt_left {A B : List Nd} {base j : Nat} (h1 : base ≤ j) (h2 : j < base + A.length) : lenAt (A ++ B) base j = lenAt A base j := by
  unfold lenAt; rw [List.getElem?_append_left (by omega)]
theorem kids_ok {ps : List Wh} {w N base d f : Nat} {cx cy : Int} {ws : List Nat} (h : Pre ps w N d cx cy ws) (hd : d < 6)
    (ih : ∀ b x y us, Pre ps w N (d + 1) x y us → GrowOk ps w N b (d + 1) us f (growP ps w f b (d + 1) x y us)) :
    ∀ q, KidsOk ps w N base d cx cy ws f q (kidsP (fun b => growP ps w f b (d + 1)) ps w base d cx cy ws q)
  | 0 => ⟨Good.nil, (fun j hj => by cases hj), rfl, Nat.zero_le _, (fun h => absurd rfl h), (fun _ => rfl), Nat.le_refl _⟩
  | q + 1 => by
    have hk := kids_ok (base := base) h hd ih q
    unfold kidsP
    generalize kidsP (fun b => growP ps w f b (d + 1)) ps w base d cx cy ws q = K at *
    unfold kidP
    by_cases h0 : (partP ps cx cy ws q).length = 0
    · rw [if_pos h0]
      refine ⟨hk.good, hk.next, ?_, ?_, hk.first, hk.none_, by have := hk.few; omega⟩
      · show _ = partsTo ps cx cy ws q + (partP ps cx cy ws q).length
        rw [h0, hk.sum]; rfl
      · have := hk.size
        show _ ≤ (f + 1) * (partsTo ps cx cy ws q + (partP ps cx cy ws q).length)
        rw [h0]; exact this
    · rw [if_neg h0]
      dsimp only
      obtain ⟨hg, ⟨n0, rest, hL, hnd, hnw⟩, hs⟩ := ih (base + 1 + K.1.length) _ _ _ (h.kid hd q h0)
      generalize growP ps w f (base + 1 + K.1.length) (d + 1) (cx + sgnP (q % 2) (hP (d + 1) w)) (cy + sgnP (q / 2) (hP (d + 1) w)) (partP ps cx cy ws q) = B at *
      have hB0 : B[0]? = some n0 := by rw [hL]; rfl
      have hBl : 0 < B.length := by rw [hL]; simp
      refine ⟨hk.good.append hg, fun j hj => ?_, ?_, ?_, fun _ => ?_, fun e => ?_, ?_⟩
      · rw [List.length_append]
        rcases List.mem_append.1 hj with hj | hj
        · obtain ⟨a1, a2, m, a3, a4⟩ := hk.next j hj
          exact ⟨a1, by omega, m, by rw [List.getElem?_append_left (by omega)]; exact a3, a4⟩
        · rw [List.mem_singleton] at hj
          subst hj
          refine ⟨by omega, by omega, n0, ?_, hnd⟩
          rw [List.getElem?_append_right (by omega), show base + 1 + K.1.length - (base + 1) - K.1.length = 0 by omega]
          exact hB0
      · rw [List.map_append, List.sum_append]
        have e1 : K.2.map (lenAt (K.1 ++ B) (base + 1)) = K.2.map (lenAt K.1 (base + 1)) := by
          apply List.map_congr_left
          intro j hj
          obtain ⟨a1, a2, -⟩ := hk.next j hj
          exact lenAt_left a1 a2
        have e2 : lenAt (K.1 ++ B) (base + 1) (base + 1 + K.1.length) = (partP ps cx cy ws q).length := by
          unfold lenAt
          rw [List.getElem?_append_right (by omega), show base + 1 + K.1.length - (base + 1) - K.1.length = 0 by omega, hB0]
          dsimp only
          rw [hnw]
        rw [e1, hk.sum]
        simp only [List.map_cons, List.map_nil, List.sum_cons, List.sum_nil, e2]
        rfl
      · rw [List.length_append]
        show _ ≤ (f + 1) * (partsTo ps cx cy ws q + (partP ps cx cy ws q).length)
        rw [Nat.mul_add]
        have := hk.size
        omega
      · by_cases hn : K.2 = []
        · rw [hn, hk.none_ hn]; rfl
        · have := hk.first hn
          cases e : K.2 with
          | nil => exact absurd e hn
          | cons a l => rw [e] at this; exact this
      · exact absurd e (by simp)
      · rw [List.length_append]
        have := hk.few
        simp; omega
theorem parts_all (ps : List Wh) (cx cy : Int) (ws : List Nat) : partsTo ps cx cy ws 4 = ws.length := by
  rw [← part_sum ps cx cy ws]
  unfold partsTo partsTo partsTo partsTo partsTo
  omega
theorem grow_ok {ps : List Wh} {w N : Nat} : ∀ (f base d : Nat) (cx cy : Int) (ws : List Nat), f + d = 6 → Pre ps w N d cx cy ws → GrowOk ps w N base d ws f (growP ps w f base d cx cy ws)
  | 0, base, d, cx, cy, ws, hfd, h => by
    unfold growP
    refine ⟨fun i n hn => ?_, ⟨_, [], rfl, rfl, rfl⟩, ?_⟩
    · cases i with
      | zero =>
        simp only [List.getElem?_cons_zero, Option.some.injEq] at hn
        subst hn
        exact ⟨h.alone (by omega) fun _ => .inr (.inl (by omega)), (fun j hj => by cases hj), (fun e => absurd rfl e), (fun e => absurd rfl e)⟩
      | succ i => simp at hn
    · have := List.length_pos_iff.2 h.some_
      simp; omega
  | f + 1, base, d, cx, cy, ws, hfd, h => by
    have hpos := List.length_pos_iff.2 h.some_
    unfold growP
    by_cases hl : ws.length ≤ 3 ∨ w = 0
    · rw [if_pos hl]
      refine ⟨fun i n hn => ?_, ⟨_, [], rfl, rfl, rfl⟩, ?_⟩
      · cases i with
        | zero =>
          simp only [List.getElem?_cons_zero, Option.some.injEq] at hn
          subst hn
          exact ⟨h.alone (by omega) (fun _ => by rcases hl with hl | hl <;> simp [hl]), (fun j hj => by cases hj), (fun e => absurd rfl e), (fun e => absurd rfl e)⟩
        | succ i => simp at hn
      · have : 1 * 1 ≤ (f + 1 + 1) * ws.length := Nat.mul_le_mul (by omega) hpos
        simpa using this
    · rw [if_neg hl]
      have hk := kids_ok (base := base) h (by omega) (fun b x y us hus => grow_ok f b (d + 1) x y us (by omega) hus) 4
      generalize kidsP (fun b => growP ps w f b (d + 1)) ps w base d cx cy ws 4 = K at *
      have hsum := hk.sum
      rw [parts_all] at hsum
      have hne : K.2 ≠ [] := fun e => by rw [e] at hsum; simp at hsum; omega
      refine ⟨fun i n hn => ?_, ⟨_, _, rfl, rfl, rfl⟩, ?_⟩
      · cases i with
        | zero =>
          simp only [List.getElem?_cons_zero, Option.some.injEq] at hn
          subst hn
          refine ⟨h.alone (by omega) fun e => absurd e hne, fun j hj => ?_, fun _ => ?_, fun _ => hk.first hne⟩
          · obtain ⟨a1, a2, m, a3, a4⟩ := hk.next j hj
            refine ⟨by omega, by simp; omega, m, ?_, a4⟩
            rw [show j - base = (j - (base + 1)) + 1 by omega, List.getElem?_cons_succ]
            exact a3
          · show (K.2.map _).sum = ws.length
            rw [← hsum]
            congr 1
            apply List.map_congr_left
            intro j hj
            obtain ⟨a1, a2, -⟩ := hk.next j hj
            unfold lenAt
            rw [show j - base = (j - (base + 1)) + 1 by omega, List.getElem?_cons_succ]
        | succ i =>
          rw [List.getElem?_cons_succ] at hn
          obtain ⟨a1, a2⟩ := hk.good i n hn
          refine ⟨a1, ?_⟩
          have := a2.right (A := [nodeP ps d cx cy ws K.2])
          rw [show ([nodeP ps d cx cy ws K.2] : List Nd).length + i = i + 1 by simp; omega] at this
          exact this
      · have hs := hk.size
        rw [parts_all] at hs
        rw [List.length_cons, Nat.add_mul (f + 1) 1]
        omega
end Go.Proofs.Ytfehhbmmdbpdpaa
/- Floats as rational numbers: what rounding leaves. -/
namespace Go.Proofs.Ytfehhbmmdbpdpaa
open Go Ieee

/-! ## powers of two -/
def pw (p : Int) : Rat := (2 : Rat) ^ p
theorem pw_pos (p : Int) : 0 < pw p := Rat.zpow_pos (by decide)
theorem pw_add (a b : Int) : pw (a + b) = pw a * pw b := Rat.zpow_add (by decide) a b
theorem pw_nat (n : Nat) : pw (n : Int) = ((2 ^ n : Nat) : Rat) := by
  unfold pw
  rw [Rat.zpow_natCast, Rat.natCast_pow]
  rfl
theorem pw_zero : pw 0 = 1 := Rat.zpow_zero _
theorem pw_one_le (n : Nat) : 1 ≤ pw (n : Int) := by
  rw [pw_nat]
  have : ((1 : Nat) : Rat) ≤ ((2 ^ n : Nat) : Rat) := Rat.natCast_le_natCast.2 (Nat.two_pow_pos n)
  exact this
theorem pw_up {a b : Int} (h : a ≤ b) : pw b = pw a * ((2 ^ (b - a).toNat : Nat) : Rat) := by
  rw [← pw_nat, ← pw_add]
  congr 1
  omega
theorem pw_mono {a b : Int} (h : a ≤ b) : pw a ≤ pw b := by
  have h0 := pw_pos a
  have h1 := pw_one_le (b - a).toNat
  have e : pw b = pw a * pw ((b - a).toNat : Int) := by
    rw [← pw_add]
    congr 1
    omega
  rw [e]
  have := Rat.mul_le_mul_of_nonneg_left h1 (Rat.le_of_lt h0)
  rwa [Rat.mul_one] at this
theorem pw_inv {a b : Int} (h : pw a ≤ pw b) : a ≤ b := by
  by_cases hc : a ≤ b
  · exact hc
  · exfalso
    have h1 : pw (b + 1) ≤ pw a := pw_mono (by omega)
    rw [pw_add] at h1
    have h2 : pw 1 = 2 := Rat.zpow_one _
    rw [h2] at h1
    have h3 := pw_pos b
    grind
/-! ## a number's value -/
def sgnM (s : Bool) (m : Nat) : Rat := if s then -(m : Rat) else (m : Rat)
def rat (s : Bool) (m : Nat) (p : Int) : Rat := sgnM s m * pw p
/-- a kind's words -/
def lim (k : FloatKind) : Nat := match k with | .f32 => 4294967296 | .f64 => 18446744073709551616
/-- what a word's number is -/
def Val (k : FloatKind) (x : Nat) (v : Rat) : Prop := x < lim k ∧ ∃ s m p, k.decode x = .number s m p ∧ rat s m p = v
theorem rat_abs (s : Bool) (m : Nat) (p : Int) : (rat s m p).abs = (m : Rat) * pw p := by
  have h0 : (0 : Rat) ≤ (m : Rat) := Rat.natCast_nonneg
  have h1 := pw_pos p
  have h2 : 0 ≤ (m : Rat) * pw p := Rat.mul_nonneg h0 (Rat.le_of_lt h1)
  unfold rat sgnM
  cases s
  · exact Rat.abs_of_nonneg h2
  · simp only [if_true]
    rw [Rat.neg_mul, Rat.abs_neg, Rat.abs_of_nonneg h2]
theorem mle_rat {m : Nat} {p e : Int} : mle m p e ↔ (m : Rat) * pw p ≤ pw e := by
  constructor
  · rintro (h | ⟨h1, h2⟩)
    · subst h
      rw [show ((0 : Nat) : Rat) = 0 from rfl, Rat.zero_mul]
      exact Rat.le_of_lt (pw_pos e)
    · rw [pw_up h1, Rat.mul_comm (pw p)]
      exact Rat.mul_le_mul_of_nonneg_right (Rat.natCast_le_natCast.2 h2) (Rat.le_of_lt (pw_pos p))
  · intro h
    by_cases hm : m = 0
    · exact .inl hm
    · right
      have h1 : (1 : Rat) ≤ (m : Rat) := by
        have : ((1 : Nat) : Rat) ≤ (m : Rat) := Rat.natCast_le_natCast.2 (by omega)
        exact this
      have h2 : pw p ≤ pw e := by
        have := Rat.mul_le_mul_of_nonneg_right h1 (Rat.le_of_lt (pw_pos p))
        rw [Rat.one_mul] at this
        exact Rat.le_trans this h
      have h3 := pw_inv h2
      refine ⟨h3, ?_⟩
      rw [pw_up h3, Rat.mul_comm (pw p)] at h
      exact Rat.natCast_le_natCast.1 (Rat.le_of_mul_le_mul_right h (pw_pos p))
/-! ## rounding -/
theorem cut_near (s : Bool) (n d : Nat) : 2 * (Toward.even.cut s n d * 2 ^ d) ≤ 2 * n + 2 ^ d ∧ 2 * n ≤ 2 * (Toward.even.cut s n d * 2 ^ d) + 2 ^ d := by
  unfold Toward.cut
  dsimp only
  have hgap : (1 <<< min d (n.log2 + 2)) = 2 ^ min d (n.log2 + 2) := by rw [Nat.shiftLeft_eq]; omega
  rw [hgap]
  by_cases hd : d ≤ n.log2 + 2
  · rw [Nat.min_eq_left hd]
    have hp := Nat.two_pow_pos d
    have hdm := Nat.div_add_mod n (2 ^ d)
    have hlt := Nat.mod_lt n hp
    generalize 2 ^ d = g at *
    generalize n / g = low at *
    generalize n % g = rest at *
    by_cases hc : (decide (g < 2 * rest) || g == 2 * rest && low % 2 == 1) = true
    · rw [hc]
      have hge : g ≤ 2 * rest := by
        simp only [Bool.or_eq_true, decide_eq_true_eq, Bool.and_eq_true, beq_iff_eq] at hc
        omega
      have e : (low + true.toNat) * g = g * low + g := by
        rw [show true.toNat = 1 from rfl, Nat.add_mul, Nat.one_mul, Nat.mul_comm]
      rw [e]
      omega
    · have hc' : (decide (g < 2 * rest) || g == 2 * rest && low % 2 == 1) = false := by simpa using hc
      rw [hc']
      have hle : 2 * rest ≤ g := by
        simp only [Bool.or_eq_false_iff, decide_eq_false_iff_not] at hc'
        omega
      have e : (low + false.toNat) * g = g * low := by
        rw [show false.toNat = 0 from rfl, Nat.add_zero, Nat.mul_comm]
      rw [e]
      omega
  · rw [Nat.min_eq_right (by omega)]
    have hn : n < 2 ^ (n.log2 + 1) := Nat.lt_log2_self
    have h2 : 2 ^ (n.log2 + 2) = 2 * 2 ^ (n.log2 + 1) := by rw [Nat.pow_succ]; omega
    have hlow : n / 2 ^ (n.log2 + 2) = 0 := Nat.div_eq_of_lt (by omega)
    have hrest : n % 2 ^ (n.log2 + 2) = n := Nat.mod_eq_of_lt (by omega)
    rw [hlow, hrest]
    have hc : (decide (2 ^ (n.log2 + 2) < 2 * n) || 2 ^ (n.log2 + 2) == 2 * n && 0 % 2 == 1) = false := by
      simp
      omega
    rw [hc]
    have hbig : 2 ^ (n.log2 + 2) ≤ 2 ^ d := Nat.pow_le_pow_right (by decide) (by omega)
    simp
    omega
/-- what is kept of a number, and how near it is -/
theorem kept_near (s : Bool) (m : Nat) (p last : Int) (kept : Nat) (hk : Toward.even.cut s (m <<< (p - last).toNat) (last - p).toNat = kept) :
    ((kept : Rat) * pw last - (m : Rat) * pw p).abs * 2 ≤ pw last := by
  rcases Int.le_total p last with hc | hc
  · rw [show (p - last).toNat = 0 by omega, Nat.shiftLeft_zero] at hk
    obtain ⟨h1, h2⟩ := cut_near s m (last - p).toNat
    rw [hk] at h1 h2
    have hp := pw_pos p
    have e := pw_up hc
    generalize 2 ^ (last - p).toNat = g at *
    have h1' : 2 * ((kept : Rat) * (g : Rat)) ≤ 2 * (m : Rat) + (g : Rat) := by
      have : ((2 * (kept * g) : Nat) : Rat) ≤ ((2 * m + g : Nat) : Rat) := Rat.natCast_le_natCast.2 h1
      simpa only [Rat.natCast_add, Rat.natCast_mul, Rat.natCast_ofNat] using this
    have h2' : 2 * (m : Rat) ≤ 2 * ((kept : Rat) * (g : Rat)) + (g : Rat) := by
      have : ((2 * m : Nat) : Rat) ≤ ((2 * (kept * g) + g : Nat) : Rat) := Rat.natCast_le_natCast.2 h2
      simpa only [Rat.natCast_add, Rat.natCast_mul, Rat.natCast_ofNat] using this
    have e2 : (kept : Rat) * pw last - (m : Rat) * pw p = ((kept : Rat) * (g : Rat) - m) * pw p := by rw [e]; grind
    rw [e2]
    have k1 := Rat.mul_le_mul_of_nonneg_right h1' (Rat.le_of_lt hp)
    have k2 := Rat.mul_le_mul_of_nonneg_right h2' (Rat.le_of_lt hp)
    rw [e]
    by_cases hsg : 0 ≤ ((kept : Rat) * (g : Rat) - m) * pw p
    · rw [Rat.abs_of_nonneg hsg]; grind
    · rw [Rat.abs_of_nonpos (by grind)]; grind
  · rw [show (last - p).toNat = 0 by omega, cut0] at hk
    rw [← hk, pw_up hc, Nat.shiftLeft_eq, Rat.natCast_mul]
    have e : (m : Rat) * ((2 ^ (p - last).toNat : Nat) : Rat) * pw last - (m : Rat) * (pw last * ((2 ^ (p - last).toNat : Nat) : Rat)) = 0 := by grind
    rw [e, Rat.abs_zero, Rat.zero_mul]
    exact Rat.le_of_lt (pw_pos _)
end Go.Proofs.Ytfehhbmmdbpdpaa
/- Floats as rational numbers: sums, products, quotients, conversions, comparisons. -/
namespace Go.Proofs.Ytfehhbmmdbpdpaa
open Go Ieee

theorem kept_far (f : Format) (hf : 3 ≤ 2 ^ f.exponentBits) (s : Bool) (m : Nat) (p e : Int) (h : mle m p e) (hlo : f.leastPlace ≤ e) (hhi : e ≤ Format.topPlace f) (hm : m ≠ 0) :
    ∃ m' p' last kept, f.read (f.nearest s m p) = .number s m' p' ∧ last ≤ max (e - f.fractionBits) f.leastPlace ∧ Toward.even.cut s (m <<< (p - last).toNat) (last - p).toNat = kept ∧ (m' : Rat) * pw p' = (kept : Rat) * pw last := by
  obtain ⟨m', p', hr, -⟩ := nearest_mle f hf s m p e h hlo hhi
  have hr0 := hr
  have hb : 0 < f.binade := Nat.two_pow_pos _
  rcases h with h | ⟨hpe, hme⟩
  · exact absurd h hm
  · have hlog : m.log2 ≤ (e - p).toNat := log2_le hme
    unfold Format.nearest at hr
    rw [if_neg hm] at hr
    dsimp only at hr
    generalize hlast : max (p + (m.log2 : Int) - (f.fractionBits : Int)) f.leastPlace = last at *
    have hl1 : f.leastPlace ≤ last := by omega
    have hl2 : last ≤ e := by omega
    have hl3 : p + (m.log2 : Int) - (f.fractionBits : Int) ≤ last := by omega
    have hkept2 : Toward.even.cut s (m <<< (p - last).toNat) (last - p).toNat ≤ 2 * f.binade := by
      refine cut_even_le ?_
      rw [Nat.shiftLeft_eq]
      have hml : m < 2 ^ (m.log2 + 1) := Nat.lt_log2_self
      have hb2 : 2 * f.binade = 2 ^ (f.fractionBits + 1) := by unfold Format.binade; rw [Nat.pow_succ]; omega
      rw [hb2]
      rcases Int.le_total p last with hc | hc
      · rw [show (p - last).toNat = 0 by omega, Nat.pow_zero, Nat.mul_one, ← Nat.pow_add]
        exact Nat.le_trans (Nat.le_of_lt hml) (Nat.pow_le_pow_right (by decide) (by omega))
      · rw [show (last - p).toNat = 0 by omega, Nat.pow_zero, Nat.mul_one]
        have : m * 2 ^ (p - last).toNat ≤ 2 ^ (m.log2 + 1) * 2 ^ (p - last).toNat := Nat.mul_le_mul_right _ (Nat.le_of_lt hml)
        rw [← Nat.pow_add] at this
        exact Nat.le_trans this (Nat.pow_le_pow_right (by decide) (by omega))
    have hlow : Toward.even.cut s (m <<< (p - last).toNat) (last - p).toNat < f.binade → (last - f.leastPlace).toNat = 0 := by
      intro hk
      rcases Int.lt_or_le f.leastPlace last with hc | hc
      · exfalso
        have hle : last = p + (m.log2 : Int) - (f.fractionBits : Int) := by omega
        have hml := Nat.log2_self_le hm
        have hge : f.binade ≤ (m <<< (p - last).toNat) / 2 ^ (last - p).toNat := by
          rw [Nat.le_div_iff_mul_le (Nat.two_pow_pos _), Nat.shiftLeft_eq]
          unfold Format.binade
          rw [← Nat.pow_add]
          have : 2 ^ m.log2 * 2 ^ (p - last).toNat ≤ m * 2 ^ (p - last).toNat := Nat.mul_le_mul_right _ hml
          rw [← Nat.pow_add] at this
          exact Nat.le_trans (Nat.pow_le_pow_right (by decide) (by omega)) this
        have hcut : (m <<< (p - last).toNat) / 2 ^ (last - p).toNat ≤ Toward.even.cut s (m <<< (p - last).toNat) (last - p).toNat := by
          unfold Toward.cut
          dsimp only
          rw [Nat.shiftLeft_eq 1, Nat.one_mul]
          refine Nat.le_trans ?_ (Nat.le_add_right _ _)
          refine Nat.div_le_div_left (Nat.pow_le_pow_right (by decide) (Nat.min_le_left _ _)) (Nat.two_pow_pos _)
        omega
      · omega
    generalize hk : Toward.even.cut s (m <<< (p - last).toNat) (last - p).toNat = kept at *
    generalize hq : (last - f.leastPlace).toNat = q at *
    have hqi : (q : Int) = last - f.leastPlace := by omega
    by_cases hover : q * f.binade + kept < f.infRung
    · rw [Nat.min_eq_left (Nat.le_of_lt hover)] at hr
      obtain ⟨m2, p2, hr2, hc⟩ := read_word f s q kept hkept2 hlow hover
      rw [hr2] at hr
      injection hr with _ hm2 hp2
      subst hm2 hp2
      refine ⟨m2, p2, last, kept, hr0, by omega, hk, ?_⟩
      rcases hc with ⟨_, rfl, rfl⟩ | ⟨hkk, rfl, rfl⟩
      · rw [show f.leastPlace + (q : Int) = last by omega]
      · rw [hkk, show f.leastPlace + (q : Int) + 1 = last + 1 by omega, pw_add, show pw 1 = 2 from Rat.zpow_one _, Rat.natCast_mul, Rat.natCast_ofNat]
        grind
    · exfalso
      rw [Nat.min_eq_right (by omega)] at hr
      have hlt := f.infRung_lt
      have hs : 0 < f.signWeight := by unfold Format.signWeight; exact Nat.two_pow_pos _
      have hm : f.word s f.infRung % f.signWeight = f.infRung := by
        unfold Format.word
        split
        · rw [Nat.add_mod_left]; exact Nat.mod_eq_of_lt hlt
        · exact Nat.mod_eq_of_lt hlt
      have hbi : ¬ f.infRung < f.binade := by
        unfold Format.infRung
        have : 1 * f.binade ≤ (2 ^ f.exponentBits - 1) * f.binade := Nat.mul_le_mul_right _ (by omega)
        omega
      unfold Format.read at hr
      dsimp only at hr
      rw [hm, if_neg hbi, if_neg (Nat.lt_irrefl _), if_pos rfl] at hr
      cases hr
/-- a kind's places -/
theorem kind_top (k : FloatKind) : 3 ≤ 2 ^ k.format.exponentBits ∧ k.format.leastPlace ≤ -149 ∧ 127 ≤ Format.topPlace k.format := by cases k <;> decide
def eps (k : FloatKind) : Int := match k with | .f32 => 24 | .f64 => 53
theorem frac_eps (k : FloatKind) : (k.format.fractionBits : Int) = eps k - 1 := by cases k <;> rfl
theorem nearest_lim (k : FloatKind) (s : Bool) (m : Nat) (p : Int) : k.format.nearest s m p < lim k := by
  have := k.format.nearest_lt s m p
  cases k
  · exact this
  · exact this
/-- a number written is near -/
theorem write_val (k : FloatKind) (s : Bool) (m : Nat) (p E : Int) (h : (m : Rat) * pw p ≤ pw E) (hlo : -90 ≤ E) (hhi : E ≤ 127) :
    ∃ v, Val k (k.format.nearest s m p) v ∧ (v - rat s m p).abs ≤ pw (E - eps k) ∧ v.abs ≤ pw E := by
  obtain ⟨k1, k2, k3⟩ := kind_top k
  have hml := mle_rat.2 h
  obtain ⟨m1, p1, hr1, hm1⟩ := nearest_mle k.format k1 s m p E hml (by omega) (by omega)
  refine ⟨_, ⟨nearest_lim k s m p, s, m1, p1, hr1, rfl⟩, ?_, ?_⟩
  · by_cases hm : m = 0
    · subst hm
      have hz : m1 = 0 := by
        obtain ⟨m2, p2, hr2, hm2⟩ := nearest_mle k.format k1 s 0 p (k.format.leastPlace) (.inl rfl) (Int.le_refl _) (by omega)
        rw [hr1] at hr2
        injection hr2 with _ e1 e2
        subst e1 e2
        have hlp := read_lp k.format _ hr1
        unfold Format.nearest at hr1
        rw [if_pos rfl] at hr1
        have hz : k.format.read (k.format.word s 0) = .number s 0 k.format.leastPlace := by
          cases k <;> cases s <;> decide
        rw [hz] at hr1
        injection hr1 with _ e1 _
        exact e1.symm
      subst hz
      have e : rat s 0 p1 - rat s 0 p = 0 := by
        unfold rat sgnM
        rw [show ((0 : Nat) : Rat) = 0 from rfl]
        cases s <;> grind
      rw [e, Rat.abs_zero]
      exact Rat.le_of_lt (pw_pos _)
    · obtain ⟨m2, p2, last, kept, hr2, hl, hk, he⟩ := kept_far k.format k1 s m p E hml (by omega) (by omega) hm
      rw [hr1] at hr2
      injection hr2 with _ e1 e2
      subst e1 e2
      have hn := kept_near s m p last kept hk
      rw [← he] at hn
      have hb : pw last ≤ pw (E - eps k + 1) := pw_mono (by have := frac_eps k; cases k <;> simp only [eps] at * <;> omega)
      rw [pw_add, show pw 1 = 2 from Rat.zpow_one _] at hb
      have e : (rat s m1 p1 - rat s m p).abs = ((m1 : Rat) * pw p1 - (m : Rat) * pw p).abs := by
        unfold rat sgnM
        cases s
        · rfl
        · simp only [if_true]
          rw [← Rat.abs_neg]
          congr 1
          grind
      rw [e]
      grind
  · rw [rat_abs]
    exact mle_rat.1 hm1
end Go.Proofs.Ytfehhbmmdbpdpaa
/- Floats as rational numbers: sums, products, quotients. -/
namespace Go.Proofs.Ytfehhbmmdbpdpaa
open Go Ieee
set_option linter.unusedSimpArgs false
set_option linter.unusedVariables false

theorem rat_signed (s : Bool) (m up : Nat) : ((signed s m up : Int) : Rat) = sgnM s m * ((2 ^ up : Nat) : Rat) := by
  unfold signed sgnM
  rw [Nat.shiftLeft_eq]
  cases s
  · simp only [Bool.false_eq_true, if_false]
    rw [Rat.intCast_natCast, Rat.natCast_mul]
  · simp only [if_true]
    rw [Rat.intCast_neg, Rat.intCast_natCast, Rat.natCast_mul, Rat.neg_mul]
theorem rat_base {s : Bool} {m : Nat} {i base : Int} (h : base ≤ i) : ((signed s m (i - base).toNat : Int) : Rat) * pw base = rat s m i := by
  rw [rat_signed, Rat.mul_assoc]
  unfold rat
  rw [pw_up h, Rat.mul_comm (pw base)]
theorem sgnM_int (z : Bool) (t : Int) : sgnM (if t = 0 then z else decide (t < 0)) t.natAbs = (t : Rat) := by
  by_cases h0 : t = 0
  · subst h0
    unfold sgnM
    rw [if_pos rfl]
    cases z <;> rfl
  · rw [if_neg h0]
    unfold sgnM
    by_cases h1 : t < 0
    · rw [decide_eq_true h1, if_pos rfl]
      have e : (t.natAbs : Int) = -t := by omega
      have : ((t.natAbs : Int) : Rat) = ((-t : Int) : Rat) := congrArg _ e
      rw [Rat.intCast_natCast, Rat.intCast_neg] at this
      rw [this, Rat.neg_neg]
    · rw [decide_eq_false h1]
      simp only [Bool.false_eq_true, if_false]
      have e : (t.natAbs : Int) = t := by omega
      have : ((t.natAbs : Int) : Rat) = (t : Rat) := congrArg _ e
      rw [Rat.intCast_natCast] at this
      exact this
/-- a sum of two numbers, exactly -/
theorem sum_val (s t : Bool) (m n : Nat) (i j : Int) : ∃ z M p, (Datum.number s m i).sum (.number t n j) = some (.number z M p) ∧ rat z M p = rat s m i + rat t n j := by
  refine ⟨_, _, _, rfl, ?_⟩
  unfold rat
  have h1 := rat_base (s := s) (m := m) (Int.min_le_left i j)
  have h2 := rat_base (s := t) (m := n) (Int.min_le_right i j)
  unfold rat at h1 h2
  rw [sgnM_int, Rat.intCast_add, Rat.add_mul, h1, h2]
theorem val_neg_datum (s : Bool) (m : Nat) (p : Int) : rat (!s) m p = -rat s m p := by
  unfold rat sgnM
  cases s
  · simp only [Bool.not_false, if_true, Bool.false_eq_true, if_false]
    rw [Rat.neg_mul]
  · simp only [Bool.not_true, if_true, Bool.false_eq_true, if_false]
    rw [Rat.neg_mul, Rat.neg_neg]
/-- a written datum is near what it is -/
theorem datum_val (k : FloatKind) {z : Bool} {M : Nat} {p : Int} {v : Rat} (hv : rat z M p = v) (E : Int) (h : v.abs ≤ pw E) (hlo : -90 ≤ E) (hhi : E ≤ 127) :
    ∃ u, Val k (k.format.write (.number z M p)) u ∧ (u - v).abs ≤ pw (E - eps k) ∧ u.abs ≤ pw E := by
  subst hv
  rw [rat_abs] at h
  exact write_val k z M p E h hlo hhi
theorem val_add {k : FloatKind} {x y : Nat} {a b : Rat} (hx : Val k x a) (hy : Val k y b) (E : Int) (h : (a + b).abs ≤ pw E) (hlo : -90 ≤ E) (hhi : E ≤ 127) :
    ∃ r u, floatBits .add k x y = some r ∧ Val k r u ∧ (u - (a + b)).abs ≤ pw (E - eps k) ∧ u.abs ≤ pw E := by
  obtain ⟨-, s, m, i, e1, rfl⟩ := hx
  obtain ⟨-, t, n, j, e2, rfl⟩ := hy
  obtain ⟨z, M, p, hs, hv⟩ := sum_val s t m n i j
  obtain ⟨u, h1, h2⟩ := datum_val k hv E h hlo hhi
  refine ⟨_, u, ?_, h1, h2⟩
  unfold floatBits Format.add
  rw [show k.format.read x = _ from e1, show k.format.read y = _ from e2, hs]
  rfl
theorem val_sub {k : FloatKind} {x y : Nat} {a b : Rat} (hx : Val k x a) (hy : Val k y b) (E : Int) (h : (a - b).abs ≤ pw E) (hlo : -90 ≤ E) (hhi : E ≤ 127) :
    ∃ r u, floatBits .sub k x y = some r ∧ Val k r u ∧ (u - (a - b)).abs ≤ pw (E - eps k) ∧ u.abs ≤ pw E := by
  obtain ⟨-, s, m, i, e1, rfl⟩ := hx
  obtain ⟨-, t, n, j, e2, rfl⟩ := hy
  obtain ⟨z, M, p, hs, hv⟩ := sum_val s (!t) m n i j
  rw [val_neg_datum, ← Rat.sub_eq_add_neg] at hv
  obtain ⟨u, h1, h2⟩ := datum_val k hv E h hlo hhi
  refine ⟨_, u, ?_, h1, h2⟩
  unfold floatBits Format.sub
  rw [show k.format.read x = _ from e1, show k.format.read y = _ from e2]
  simp only [Datum.opposite]
  rw [hs]
  rfl
theorem product_val (s t : Bool) (m n : Nat) (i j : Int) : rat (s ^^ t) (m * n) (i + j) = rat s m i * rat t n j := by
  unfold rat sgnM
  rw [pw_add, Rat.natCast_mul]
  cases s <;> cases t <;> simp only [Bool.bne_true, Bool.bne_false, Bool.not_true, Bool.not_false, Bool.xor_true, Bool.xor_false, Bool.false_xor, Bool.true_xor, Bool.false_eq_true, if_false, if_true] <;> grind
theorem val_mul {k : FloatKind} {x y : Nat} {a b : Rat} (hx : Val k x a) (hy : Val k y b) (E : Int) (h : (a * b).abs ≤ pw E) (hlo : -90 ≤ E) (hhi : E ≤ 127) :
    ∃ r u, floatBits .mul k x y = some r ∧ Val k r u ∧ (u - a * b).abs ≤ pw (E - eps k) ∧ u.abs ≤ pw E := by
  obtain ⟨-, s, m, i, e1, rfl⟩ := hx
  obtain ⟨-, t, n, j, e2, rfl⟩ := hy
  obtain ⟨u, h1, h2⟩ := datum_val k (product_val s t m n i j) E h hlo hhi
  refine ⟨_, u, ?_, h1, h2⟩
  unfold floatBits Format.mul
  rw [show k.format.read x = _ from e1, show k.format.read y = _ from e2]
  rfl
/-- a quotient's digits -/
theorem quot_digits (m n digits : Nat) (hm : m ≠ 0) (hn : n ≠ 0) (D : Nat) (hD : D = 2 * ((m <<< (digits + n.log2 - m.log2)) / n) + ((m <<< (digits + n.log2 - m.log2)) % n != 0).toNat) :
    D * n ≤ 2 * (m <<< (digits + n.log2 - m.log2)) + n ∧ 2 * (m <<< (digits + n.log2 - m.log2)) ≤ D * n + n ∧ n * 2 ^ digits ≤ 4 * (m <<< (digits + n.log2 - m.log2)) := by
  have hdm := Nat.div_add_mod (m <<< (digits + n.log2 - m.log2)) n
  have hlt := Nat.mod_lt (m <<< (digits + n.log2 - m.log2)) (show 0 < n by omega)
  have hbig : n * 2 ^ digits ≤ 4 * (m <<< (digits + n.log2 - m.log2)) := by
    rw [Nat.shiftLeft_eq]
    have h1 := Nat.log2_self_le hm
    have h2 : n < 2 ^ (n.log2 + 1) := Nat.lt_log2_self
    have h3 : 2 ^ m.log2 * 2 ^ (digits + n.log2 - m.log2) ≤ m * 2 ^ (digits + n.log2 - m.log2) := Nat.mul_le_mul_right _ h1
    rw [← Nat.pow_add] at h3
    have h4 : 2 ^ (digits + n.log2) ≤ 2 ^ (m.log2 + (digits + n.log2 - m.log2)) := Nat.pow_le_pow_right (by decide) (by omega)
    have h5 : n * 2 ^ digits ≤ 2 ^ (n.log2 + 1) * 2 ^ digits := Nat.mul_le_mul_right _ (Nat.le_of_lt h2)
    have h6 : 2 ^ (n.log2 + 1) * 2 ^ digits = 2 * 2 ^ (digits + n.log2) := by rw [← Nat.pow_add, show n.log2 + 1 + digits = digits + n.log2 + 1 by omega, Nat.pow_succ]; omega
    omega
  refine ⟨?_, ?_, hbig⟩
  all_goals
    generalize m <<< (digits + n.log2 - m.log2) = dv at *
    generalize hq : dv / n = q at *
    generalize hr : dv % n = r at *
    have e : D * n = 2 * (n * q) + (r != 0).toNat * n := by
      rw [hD, Nat.add_mul, Nat.mul_assoc, Nat.mul_comm q n]
    rw [e]
    by_cases h0 : r = 0
    · have : (r != 0).toNat = 0 := by rw [h0]; rfl
      rw [this, Nat.zero_mul]
      omega
    · have : (r != 0).toNat = 1 := by
        have : (r != 0) = true := by simpa using h0
        rw [this]; rfl
      rw [this, Nat.one_mul]
      omega
end Go.Proofs.Ytfehhbmmdbpdpaa
/- Floats as rational numbers: quotients, roots, conversions, comparisons. -/
namespace Go.Proofs.Ytfehhbmmdbpdpaa
open Go Ieee
set_option linter.unusedSimpArgs false
set_option linter.unusedVariables false

theorem abs_mul (a b : Rat) : (a * b).abs = a.abs * b.abs := by
  rcases Rat.le_total (a := 0) (b := a) with ha | ha <;> rcases Rat.le_total (a := 0) (b := b) with hb | hb
  · rw [Rat.abs_of_nonneg ha, Rat.abs_of_nonneg hb, Rat.abs_of_nonneg (Rat.mul_nonneg ha hb)]
  · have := Rat.mul_nonneg ha (show 0 ≤ -b by grind)
    rw [Rat.abs_of_nonneg ha, Rat.abs_of_nonpos hb, Rat.abs_of_nonpos (by grind)]
    grind
  · have := Rat.mul_nonneg (show 0 ≤ -a by grind) hb
    rw [Rat.abs_of_nonpos ha, Rat.abs_of_nonneg hb, Rat.abs_of_nonpos (by grind)]
    grind
  · have := Rat.mul_nonneg (show 0 ≤ -a by grind) (show 0 ≤ -b by grind)
    rw [Rat.abs_of_nonpos ha, Rat.abs_of_nonpos hb, Rat.abs_of_nonneg (by grind)]
    grind
theorem abs_le {a b : Rat} : a.abs ≤ b ↔ -b ≤ a ∧ a ≤ b := by
  rcases Rat.le_total (a := 0) (b := a) with ha | ha
  · rw [Rat.abs_of_nonneg ha]; constructor <;> grind
  · rw [Rat.abs_of_nonpos ha]; constructor <;> grind
theorem abs_add (a b : Rat) : (a + b).abs ≤ a.abs + b.abs := by
  obtain ⟨h1, h2⟩ := abs_le.1 (Rat.le_refl (a := a.abs))
  obtain ⟨h3, h4⟩ := abs_le.1 (Rat.le_refl (a := b.abs))
  exact abs_le.2 ⟨by grind, by grind⟩
theorem rat_near (s : Bool) (A B C : Nat) (p : Int) (h1 : A ≤ B + C) (h2 : B ≤ A + C) : (rat s A p - rat s B p).abs ≤ (C : Rat) * pw p := by
  have hp := Rat.le_of_lt (pw_pos p)
  have h1' : (A : Rat) ≤ (B : Rat) + (C : Rat) := by
    have : (A : Rat) ≤ ((B + C : Nat) : Rat) := Rat.natCast_le_natCast.2 h1
    simpa only [Rat.natCast_add] using this
  have h2' : (B : Rat) ≤ (A : Rat) + (C : Rat) := by
    have : (B : Rat) ≤ ((A + C : Nat) : Rat) := Rat.natCast_le_natCast.2 h2
    simpa only [Rat.natCast_add] using this
  have k1 := Rat.mul_le_mul_of_nonneg_right h1' hp
  have k2 := Rat.mul_le_mul_of_nonneg_right h2' hp
  rw [Rat.add_mul] at k1 k2
  unfold rat sgnM
  cases s
  · simp only [Bool.false_eq_true, if_false]
    exact abs_le.2 ⟨by grind, by grind⟩
  · simp only [if_true]
    exact abs_le.2 ⟨by grind, by grind⟩
theorem rat_shift (s : Bool) (m k : Nat) (p : Int) : rat s (m * 2 ^ k) (p - k) = rat s m p := by
  unfold rat sgnM
  have e : pw p = pw (p - k) * ((2 ^ k : Nat) : Rat) := by
    rw [← pw_nat, ← pw_add]
    congr 1
    omega
  rw [e, Rat.natCast_mul]
  cases s <;> simp only [Bool.false_eq_true, if_false, if_true] <;> grind
theorem rat_ne {t : Bool} {n : Nat} {j : Int} (h : rat t n j ≠ 0) : n ≠ 0 := fun e => h (by
  subst e
  unfold rat sgnM
  cases t <;> simp only [Bool.false_eq_true, if_false, if_true] <;> grind)
theorem digits_eps (k : FloatKind) : ((k.format.fractionBits + 2 : Nat) : Int) = eps k + 1 := by cases k <;> rfl
/-- a quotient is near -/
theorem val_quo {k : FloatKind} {x y : Nat} {a b q : Rat} (hx : Val k x a) (hy : Val k y b) (hb : b ≠ 0) (hq : q * b = a) (E : Int) (h : q.abs ≤ pw E) (hlo : -80 ≤ E) (hhi : E ≤ 120) :
    ∃ r u, floatBits .quo k x y = some r ∧ Val k r u ∧ (u - q).abs ≤ pw (E + 2 - eps k) ∧ u.abs ≤ pw (E + 1) := by
  obtain ⟨-, s, m, i, e1, ha⟩ := hx
  obtain ⟨-, t, n, j, e2, hb2⟩ := hy
  have hn : n ≠ 0 := rat_ne (t := t) (j := j) (by rw [hb2]; exact hb)
  -- the datum of the quotient
  obtain ⟨D, P, hD, hd⟩ : ∃ D P, Datum.quotient (k.format.fractionBits + 2) (.number s m i) (.number t n j) = some (.number (s ^^ t) D P) ∧ (rat (s ^^ t) D P - q).abs ≤ pw (E - eps k) := by
    by_cases hm : m = 0
    · refine ⟨_, _, by unfold Datum.quotient; dsimp only; rw [if_neg hn], ?_⟩
      subst hm
      have ha0 : a = 0 := by rw [← ha]; unfold rat sgnM; cases s <;> simp only [Bool.false_eq_true, if_false, if_true] <;> grind
      have hq0 : q = 0 := by
        rw [ha0] at hq
        rcases Rat.mul_eq_zero.1 hq with h | h
        · exact h
        · exact absurd h hb
      have hz : 2 * (0 <<< (k.format.fractionBits + 2 + n.log2 - Nat.log2 0) / n) + (0 <<< (k.format.fractionBits + 2 + n.log2 - Nat.log2 0) % n != 0).toNat = 0 := by
        rw [Nat.shiftLeft_eq, Nat.zero_mul, Nat.zero_div, Nat.zero_mod]; rfl
      rw [hz, hq0]
      have : rat (s ^^ t) 0 (i - j - (k.format.fractionBits + 2 + n.log2 - Nat.log2 0 : Nat) - 1) - 0 = 0 := by
        unfold rat sgnM
        cases (s ^^ t) <;> simp only [Bool.false_eq_true, if_false, if_true] <;> grind
      rw [this, Rat.abs_zero]
      exact Rat.le_of_lt (pw_pos _)
    · refine ⟨_, _, by unfold Datum.quotient; dsimp only; rw [if_neg hn], ?_⟩
      obtain ⟨d1, d2, d3⟩ := quot_digits m n (k.format.fractionBits + 2) hm hn _ rfl
      have hdig := digits_eps k
      generalize k.format.fractionBits + 2 = digits at *
      generalize hmore : digits + n.log2 - m.log2 = more at *
      rw [Nat.shiftLeft_eq] at d1 d2 d3 ⊢
      generalize hDD : 2 * (m * 2 ^ more / n) + (m * 2 ^ more % n != 0).toNat = D at *
      have hU := pw_pos (i - j - more - 1)
      have hbp : 0 < b.abs := Rat.abs_pos_iff.2 hb
      have hbn : b.abs = (n : Rat) * pw j := by rw [← hb2, rat_abs]
      -- d * b and a at one place
      have hdb : rat (s ^^ t) D (i - j - more - 1) * b = rat s (D * n) (i - more - 1) := by
        rw [← hb2, ← product_val]
        congr 1
        · cases s <;> cases t <;> rfl
        · omega
      have ha2 : rat s (2 * (m * 2 ^ more)) (i - more - 1) = a := by
        rw [← ha, ← rat_shift s m (more + 1) i]
        congr 1
        · rw [Nat.pow_succ, Nat.mul_comm 2, Nat.mul_assoc]
        · omega
      have hnear := rat_near s (D * n) (2 * (m * 2 ^ more)) n (i - more - 1) d1 d2
      rw [ha2, ← hdb, ← hq] at hnear
      have hfac : rat (s ^^ t) D (i - j - more - 1) * b - q * b = (rat (s ^^ t) D (i - j - more - 1) - q) * b := by grind
      rw [hfac, abs_mul] at hnear
      have hsplit : (n : Rat) * pw (i - more - 1) = pw (i - j - more - 1) * b.abs := by
        rw [hbn, show i - (more : Int) - 1 = (i - j - more - 1) + j by omega, pw_add]
        grind
      rw [hsplit] at hnear
      have hU1 : (rat (s ^^ t) D (i - j - more - 1) - q).abs ≤ pw (i - j - more - 1) := Rat.le_of_mul_le_mul_right hnear hbp
      -- how small the place is
      have h4 : (n : Rat) * pw digits ≤ 4 * ((m : Rat) * ((2 ^ more : Nat) : Rat)) := by
        have : ((n * 2 ^ digits : Nat) : Rat) ≤ ((4 * (m * 2 ^ more) : Nat) : Rat) := Rat.natCast_le_natCast.2 d3
        rw [pw_nat]
        simpa only [Rat.natCast_mul, Rat.natCast_ofNat] using this
      have hp := Rat.le_of_lt (pw_pos (i - more - 1))
      have h5 := Rat.mul_le_mul_of_nonneg_right h4 hp
      have h6 : a.abs = (2 * ((m : Rat) * ((2 ^ more : Nat) : Rat))) * pw (i - more - 1) := by
        rw [← ha2, rat_abs, Rat.natCast_mul, Rat.natCast_mul, Rat.natCast_ofNat]
      have h7 : a.abs = q.abs * b.abs := by rw [← hq, abs_mul]
      have h8 : pw (i - j - more - 1) * pw digits * b.abs ≤ (2 * q.abs) * b.abs := by
        have e1 : (n : Rat) * pw digits * pw (i - more - 1) = pw (i - j - more - 1) * pw digits * b.abs := by
          have := hsplit
          grind
        rw [e1] at h5
        have e2 : 4 * ((m : Rat) * ((2 ^ more : Nat) : Rat)) * pw (i - more - 1) = 2 * q.abs * b.abs := by
          rw [show 2 * q.abs * b.abs = 2 * (q.abs * b.abs) by grind, ← h7, h6]
          grind
        rw [e2] at h5
        exact h5
      have h9 : pw (i - j - more - 1) * pw digits ≤ 2 * q.abs := Rat.le_of_mul_le_mul_right h8 hbp
      have h10 : pw (i - j - more - 1) * pw digits ≤ pw (E - eps k) * pw digits := by
        have e3 : pw (E - eps k) * pw digits = 2 * pw E := by
          rw [← pw_add, hdig, show E - eps k + (eps k + 1) = E + 1 by omega, pw_add, show pw 1 = 2 from Rat.zpow_one _]
          grind
        rw [e3]
        grind
      exact Rat.le_trans hU1 (Rat.le_of_mul_le_mul_right h10 (pw_pos _))
  have hp1 : pw (E - eps k) ≤ pw E := pw_mono (by cases k <;> simp only [eps] <;> omega)
  have hEE : pw (E + 1) = 2 * pw E := by rw [pw_add, show pw 1 = 2 from Rat.zpow_one _]; grind
  have hdabs : (rat (s ^^ t) D P).abs ≤ pw (E + 1) := by
    have := abs_add (rat (s ^^ t) D P - q) q
    rw [show rat (s ^^ t) D P - q + q = rat (s ^^ t) D P by grind] at this
    rw [hEE]
    grind
  obtain ⟨u, h1, h2, h3⟩ := datum_val k rfl (E + 1) hdabs (by omega) (by omega)
  refine ⟨_, u, ?_, h1, ?_, h3⟩
  · unfold floatBits Format.div
    rw [show k.format.read x = _ from e1, show k.format.read y = _ from e2, hD]
    rfl
  · have := abs_add (u - rat (s ^^ t) D P) (rat (s ^^ t) D P - q)
    rw [show u - rat (s ^^ t) D P + (rat (s ^^ t) D P - q) = u - q by grind] at this
    have e4 : pw (E + 2 - eps k) = 4 * pw (E - eps k) := by
      rw [show E + 2 - eps k = (E - eps k) + 1 + 1 by omega, pw_add, pw_add, show pw 1 = 2 from Rat.zpow_one _]; grind
    have e5 : pw (E + 1 - eps k) = 2 * pw (E - eps k) := by
      rw [show E + 1 - eps k = (E - eps k) + 1 by omega, pw_add, show pw 1 = 2 from Rat.zpow_one _]; grind
    rw [e5] at h2
    rw [e4]
    have := pw_pos (E - eps k)
    grind
end Go.Proofs.Ytfehhbmmdbpdpaa
/- Elimination in rational numbers: how large the numbers grow, and what is left of a row. No Go in sight. -/
namespace Go.Proofs.Ytfehhbmmdbpdpaa
open Go
set_option linter.unusedVariables false

/-- sums -/
def su (f : Nat → Rat) : Nat → Rat
  | 0 => 0
  | n + 1 => su f n + f n
def sr (f : Nat → Rat) (k n : Nat) : Rat := su f n - su f k
theorem su_zero (f : Nat → Rat) : su f 0 = 0 := rfl
theorem su_succ (f : Nat → Rat) (n : Nat) : su f (n + 1) = su f n + f n := rfl
theorem sr_self (f : Nat → Rat) (k : Nat) : sr f k k = 0 := by unfold sr; grind
theorem sr_zero (f : Nat → Rat) (n : Nat) : sr f 0 n = su f n := by unfold sr; rw [su_zero]; grind
theorem sr_succ (f : Nat → Rat) (k n : Nat) : sr f k (n + 1) = sr f k n + f n := by unfold sr; rw [su_succ]; grind
theorem sr_head (f : Nat → Rat) (k n : Nat) : sr f k n = sr f (k + 1) n + f k := by unfold sr; rw [su_succ]; grind
theorem su_congr {f g : Nat → Rat} : ∀ n, (∀ j, j < n → f j = g j) → su f n = su g n
  | 0, _ => rfl
  | n + 1, h => by rw [su_succ, su_succ, su_congr n (fun j hj => h j (by omega)), h n (by omega)]
theorem sr_congr {f g : Nat → Rat} (k : Nat) : ∀ n, k ≤ n → (∀ j, k ≤ j → j < n → f j = g j) → sr f k n = sr g k n
  | n, hk, h => by
    obtain ⟨m, rfl⟩ : ∃ m, n = k + m := ⟨n - k, by omega⟩
    clear hk
    induction m with
    | zero => rw [Nat.add_zero, sr_self, sr_self]
    | succ m ih =>
      rw [← Nat.add_assoc, sr_succ, sr_succ, ih (fun j h1 h2 => h j h1 (by omega)), h (k + m) (by omega) (by omega)]
theorem sr_lin (F : Rat) (f g h : Nat → Rat) (k : Nat) (H : Nat → Rat) (n : Nat) (hk : k ≤ n) (e : ∀ j, k ≤ j → j < n → H j = F * f j + g j + h j) : sr H k n = F * sr f k n + sr g k n + sr h k n := by
  obtain ⟨m, rfl⟩ : ∃ m, n = k + m := ⟨n - k, by omega⟩
  clear hk
  induction m with
  | zero => rw [Nat.add_zero, sr_self, sr_self, sr_self, sr_self]; grind
  | succ m ih =>
    rw [← Nat.add_assoc, sr_succ, sr_succ, sr_succ, sr_succ, ih (fun j h1 h2 => e j h1 (by omega)), e (k + m) (by omega) (by omega)]
    grind
theorem sr_bound (f : Nat → Rat) (d : Rat) (k n : Nat) (hk : k ≤ n) (h : ∀ j, k ≤ j → j < n → (f j).abs ≤ d) : (sr f k n).abs ≤ ((n - k : Nat) : Rat) * d := by
  obtain ⟨m, rfl⟩ : ∃ m, n = k + m := ⟨n - k, by omega⟩
  clear hk
  induction m with
  | zero =>
    rw [Nat.add_zero, sr_self, Nat.sub_self, Rat.abs_zero, show ((0 : Nat) : Rat) = 0 from rfl]
    grind
  | succ m ih =>
    have h1 := ih (fun j h1 h2 => h j h1 (by omega))
    have h2 := h (k + m) (by omega) (by omega)
    rw [← Nat.add_assoc, sr_succ]
    have h3 := abs_add (sr f k (k + m)) (f (k + m))
    rw [show k + m - k = m by omega] at h1
    rw [show k + m + 1 - k = m + 1 by omega, Rat.natCast_add, show ((1 : Nat) : Rat) = 1 from rfl]
    grind
theorem mul_abs_le {a b A B : Rat} (ha : a.abs ≤ A) (hb : b.abs ≤ B) : (a * b).abs ≤ A * B := by
  rw [abs_mul]
  have h1 := Rat.mul_le_mul_of_nonneg_right ha (Rat.abs_nonneg (x := b))
  have h2 := Rat.mul_le_mul_of_nonneg_left hb (show 0 ≤ A from Rat.le_trans (Rat.abs_nonneg (x := a)) ha)
  exact Rat.le_trans h1 h2
/-! ## one stage -/
def unit40 (r c : Nat) : Rat := if r = c then 40 else 0
/-- how far a number is from a great diagonal's, at a stage; how great a right side is -/
def growD : Nat → Rat
  | 0 => 4
  | 1 => 9 / 2
  | 2 => 82 / 16
  | 3 => 95 / 16
  | _ => 113 / 16
def growB : Nat → Rat
  | 0 => 8
  | 1 => 9
  | 2 => 164 / 16
  | 3 => 190 / 16
  | _ => 225 / 16
theorem growD_le (k : Nat) : 4 ≤ growD k ∧ growD k ≤ 113 / 16 := by
  match k with
  | 0 => exact ⟨by decide +kernel, by decide +kernel⟩
  | 1 => exact ⟨by decide +kernel, by decide +kernel⟩
  | 2 => exact ⟨by decide +kernel, by decide +kernel⟩
  | 3 => exact ⟨by decide +kernel, by decide +kernel⟩
  | k + 4 => exact ⟨show (4 : Rat) ≤ 113 / 16 by decide +kernel, show (113 / 16 : Rat) ≤ 113 / 16 by decide +kernel⟩
theorem growB_le (k : Nat) : 8 ≤ growB k ∧ growB k ≤ 225 / 16 := by
  match k with
  | 0 => exact ⟨by decide +kernel, by decide +kernel⟩
  | 1 => exact ⟨by decide +kernel, by decide +kernel⟩
  | 2 => exact ⟨by decide +kernel, by decide +kernel⟩
  | 3 => exact ⟨by decide +kernel, by decide +kernel⟩
  | k + 4 => exact ⟨show (8 : Rat) ≤ 225 / 16 by decide +kernel, show (225 / 16 : Rat) ≤ 225 / 16 by decide +kernel⟩
/-- how great a factor is -/
def growF : Nat → Rat
  | 0 => 1 / 9 + 1 / 65536
  | 1 => 9 / 71 + 1 / 65536
  | 2 => 82 / 558 + 1 / 65536
  | _ => 95 / 545 + 1 / 65536
theorem growF_le (k : Nat) : growF k ≤ 1 / 4 := by
  match k with
  | 0 => decide +kernel
  | 1 => decide +kernel
  | 2 => decide +kernel
  | k + 3 => exact show (95 / 545 + 1 / 65536 : Rat) ≤ 1 / 4 by decide +kernel
theorem grow_step (k : Nat) (hk : k < 4) : growD k + growF k * growD k + 1 / 131072 ≤ growD (k + 1) ∧ growB k + growF k * growB k + 1 / 131072 ≤ growB (k + 1) ∧ growD k ≤ (growF k - 1 / 65536) * (40 - growD k) := by
  match k, hk with
  | 0, _ => exact ⟨by decide +kernel, by decide +kernel, by decide +kernel⟩
  | 1, _ => exact ⟨by decide +kernel, by decide +kernel, by decide +kernel⟩
  | 2, _ => exact ⟨by decide +kernel, by decide +kernel, by decide +kernel⟩
  | 3, _ => exact ⟨by decide +kernel, by decide +kernel, by decide +kernel⟩
end Go.Proofs.Ytfehhbmmdbpdpaa
/- Elimination in rational numbers: one stage, and what it leaves. No Go in sight. -/
namespace Go.Proofs.Ytfehhbmmdbpdpaa
open Go
set_option linter.unusedVariables false

/-- the numbers at a stage -/
structure Bnd (n k : Nat) (M : Nat → Nat → Rat) (b : Nat → Rat) : Prop where
  ent : ∀ r c, k ≤ r → r < n → k ≤ c → c < n → (M r c - unit40 r c).abs ≤ growD k
  rhs : ∀ r, k ≤ r → r < n → (b r).abs ≤ growB k
theorem unit40_self (r : Nat) : unit40 r r = 40 := by unfold unit40; rw [if_pos rfl]
theorem unit40_ne {r c : Nat} (h : r ≠ c) : unit40 r c = 0 := by unfold unit40; rw [if_neg h]
theorem Bnd.diag {n k : Nat} {M : Nat → Nat → Rat} {b : Nat → Rat} (h : Bnd n k M b) {r : Nat} (h1 : k ≤ r) (h2 : r < n) : 40 - growD k ≤ M r r ∧ M r r ≤ 48 := by
  have := abs_le.1 (h.ent r r h1 h2 h1 h2)
  rw [unit40_self] at this
  have := (growD_le k).2
  constructor <;> grind
theorem Bnd.off {n k : Nat} {M : Nat → Nat → Rat} {b : Nat → Rat} (h : Bnd n k M b) {r c : Nat} (h1 : k ≤ r) (h2 : r < n) (h3 : k ≤ c) (h4 : c < n) (hne : r ≠ c) : (M r c).abs ≤ growD k := by
  have := h.ent r c h1 h2 h3 h4
  rw [unit40_ne hne] at this
  rwa [show M r c - 0 = M r c by grind] at this
/-- a row less a part of the pivot's row, nearly -/
structure RowOk (n k r : Nat) (M M' : Nat → Nat → Rat) (b b' : Nat → Rat) (F : Rat) : Prop where
  f : F.abs ≤ growF k
  col : (M r k - F * M k k).abs ≤ 1 / 131072
  ent : ∀ j, k < j → j < n → (M' r j - (M r j - F * M k j)).abs ≤ 1 / 131072
  rhs : (b' r - (b r - F * b k)).abs ≤ 1 / 131072
theorem stage_bnd {n k : Nat} {M M' : Nat → Nat → Rat} {b b' : Nat → Rat} (hn : n ≤ 5) (B : Bnd n k M b) (h : ∀ r, k < r → r < n → ∃ F, RowOk n k r M M' b b' F) : Bnd n (k + 1) M' b' := by
  refine ⟨fun r c h1 h2 h3 h4 => ?_, fun r h1 h2 => ?_⟩
  · obtain ⟨g1, -, -⟩ := grow_step k (by omega)
    obtain ⟨F, hF⟩ := h r (by omega) h2
    have e1 := hF.ent c (by omega) h4
    have e2 := mul_abs_le hF.f (B.off (r := k) (c := c) (Nat.le_refl _) (by omega) (by omega) h4 (by omega))
    have e3 := B.ent r c (by omega) h2 (by omega) h4
    have k1 := abs_le.1 e1
    have k2 := abs_le.1 e2
    have k3 := abs_le.1 e3
    exact abs_le.2 ⟨by grind, by grind⟩
  · obtain ⟨-, g1, -⟩ := grow_step k (by omega)
    obtain ⟨F, hF⟩ := h r (by omega) h2
    have e2 := mul_abs_le hF.f (B.rhs k (Nat.le_refl _) (by omega))
    have k1 := abs_le.1 hF.rhs
    have k2 := abs_le.1 e2
    have k3 := abs_le.1 (B.rhs r (by omega) h2)
    exact abs_le.2 ⟨by grind, by grind⟩
/-- what a row leaves -/
def resid (M : Nat → Nat → Rat) (b x : Nat → Rat) (k n r : Nat) : Rat := sr (fun j => M r j * x j) k n - b r
theorem stage_res {n k r : Nat} {M M' : Nat → Nat → Rat} {b b' x : Nat → Rat} {F : Rat} (hn : n ≤ 5) (hk : k < r) (hr : r < n) (h : RowOk n k r M M' b b' F) (hx : ∀ j, j < n → (x j).abs ≤ 1 / 2) :
    (resid M b x k n r).abs ≤ 1 / 4 * (resid M b x k n k).abs + (resid M' b' x (k + 1) n r).abs + 7 / 262144 := by
  have hkn : k + 1 ≤ n := by omega
  -- the sums
  have e1 := sr_lin F (fun j => M k j * x j) (fun j => M' r j * x j) (fun j => (M r j - F * M k j - M' r j) * x j) (k + 1) (fun j => M r j * x j) n hkn (fun j _ _ => by grind)
  have e2 := sr_head (fun j => M r j * x j) k n
  have e3 := sr_head (fun j => M k j * x j) k n
  have e4 : (sr (fun j => (M r j - F * M k j - M' r j) * x j) (k + 1) n).abs ≤ ((n - (k + 1) : Nat) : Rat) * (1 / 131072 * (1 / 2)) := by
    refine sr_bound _ _ _ _ hkn fun j h1 h2 => mul_abs_le ?_ (hx j h2)
    have := h.ent j (by omega) h2
    rw [← Rat.abs_neg] at this
    rwa [show -(M' r j - (M r j - F * M k j)) = M r j - F * M k j - M' r j by grind] at this
  have hcnt : ((n - (k + 1) : Nat) : Rat) ≤ 4 := by
    have : ((n - (k + 1) : Nat) : Rat) ≤ ((4 : Nat) : Rat) := Rat.natCast_le_natCast.2 (by omega)
    exact this
  have e5 : (sr (fun j => (M r j - F * M k j - M' r j) * x j) (k + 1) n).abs ≤ 4 * (1 / 131072 * (1 / 2)) := Rat.le_trans e4 (Rat.mul_le_mul_of_nonneg_right hcnt (by decide +kernel))
  have e6 := mul_abs_le h.col (hx k (by omega))
  have e7 := mul_abs_le (Rat.le_trans h.f (growF_le k)) (Rat.le_refl (a := (resid M b x k n k).abs))
  have e8 : resid M b x k n r = F * resid M b x k n k + resid M' b' x (k + 1) n r + ((M r k - F * M k k) * x k) + sr (fun j => (M r j - F * M k j - M' r j) * x j) (k + 1) n + (b' r - (b r - F * b k)) := by
    unfold resid
    rw [e2, e1, e3]
    grind
  have k1 := abs_le.1 e5
  have k2 := abs_le.1 e6
  have k3 := abs_le.1 e7
  have k4 := abs_le.1 h.rhs
  have k5 := abs_le.1 (Rat.le_refl (a := (resid M' b' x (k + 1) n r).abs))
  rw [e8]
  exact abs_le.2 ⟨by grind, by grind⟩
/-- from a stage back to the first -/
def Stg (n : Nat) (A : Nat → Nat → Rat) (β : Nat → Rat) (k : Nat) (M : Nat → Nat → Rat) (b : Nat → Rat) : Prop :=
  ∀ (x : Nat → Rat) (e : Rat), (∀ j, j < n → (x j).abs ≤ 1 / 2) → 1 / 65536 ≤ e → (∀ i, i < k → i < n → (resid M b x i n i).abs ≤ 1 / 65536) → (∀ r, k ≤ r → r < n → (resid M b x k n r).abs ≤ e) → ∀ r, r < n → (resid A β x 0 n r).abs ≤ e + (k : Rat) * (1 / 32768)
theorem Stg.zero (n : Nat) (A : Nat → Nat → Rat) (β : Nat → Rat) : Stg n A β 0 A β := fun x e _ _ _ h r hr => by
  have := h r (Nat.zero_le _) hr
  rw [show ((0 : Nat) : Rat) = 0 from rfl]
  grind
theorem resid_congr {M M' : Nat → Nat → Rat} {b b' x : Nat → Rat} {k n r : Nat} (hk : k ≤ n) (h : ∀ j, k ≤ j → j < n → M' r j = M r j) (hb : b' r = b r) : resid M' b' x k n r = resid M b x k n r := by
  unfold resid
  rw [hb, sr_congr k n hk (fun j h1 h2 => by rw [h j h1 h2])]
theorem Stg.step {n k : Nat} {A M M' : Nat → Nat → Rat} {β b b' : Nat → Rat} (hn : n ≤ 5) (hk : k < n) (h : Stg n A β k M b) (hlow : ∀ r c, r ≤ k → c < n → M' r c = M r c) (hlb : ∀ r, r ≤ k → b' r = b r)
    (hrow : ∀ r, k < r → r < n → ∃ F, RowOk n k r M M' b b' F) : Stg n A β (k + 1) M' b' := fun x e hx he h1 h2 r hr => by
  have := h x (e + 1 / 32768) hx (by grind) (fun i hi hin => by
    rw [← resid_congr (M' := M') (b' := b') (by omega) (fun j _ hj => hlow i j (by omega) hj) (hlb i (by omega))]
    exact h1 i (by omega) hin) (fun s hs hsn => by
    have hkk : (resid M b x k n k).abs ≤ 1 / 65536 := by
      rw [← resid_congr (M' := M') (b' := b') (by omega) (fun j _ hj => hlow k j (Nat.le_refl _) hj) (hlb k (Nat.le_refl _))]
      exact h1 k (by omega) hk
    by_cases hsk : s = k
    · subst hsk
      grind
    · obtain ⟨F, hF⟩ := hrow s (by omega) hsn
      have q1 := stage_res hn (by omega) hsn hF hx
      have q2 := h2 s (by omega) hsn
      grind) r hr
  rw [show ((k + 1 : Nat) : Rat) = (k : Rat) + 1 from Rat.natCast_add k 1]
  grind
/-- all stages behind: the first rows leave little -/
theorem Stg.done {n k : Nat} {A M : Nat → Nat → Rat} {β b x : Nat → Rat} (hn : n ≤ 5) (hk : k = n) (h : Stg n A β k M b) (hx : ∀ j, j < n → (x j).abs ≤ 1 / 2) (hr : ∀ i, i < n → (resid M b x i n i).abs ≤ 1 / 65536) : ∀ r, r < n → (resid A β x 0 n r).abs ≤ 1 / 4096 := fun r hrn => by
  subst hk
  have := h x (1 / 65536) hx Rat.le_refl (fun i hi _ => hr i hi) (fun r h1 h2 => by omega) r hrn
  have hc : ((k : Nat) : Rat) ≤ 5 := by
    have : ((k : Nat) : Rat) ≤ ((5 : Nat) : Rat) := Rat.natCast_le_natCast.2 hn
    exact this
  grind
/-! ## the other way -/
theorem back_bound (k n : Nat) (hn : n ≤ 5) (hk : k < n) : growB k + ((n - (k + 1) : Nat) : Rat) * (growD k * (1 / 2)) ≤ 45 / 100 * (40 - growD k) := by
  have hd := growD_le k
  have hc : ((n - (k + 1) : Nat) : Rat) ≤ ((4 - k : Nat) : Rat) := Rat.natCast_le_natCast.2 (by omega)
  have h1 := Rat.mul_le_mul_of_nonneg_right hc (show 0 ≤ growD k * (1 / 2) by grind)
  have h2 : growB k + ((4 - k : Nat) : Rat) * (growD k * (1 / 2)) ≤ 45 / 100 * (40 - growD k) := by
    match k, (show k < 5 by omega) with
    | 0, _ => decide +kernel
    | 1, _ => decide +kernel
    | 2, _ => decide +kernel
    | 3, _ => decide +kernel
    | 4, _ => decide +kernel
  grind
end Go.Proofs.Ytfehhbmmdbpdpaa
