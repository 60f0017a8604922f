/- Dyadic numbers: compared, multiplied, halved, widened. -/
import Derived.Test.YtfehhbmmdbpdpaaD1
namespace Go.Proofs.Ytfehhbmmdbpdpaa
open Go Ieee

theorem F_isN (kd : FloatKind) (k : Int) (h : k.natAbs < 16777216) : isN kd (Fk kd k) = false := by
  obtain ⟨a, ha⟩ := F_dec kd k h
  unfold isN; rw [ha]; rfl
theorem F_cn (kd : FloatKind) (k : Int) (h : k.natAbs < 16777216) : cn kd (Fk kd k) = Fk kd k := cn_of_not (F_isN kd k h)
theorem F_cmp (kd : FloatKind) (op : BinOp) (a b : Int) (ha : a.natAbs < 16777216) (hb : b.natAbs < 16777216) :
    fcmp op kd (Fk kd a) (Fk kd b) = match op with | .eql => decide (a = b) | .neq => decide (a ≠ b) | .lss => decide (a < b) | .leq => decide (a ≤ b) | .gtr => decide (b < a) | .geq => decide (b ≤ a) | _ => false := by
  have ho := F_order kd a b ha hb
  unfold fcmp
  rw [ho]
  rcases Int.lt_trichotomy a b with h | h | h
  · have hc : compare a b = .lt := by unfold compare instOrdInt; dsimp only; unfold compareOfLessAndEq; rw [if_pos h]
    rw [hc]
    have h1 : ¬ a = b := by omega
    have h2 : ¬ b < a := by omega
    have h3 : ¬ b ≤ a := by omega
    have h4 : a ≤ b := by omega
    cases op <;> simp [h, h1, h2, h3, h4] <;> decide
  · subst h
    have hc : compare a a = .eq := by unfold compare instOrdInt; dsimp only; unfold compareOfLessAndEq; rw [if_neg (by omega), if_pos rfl]
    rw [hc]
    cases op <;> simp <;> decide
  · have h0 : ¬ a < b := by omega
    have h1 : ¬ a = b := by omega
    have hc : compare a b = .gt := by unfold compare instOrdInt; dsimp only; unfold compareOfLessAndEq; rw [if_neg h0, if_neg h1]
    rw [hc]
    have h3 : ¬ a ≤ b := by omega
    have h4 : b ≤ a := by omega
    cases op <;> simp [h, h0, h1, h3, h4] <;> decide
/-- a product; where it is nothing it may have a sign -/
def mulF (d s : Int) : Nat := (floatBits .mul .f32 (F d) (F s)).getD 0
theorem F_mul (a d s q : Int) (hq : d * s = 1024 * q) (ha : a.natAbs < 16777216) (hd : d.natAbs < 16777216) (hs : s.natAbs < 16777216) (hqb : q.natAbs < 16777216) (haq : (a + q).natAbs < 16777216) :
    floatBits .mul .f32 (F d) (F s) = some (mulF d s) ∧ floatBits .add .f32 (F a) (mulF d s) = some (F (a + q)) := by
  obtain ⟨u, hu⟩ := F_dec .f32 d hd
  obtain ⟨v, hv⟩ := F_dec .f32 s hs
  have hm : floatBits .mul .f32 (F d) (F s) = some (Ieee.single.nearest (decide (d < 0) ^^ decide (s < 0)) (q.natAbs <<< (10 + u + v)) (-10 - ((10 + u + v : Nat) : Int))) := by
    unfold floatBits Format.mul
    rw [show FloatKind.f32.format.read (F d) = _ from hu, show FloatKind.f32.format.read (F s) = _ from hv]
    simp only [Datum.product, Option.map_some]
    have e1 : (d.natAbs <<< u) * (s.natAbs <<< v) = q.natAbs <<< (10 + u + v) := by
      have h1 : d.natAbs * s.natAbs = 1024 * q.natAbs := by rw [← Int.natAbs_mul, hq, Int.natAbs_mul]; rfl
      rw [Nat.shiftLeft_eq, Nat.shiftLeft_eq, Nat.shiftLeft_eq, Nat.pow_add, Nat.pow_add, show (2 : Nat) ^ 10 = 1024 from rfl]
      rw [Nat.mul_mul_mul_comm, h1, Nat.mul_comm 1024, Nat.mul_assoc, Nat.mul_assoc 1024]
    rw [e1, show -10 - (u : Int) + (-10 - (v : Int)) = -10 - ((10 + u + v : Nat) : Int) by omega]
    rfl
  have hmf : mulF d s = Ieee.single.nearest (decide (d < 0) ^^ decide (s < 0)) (q.natAbs <<< (10 + u + v)) (-10 - ((10 + u + v : Nat) : Int)) := by
    unfold mulF; rw [hm]; rfl
  refine ⟨by rw [hm, hmf], ?_⟩
  by_cases h0 : q = 0
  · subst h0
    have hz : mulF d s = Ieee.single.word (decide (d < 0) ^^ decide (s < 0)) 0 := by
      rw [hmf]
      unfold Format.nearest
      rw [if_pos (by rw [Nat.shiftLeft_eq]; simp)]
    have hr : ∀ b : Bool, FloatKind.f32.format.read (Ieee.single.word b 0) = .number b 0 (-149) := by decide
    obtain ⟨w, hw⟩ := F_dec .f32 a ha
    rw [hz]
    generalize (decide (d < 0) ^^ decide (s < 0)) = b at *
    unfold floatBits Format.add
    rw [show FloatKind.f32.format.read (F a) = _ from hw, hr]
    simp only [Datum.sum, Option.map_some]
    obtain ⟨W, hW⟩ : ∃ W : Nat, W = max w 139 := ⟨_, rfl⟩
    have hbase : min (-10 - (w : Int)) (-149) = -10 - (W : Int) := by omega
    have hs0 : ∀ n : Nat, signed b 0 n = 0 := fun n => by
      unfold signed
      rw [Nat.shiftLeft_eq, Nat.zero_mul]
      cases b <;> rfl
    rw [hbase, signed_F a w W (by omega) _ (by omega), hs0, Int.add_zero]
    congr 1
    rw [Int.add_zero]
    exact write_F .f32 a ha W _ (fun h => by rw [h]; simp)
  · have hsg : (decide (d < 0) ^^ decide (s < 0)) = decide (q < 0) := by
      have hd0 : d ≠ 0 := fun h => h0 (by rw [h, Int.zero_mul] at hq; omega)
      have hs0 : s ≠ 0 := fun h => h0 (by rw [h, Int.mul_zero] at hq; omega)
      by_cases h1 : d < 0
      · by_cases h2 : s < 0
        · have := Int.mul_pos_of_neg_of_neg h1 h2
          rw [decide_eq_true h1, decide_eq_true h2, decide_eq_false (by omega)]; rfl
        · have := Int.mul_neg_of_neg_of_pos h1 (show 0 < s by omega)
          rw [decide_eq_true h1, decide_eq_false h2, decide_eq_true (by omega)]; rfl
      · by_cases h2 : s < 0
        · have := Int.mul_neg_of_pos_of_neg (show 0 < d by omega) h2
          rw [decide_eq_false h1, decide_eq_true h2, decide_eq_true (by omega)]; rfl
        · have := Int.mul_pos (show 0 < d by omega) (show 0 < s by omega)
          rw [decide_eq_false h1, decide_eq_false h2, decide_eq_false (by omega)]; rfl
    have hF : mulF d s = F q := by
      rw [hmf, hsg]
      exact nearest_small .f32 (m := q.natAbs) (p := -10) (by omega) hqb (by omega) (10 + u + v)
    rw [hF]
    exact F_add .f32 a q ha hqb haq
/-! found by looking -/
/-- the half of a node at a depth -/
def hP (d w : Nat) : Int := ((2 ^ (7 - d) * w : Nat) : Int)
def c001 : Nat := 4562254508917369340
theorem half_all : (List.range 6).all (fun d => (List.range 33).all (fun w => floatBits .quo .f32 (F (hP d w)) 1073741824 == some (F (hP (d + 1) w)))) = true := by kernel_rfl
theorem neg_all : (List.range 7).all (fun d => (List.range 32).all (fun w => Op.negFloat .f32 (F (hP d (w + 1))) == F (-(hP d (w + 1))))) = true := by kernel_rfl
theorem root_all : (List.range 33).all (fun w => floatBits .quo .f32 (F (256 * (w : Int))) 1073741824 == some (F (hP 0 w))) = true := by kernel_rfl
theorem mid_all : (List.range 65).all (fun i => floatBits .quo .f32 (F (256 * ((i : Int) - 32))) 1073741824 == some (F (128 * ((i : Int) - 32)))) = true := by kernel_rfl
theorem quarter_all : (List.range 33).all (fun i => floatBits .quo .f32 (floatOfInt .f32 ((i : Int) - 16)) 1082130432 == some (F (256 * ((i : Int) - 16)))) = true := by kernel_rfl
theorem spin_all : (List.range 9).all (fun i => floatBits .quo .f32 (floatOfInt .f32 ((i : Int) - 4)) 1073741824 == some (F (512 * ((i : Int) - 4)))) = true := by kernel_rfl
/-- a node's half and a thousandth, in 64 bits -/
def slackP (d w : Nat) : Nat := (floatBits .add .f64 (G (hP d w)) c001).getD 0
theorem slack_all : (List.range 7).all (fun d => (List.range 33).all (fun w => floatBits .add .f64 (G (hP d w)) c001 == some (slackP d w) && (FloatKind.f64.format.order (G (hP d w)) (slackP d w) == some .lt))) = true := by kernel_rfl
theorem F_half {d w : Nat} (hd : d < 6) (hw : w < 33) : floatBits .quo .f32 (F (hP d w)) 1073741824 = some (F (hP (d + 1) w)) := by
  have h := List.all_eq_true.1 (List.all_eq_true.1 half_all d (List.mem_range.2 hd)) w (List.mem_range.2 hw)
  exact eq_of_beq h
theorem F_neg {d w : Nat} (hd : d < 7) (hw : w < 33) (h0 : w ≠ 0) : Op.negFloat .f32 (F (hP d w)) = F (-(hP d w)) := by
  obtain ⟨v, rfl⟩ : ∃ v, w = v + 1 := ⟨w - 1, by omega⟩
  have h := List.all_eq_true.1 (List.all_eq_true.1 neg_all d (List.mem_range.2 hd)) v (List.mem_range.2 (by omega))
  exact eq_of_beq h
theorem F_root {w : Nat} (hw : w < 33) : floatBits .quo .f32 (F (256 * (w : Int))) 1073741824 = some (F (hP 0 w)) := eq_of_beq (List.all_eq_true.1 root_all w (List.mem_range.2 hw))
theorem F_mid {s : Int} (h1 : -32 ≤ s) (h2 : s ≤ 32) : floatBits .quo .f32 (F (256 * s)) 1073741824 = some (F (128 * s)) := by
  have h := List.all_eq_true.1 mid_all (s + 32).toNat (List.mem_range.2 (by omega))
  rw [show (((s + 32).toNat : Nat) : Int) - 32 = s by omega] at h
  exact eq_of_beq h
theorem F_quarter {s : Int} (h1 : -16 ≤ s) (h2 : s ≤ 16) : floatBits .quo .f32 (floatOfInt .f32 s) 1082130432 = some (F (256 * s)) := by
  have h := List.all_eq_true.1 quarter_all (s + 16).toNat (List.mem_range.2 (by omega))
  rw [show (((s + 16).toNat : Nat) : Int) - 16 = s by omega] at h
  exact eq_of_beq h
theorem F_spin {s : Int} (h1 : -4 ≤ s) (h2 : s ≤ 4) : floatBits .quo .f32 (floatOfInt .f32 s) 1073741824 = some (F (512 * s)) := by
  have h := List.all_eq_true.1 spin_all (s + 4).toNat (List.mem_range.2 (by omega))
  rw [show (((s + 4).toNat : Nat) : Int) - 4 = s by omega] at h
  exact eq_of_beq h
theorem signed_scale (s : Bool) (m a b : Nat) : signed s m (a + b) = signed s m a * ((2 ^ b : Nat) : Int) := by
  unfold signed
  rw [Nat.shiftLeft_eq, Nat.shiftLeft_eq, Nat.pow_add, ← Nat.mul_assoc]
  cases s
  · rw [if_neg (by decide), if_neg (by decide), Int.natCast_mul]
  · rw [if_pos rfl, if_pos rfl, Int.natCast_mul, Int.neg_mul]
theorem cmp_scale (a b c : Int) (hc : 0 < c) : compare (a * c) (b * c) = compare a b := by
  unfold compare instOrdInt
  dsimp only
  unfold compareOfLessAndEq
  by_cases h1 : a < b
  · rw [if_pos h1, if_pos (Int.mul_lt_mul_of_pos_right h1 hc)]
  · have h2 : ¬ a * c < b * c := fun h => h1 (Int.lt_of_mul_lt_mul_right h (by omega))
    rw [if_neg h1, if_neg h2]
    by_cases h3 : a = b
    · subst h3; rw [if_pos rfl, if_pos rfl]
    · rw [if_neg h3, if_neg (fun h => h3 (Int.eq_of_mul_eq_mul_right (by omega) h))]
theorem order_scale (s t : Bool) (m n : Nat) (i j B : Int) (hB : B ≤ min i j) : (Datum.number s m i).order (.number t n j) = some (compare (signed s m (i - B).toNat) (signed t n (j - B).toNat)) := by
  simp only [Datum.order]
  congr 1
  obtain ⟨e, he⟩ : ∃ e : Nat, min i j - B = (e : Int) := ⟨(min i j - B).toNat, by omega⟩
  rw [show (i - B).toNat = (i - min i j).toNat + e by omega, show (j - B).toNat = (j - min i j).toNat + e by omega, signed_scale, signed_scale]
  exact (cmp_scale _ _ _ (by have := Nat.two_pow_pos e; omega)).symm
/-- at most a node's half is not above its half and a thousandth -/
theorem slack_gtr {d w : Nat} {a : Int} (hd : d < 7) (hw : w < 33) (h0 : 0 ≤ a) (ha : a ≤ hP d w) (hb : (hP d w).natAbs < 16777216) :
    floatBits .add .f64 (G (hP d w)) c001 = some (slackP d w) ∧ fcmp .gtr .f64 (G a) (slackP d w) = false := by
  have h := List.all_eq_true.1 (List.all_eq_true.1 slack_all d (List.mem_range.2 hd)) w (List.mem_range.2 hw)
  rw [Bool.and_eq_true] at h
  refine ⟨eq_of_beq h.1, ?_⟩
  have ho := eq_of_beq h.2
  have hle := F_order .f64 a (hP d w) (by omega) hb
  obtain ⟨u, hu⟩ := F_dec .f64 a (by omega)
  obtain ⟨v, hv⟩ := F_dec .f64 (hP d w) hb
  unfold Format.order at ho hle
  unfold fcmp Format.order
  rw [show FloatKind.f64.format.read (G (hP d w)) = _ from hv] at ho hle
  rw [show FloatKind.f64.format.read (G a) = _ from hu] at hle ⊢
  cases e : FloatKind.f64.format.read (slackP d w) with
  | nan s t => rw [e] at ho; cases ho
  | infinity s =>
    rw [e] at ho
    cases s
    · rfl
    · cases ho
  | number s m p =>
    rw [e] at ho
    obtain ⟨B, hB⟩ : ∃ B : Int, B = min (min (-10 - (u : Int)) (-10 - (v : Int))) p := ⟨_, rfl⟩
    rw [order_scale _ _ _ _ _ _ B (by omega)] at ho hle ⊢
    generalize signed (decide (a < 0)) (a.natAbs <<< u) (-10 - (u : Int) - B).toNat = x at *
    generalize signed (decide (hP d w < 0)) ((hP d w).natAbs <<< v) (-10 - (v : Int) - B).toNat = y at *
    generalize signed s m (p - B).toNat = z at *
    have hyz : y < z := by
      by_cases h1 : y < z
      · exact h1
      · exfalso
        unfold compare instOrdInt at ho
        dsimp only at ho
        unfold compareOfLessAndEq at ho
        rw [if_neg h1] at ho
        split at ho <;> cases ho
    have hxy : x ≤ y := by
      by_cases h1 : x ≤ y
      · exact h1
      · exfalso
        have h2 : compare x y = .gt := by unfold compare instOrdInt; dsimp only; unfold compareOfLessAndEq; rw [if_neg (by omega), if_neg (by omega)]
        rw [h2] at hle
        have h3 : compare a (hP d w) ≠ .gt := by
          unfold compare instOrdInt
          dsimp only
          unfold compareOfLessAndEq
          by_cases h4 : a < hP d w
          · rw [if_pos h4]; exact fun h => by cases h
          · rw [if_neg h4, if_pos (by omega)]; exact fun h => by cases h
        exact h3 (by injection hle with hle; exact hle.symm)
    have hxz : x < z := by omega
    have h5 : compare x z = .lt := by unfold compare instOrdInt; dsimp only; unfold compareOfLessAndEq; rw [if_pos hxz]
    rw [h5]
    rfl
/-- widening is exact -/
theorem F_wide (k : Int) (h : k.natAbs < 16777216) : fconv .f32 (F k) .f64 = G k := by
  obtain ⟨a, ha⟩ := F_dec .f32 k h
  by_cases h0 : k = 0
  · subst h0; decide
  · unfold fconv
    rw [if_neg (by decide), ha]
    dsimp only
    exact nearest_small .f64 (m := k.natAbs) (p := -10) (by omega) h (by omega) a
end Go.Proofs.Ytfehhbmmdbpdpaa
