/- Floats as rational numbers: comparisons, signs, conversions, roots. -/
import Derived.Test.YtfehhbmmdbpdpaaG03
import Derived.Test.YtfehhbmmdbpdpaaProg
import Derived.WalkKit
namespace Go.Proofs.Ytfehhbmmdbpdpaa
open Go Ieee
set_option linter.unusedSimpArgs false
set_option linter.unusedVariables false

/-! ## comparisons -/
theorem compare_int (I J : Int) : compare I J = if I < J then Ordering.lt else if I = J then .eq else .gt := by
  unfold compare instOrdInt
  dsimp only
  unfold compareOfLessAndEq
  rfl
theorem val_order {k : FloatKind} {x y : Nat} {a b : Rat} (hx : Val k x a) (hy : Val k y b) : k.format.order x y = some (if a < b then .lt else if a = b then .eq else .gt) := by
  obtain ⟨-, s, m, i, e1, ha⟩ := hx
  obtain ⟨-, t, n, j, e2, hb⟩ := hy
  unfold Format.order
  rw [show k.format.read x = _ from e1, show k.format.read y = _ from e2]
  simp only [Datum.order]
  have h1 := rat_base (s := s) (m := m) (Int.min_le_left i j)
  have h2 := rat_base (s := t) (m := n) (Int.min_le_right i j)
  rw [ha] at h1
  rw [hb] at h2
  generalize signed s m (i - min i j).toNat = I at *
  generalize signed t n (j - min i j).toNat = J at *
  have hp := pw_pos (min i j)
  congr 1
  rw [compare_int]
  by_cases hl : I < J
  · have hab : a < b := by rw [← h1, ← h2]; exact Rat.mul_lt_mul_of_pos_right (Rat.intCast_lt_intCast.2 hl) hp
    rw [if_pos hl, if_pos hab]
  · by_cases he : I = J
    · subst he
      have hab : a = b := h1.symm.trans h2
      rw [if_neg hl, if_pos rfl, if_neg (by grind), if_pos hab]
    · have hba : b < a := by rw [← h1, ← h2]; exact Rat.mul_lt_mul_of_pos_right (Rat.intCast_lt_intCast.2 (by omega)) hp
      rw [if_neg hl, if_neg he, if_neg (by grind), if_neg (by grind)]
theorem val_lss {k : FloatKind} {x y : Nat} {a b : Rat} (hx : Val k x a) (hy : Val k y b) : fcmp .lss k x y = decide (a < b) := by
  unfold fcmp
  simp only [val_order hx hy]
  by_cases h1 : a < b
  · simp [h1]
  · by_cases h2 : a = b
    · subst h2; simp [h1]
    · simp [h1, h2]
theorem val_gtr {k : FloatKind} {x y : Nat} {a b : Rat} (hx : Val k x a) (hy : Val k y b) : fcmp .gtr k x y = decide (b < a) := by
  unfold fcmp
  simp only [val_order hx hy]
  by_cases h1 : a < b
  · have h3 : ¬ b < a := by grind
    simp [h1, h3]
  · by_cases h2 : a = b
    · subst h2; simp [h1]
    · have h3 : b < a := by grind
      simp [h1, h2, h3]
theorem val_leq {k : FloatKind} {x y : Nat} {a b : Rat} (hx : Val k x a) (hy : Val k y b) : fcmp .leq k x y = decide (a ≤ b) := by
  unfold fcmp
  simp only [val_order hx hy]
  by_cases h1 : a < b
  · have h3 : a ≤ b := by grind
    simp [h1, h3]
  · by_cases h2 : a = b
    · subst h2; simp [h1]
    · have h3 : ¬ a ≤ b := by grind
      simp [h1, h2, h3]
theorem val_geq {k : FloatKind} {x y : Nat} {a b : Rat} (hx : Val k x a) (hy : Val k y b) : fcmp .geq k x y = decide (b ≤ a) := by
  unfold fcmp
  simp only [val_order hx hy]
  by_cases h1 : a < b
  · have h3 : ¬ b ≤ a := by grind
    simp [h1, h3]
  · by_cases h2 : a = b
    · subst h2; simp [h1]
    · have h3 : b ≤ a := by grind
      simp [h1, h2, h3]
theorem val_eql {k : FloatKind} {x y : Nat} {a b : Rat} (hx : Val k x a) (hy : Val k y b) : fcmp .eql k x y = decide (a = b) := by
  unfold fcmp
  simp only [val_order hx hy]
  by_cases h1 : a < b
  · have h3 : ¬ a = b := by grind
    simp [h1, h3]
  · by_cases h2 : a = b
    · subst h2; simp [h1]
    · simp [h1, h2]
theorem val_neq {k : FloatKind} {x y : Nat} {a b : Rat} (hx : Val k x a) (hy : Val k y b) : fcmp .neq k x y = decide (a ≠ b) := by
  unfold fcmp
  simp only [val_order hx hy]
  by_cases h1 : a < b
  · have h3 : ¬ a = b := by grind
    simp [h1, h3]
  · by_cases h2 : a = b
    · subst h2; simp [h1]
    · simp [h1, h2]
theorem Val.isN {k : FloatKind} {x : Nat} {a : Rat} (h : Val k x a) : Go.Proofs.Ytfehhbmmdbpdpaa.isN k x = false := by
  obtain ⟨-, s, m, p, e, -⟩ := h
  unfold Go.Proofs.Ytfehhbmmdbpdpaa.isN
  rw [e]; rfl
theorem Val.cn {k : FloatKind} {x : Nat} {a : Rat} (h : Val k x a) : Go.Proofs.Ytfehhbmmdbpdpaa.cn k x = x := cn_of_not h.isN
theorem Val.unique {k : FloatKind} {x : Nat} {a b : Rat} (h : Val k x a) (g : Val k x b) : a = b := by
  obtain ⟨-, s, m, p, e, rfl⟩ := h
  obtain ⟨-, t, n, q, e2, rfl⟩ := g
  rw [e] at e2
  injection e2 with h1 h2 h3
  subst h1 h2 h3
  rfl
/-! ## signs -/
theorem read_flip (f : Format) (x : Nat) {s : Bool} {m : Nat} {p : Int} (h : f.read x = .number s m p) : f.read (x ^^^ f.signWeight) = .number (!s) m p := by
  have hm : (x ^^^ f.signWeight) % f.signWeight = x % f.signWeight := by
    unfold Format.signWeight
    rw [Nat.xor_mod_two_pow, Nat.mod_self, Nat.xor_zero]
  have hd : ((x ^^^ f.signWeight) / f.signWeight % 2 == 1) = !(x / f.signWeight % 2 == 1) := by
    unfold Format.signWeight
    rw [Nat.xor_div_two_pow, Nat.div_self (Nat.two_pow_pos _)]
    have h1 : ((x / 2 ^ (f.exponentBits + f.fractionBits) ^^^ 1) % 2 = 1) ↔ ¬((x / 2 ^ (f.exponentBits + f.fractionBits)) % 2 = 1 ↔ 1 % 2 = 1) := Nat.xor_mod_two_eq_one
    generalize x / 2 ^ (f.exponentBits + f.fractionBits) = y at *
    by_cases hy : y % 2 = 1
    · have : ¬ (y ^^^ 1) % 2 = 1 := by rw [h1]; simp [hy]
      simp [hy, this]
    · have : (y ^^^ 1) % 2 = 1 := by rw [h1]; simp [hy]
      simp [hy, this]
  unfold Format.read at h ⊢
  dsimp only at h ⊢
  rw [hm, hd]
  generalize (x / f.signWeight % 2 == 1) = neg at *
  by_cases h1 : x % f.signWeight < f.binade
  · rw [if_pos h1] at h ⊢
    injection h with e1 e2 e3
    subst e1 e2 e3
    rfl
  · rw [if_neg h1] at h ⊢
    by_cases h2 : x % f.signWeight < f.infRung
    · rw [if_pos h2] at h ⊢
      injection h with e1 e2 e3
      subst e1 e2 e3
      rfl
    · rw [if_neg h2] at h
      by_cases h3 : x % f.signWeight = f.infRung
      · rw [if_pos h3] at h; cases h
      · rw [if_neg h3] at h; cases h
theorem val_neg {k : FloatKind} {x : Nat} {a : Rat} (h : Val k x a) : Val k (Op.negFloat k x) (-a) := by
  obtain ⟨hl, s, m, p, e, rfl⟩ := h
  refine ⟨?_, !s, m, p, read_flip k.format x e, val_neg_datum s m p⟩
  unfold Op.negFloat
  cases k
  · exact Nat.xor_lt_two_pow (n := 32) hl (by decide)
  · exact Nat.xor_lt_two_pow (n := 64) hl (by decide)
/-- a number without its sign -/
theorem val_abs {x : Nat} {a : Rat} (h : Val .f32 x a) : Val .f32 (x % 2147483648) a.abs := by
  obtain ⟨hl, s, m, p, e, rfl⟩ := h
  have hsw : Ieee.single.signWeight = 2147483648 := by decide
  refine ⟨by show _ < 4294967296; omega, false, m, p, ?_, ?_⟩
  · have h0 : Ieee.single.read x = .number s m p := e
    show Ieee.single.read (x % 2147483648) = _
    unfold Format.read at h0 ⊢
    dsimp only at h0 ⊢
    rw [hsw] at h0 ⊢
    have h1 : (x % 2147483648 / 2147483648 % 2 == 1) = false := by
      have : x % 2147483648 / 2147483648 = 0 := by omega
      rw [this]; rfl
    rw [h1, Nat.mod_mod]
    generalize (x / 2147483648 % 2 == 1) = neg at *
    by_cases h1 : x % 2147483648 < Ieee.single.binade
    · rw [if_pos h1] at h0 ⊢
      injection h0 with e1 e2 e3
      subst e1 e2 e3
      rfl
    · rw [if_neg h1] at h0 ⊢
      by_cases h2 : x % 2147483648 < Ieee.single.infRung
      · rw [if_pos h2] at h0 ⊢
        injection h0 with e1 e2 e3
        subst e1 e2 e3
        rfl
      · rw [if_neg h2] at h0
        by_cases h3 : x % 2147483648 = Ieee.single.infRung
        · rw [if_pos h3] at h0; cases h0
        · rw [if_neg h3] at h0; cases h0
  · rw [rat_abs]
    rfl
/-! ## conversions -/
theorem write_exact (k : FloatKind) (s : Bool) (m : Nat) (p : Int) (hm : m < 8388608) (hlo : k.format.leastPlace ≤ p) (hhi : p ≤ 100) : Val k (k.format.nearest s m p) (rat s m p) := by
  by_cases h0 : m = 0
  · subst h0
    refine ⟨nearest_lim k s 0 p, s, 0, k.format.leastPlace, ?_, ?_⟩
    · unfold FloatKind.decode Format.nearest
      rw [if_pos rfl]
      cases k <;> cases s <;> decide
    · unfold rat sgnM
      cases s <;> simp only [Bool.false_eq_true, if_false, if_true] <;> grind
  · obtain ⟨k1, k2, k3⟩ := kind_top k
    have hl : m.log2 ≤ 22 := by
      have a := Nat.log2_self_le h0
      have e : (2 : Nat) ^ 23 = 8388608 := by decide
      have := (Nat.pow_lt_pow_iff_right (show 1 < 2 by decide)).1 (Nat.lt_of_le_of_lt a (show m < 2 ^ 23 by rw [e]; exact hm))
      omega
    have hml : mle m p (p + m.log2 + 1) := .inr ⟨by omega, by
      rw [show (p + (m.log2 : Int) + 1 - p).toNat = m.log2 + 1 by omega]
      exact Nat.le_of_lt Nat.lt_log2_self⟩
    obtain ⟨m2, p2, last, kept, hr, hla, hk, he⟩ := kept_far k.format k1 s m p _ hml (by omega) (by omega) h0
    have hfe := frac_eps k
    have hlp : last ≤ p := by cases k <;> simp only [eps] at hfe <;> omega
    rw [show (last - p).toNat = 0 by omega, cut0] at hk
    refine ⟨nearest_lim k s m p, s, m2, p2, hr, ?_⟩
    have : (m2 : Rat) * pw p2 = (m : Rat) * pw p := by
      rw [he, ← hk, pw_up hlp, Nat.shiftLeft_eq, Rat.natCast_mul]
      grind
    unfold rat sgnM
    cases s
    · exact this
    · simp only [if_true]
      grind
theorem val_int (k : FloatKind) (n : Int) (h : n.natAbs < 8388608) : Val k (floatOfInt k n) (n : Rat) := by
  obtain ⟨k1, k2, k3⟩ := kind_top k
  have := write_exact k (decide (n < 0)) n.natAbs 0 h (by omega) (by omega)
  have e : rat (decide (n < 0)) n.natAbs 0 = (n : Rat) := by
    unfold rat
    rw [pw_zero, Rat.mul_one]
    have := sgnM_int false n
    by_cases h0 : n = 0
    · subst h0; rfl
    · rwa [if_neg h0] at this
  rw [e] at this
  exact this
theorem f32_small {x : Nat} {s : Bool} {m : Nat} {p : Int} (h : FloatKind.f32.decode x = .number s m p) : m < 16777216 ∧ -149 ≤ p ∧ p ≤ 104 := by
  have h1 : Ieee.single.read x = .number s m p := h
  obtain ⟨a, b, -⟩ := read_mle Ieee.single x h1
  rw [sgl_lp] at a
  rw [sgl_bin] at b
  refine ⟨by omega, a, ?_⟩
  unfold Format.read at h1
  dsimp only at h1
  rw [sgl_bin, sgl_inf, sgl_lp] at h1
  by_cases c1 : x % Ieee.single.signWeight < 8388608
  · rw [if_pos c1] at h1
    injection h1 with _ _ e3
    omega
  · rw [if_neg c1] at h1
    by_cases c2 : x % Ieee.single.signWeight < 2139095040
    · rw [if_pos c2] at h1
      injection h1 with _ _ e3
      omega
    · rw [if_neg c2] at h1
      by_cases c3 : x % Ieee.single.signWeight = 2139095040
      · rw [if_pos c3] at h1; cases h1
      · rw [if_neg c3] at h1; cases h1
/-- a float32 as a float64: the same number -/
theorem val_wide {x : Nat} {a : Rat} (h : Val .f32 x a) : ∃ r, Val .f64 r a ∧ ∀ w, (convert 34 52 (.float .f32 x)).run Try.prog w = .ok (.float .f64 r) w := by
  obtain ⟨hl, s, m, p, e, rfl⟩ := h
  obtain ⟨b1, b2, b3⟩ := f32_small e
  have hv : Val .f64 (Ieee.double.nearest s m p) (rat s m p) := by
    by_cases h0 : m < 8388608
    · exact write_exact .f64 s m p h0 (by show -1074 ≤ p; omega) (by
        by_cases h1 : p ≤ 100
        · exact h1
        · exfalso
          -- a float32 with such a place is normal
          have h2 : Ieee.single.read x = .number s m p := e
          unfold Format.read at h2
          dsimp only at h2
          rw [sgl_bin, sgl_inf, sgl_lp] at h2
          by_cases c1 : x % Ieee.single.signWeight < 8388608
          · rw [if_pos c1] at h2
            injection h2 with _ _ e3
            omega
          · rw [if_neg c1] at h2
            by_cases c2 : x % Ieee.single.signWeight < 2139095040
            · rw [if_pos c2] at h2
              injection h2 with _ e2 _
              omega
            · rw [if_neg c2] at h2
              by_cases c3 : x % Ieee.single.signWeight = 2139095040
              · rw [if_pos c3] at h2; cases h2
              · rw [if_neg c3] at h2; cases h2)
    · have hm0 : m ≠ 0 := by omega
      have hl := log2_24 hm0 b1
      have hr := read_norm64 s m p hm0 b1 (by omega) (by omega)
      refine ⟨nearest_lim .f64 s m p, s, _, _, hr, ?_⟩
      have := rat_shift s m (52 - m.log2) p
      rw [← Nat.shiftLeft_eq] at this
      rw [← this]
      congr 1
      omega
  refine ⟨_, hv, fun w => ?_⟩
  have hu : Try.prog.underlying 34 = some (.float .f32) := by kernel_rfl
  have hd : Try.prog.underlying 52 = some (.float .f64) := by kernel_rfl
  have hc : (convert 34 52 (.float .f32 x)).run Try.prog w = (Conv.floatToFloat .f32 x .f64).run Try.prog w := by
    simp [convert, run_underlying hu, run_underlying hd]
  rw [hc]
  obtain ⟨-, s', m', p', e2, -⟩ := hv
  have ho : (FloatKind.f64.decode (FloatKind.f64.encode (.number s m p))).isInfinity = false := by
    show (FloatKind.f64.decode (Ieee.double.nearest s m p)).isInfinity = false
    rw [e2]; rfl
  simp [Conv.floatToFloat, e, ho]
  rfl
/-- a float64 made a float32 -/
theorem val_narrow {x : Nat} {a : Rat} (h : Val .f64 x a) (E : Int) (hE : a.abs ≤ pw E) (hlo : -90 ≤ E) (hhi : E ≤ 126) :
    ∃ r u, Val .f32 r u ∧ (u - a).abs ≤ pw (E - 24) ∧ u.abs ≤ pw E ∧ ∀ w, (convert 52 34 (.float .f64 x)).run Try.prog w = .ok (.float .f32 r) w := by
  obtain ⟨hl, s, m, p, e, rfl⟩ := h
  obtain ⟨u, h1, h2, h3⟩ := datum_val .f32 (z := s) (M := m) (p := p) rfl E hE hlo (by omega)
  refine ⟨_, u, h1, h2, h3, fun w => ?_⟩
  have hd : Try.prog.underlying 34 = some (.float .f32) := by kernel_rfl
  have hu : Try.prog.underlying 52 = some (.float .f64) := by kernel_rfl
  have hc : (convert 52 34 (.float .f64 x)).run Try.prog w = (Conv.floatToFloat .f64 x .f32).run Try.prog w := by
    simp [convert, run_underlying hu, run_underlying hd]
  rw [hc]
  obtain ⟨-, s', m', p', e2, -⟩ := h1
  have ho : (FloatKind.f32.decode (FloatKind.f32.encode (.number s m p))).isInfinity = false := by
    show (FloatKind.f32.decode (FloatKind.f32.format.write (.number s m p))).isInfinity = false
    rw [e2]; rfl
  simp [Conv.floatToFloat, e, ho]
  rfl
end Go.Proofs.Ytfehhbmmdbpdpaa
/- Floats as rational numbers: square roots. -/
namespace Go.Proofs.Ytfehhbmmdbpdpaa
open Go Ieee
set_option linter.unusedSimpArgs false
set_option linter.unusedVariables false

theorem root_bounds (n : Nat) : ∀ todo root : Nat, root * root ≤ n → n < (root + 2 ^ todo) * (root + 2 ^ todo) → Datum.rootFrom n todo root * Datum.rootFrom n todo root ≤ n ∧ n < (Datum.rootFrom n todo root + 1) * (Datum.rootFrom n todo root + 1)
  | 0, root, h1, h2 => by
    unfold Datum.rootFrom
    exact ⟨h1, by simpa using h2⟩
  | todo + 1, root, h1, h2 => by
    unfold Datum.rootFrom
    dsimp only
    rw [Nat.shiftLeft_eq, Nat.one_mul]
    by_cases hc : (root + 2 ^ todo) * (root + 2 ^ todo) ≤ n
    · rw [if_pos hc]
      refine root_bounds n todo (root + 2 ^ todo) hc ?_
      rw [Nat.pow_succ] at h2
      rw [show root + 2 ^ todo + 2 ^ todo = root + 2 ^ todo * 2 by omega]
      exact h2
    · rw [if_neg hc]
      exact root_bounds n todo root h1 (by omega)
theorem abs_sq_near {u d L : Rat} (hu : 0 ≤ u) (hd : 0 ≤ d) (h : (u - d).abs ≤ L) : (u * u - d * d).abs ≤ L * (u + d) := by
  have e : u * u - d * d = (u - d) * (u + d) := by grind
  have hs : 0 ≤ u + d := by grind
  rw [e, abs_mul, Rat.abs_of_nonneg hs]
  exact Rat.mul_le_mul_of_nonneg_right h hs
theorem sq_le {d e : Rat} (hd : 0 ≤ d) (he : 0 ≤ e) (h : d * d ≤ e * e) : d ≤ e := by
  by_cases hc : d ≤ e
  · exact hc
  · exfalso
    have h1 : e < d := by grind
    have h2 := Rat.mul_le_mul_of_nonneg_left (Rat.le_of_lt h1) he
    have h3 := Rat.mul_lt_mul_of_pos_right h1 (show 0 < d by grind)
    grind
theorem nat_sq_cast (a : Nat) : ((a * a : Nat) : Rat) = (a : Rat) * (a : Rat) := Rat.natCast_mul a a
theorem root_digit (n W st D : Nat) (h1 : W * W ≤ n) (h2 : n < (W + 1) * (W + 1)) (hst : st = (W * W != n).toNat) (hD : D = 2 * W + st) : D * D ≤ 4 * n + 2 * D ∧ 4 * n ≤ D * D + 2 * D := by
  have e1 : (W + 1) * (W + 1) = W * W + 2 * W + 1 := by rw [Nat.add_mul, Nat.mul_add]; omega
  rw [e1] at h2
  by_cases h : W * W = n
  · have : st = 0 := by rw [hst, h]; simp
    subst this
    have e2 : D * D = 4 * (W * W) := by rw [hD, Nat.add_zero]; rw [Nat.mul_mul_mul_comm]
    rw [e2]
    omega
  · have : st = 1 := by
      rw [hst]
      have : (W * W != n) = true := by simpa using h
      rw [this]; rfl
    subst this
    have e2 : D * D = 4 * (W * W) + 4 * W + 1 := by
      rw [hD, Nat.add_mul, Nat.mul_add, Nat.mul_mul_mul_comm]
      omega
    rw [e2]
    omega
theorem pw_mul2 (E : Int) : pw (2 * E) = pw E * pw E := by rw [← pw_add]; congr 1; omega
theorem pw_succ (E : Int) : pw (E + 1) = 2 * pw E := by rw [pw_add, show pw 1 = 2 from Rat.zpow_one _]; grind
theorem read_nonneg {k : FloatKind} {r : Nat} {u : Rat} {m : Nat} {p E : Int} (hr : r = k.format.nearest false m p) (h : Val k r u) (hm : mle m p E) (hlo : -90 ≤ E) (hhi : E ≤ 127) : 0 ≤ u := by
  obtain ⟨k1, k2, k3⟩ := kind_top k
  obtain ⟨-, s, m1, p1, e, rfl⟩ := h
  obtain ⟨m2, p2, hr2, -⟩ := nearest_mle k.format k1 false m p E hm (by omega) (by omega)
  rw [hr] at e
  have e' : k.format.read (k.format.nearest false m p) = .number s m1 p1 := e
  rw [hr2] at e'
  injection e' with h1 h2 h3
  subst h1 h2 h3
  unfold rat sgnM
  exact Rat.mul_nonneg Rat.natCast_nonneg (Rat.le_of_lt (pw_pos _))
/-- a root is near -/
theorem val_sqrt {x : Nat} {a : Rat} (hx : Val .f64 x a) (h0 : 0 ≤ a) (E : Int) (h : a ≤ pw (2 * E)) (hlo : -40 ≤ E) (hhi : E ≤ 50) :
    ∃ r u, FloatKind.f64.format.sqrt x = some r ∧ Val .f64 r u ∧ 0 ≤ u ∧ (u * u - a).abs ≤ pw (2 * E - 48) := by
  obtain ⟨-, s, m, i, e1, ha⟩ := hx
  by_cases hm : m = 0
  · subst hm
    have ha0 : a = 0 := by rw [← ha]; unfold rat sgnM; cases s <;> simp only [Bool.false_eq_true, if_false, if_true] <;> grind
    have hv := write_exact .f64 s 0 0 (by decide) (by decide) (by decide)
    have hz : rat s 0 0 = 0 := by unfold rat sgnM; cases s <;> simp only [Bool.false_eq_true, if_false, if_true] <;> grind
    rw [hz] at hv
    refine ⟨_, 0, ?_, hv, Rat.le_refl, ?_⟩
    · unfold Format.sqrt
      rw [show FloatKind.f64.format.read x = _ from e1]
      unfold Datum.root
      dsimp only
      rw [if_pos rfl]
      show some (Ieee.double.nearest s 0 i) = some (Ieee.double.nearest s 0 0)
      unfold Format.nearest
      rw [if_pos rfl, if_pos rfl]
    · rw [ha0, show (0 : Rat) * 0 - 0 = 0 by grind, Rat.abs_zero]
      exact Rat.le_of_lt (pw_pos _)
  · have hmp : (0 : Rat) < (m : Rat) := Rat.natCast_pos.2 (by omega)
    have hs : s = false := by
      cases s
      · rfl
      · exfalso
        unfold rat sgnM at ha
        simp only [if_true] at ha
        have := Rat.mul_pos hmp (pw_pos i)
        grind
    subst hs
    have hml : m < 9007199254740992 := by
      obtain ⟨-, b, -⟩ := read_mle Ieee.double x (show Ieee.double.read x = _ from e1)
      have : Ieee.double.binade = 4503599627370496 := by decide
      omega
    have hlog : m.log2 ≤ 52 := by
      have a := Nat.log2_self_le hm
      have e : (2 : Nat) ^ 53 = 9007199254740992 := by decide
      have := (Nat.pow_lt_pow_iff_right (show 1 < 2 by decide)).1 (Nat.lt_of_le_of_lt a (show m < 2 ^ 53 by rw [e]; exact hml))
      omega
    -- the datum of the root
    obtain ⟨D, P, hroot, hDbig, hnear⟩ : ∃ (D : Nat) (P : Int), Datum.root (FloatKind.f64.format.fractionBits + 2) (.number false m i) = some (.number false D P) ∧ 2 ^ 55 ≤ D ∧ ((D : Rat) * pw P * ((D : Rat) * pw P) - a).abs ≤ 2 * (D : Rat) * (pw P * pw P) := by
      refine ⟨_, _, by unfold Datum.root; dsimp only; rw [if_neg hm, if_neg (by decide)], ?_, ?_⟩
      all_goals
        rw [show FloatKind.f64.format.fractionBits + 2 = 54 from rfl]
        generalize hmore : 2 * 54 - m.log2 + ((i - ((2 * 54 - m.log2 : Nat) : Int)) % 2).toNat = more
        have hev : (i - (more : Int)) % 2 = 0 := by omega
        have hmo : 108 ≤ m.log2 + more := by omega
        have hln := log2_shl (k := more) hm
        have hne : m <<< more ≠ 0 := by rw [Nat.shiftLeft_eq]; exact Nat.mul_ne_zero hm (Nat.ne_of_gt (Nat.two_pow_pos _))
        have hn1 := Nat.log2_self_le hne
        have hn2 : m <<< more < 2 ^ ((m <<< more).log2 + 1) := Nat.lt_log2_self
        have hnn : m <<< more = m * 2 ^ more := Nat.shiftLeft_eq _ _
        generalize m <<< more = n at *
        have hb := root_bounds n (n.log2 / 2 + 1) 0 (by omega) (by
          rw [Nat.zero_add, ← Nat.pow_add]
          exact Nat.lt_of_lt_of_le hn2 (Nat.pow_le_pow_right (by decide) (by omega)))
        generalize Datum.rootFrom n (n.log2 / 2 + 1) 0 = W at *
        obtain ⟨w1, w2⟩ := hb
        obtain ⟨g1, g2⟩ := root_digit n W _ _ w1 w2 rfl rfl
      · have h108 : 2 ^ 108 ≤ n := Nat.le_trans (Nat.pow_le_pow_right (by decide) (by omega)) hn1
        have hW : 2 ^ 54 ≤ W := by
          by_cases hc : 2 ^ 54 ≤ W
          · exact hc
          · exfalso
            have h3 : W + 1 ≤ 2 ^ 54 := by omega
            have h4 : (W + 1) * (W + 1) ≤ 2 ^ 54 * 2 ^ 54 := Nat.mul_le_mul h3 h3
            rw [← Nat.pow_add] at h4
            omega
        have e55 : (2 : Nat) ^ 55 = 2 * 2 ^ 54 := by rw [Nat.pow_succ]
        omega
      · generalize 2 * W + (W * W != n).toNat = D at *
        have hP : pw ((i - (more : Int)) / 2 - 1) * pw ((i - (more : Int)) / 2 - 1) = pw (i - more - 2) := by
          rw [← pw_add]
          congr 1
          omega
        have ha4 : a = 4 * (n : Rat) * pw (i - more - 2) := by
          rw [← ha, ← rat_shift false m more i, show i - (more : Int) = (i - more - 2) + 1 + 1 by omega]
          unfold rat sgnM
          simp only [Bool.false_eq_true, if_false]
          rw [pw_succ, pw_succ, show i - (more : Int) - 2 + 1 + 1 - 2 = i - more - 2 by omega, hnn]
          grind
        have hq := Rat.le_of_lt (pw_pos (i - more - 2))
        have g1' : (D : Rat) * (D : Rat) ≤ 4 * (n : Rat) + 2 * (D : Rat) := by
          have : ((D * D : Nat) : Rat) ≤ ((4 * n + 2 * D : Nat) : Rat) := Rat.natCast_le_natCast.2 g1
          simpa only [Rat.natCast_add, Rat.natCast_mul, Rat.natCast_ofNat] using this
        have g2' : 4 * (n : Rat) ≤ (D : Rat) * (D : Rat) + 2 * (D : Rat) := by
          have : ((4 * n : Nat) : Rat) ≤ ((D * D + 2 * D : Nat) : Rat) := Rat.natCast_le_natCast.2 g2
          simpa only [Rat.natCast_add, Rat.natCast_mul, Rat.natCast_ofNat] using this
        have k1 := Rat.mul_le_mul_of_nonneg_right g1' hq
        have k2 := Rat.mul_le_mul_of_nonneg_right g2' hq
        have e : (D : Rat) * pw ((i - (more : Int)) / 2 - 1) * ((D : Rat) * pw ((i - (more : Int)) / 2 - 1)) = (D : Rat) * (D : Rat) * pw (i - more - 2) := by rw [← hP]; grind
        rw [e, hP, ha4]
        exact abs_le.2 ⟨by grind, by grind⟩
    have hd0 : (0 : Rat) ≤ (D : Rat) * pw P := Rat.mul_nonneg Rat.natCast_nonneg (Rat.le_of_lt (pw_pos P))
    have hDr : pw 55 ≤ (D : Rat) := by
      rw [show (55 : Int) = ((55 : Nat) : Int) from rfl, pw_nat]
      exact Rat.natCast_le_natCast.2 hDbig
    have hU : pw P * pw 55 ≤ (D : Rat) * pw P := by
      have := Rat.mul_le_mul_of_nonneg_left hDr (Rat.le_of_lt (pw_pos P))
      grind
    -- 2 D U U = 2 d U
    generalize hdd : (D : Rat) * pw P = d at *
    have hn1 : (d * d - a).abs ≤ 2 * d * pw P := by
      have e : 2 * (D : Rat) * (pw P * pw P) = 2 * d * pw P := by rw [← hdd]; grind
      rwa [e] at hnear
    have h55 : pw 55 * pw (-54) = 2 := by rw [← pw_add]; exact Rat.zpow_one _
    have hn2 : (d * d - a).abs ≤ d * d * pw (-54) := by
      have k1 : 2 * pw P ≤ d * pw (-54) := by
        have := Rat.mul_le_mul_of_nonneg_right hU (Rat.le_of_lt (pw_pos (-54)))
        rw [Rat.mul_assoc, h55] at this
        grind
      have k2 := Rat.mul_le_mul_of_nonneg_left k1 hd0
      have e : 2 * d * pw P = d * (2 * pw P) := by grind
      rw [e] at hn1
      have e2 : d * (d * pw (-54)) = d * d * pw (-54) := by grind
      rw [e2] at k2
      exact Rat.le_trans hn1 k2
    have hsm : pw (-54) ≤ 1 / 4 := by
      have := pw_mono (show (-54 : Int) ≤ -2 by decide)
      have e : pw (-2) = 1 / 4 := by decide +kernel
      rwa [e] at this
    have hdd0 : 0 ≤ d * d := Rat.mul_nonneg hd0 hd0
    have hd2 : d * d ≤ 2 * pw (2 * E) := by
      have k1 := Rat.mul_le_mul_of_nonneg_left hsm hdd0
      have := (abs_le.1 hn2).2
      grind
    have hE := pw_mul2 E
    have hpE := pw_pos E
    have hdE : d ≤ 2 * pw E := by
      refine sq_le hd0 (by grind) ?_
      rw [hE] at hd2
      have := Rat.mul_nonneg (Rat.le_of_lt hpE) (Rat.le_of_lt hpE)
      grind
    have hn3 : (d * d - a).abs ≤ pw (2 * E - 53) := by
      have k1 := Rat.mul_le_mul_of_nonneg_right hd2 (Rat.le_of_lt (pw_pos (-54)))
      have e : 2 * pw (2 * E) * pw (-54) = pw (2 * E - 53) := by
        rw [show 2 * E - 53 = (2 * E + -54) + 1 by omega, pw_succ, pw_add]
        grind
      rw [e] at k1
      exact Rat.le_trans hn2 k1
    have hdabs : d.abs ≤ pw (E + 1) := by
      rw [Rat.abs_of_nonneg hd0, pw_succ]
      exact hdE
    have hratd : rat false D P = d := by
      unfold rat sgnM
      simp only [Bool.false_eq_true, if_false]
      exact hdd
    obtain ⟨u, h1, h2, h3⟩ := datum_val .f64 hratd (E + 1) hdabs (by omega) (by omega)
    have hu0 : 0 ≤ u := read_nonneg (E := E + 1) rfl h1 (mle_rat.2 (by rw [hdd, ← Rat.abs_of_nonneg hd0]; exact hdabs)) (by omega) (by omega)
    refine ⟨_, u, ?_, h1, hu0, ?_⟩
    · unfold Format.sqrt
      rw [show FloatKind.f64.format.read x = _ from e1, hroot]
      rfl
    · have hq := abs_sq_near hu0 hd0 h2
      have hu2 : u ≤ 2 * pw E := by
        have := (abs_le.1 h3).2
        rwa [pw_succ] at this
      have k1 : pw (E + 1 - eps .f64) * (u + d) ≤ pw (E + 1 - eps .f64) * (4 * pw E) := Rat.mul_le_mul_of_nonneg_left (by grind) (Rat.le_of_lt (pw_pos _))
      have e2 : pw (E + 1 - eps .f64) * (4 * pw E) = pw (2 * E - 50) := by
        rw [show 2 * E - 50 = (E + 1 - eps .f64 + E) + 1 + 1 by simp only [eps]; omega, pw_succ, pw_succ, pw_add]
        grind
      rw [e2] at k1
      have e3 : pw (2 * E - 48) = 4 * pw (2 * E - 50) := by
        rw [show 2 * E - 48 = (2 * E - 50) + 1 + 1 by omega, pw_succ, pw_succ]
        grind
      have e4 : pw (2 * E - 50) = 8 * pw (2 * E - 53) := by
        rw [show 2 * E - 50 = (2 * E - 53) + 1 + 1 + 1 by omega, pw_succ, pw_succ, pw_succ]
        grind
      have := abs_add (u * u - d * d) (d * d - a)
      rw [show u * u - d * d + (d * d - a) = u * u - a by grind] at this
      have := pw_pos (2 * E - 53)
      rw [e3]
      grind
end Go.Proofs.Ytfehhbmmdbpdpaa
/- Elimination in floats: each operation is near. -/
namespace Go.Proofs.Ytfehhbmmdbpdpaa
open Go
set_option linter.unusedVariables false

theorem le_of_abs_mul {q p c : Rat} (hp : 0 < p) (h : (q * p).abs ≤ c * p) : q.abs ≤ c := by
  rw [abs_mul, Rat.abs_of_nonneg (Rat.le_of_lt hp)] at h
  exact Rat.le_of_mul_le_mul_right h hp
theorem step_quo {x y : Nat} {a p : Rat} (hx : Val .f32 x a) (hy : Val .f32 y p) (k : Nat) (hk : k < 4) (ha : a.abs ≤ growD k) (h1 : 40 - growD k ≤ p) (h2 : p ≤ 48) :
    ∃ f F, floatBits .quo .f32 x y = some f ∧ Val .f32 f F ∧ F.abs ≤ growF k ∧ (a - F * p).abs ≤ 1 / 131072 := by
  have hd := growD_le k
  have hp : 0 < p := by grind
  obtain ⟨-, -, g⟩ := grow_step k hk
  have hgf := growF_le k
  have hq : a / p * p = a := Rat.div_mul_cancel (Rat.ne_of_gt hp)
  have g0 : 0 ≤ growF k - 1 / 65536 := by
    by_cases hc : 0 ≤ growF k - 1 / 65536
    · exact hc
    · exfalso
      have := Rat.mul_le_mul_of_nonneg_right (show growF k - 1 / 65536 ≤ 0 by grind) (show 0 ≤ 40 - growD k by grind)
      grind
  have hqa : (a / p).abs ≤ growF k - 1 / 65536 := by
    refine le_of_abs_mul hp ?_
    rw [hq]
    have := Rat.mul_le_mul_of_nonneg_left h1 g0
    grind
  have e2 : pw (-2) = 1 / 4 := by decide +kernel
  obtain ⟨f, F, k1, k2, k3, -⟩ := val_quo hx hy (Rat.ne_of_gt hp) hq (-2) (by rw [e2]; grind) (by decide) (by decide)
  have e3 : pw (-2 + 2 - eps .f32) = 1 / 16777216 := by decide +kernel
  rw [e3] at k3
  refine ⟨f, F, k1, k2, ?_, ?_⟩
  · have q1 := abs_le.1 k3
    have q2 := abs_le.1 hqa
    exact abs_le.2 ⟨by grind, by grind⟩
  · have e4 : a - F * p = -((F - a / p) * p) := by grind
    rw [e4, Rat.abs_neg]
    have := mul_abs_le k3 (show p.abs ≤ 48 by rw [Rat.abs_of_nonneg (Rat.le_of_lt hp)]; exact h2)
    grind
theorem step_sub {x f y : Nat} {a F c : Rat} (hx : Val .f32 x a) (hf : Val .f32 f F) (hy : Val .f32 y c) (ha : a.abs ≤ 48) (hF : F.abs ≤ 1 / 4) (hc : c.abs ≤ 225 / 16) :
    ∃ p r R, floatBits .mul .f32 f y = some p ∧ floatBits .sub .f32 x p = some r ∧ Val .f32 r R ∧ (R - (a - F * c)).abs ≤ 1 / 131072 := by
  have h1 := mul_abs_le hF hc
  have e2 : pw 2 = 4 := by decide +kernel
  have e6 : pw 6 = 64 := by decide +kernel
  obtain ⟨p, P, k1, k2, k3, k4⟩ := val_mul hf hy 2 (by rw [e2]; grind) (by decide) (by decide)
  rw [e2] at k4
  have e3 : pw (2 - eps .f32) = 1 / 4194304 := by decide +kernel
  rw [e3] at k3
  have q1 := abs_le.1 k4
  have q2 := abs_le.1 ha
  obtain ⟨r, R, r1, r2, r3, -⟩ := val_sub hx k2 6 (by rw [e6]; exact abs_le.2 ⟨by grind, by grind⟩) (by decide) (by decide)
  have e4 : pw (6 - eps .f32) = 1 / 262144 := by decide +kernel
  rw [e4] at r3
  refine ⟨p, r, R, k1, r1, r2, ?_⟩
  have q3 := abs_le.1 k3
  have q4 := abs_le.1 r3
  exact abs_le.2 ⟨by grind, by grind⟩
theorem step_back {s m x : Nat} {S a X : Rat} (hs : Val .f32 s S) (hm : Val .f32 m a) (hx : Val .f32 x X) (hS : S.abs ≤ 28) (ha : a.abs ≤ 113 / 16) (hX : X.abs ≤ 1 / 2) :
    ∃ p r R, floatBits .mul .f32 m x = some p ∧ floatBits .sub .f32 s p = some r ∧ Val .f32 r R ∧ (R - (S - a * X)).abs ≤ 9 / 4194304 := by
  have h1 := mul_abs_le ha hX
  have e2 : pw 2 = 4 := by decide +kernel
  have e6 : pw 5 = 32 := by decide +kernel
  obtain ⟨p, P, k1, k2, k3, k4⟩ := val_mul hm hx 2 (by rw [e2]; grind) (by decide) (by decide)
  rw [e2] at k4
  have e3 : pw (2 - eps .f32) = 1 / 4194304 := by decide +kernel
  rw [e3] at k3
  have q1 := abs_le.1 k4
  have q2 := abs_le.1 hS
  obtain ⟨r, R, r1, r2, r3, -⟩ := val_sub hs k2 5 (by rw [e6]; exact abs_le.2 ⟨by grind, by grind⟩) (by decide) (by decide)
  have e4 : pw (5 - eps .f32) = 1 / 524288 := by decide +kernel
  rw [e4] at r3
  refine ⟨p, r, R, k1, r1, r2, ?_⟩
  have q3 := abs_le.1 k3
  have q4 := abs_le.1 r3
  exact abs_le.2 ⟨by grind, by grind⟩
theorem step_div {s p : Nat} {S P : Rat} (hs : Val .f32 s S) (hp : Val .f32 p P) (h1 : 30 ≤ P) (h2 : P ≤ 48) (hS : S.abs ≤ 46 / 100 * P) :
    ∃ x X, floatBits .quo .f32 s p = some x ∧ Val .f32 x X ∧ X.abs ≤ 1 / 2 ∧ (X * P - S).abs ≤ 24 / 4194304 := by
  have hp0 : 0 < P := by grind
  have hq : S / P * P = S := Rat.div_mul_cancel (Rat.ne_of_gt hp0)
  have hqa : (S / P).abs ≤ 46 / 100 := by
    refine le_of_abs_mul hp0 ?_
    rw [hq]
    exact hS
  have e2 : pw (-1) = 1 / 2 := by decide +kernel
  obtain ⟨f, F, k1, k2, k3, -⟩ := val_quo hs hp (Rat.ne_of_gt hp0) hq (-1) (by rw [e2]; grind) (by decide) (by decide)
  have e3 : pw (-1 + 2 - eps .f32) = 1 / 8388608 := by decide +kernel
  rw [e3] at k3
  refine ⟨f, F, k1, k2, ?_, ?_⟩
  · have q1 := abs_le.1 k3
    have q2 := abs_le.1 hqa
    exact abs_le.2 ⟨by grind, by grind⟩
  · have e4 : F * P - S = (F - S / P) * P := by grind
    rw [e4]
    have := mul_abs_le k3 (show P.abs ≤ 48 by rw [Rat.abs_of_nonneg (Rat.le_of_lt hp0)]; exact h2)
    grind
end Go.Proofs.Ytfehhbmmdbpdpaa
