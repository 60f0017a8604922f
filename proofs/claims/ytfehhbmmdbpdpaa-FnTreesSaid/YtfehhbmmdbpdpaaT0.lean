/- Bounds on float64 operations: add, subtract, multiply. -/
import Derived.Test.YtfehhbmmdbpdpaaFb
namespace Go.Proofs.Ytfehhbmmdbpdpaa
open Go Ieee

/-- a float64 that is a number of size at most 2^e -/
def bnd (x : Nat) (e : Int) : Prop := ∃ s m p, FloatKind.f64.decode x = .number s m p ∧ mle m p e
theorem bnd.mono {x : Nat} {e e' : Int} (h : bnd x e) (he : e ≤ e') : bnd x e' := by
  obtain ⟨s, m, p, h1, h2⟩ := h
  exact ⟨s, m, p, h1, h2.mono he⟩
theorem bnd_of_write {x : Nat} {s : Bool} {m : Nat} {p e : Int} (hx : x = FloatKind.f64.format.write (.number s m p)) (h : mle m p e) (h1 : -1074 ≤ e) (h2 : e ≤ 1023) : bnd x e := by
  obtain ⟨m', p', hr, h3⟩ := nearest_mle Ieee.double (by decide) s m p e h (by rw [show Ieee.double.leastPlace = -1074 from by decide]; exact h1) (by rw [show Format.topPlace Ieee.double = 1023 from by decide]; exact h2)
  exact ⟨s, m', p', by rw [hx]; exact hr, h3⟩
theorem bnd_mul {x y : Nat} {a b : Int} (hx : bnd x a) (hy : bnd y b) (h1 : -1074 ≤ a + b) (h2 : a + b ≤ 1023) : bnd (fop .mul .f64 x y) (a + b) := by
  obtain ⟨s, m, i, e1, q1⟩ := hx
  obtain ⟨t, n, j, e2, q2⟩ := hy
  have hf : fop .mul .f64 x y = FloatKind.f64.format.write (.number (s ^^ t) (m * n) (i + j)) := by
    unfold fop floatBits Format.mul
    rw [show FloatKind.f64.format.read x = _ from e1, show FloatKind.f64.format.read y = _ from e2]
    rfl
  refine bnd_of_write hf ?_ h1 h2
  rcases q1 with q1 | ⟨u1, v1⟩
  · exact .inl (by rw [q1, Nat.zero_mul])
  · rcases q2 with q2 | ⟨u2, v2⟩
    · exact .inl (by rw [q2, Nat.mul_zero])
    · refine .inr ⟨by omega, ?_⟩
      rw [show (a + b - (i + j)).toNat = (a - i).toNat + (b - j).toNat by omega, Nat.pow_add]
      exact Nat.mul_le_mul v1 v2
theorem shl_le {m : Nat} {i base e : Int} (h : mle m i e) (hb : base ≤ i) (he : base ≤ e) : m <<< (i - base).toNat ≤ 2 ^ (e - base).toNat := by
  rw [Nat.shiftLeft_eq]
  rcases h with h | ⟨h1, h2⟩
  · rw [h, Nat.zero_mul]; exact Nat.zero_le _
  · rw [show (e - base).toNat = (e - i).toNat + (i - base).toNat by omega, Nat.pow_add]
    exact Nat.mul_le_mul_right _ h2
theorem sum_mle {s t : Bool} {m n : Nat} {i j e : Int} (h1 : mle m i e) (h2 : mle n j e) (hi : min i j ≤ e) : mle (signed s m (i - min i j).toNat + signed t n (j - min i j).toNat).natAbs (min i j) (e + 1) := by
  have a1 := shl_le h1 (Int.min_le_left i j) hi
  have a2 := shl_le h2 (Int.min_le_right i j) hi
  have hp : 2 ^ (e + 1 - min i j).toNat = 2 * 2 ^ (e - min i j).toNat := by
    rw [show (e + 1 - min i j).toNat = (e - min i j).toNat + 1 by omega, Nat.pow_succ]; omega
  refine .inr ⟨by omega, ?_⟩
  rw [hp]
  unfold signed
  generalize 2 ^ (e - min i j).toNat = g at *
  generalize m <<< (i - min i j).toNat = u at *
  generalize n <<< (j - min i j).toNat = v at *
  cases s <;> cases t <;> simp only [if_true, if_false, Bool.false_eq_true] <;> omega
theorem mle_anchor {m : Nat} {i e : Int} (h : mle m i e) (hm : m ≠ 0) : i ≤ e := by
  rcases h with h | h
  · exact absurd h hm
  · exact h.1
theorem sum_mle' {s t : Bool} {m n : Nat} {i j e : Int} (h1 : mle m i e) (h2 : mle n j e) : mle (signed s m (i - min i j).toNat + signed t n (j - min i j).toNat).natAbs (min i j) (e + 1) := by
  by_cases hm : m = 0
  · by_cases hn : n = 0
    · refine .inl ?_
      subst hm; subst hn
      simp [signed]
    · exact sum_mle h1 h2 (by have := mle_anchor h2 hn; omega)
  · exact sum_mle h1 h2 (by have := mle_anchor h1 hm; omega)
theorem bnd_sum {x : Nat} {s t : Bool} {m n : Nat} {i j e : Int} (hx : some x = ((Datum.number s m i).sum (.number t n j)).map FloatKind.f64.format.write) (h1 : mle m i e) (h2 : mle n j e) (hl : -1074 ≤ e + 1) (hh : e + 1 ≤ 1023) : bnd x (e + 1) := by
  simp only [Datum.sum, Option.map_some, Option.some.injEq] at hx
  exact bnd_of_write hx (sum_mle' h1 h2) hl hh
theorem bnd_add {x y : Nat} {e : Int} (hx : bnd x e) (hy : bnd y e) (hl : -1074 ≤ e + 1) (hh : e + 1 ≤ 1023) : bnd (fop .add .f64 x y) (e + 1) := by
  obtain ⟨s, m, i, e1, q1⟩ := hx
  obtain ⟨t, n, j, e2, q2⟩ := hy
  refine bnd_sum (s := s) (t := t) (m := m) (n := n) (i := i) (j := j) ?_ q1 q2 hl hh
  unfold fop floatBits Format.add
  rw [show FloatKind.f64.format.read x = _ from e1, show FloatKind.f64.format.read y = _ from e2]
  rfl
theorem bnd_sub {x y : Nat} {e : Int} (hx : bnd x e) (hy : bnd y e) (hl : -1074 ≤ e + 1) (hh : e + 1 ≤ 1023) : bnd (fop .sub .f64 x y) (e + 1) := by
  obtain ⟨s, m, i, e1, q1⟩ := hx
  obtain ⟨t, n, j, e2, q2⟩ := hy
  refine bnd_sum (s := s) (t := !t) (m := m) (n := n) (i := i) (j := j) ?_ q1 q2 hl hh
  unfold fop floatBits Format.sub
  rw [show FloatKind.f64.format.read x = _ from e1, show FloatKind.f64.format.read y = _ from e2]
  rfl
/-- a quotient by a number that is at least 1 -/
theorem quot_mle {m n : Nat} {i j e : Int} (h : mle m i e) (hm : m ≠ 0) (hj : j ≤ 0) (hn : 2 ^ (-j).toNat ≤ n) (more : Nat) (hmore : n ≤ m <<< more) :
    mle (2 * (m <<< more / n) + ((m <<< more) % n != 0).toNat) (i - j - more - 1) (e + 1) := by
  rcases h with h | ⟨h1, h2⟩
  · exact absurd h hm
  have hnp : 0 < n := Nat.lt_of_lt_of_le (Nat.two_pow_pos _) hn
  have hq1 : 1 ≤ m <<< more / n := (Nat.le_div_iff_mul_le hnp).2 (by omega)
  have hD : m <<< more ≤ 2 ^ ((e - i).toNat + more) := by
    rw [Nat.shiftLeft_eq, Nat.pow_add]
    exact Nat.mul_le_mul_right _ h2
  have hqn : m <<< more / n * 2 ^ (-j).toNat ≤ 2 ^ ((e - i).toNat + more) :=
    Nat.le_trans (Nat.le_trans (Nat.mul_le_mul_left _ hn) (Nat.div_mul_le_self _ _)) hD
  have hb : ((m <<< more) % n != 0).toNat ≤ 1 := by cases ((m <<< more) % n != 0) <;> decide
  generalize m <<< more / n = q at *
  generalize ((m <<< more) % n != 0).toNat = b at *
  have hJT : (-j).toNat ≤ (e - i).toNat + more := by
    refine (Nat.pow_le_pow_iff_right (show 1 < 2 by decide)).1 (Nat.le_trans ?_ hqn)
    exact Nat.le_mul_of_pos_left _ hq1
  have hq : q ≤ 2 ^ ((e - i).toNat + more - (-j).toNat) := by
    have hs : 2 ^ ((e - i).toNat + more) = 2 ^ ((e - i).toNat + more - (-j).toNat) * 2 ^ (-j).toNat := by rw [← Nat.pow_add]; congr 1; omega
    rw [hs] at hqn
    exact Nat.le_of_mul_le_mul_right hqn (Nat.two_pow_pos _)
  refine .inr ⟨by omega, ?_⟩
  have hE : (e + 1 - (i - j - more - 1)).toNat = (e - i).toNat + more - (-j).toNat + 2 := by omega
  rw [hE, Nat.pow_add]
  have : 0 < 2 ^ ((e - i).toNat + more - (-j).toNat) := Nat.two_pow_pos _
  generalize 2 ^ ((e - i).toNat + more - (-j).toNat) = g at *
  have : g * 2 ^ 2 = g * 4 := rfl
  omega
/-- a float64 that is a number, and at least 1 -/
def one_le (y : Nat) : Prop := ∃ n j, FloatKind.f64.decode y = .number false n j ∧ j ≤ 0 ∧ 2 ^ (-j).toNat ≤ n
theorem bnd_quo {x y : Nat} {e : Int} (hx : bnd x e) (hy : one_le y) (hl : -1074 ≤ e + 1) (hh : e + 1 ≤ 1023) : bnd (fop .quo .f64 x y) (e + 1) := by
  obtain ⟨s, m, i, e1, q1⟩ := hx
  obtain ⟨n, j, e2, hj, hn⟩ := hy
  have hnp : 0 < n := Nat.lt_of_lt_of_le (Nat.two_pow_pos _) hn
  have hf : fop .quo .f64 x y = (((Datum.number s m i).quotient (FloatKind.f64.format.fractionBits + 2) (.number false n j)).map FloatKind.f64.format.write).getD (qn .f64) := by
    unfold fop floatBits Format.div
    rw [show FloatKind.f64.format.read x = _ from e1, show FloatKind.f64.format.read y = _ from e2]
  simp only [Datum.quotient, if_neg (show ¬ n = 0 by omega), Option.map_some, Option.getD_some] at hf
  refine bnd_of_write hf ?_ hl hh
  by_cases hm : m = 0
  · subst hm
    refine .inl ?_
    simp
  · refine quot_mle q1 hm hj hn _ ?_
    have h1 := Nat.log2_self_le hm
    have h2 : n < 2 ^ (n.log2 + 1) := Nat.lt_log2_self
    rw [Nat.shiftLeft_eq]
    have h3 : 2 ^ (n.log2 + 1) ≤ 2 ^ m.log2 * 2 ^ (FloatKind.f64.format.fractionBits + 2 + n.log2 - m.log2) := by
      rw [← Nat.pow_add]
      exact Nat.pow_le_pow_right (by decide) (by omega)
    have h4 := Nat.mul_le_mul_right (2 ^ (FloatKind.f64.format.fractionBits + 2 + n.log2 - m.log2)) h1
    omega
end Go.Proofs.Ytfehhbmmdbpdpaa
