/- Bounds on rounded floats: a number of size at most 2^e is rounded to a number of size at most 2^e. -/
import Derived.Test.YtfehhbmmdbpdpaaFl
namespace Go.Proofs.Ytfehhbmmdbpdpaa
open Go Ieee

/-- 'm * 2 ^ p ≤ 2 ^ e' -/
def mle (m : Nat) (p e : Int) : Prop := m = 0 ∨ (p ≤ e ∧ m ≤ 2 ^ (e - p).toNat)

theorem mle.mono {m : Nat} {p e e' : Int} (h : mle m p e) (he : e ≤ e') : mle m p e' := by
  rcases h with h | ⟨h1, h2⟩
  · exact .inl h
  · exact .inr ⟨by omega, Nat.le_trans h2 (Nat.pow_le_pow_right (by decide) (by omega))⟩

theorem pow_split {a b c : Int} (h1 : b ≤ a) (h2 : c ≤ b) : (2 : Nat) ^ (a - c).toNat = 2 ^ (a - b).toNat * 2 ^ (b - c).toNat := by
  rw [← Nat.pow_add]; congr 1; omega

theorem cut_even_le {s : Bool} {n drop g : Nat} (h : n ≤ g * 2 ^ drop) : Toward.even.cut s n drop ≤ g := by
  unfold Toward.cut
  dsimp only
  have hgap : (1 <<< min drop (n.log2 + 2)) = 2 ^ min drop (n.log2 + 2) := by rw [Nat.shiftLeft_eq]; omega
  rw [hgap]
  by_cases hd : drop ≤ n.log2 + 2
  · rw [Nat.min_eq_left hd]
    have hp : 0 < 2 ^ drop := Nat.two_pow_pos _
    have hq : n / 2 ^ drop ≤ g := Nat.div_le_of_le_mul (by rw [Nat.mul_comm]; exact h)
    rcases Nat.lt_or_ge (n / 2 ^ drop) g with hlt | hge
    · have : ∀ b : Bool, b.toNat ≤ 1 := fun b => by cases b <;> decide
      have := this (decide (2 ^ drop < 2 * (n % 2 ^ drop)) || (2 ^ drop == 2 * (n % 2 ^ drop) && n / 2 ^ drop % 2 == 1))
      omega
    · have he : n / 2 ^ drop = g := by omega
      have hr : n % 2 ^ drop = 0 := by
        have := Nat.div_add_mod n (2 ^ drop)
        rw [he, Nat.mul_comm] at this
        omega
      rw [hr, he]
      have h1 : decide (2 ^ drop < 2 * 0) = false := by simp
      have h2 : (2 ^ drop == 2 * 0) = false := by simp
      simp only [h1, h2, Bool.false_and, Bool.or_false, Bool.toNat_false]
      omega
  · rw [Nat.min_eq_right (by omega)]
    by_cases hn : n = 0
    · subst hn; simp
    · have hlt : n < 2 ^ (n.log2 + 1) := Nat.lt_log2_self
      have h4 : 2 ^ (n.log2 + 2) = 2 * 2 ^ (n.log2 + 1) := by rw [Nat.pow_succ]; omega
      have hz : n / 2 ^ (n.log2 + 2) = 0 := Nat.div_eq_of_lt (by omega)
      have hm : n % 2 ^ (n.log2 + 2) = n := Nat.mod_eq_of_lt (by omega)
      have h1 : decide (2 ^ (n.log2 + 2) < 2 * n) = false := by simp; omega
      have h2 : (2 ^ (n.log2 + 2) == 2 * n) = false := by rw [beq_eq_false_iff_ne]; omega
      rw [hz, hm, h1, h2]
      simp

/-- the words that Ieee reads back as numbers -/
theorem read_word (f : Format) (s : Bool) (q kept : Nat) (hk : kept ≤ 2 * f.binade) (hq : kept < f.binade → q = 0) (hr : q * f.binade + kept < f.infRung) :
    ∃ m' p', f.read (f.word s (q * f.binade + kept)) = .number s m' p' ∧ ((kept < 2 * f.binade ∧ m' = kept ∧ p' = f.leastPlace + q) ∨ (kept = 2 * f.binade ∧ m' = f.binade ∧ p' = f.leastPlace + q + 1)) := by
  have hb : 0 < f.binade := Nat.two_pow_pos _
  have hlt := f.infRung_lt
  have hs : 0 < f.signWeight := by unfold Format.signWeight; exact Nat.two_pow_pos _
  have hm : f.word s (q * f.binade + kept) % f.signWeight = q * f.binade + kept := by
    unfold Format.word
    split
    · rw [Nat.add_mod_left]; exact Nat.mod_eq_of_lt (by omega)
    · exact Nat.mod_eq_of_lt (by omega)
  have hn : (f.word s (q * f.binade + kept) / f.signWeight % 2 == 1) = s := by
    unfold Format.word
    split
    · rename_i h
      rw [Nat.add_div_left _ hs, Nat.div_eq_of_lt (by omega)]; simp [h]
    · rename_i h
      rw [Nat.div_eq_of_lt (by omega)]; simpa using h
  unfold Format.read
  simp only [hm, hn]
  by_cases h1 : kept < f.binade
  · have h0 := hq h1
    subst h0
    refine ⟨kept, f.leastPlace, ?_, .inl ⟨by omega, rfl, by simp⟩⟩
    rw [if_pos (by simpa using h1)]; simp
  · rw [if_neg (by
      have : 0 ≤ q * f.binade := Nat.zero_le _
      omega), if_pos hr]
    rcases Nat.lt_or_ge kept (2 * f.binade) with h2 | h2
    · have hdiv : (q * f.binade + kept) / f.binade = q + 1 := by
        rw [Nat.add_comm, Nat.add_mul_div_right _ _ hb]
        have : kept / f.binade = 1 := by
          rw [Nat.div_eq_iff hb]; omega
        omega
      have hmod : (q * f.binade + kept) % f.binade = kept - f.binade := by
        rw [Nat.add_comm, Nat.add_mul_mod_self_right, Nat.mod_eq_sub_mod (by omega), Nat.mod_eq_of_lt (by omega)]
      refine ⟨kept, f.leastPlace + q, ?_, .inl ⟨h2, rfl, rfl⟩⟩
      rw [hdiv, hmod]
      congr 1
      omega
    · have he : kept = 2 * f.binade := by omega
      subst he
      have hdiv : (q * f.binade + 2 * f.binade) / f.binade = q + 2 := by
        rw [← Nat.add_mul, Nat.mul_div_cancel _ hb]
      have hmod : (q * f.binade + 2 * f.binade) % f.binade = 0 := by
        rw [← Nat.add_mul, Nat.mul_mod_left]
      refine ⟨f.binade, f.leastPlace + q + 1, ?_, .inr ⟨rfl, rfl, rfl⟩⟩
      rw [hdiv, hmod]
      simp only [Nat.add_zero]
      congr 1
      omega

/-- the greatest place of a finite number's power -/
def Format.topPlace (f : Format) : Int := f.leastPlace + (2 ^ f.exponentBits - 3 : Nat) + f.fractionBits

theorem log2_le {m g : Nat} (h : m ≤ 2 ^ g) : m.log2 ≤ g := by
  by_cases hm : m = 0
  · subst hm; simp
  · by_cases hc : m.log2 ≤ g
    · exact hc
    · have h1 : 2 ^ (g + 1) ≤ 2 ^ m.log2 := Nat.pow_le_pow_right (by decide) (by omega)
      have h2 := Nat.log2_self_le hm
      have h3 : 2 ^ (g + 1) = 2 * 2 ^ g := by rw [Nat.pow_succ]; omega
      have h4 : 0 < 2 ^ g := Nat.two_pow_pos _
      omega

theorem nearest_mle (f : Format) (hf : 3 ≤ 2 ^ f.exponentBits) (s : Bool) (m : Nat) (p e : Int) (h : mle m p e) (hlo : f.leastPlace ≤ e) (hhi : e ≤ Format.topPlace f) :
    ∃ m' p', f.read (f.nearest s m p) = .number s m' p' ∧ mle m' p' e := by
  have hb : 0 < f.binade := Nat.two_pow_pos _
  have hinf : 3 * f.binade ≤ f.infRung + f.binade := by
    unfold Format.infRung
    rw [← Nat.succ_mul]
    exact Nat.mul_le_mul_right _ (by omega)
  unfold Format.nearest
  by_cases hm : m = 0
  · rw [if_pos hm]
    obtain ⟨m', p', hr, hc⟩ := read_word f s 0 0 (by omega) (fun _ => rfl) (by omega)
    rw [Nat.zero_mul, Nat.zero_add] at hr
    refine ⟨m', p', hr, .inl ?_⟩
    rcases hc with ⟨_, h, _⟩ | ⟨h, _⟩
    · exact h
    · omega
  · rw [if_neg hm]
    dsimp only
    rcases h with h | ⟨hpe, hme⟩
    · exact absurd h hm
    · have hlog : m.log2 ≤ (e - p).toNat := log2_le hme
      generalize hlast : max (p + (m.log2 : Int) - (f.fractionBits : Int)) f.leastPlace = last
      have hl1 : f.leastPlace ≤ last := by omega
      have hl2 : last ≤ e := by omega
      have hl3 : p + (m.log2 : Int) - (f.fractionBits : Int) ≤ last := by omega
      -- what is kept is at most 2^(e - last)
      have hkept : Toward.even.cut s (m <<< (p - last).toNat) (last - p).toNat ≤ 2 ^ (e - last).toNat := by
        refine cut_even_le ?_
        rw [Nat.shiftLeft_eq]
        rcases Int.le_total p last with hc | hc
        · rw [show (p - last).toNat = 0 by omega, Nat.pow_zero, Nat.mul_one, ← pow_split hl2 hc]
          exact hme
        · rw [show (last - p).toNat = 0 by omega, Nat.pow_zero, Nat.mul_one, pow_split hpe hc]
          exact Nat.mul_le_mul_right _ hme
      -- and at most two binades
      have hkept2 : Toward.even.cut s (m <<< (p - last).toNat) (last - p).toNat ≤ 2 * f.binade := by
        refine cut_even_le ?_
        rw [Nat.shiftLeft_eq]
        have hml : m < 2 ^ (m.log2 + 1) := Nat.lt_log2_self
        have hb2 : 2 * f.binade = 2 ^ (f.fractionBits + 1) := by unfold Format.binade; rw [Nat.pow_succ]; omega
        rw [hb2]
        rcases Int.le_total p last with hc | hc
        · rw [show (p - last).toNat = 0 by omega, Nat.pow_zero, Nat.mul_one, ← Nat.pow_add]
          exact Nat.le_trans (Nat.le_of_lt hml) (Nat.pow_le_pow_right (by decide) (by omega))
        · rw [show (last - p).toNat = 0 by omega, Nat.pow_zero, Nat.mul_one]
          have : m * 2 ^ (p - last).toNat ≤ 2 ^ (m.log2 + 1) * 2 ^ (p - last).toNat := Nat.mul_le_mul_right _ (Nat.le_of_lt hml)
          rw [← Nat.pow_add] at this
          exact Nat.le_trans this (Nat.pow_le_pow_right (by decide) (by omega))
      -- a number below one binade has the least place
      have hlow : Toward.even.cut s (m <<< (p - last).toNat) (last - p).toNat < f.binade → (last - f.leastPlace).toNat = 0 := by
        intro hk
        rcases Int.lt_or_le f.leastPlace last with hc | hc
        · exfalso
          have hle : last = p + (m.log2 : Int) - (f.fractionBits : Int) := by omega
          have hml := Nat.log2_self_le hm
          -- m / 2^(last-p) is at least 2^fractionBits
          have hge : f.binade ≤ (m <<< (p - last).toNat) / 2 ^ (last - p).toNat := by
            rw [Nat.le_div_iff_mul_le (Nat.two_pow_pos _), Nat.shiftLeft_eq]
            unfold Format.binade
            rw [← Nat.pow_add]
            have : 2 ^ m.log2 * 2 ^ (p - last).toNat ≤ m * 2 ^ (p - last).toNat := Nat.mul_le_mul_right _ hml
            rw [← Nat.pow_add] at this
            exact Nat.le_trans (Nat.pow_le_pow_right (by decide) (by omega)) this
          have hcut : (m <<< (p - last).toNat) / 2 ^ (last - p).toNat ≤ Toward.even.cut s (m <<< (p - last).toNat) (last - p).toNat := by
            unfold Toward.cut
            dsimp only
            rw [Nat.shiftLeft_eq 1, Nat.one_mul]
            refine Nat.le_trans ?_ (Nat.le_add_right _ _)
            refine Nat.div_le_div_left (Nat.pow_le_pow_right (by decide) (Nat.min_le_left _ _)) (Nat.two_pow_pos _)
          omega
        · omega
      generalize hk : Toward.even.cut s (m <<< (p - last).toNat) (last - p).toNat = kept at *
      generalize hq : (last - f.leastPlace).toNat = q at *
      have hqi : (q : Int) = last - f.leastPlace := by omega
      -- no overflow
      have hover : q * f.binade + kept < f.infRung := by
        -- kept * 2^last ≤ 2^e ≤ 2^top
        unfold Format.topPlace at hhi
        have hE : f.infRung = (2 ^ f.exponentBits - 1) * f.binade := rfl
        generalize 2 ^ f.exponentBits = E at *
        rcases Int.lt_or_le (last + f.fractionBits) (f.leastPlace + (E - 3 : Nat) + f.fractionBits + 1) with hc | hc
        · have hq3 : q ≤ E - 3 := by omega
          rcases Nat.lt_or_ge q (E - 3) with hq4 | hq4
          · have : (q + 2) * f.binade + 1 ≤ (E - 1) * f.binade := by
              have h1 : (q + 3) * f.binade ≤ (E - 1) * f.binade := Nat.mul_le_mul_right _ (by omega)
              rw [Nat.add_mul] at h1 ⊢
              omega
            rw [hE]
            rw [Nat.add_mul] at this
            omega
          · have hq5 : q = E - 3 := by omega
            have hk1 : kept ≤ f.binade := by
              unfold Format.binade
              exact Nat.le_trans hkept (Nat.pow_le_pow_right (by decide) (by omega))
            have h1 : (q + 2) * f.binade ≤ (E - 1) * f.binade := Nat.mul_le_mul_right _ (by omega)
            rw [Nat.add_mul] at h1
            rw [hE]
            omega
        · omega
      rw [Nat.min_eq_left (Nat.le_of_lt hover)]
      obtain ⟨m', p', hr, hc⟩ := read_word f s q kept hkept2 hlow hover
      refine ⟨m', p', hr, .inr ?_⟩
      rcases hc with ⟨_, rfl, rfl⟩ | ⟨hkk, rfl, rfl⟩
      · refine ⟨by omega, ?_⟩
        rw [show e - (f.leastPlace + (q : Int)) = e - last by omega]
        exact hkept
      · rcases Int.lt_or_le last e with hle | hle
        · refine ⟨by omega, ?_⟩
          have h1 : (2 : Nat) ^ (e - last).toNat = 2 * 2 ^ (e - (f.leastPlace + (q : Int) + 1)).toNat := by
            rw [show (e - last).toNat = (e - (f.leastPlace + (q : Int) + 1)).toNat + 1 by omega, Nat.pow_succ]; omega
          omega
        · exfalso
          have h1 : (2 : Nat) ^ (e - last).toNat = 1 := by rw [show (e - last).toNat = 0 by omega]
          omega

/-- what a word stands for is below 2^(top + 1) -/
theorem read_mle (f : Format) (w : Nat) {s : Bool} {m : Nat} {p : Int} (h : f.read w = .number s m p) : f.leastPlace ≤ p ∧ m < 2 * f.binade ∧ mle m p (Format.topPlace f + 1) := by
  have hb : 0 < f.binade := Nat.two_pow_pos _
  have hs : 0 < f.signWeight := by unfold Format.signWeight; exact Nat.two_pow_pos _
  have hb2 : 2 * f.binade = 2 ^ (f.fractionBits + 1) := by unfold Format.binade; rw [Nat.pow_succ]; omega
  have hE : f.infRung = (2 ^ f.exponentBits - 1) * f.binade := rfl
  unfold Format.read at h
  dsimp only at h
  generalize w % f.signWeight = rung at h
  by_cases h1 : rung < f.binade
  · rw [if_pos h1] at h
    injection h with _ h3 h4
    subst h3; subst h4
    refine ⟨Int.le_refl _, by omega, .inr ⟨by unfold Format.topPlace; omega, ?_⟩⟩
    have h5 : rung ≤ 2 ^ (f.fractionBits + 1) := by omega
    exact Nat.le_trans h5 (Nat.pow_le_pow_right (by decide) (by unfold Format.topPlace; omega))
  · rw [if_neg h1] at h
    by_cases h2 : rung < f.infRung
    · rw [if_pos h2] at h
      injection h with _ h3 h4
      have hmod : rung % f.binade < f.binade := Nat.mod_lt _ hb
      have hq1 : 1 ≤ rung / f.binade := by rw [Nat.le_div_iff_mul_le hb]; omega
      have hq2 : rung / f.binade < 2 ^ f.exponentBits - 1 := by rw [Nat.div_lt_iff_lt_mul hb, ← hE]; exact h2
      have hp : p = f.leastPlace + ((rung / f.binade - 1 : Nat) : Int) := h4.symm
      refine ⟨by omega, by omega, .inr ⟨by unfold Format.topPlace; omega, ?_⟩⟩
      have h5 : m ≤ 2 ^ (f.fractionBits + 1) := by omega
      exact Nat.le_trans h5 (Nat.pow_le_pow_right (by decide) (by unfold Format.topPlace; omega))
    · rw [if_neg h2] at h
      split at h <;> cases h

theorem ovf_widen (x : Nat) : ovf .f32 x .f64 = false := by
  unfold ovf
  cases e : FloatKind.f32.decode x with
  | number s m p =>
    obtain ⟨_, _, h3⟩ := read_mle single x e
    obtain ⟨m', p', hr, _⟩ := nearest_mle double (by decide) s m p _ h3 (by decide) (by decide)
    have : FloatKind.f64.decode (FloatKind.f64.encode (.number s m p)) = .number s m' p' := hr
    simp only [this]; rfl
  | infinity s => rfl
  | nan s t => rfl

/-- narrowing what is not above 2^127 -/
theorem ovf_narrow (x : Nat) (h : ∀ s m p, FloatKind.f64.decode x = .number s m p → mle m p 127) : ovf .f64 x .f32 = false := by
  unfold ovf
  cases e : FloatKind.f64.decode x with
  | number s m p =>
    obtain ⟨m', p', hr, _⟩ := nearest_mle single (by decide) s m p 127 (h s m p e) (by decide) (by decide)
    have : FloatKind.f32.decode (FloatKind.f32.encode (.number s m p)) = .number s m' p' := hr
    simp only [this]; rfl
  | infinity s => rfl
  | nan s t => rfl

/-! ## a number and itself -/
theorem order_self (k : FloatKind) (x : Nat) (h : isN k x = false) : k.format.order x x = some .eq := by
  unfold Format.order
  cases e : k.format.read x with
  | number s m p =>
    simp only [Datum.order]
    congr 1
    simp [compare, compareOfLessAndEq]
  | infinity s =>
    simp only [Datum.order]
    congr 1
    cases s <;> decide
  | nan s t =>
    have : isN k x = true := isNaN_iff.2 ⟨s, t, e⟩
    rw [h] at this; cases this
theorem order_nan (k : FloatKind) (x y : Nat) (h : isN k x = true) : k.format.order x y = none := by
  obtain ⟨s, t, e⟩ := isNaN_iff.1 h
  have e' : k.format.read x = .nan s t := e
  simp [Format.order, e', Datum.order]
theorem fcmp_neq_self (k : FloatKind) (x : Nat) : fcmp .neq k x x = isN k x := by
  unfold fcmp
  cases h : isN k x
  · simp [order_self k x h]
  · simp [order_nan k x x h]
theorem fcmp_eql_self (k : FloatKind) (x : Nat) : fcmp .eql k x x = !isN k x := by
  unfold fcmp
  cases h : isN k x
  · simp [order_self k x h]
  · simp [order_nan k x x h]
end Go.Proofs.Ytfehhbmmdbpdpaa
