/- The tree of whirls in whole numbers is good. -/
import Derived.Test.YtfehhbmmdbpdpaaD3
namespace Go.Proofs.Ytfehhbmmdbpdpaa
open Go

/-- what is asked of a node ahead of its growth -/
structure Pre (ps : List Wh) (w N d : Nat) (cx cy : Int) (ws : List Nat) : Prop where
  inside : Inside ps w d cx cy ws
  sorted : ws.Pairwise (· < ·)
  below : ∀ i ∈ ws, i < N
  some_ : ws ≠ []
  bx : cx.natAbs + (hP d w).natAbs ≤ 8192
  by_ : cy.natAbs + (hP d w).natAbs ≤ 8192
  ex : cx % 2 = 0
  ey : cy % 2 = 0
theorem Pre.alone {ps : List Wh} {w N d : Nat} {cx cy : Int} {ws nx : List Nat} (h : Pre ps w N d cx cy ws) (hd : d ≤ 6) (hl : nx = [] → ws.length ≤ 3 ∨ 6 ≤ d ∨ w = 0) : Alone ps w N (nodeP ps d cx cy ws nx) :=
  ⟨h.inside, h.sorted, h.below, h.some_, hd, h.bx, h.by_, h.ex, h.ey, rfl, rfl, rfl, hl⟩
theorem quad_mod (ps : List Wh) (cx cy : Int) (i q : Nat) (h : quadP ps cx cy i = q) : q < 4 ∧ (q % 2 = 1 ↔ cx ≤ (atW ps i).1) ∧ (q / 2 = 1 ↔ cy ≤ (atW ps i).2.1) := by
  unfold quadP at h
  by_cases h1 : cx ≤ (atW ps i).1
  · by_cases h2 : cy ≤ (atW ps i).2.1
    · rw [if_pos h1, if_pos h2] at h; subst h; simp [h1, h2]
    · rw [if_pos h1, if_neg h2] at h; subst h; simp [h1, h2]
  · by_cases h2 : cy ≤ (atW ps i).2.1
    · rw [if_neg h1, if_pos h2] at h; subst h; simp [h1, h2]
    · rw [if_neg h1, if_neg h2] at h; subst h; simp [h1, h2]
theorem side_in {c x h : Int} {b : Nat} (hb : b = 0 ∨ b = 1) (hq : b = 1 ↔ c ≤ x) (h1 : c - 2 * h ≤ x) (h2 : x ≤ c + 2 * h) : c + sgnP b h - h ≤ x ∧ x ≤ c + sgnP b h + h := by
  unfold sgnP
  rcases hb with rfl | rfl
  · have : ¬ c ≤ x := fun hc => by have := hq.2 hc; omega
    rw [if_pos rfl]; omega
  · have : c ≤ x := hq.1 rfl
    rw [if_neg (by decide)]; omega
theorem side_bound {c h : Int} {b : Nat} (h0 : 0 ≤ h) (hb : c.natAbs + (2 * h).natAbs ≤ 8192) : (c + sgnP b h).natAbs + h.natAbs ≤ 8192 := by
  unfold sgnP; split <;> omega
theorem side_even {c h : Int} {b : Nat} (hc : c % 2 = 0) (hh : h % 2 = 0) : (c + sgnP b h) % 2 = 0 := by
  unfold sgnP; split <;> omega
theorem Pre.kid {ps : List Wh} {w N d : Nat} {cx cy : Int} {ws : List Nat} (h : Pre ps w N d cx cy ws) (hd : d < 6) (q : Nat) (hne : (partP ps cx cy ws q).length ≠ 0) :
    Pre ps w N (d + 1) (cx + sgnP (q % 2) (hP (d + 1) w)) (cy + sgnP (q / 2) (hP (d + 1) w)) (partP ps cx cy ws q) := by
  have h2 := hP_two d w hd
  have hn := hP_nonneg (d + 1) w
  have hev := hP_even (d + 1) w (by omega)
  have bx := h.bx
  have by_ := h.by_
  rw [h2] at bx by_
  refine ⟨fun i hi => ?_, h.sorted.filter _, fun i hi => h.below i (List.mem_filter.1 hi).1, fun e => hne (by rw [e]; rfl), side_bound hn bx, side_bound hn by_, side_even h.ex hev, side_even h.ey hev⟩
  obtain ⟨hi1, hi2⟩ := List.mem_filter.1 hi
  obtain ⟨a1, a2, a3, a4⟩ := h.inside i hi1
  obtain ⟨q4, qx, qy⟩ := quad_mod ps cx cy i q (eq_of_beq hi2)
  rw [h2] at a1 a2 a3 a4
  obtain ⟨b1, b2⟩ := side_in (by omega) qx a1 a2
  obtain ⟨b3, b4⟩ := side_in (by omega) qy a3 a4
  exact ⟨b1, b2, b3, b4⟩
theorem part_sum (ps : List Wh) (cx cy : Int) : ∀ ws : List Nat, (partP ps cx cy ws 0).length + (partP ps cx cy ws 1).length + (partP ps cx cy ws 2).length + (partP ps cx cy ws 3).length = ws.length
  | [] => rfl
  | i :: ws => by
    have ih := part_sum ps cx cy ws
    obtain ⟨h4, -⟩ := quad_mod ps cx cy i _ rfl
    unfold partP at *
    simp only [List.filter_cons, List.length_cons]
    rcases (by omega : quadP ps cx cy i = 0 ∨ quadP ps cx cy i = 1 ∨ quadP ps cx cy i = 2 ∨ quadP ps cx cy i = 3) with e | e | e | e <;> simp [e] <;> omega
/-- how many whirls the first quarters hold -/
def partsTo (ps : List Wh) (cx cy : Int) (ws : List Nat) : Nat → Nat
  | 0 => 0
  | q + 1 => partsTo ps cx cy ws q + (partP ps cx cy ws q).length
structure KidsOk (ps : List Wh) (w N base d : Nat) (cx cy : Int) (ws : List Nat) (f q : Nat) (K : List Nd × List Nat) : Prop where
  good : Good ps w N K.1 (base + 1)
  next : ∀ j ∈ K.2, base + 1 ≤ j ∧ j < base + 1 + K.1.length ∧ ∃ m, K.1[j - (base + 1)]? = some m ∧ m.d = d + 1
  sum : (K.2.map (lenAt K.1 (base + 1))).sum = partsTo ps cx cy ws q
  size : K.1.length ≤ (f + 1) * partsTo ps cx cy ws q
  first : K.2 ≠ [] → K.2.head? = some (base + 1)
  none_ : K.2 = [] → K.1 = []
  few : K.2.length ≤ q
def GrowOk (ps : List Wh) (w N base d : Nat) (ws : List Nat) (f : Nat) (L : List Nd) : Prop :=
  Good ps w N L base ∧ (∃ n0 rest, L = n0 :: rest ∧ n0.d = d ∧ n0.ws = ws) ∧ L.length ≤ (f + 1) * ws.length
theorem lenAt_left {A B : List Nd} {base j : Nat} (h1 : base ≤ j) (h2 : j < base + A.length) : lenAt (A ++ B) base j = lenAt A base j := by
  unfold lenAt; rw [List.getElem?_append_left (by omega)]
theorem kids_ok {ps : List Wh} {w N base d f : Nat} {cx cy : Int} {ws : List Nat} (h : Pre ps w N d cx cy ws) (hd : d < 6)
    (ih : ∀ b x y us, Pre ps w N (d + 1) x y us → GrowOk ps w N b (d + 1) us f (growP ps w f b (d + 1) x y us)) :
    ∀ q, KidsOk ps w N base d cx cy ws f q (kidsP (fun b => growP ps w f b (d + 1)) ps w base d cx cy ws q)
  | 0 => ⟨Good.nil, (fun j hj => by cases hj), rfl, Nat.zero_le _, (fun h => absurd rfl h), (fun _ => rfl), Nat.le_refl _⟩
  | q + 1 => by
    have hk := kids_ok (base := base) h hd ih q
    unfold kidsP
    generalize kidsP (fun b => growP ps w f b (d + 1)) ps w base d cx cy ws q = K at *
    unfold kidP
    by_cases h0 : (partP ps cx cy ws q).length = 0
    · rw [if_pos h0]
      refine ⟨hk.good, hk.next, ?_, ?_, hk.first, hk.none_, by have := hk.few; omega⟩
      · show _ = partsTo ps cx cy ws q + (partP ps cx cy ws q).length
        rw [h0, hk.sum]; rfl
      · have := hk.size
        show _ ≤ (f + 1) * (partsTo ps cx cy ws q + (partP ps cx cy ws q).length)
        rw [h0]; exact this
    · rw [if_neg h0]
      dsimp only
      obtain ⟨hg, ⟨n0, rest, hL, hnd, hnw⟩, hs⟩ := ih (base + 1 + K.1.length) _ _ _ (h.kid hd q h0)
      generalize growP ps w f (base + 1 + K.1.length) (d + 1) (cx + sgnP (q % 2) (hP (d + 1) w)) (cy + sgnP (q / 2) (hP (d + 1) w)) (partP ps cx cy ws q) = B at *
      have hB0 : B[0]? = some n0 := by rw [hL]; rfl
      have hBl : 0 < B.length := by rw [hL]; simp
      refine ⟨hk.good.append hg, fun j hj => ?_, ?_, ?_, fun _ => ?_, fun e => ?_, ?_⟩
      · rw [List.length_append]
        rcases List.mem_append.1 hj with hj | hj
        · obtain ⟨a1, a2, m, a3, a4⟩ := hk.next j hj
          exact ⟨a1, by omega, m, by rw [List.getElem?_append_left (by omega)]; exact a3, a4⟩
        · rw [List.mem_singleton] at hj
          subst hj
          refine ⟨by omega, by omega, n0, ?_, hnd⟩
          rw [List.getElem?_append_right (by omega), show base + 1 + K.1.length - (base + 1) - K.1.length = 0 by omega]
          exact hB0
      · rw [List.map_append, List.sum_append]
        have e1 : K.2.map (lenAt (K.1 ++ B) (base + 1)) = K.2.map (lenAt K.1 (base + 1)) := by
          apply List.map_congr_left
          intro j hj
          obtain ⟨a1, a2, -⟩ := hk.next j hj
          exact lenAt_left a1 a2
        have e2 : lenAt (K.1 ++ B) (base + 1) (base + 1 + K.1.length) = (partP ps cx cy ws q).length := by
          unfold lenAt
          rw [List.getElem?_append_right (by omega), show base + 1 + K.1.length - (base + 1) - K.1.length = 0 by omega, hB0]
          dsimp only
          rw [hnw]
        rw [e1, hk.sum]
        simp only [List.map_cons, List.map_nil, List.sum_cons, List.sum_nil, e2]
        rfl
      · rw [List.length_append]
        show _ ≤ (f + 1) * (partsTo ps cx cy ws q + (partP ps cx cy ws q).length)
        rw [Nat.mul_add]
        have := hk.size
        omega
      · by_cases hn : K.2 = []
        · rw [hn, hk.none_ hn]; rfl
        · have := hk.first hn
          cases e : K.2 with
          | nil => exact absurd e hn
          | cons a l => rw [e] at this; exact this
      · exact absurd e (by simp)
      · rw [List.length_append]
        have := hk.few
        simp; omega
theorem parts_all (ps : List Wh) (cx cy : Int) (ws : List Nat) : partsTo ps cx cy ws 4 = ws.length := by
  rw [← part_sum ps cx cy ws]
  unfold partsTo partsTo partsTo partsTo partsTo
  omega
theorem grow_ok {ps : List Wh} {w N : Nat} : ∀ (f base d : Nat) (cx cy : Int) (ws : List Nat), f + d = 6 → Pre ps w N d cx cy ws → GrowOk ps w N base d ws f (growP ps w f base d cx cy ws)
  | 0, base, d, cx, cy, ws, hfd, h => by
    unfold growP
    refine ⟨fun i n hn => ?_, ⟨_, [], rfl, rfl, rfl⟩, ?_⟩
    · cases i with
      | zero =>
        simp only [List.getElem?_cons_zero, Option.some.injEq] at hn
        subst hn
        exact ⟨h.alone (by omega) fun _ => .inr (.inl (by omega)), (fun j hj => by cases hj), (fun e => absurd rfl e), (fun e => absurd rfl e)⟩
      | succ i => simp at hn
    · have := List.length_pos_iff.2 h.some_
      simp; omega
  | f + 1, base, d, cx, cy, ws, hfd, h => by
    have hpos := List.length_pos_iff.2 h.some_
    unfold growP
    by_cases hl : ws.length ≤ 3 ∨ w = 0
    · rw [if_pos hl]
      refine ⟨fun i n hn => ?_, ⟨_, [], rfl, rfl, rfl⟩, ?_⟩
      · cases i with
        | zero =>
          simp only [List.getElem?_cons_zero, Option.some.injEq] at hn
          subst hn
          exact ⟨h.alone (by omega) (fun _ => by rcases hl with hl | hl <;> simp [hl]), (fun j hj => by cases hj), (fun e => absurd rfl e), (fun e => absurd rfl e)⟩
        | succ i => simp at hn
      · have : 1 * 1 ≤ (f + 1 + 1) * ws.length := Nat.mul_le_mul (by omega) hpos
        simpa using this
    · rw [if_neg hl]
      have hk := kids_ok (base := base) h (by omega) (fun b x y us hus => grow_ok f b (d + 1) x y us (by omega) hus) 4
      generalize kidsP (fun b => growP ps w f b (d + 1)) ps w base d cx cy ws 4 = K at *
      have hsum := hk.sum
      rw [parts_all] at hsum
      have hne : K.2 ≠ [] := fun e => by rw [e] at hsum; simp at hsum; omega
      refine ⟨fun i n hn => ?_, ⟨_, _, rfl, rfl, rfl⟩, ?_⟩
      · cases i with
        | zero =>
          simp only [List.getElem?_cons_zero, Option.some.injEq] at hn
          subst hn
          refine ⟨h.alone (by omega) fun e => absurd e hne, fun j hj => ?_, fun _ => ?_, fun _ => hk.first hne⟩
          · obtain ⟨a1, a2, m, a3, a4⟩ := hk.next j hj
            refine ⟨by omega, by simp; omega, m, ?_, a4⟩
            rw [show j - base = (j - (base + 1)) + 1 by omega, List.getElem?_cons_succ]
            exact a3
          · show (K.2.map _).sum = ws.length
            rw [← hsum]
            congr 1
            apply List.map_congr_left
            intro j hj
            obtain ⟨a1, a2, -⟩ := hk.next j hj
            unfold lenAt
            rw [show j - base = (j - (base + 1)) + 1 by omega, List.getElem?_cons_succ]
        | succ i =>
          rw [List.getElem?_cons_succ] at hn
          obtain ⟨a1, a2⟩ := hk.good i n hn
          refine ⟨a1, ?_⟩
          have := a2.right (A := [nodeP ps d cx cy ws K.2])
          rw [show ([nodeP ps d cx cy ws K.2] : List Nd).length + i = i + 1 by simp; omega] at this
          exact this
      · have hs := hk.size
        rw [parts_all] at hs
        rw [List.length_cons, Nat.add_mul (f + 1) 1]
        omega
end Go.Proofs.Ytfehhbmmdbpdpaa
