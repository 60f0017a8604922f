/- The tree of whirls in whole numbers: what is made, and that it is good. No Go in sight. -/
import Derived.Test.YtfehhbmmdbpdpaaD2
namespace Go.Proofs.Ytfehhbmmdbpdpaa
open Go

/-- a whirl: its place and its spin, in 1024ths -/
abbrev Wh := Int × Int × Int
structure Nd where
  cx : Int
  cy : Int
  d : Nat
  ws : List Nat
  nx : List Nat
  sp : Int
  mx : Int
  my : Int
def atW (ps : List Wh) (i : Nat) : Wh := ps.getD i (0, 0, 0)
def spinP (ps : List Wh) (ws : List Nat) : Int := ws.foldl (fun a i => a + (atW ps i).2.2) 0
def momX (ps : List Wh) (c : Int) (ws : List Nat) : Int := ws.foldl (fun a i => a + ((atW ps i).1 - c) * (atW ps i).2.2 / 1024) 0
def momY (ps : List Wh) (c : Int) (ws : List Nat) : Int := ws.foldl (fun a i => a + ((atW ps i).2.1 - c) * (atW ps i).2.2 / 1024) 0
def nodeP (ps : List Wh) (d : Nat) (cx cy : Int) (ws nx : List Nat) : Nd := ⟨cx, cy, d, ws, nx, spinP ps ws, momX ps cx ws, momY ps cy ws⟩
def quadP (ps : List Wh) (cx cy : Int) (i : Nat) : Nat := (if cx ≤ (atW ps i).1 then 1 else 0) + (if cy ≤ (atW ps i).2.1 then 2 else 0)
def partP (ps : List Wh) (cx cy : Int) (ws : List Nat) (q : Nat) : List Nat := ws.filter (fun i => quadP ps cx cy i == q)
def sgnP (b : Nat) (h : Int) : Int := if b = 0 then -h else h
/-- one quarter more -/
def kidP (g : Nat → Int → Int → List Nat → List Nd) (ps : List Wh) (w base d : Nat) (cx cy : Int) (ws : List Nat) (q : Nat) (acc : List Nd × List Nat) : List Nd × List Nat :=
  if (partP ps cx cy ws q).length = 0 then acc
  else (acc.1 ++ g (base + 1 + acc.1.length) (cx + sgnP (q % 2) (hP (d + 1) w)) (cy + sgnP (q / 2) (hP (d + 1) w)) (partP ps cx cy ws q), acc.2 ++ [base + 1 + acc.1.length])
def kidsP (g : Nat → Int → Int → List Nat → List Nd) (ps : List Wh) (w base d : Nat) (cx cy : Int) (ws : List Nat) : Nat → List Nd × List Nat
  | 0 => ([], [])
  | q + 1 => kidP g ps w base d cx cy ws q (kidsP g ps w base d cx cy ws q)
/-- a node and all behind it -/
def growP (ps : List Wh) (w : Nat) : Nat → Nat → Nat → Int → Int → List Nat → List Nd
  | 0, _, d, cx, cy, ws => [nodeP ps d cx cy ws []]
  | f + 1, base, d, cx, cy, ws =>
    if ws.length ≤ 3 ∨ w = 0 then [nodeP ps d cx cy ws []]
    else nodeP ps d cx cy ws (kidsP (fun b => growP ps w f b (d + 1)) ps w base d cx cy ws 4).2 :: (kidsP (fun b => growP ps w f b (d + 1)) ps w base d cx cy ws 4).1

/-- the whirls of a node lie in it -/
def Inside (ps : List Wh) (w d : Nat) (cx cy : Int) (ws : List Nat) : Prop :=
  ∀ i ∈ ws, cx - hP d w ≤ (atW ps i).1 ∧ (atW ps i).1 ≤ cx + hP d w ∧ cy - hP d w ≤ (atW ps i).2.1 ∧ (atW ps i).2.1 ≤ cy + hP d w
/-- what holds of a node by itself -/
structure Alone (ps : List Wh) (w N : Nat) (n : Nd) : Prop where
  inside : Inside ps w n.d n.cx n.cy n.ws
  sorted : n.ws.Pairwise (· < ·)
  below : ∀ i ∈ n.ws, i < N
  some_ : n.ws ≠ []
  deep : n.d ≤ 6
  bx : n.cx.natAbs + (hP n.d w).natAbs ≤ 8192
  by_ : n.cy.natAbs + (hP n.d w).natAbs ≤ 8192
  ex : n.cx % 2 = 0
  ey : n.cy % 2 = 0
  sp_ : n.sp = spinP ps n.ws
  mx_ : n.mx = momX ps n.cx n.ws
  my_ : n.my = momY ps n.cy n.ws
  leaf : n.nx = [] → n.ws.length ≤ 3 ∨ 6 ≤ n.d ∨ w = 0
def lenAt (L : List Nd) (base j : Nat) : Nat := match L[j - base]? with | some m => m.ws.length | none => 0
/-- what holds of a node among others -/
structure Among (L : List Nd) (base i : Nat) (n : Nd) : Prop where
  next : ∀ j ∈ n.nx, base + i < j ∧ j < base + L.length ∧ ∃ m, L[j - base]? = some m ∧ m.d = n.d + 1
  sum : n.nx ≠ [] → (n.nx.map (lenAt L base)).sum = n.ws.length
  first : n.nx ≠ [] → n.nx.head? = some (base + i + 1)
def Good (ps : List Wh) (w N : Nat) (L : List Nd) (base : Nat) : Prop := ∀ i n, L[i]? = some n → Alone ps w N n ∧ Among L base i n

theorem hP_two (d w : Nat) (h : d < 6) : hP d w = 2 * hP (d + 1) w := by
  unfold hP
  rw [show 7 - d = (7 - (d + 1)) + 1 by omega, Nat.pow_succ]
  have : 2 ^ (7 - (d + 1)) * 2 * w = 2 * (2 ^ (7 - (d + 1)) * w) := by rw [Nat.mul_comm (2 ^ (7 - (d + 1))) 2, Nat.mul_assoc]
  rw [this, Int.natCast_mul]; rfl
theorem hP_nonneg (d w : Nat) : 0 ≤ hP d w := by unfold hP; omega
theorem hP_even (d w : Nat) (h : d ≤ 6) : hP d w % 2 = 0 := by
  unfold hP
  rw [show 7 - d = (6 - d) + 1 by omega, Nat.pow_succ]
  have : 2 ^ (6 - d) * 2 * w = 2 * (2 ^ (6 - d) * w) := by rw [Nat.mul_comm (2 ^ (6 - d)) 2, Nat.mul_assoc]
  rw [this]; omega
theorem getElem?_shift {L : List Nd} {A : List Nd} {j base : Nat} (h : base + A.length ≤ j) : (A ++ L)[j - base]? = L[j - (base + A.length)]? := by
  rw [List.getElem?_append_right (by omega)]
  congr 1; omega
theorem Among.left {A B : List Nd} {base i : Nat} {n : Nd} (h : Among A base i n) : Among (A ++ B) base i n := by
  have hg : ∀ j ∈ n.nx, (A ++ B)[j - base]? = A[j - base]? := fun j hj => by
    obtain ⟨h1, h2, -⟩ := h.next j hj
    rw [List.getElem?_append_left (by omega)]
  refine ⟨fun j hj => ?_, fun hne => ?_, h.first⟩
  · obtain ⟨h1, h2, m, h3, h4⟩ := h.next j hj
    exact ⟨h1, by rw [List.length_append]; omega, m, by rw [hg j hj]; exact h3, h4⟩
  · rw [← h.sum hne]
    congr 1
    apply List.map_congr_left
    intro j hj
    unfold lenAt
    rw [hg j hj]
theorem Among.right {A B : List Nd} {base i : Nat} {n : Nd} (h : Among B (base + A.length) i n) : Among (A ++ B) base (A.length + i) n := by
  have hg : ∀ j ∈ n.nx, (A ++ B)[j - base]? = B[j - (base + A.length)]? := fun j hj => by
    obtain ⟨h1, h2, -⟩ := h.next j hj
    exact getElem?_shift (by omega)
  refine ⟨fun j hj => ?_, fun hne => ?_, fun hne => ?_⟩
  · obtain ⟨h1, h2, m, h3, h4⟩ := h.next j hj
    exact ⟨by omega, by rw [List.length_append]; omega, m, by rw [hg j hj]; exact h3, h4⟩
  · rw [← h.sum hne]
    congr 1
    apply List.map_congr_left
    intro j hj
    unfold lenAt
    rw [hg j hj]
  · rw [h.first hne]; congr 1; omega
theorem Good.append {ps : List Wh} {w N base : Nat} {A B : List Nd} (h : Good ps w N A base) (k : Good ps w N B (base + A.length)) : Good ps w N (A ++ B) base := by
  intro i n hn
  by_cases hi : i < A.length
  · rw [List.getElem?_append_left hi] at hn
    obtain ⟨h1, h2⟩ := h i n hn
    exact ⟨h1, h2.left⟩
  · rw [List.getElem?_append_right (by omega)] at hn
    obtain ⟨h1, h2⟩ := k _ n hn
    refine ⟨h1, ?_⟩
    have := h2.right
    rw [show A.length + (i - A.length) = i by omega] at this
    exact this
theorem Good.nil {ps : List Wh} {w N base : Nat} : Good ps w N [] base := fun i n h => by simp at h
end Go.Proofs.Ytfehhbmmdbpdpaa
