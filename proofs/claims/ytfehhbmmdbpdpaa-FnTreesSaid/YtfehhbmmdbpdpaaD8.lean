/- Four rows of whole numbers, each grown by itself. -/
import Derived.Test.YtfehhbmmdbpdpaaD7
namespace Go.Proofs.Ytfehhbmmdbpdpaa
open Go Go.RowKit
set_option linter.unusedVariables false
set_option linter.unusedSimpArgs false

theorem ownsRow_fr {w w' : World} {B g n m size B2 : Nat} {v v' u : Value} {ys xs : List Value} {t : TypeId} (h : w.ownsRow B2 t size u m xs) (hT : Tr w B g v n ys) (hf : Fr w w' g v v') (h1 : t ≠ 49) (h2 : t ≠ 40) : w'.ownsRow B2 t size u m xs := by
  refine ⟨h.1, ?_⟩
  rcases h.2 with h0 | ⟨g', cap', cur, hv, hB, hb, rest⟩
  · exact .inl h0
  · obtain ⟨e1, e2⟩ := hT.apart (k := g') (cs := cur) (t := t) hb h1 h2
    exact .inr ⟨g', cap', cur, hv, hB, (hf.block g' (Blk.lt (t := t) (cs := cur) hb) e1 e2).trans hb, rest⟩
def partN (ps : List Wh) (cx cy : Int) (us : List Nat) (q : Nat) : Nat := (partP ps cx cy us q).length
def partV (ps : List Wh) (cx cy : Int) (us : List Nat) (A : Nat → Option Addr) (c : Nat → Nat) (q : Nat) : Value := .slice (A q) (partN ps cx cy us q) (c q)
def partsArr (ps : List Wh) (cx cy : Int) (us : List Nat) (A : Nat → Option Addr) (c : Nat → Nat) : Array Value :=
  #[partV ps cx cy us A c 0, partV ps cx cy us A c 1, partV ps cx cy us A c 2, partV ps cx cy us A c 3]
structure Parts (w : World) (B : Nat) (ps : List Wh) (cx cy : Int) (us : List Nat) (A : Nat → Option Addr) (c : Nat → Nat) : Prop where
  row : ∀ q, q < 4 → w.ownsRow B 2 1 (partV ps cx cy us A c q) (partN ps cx cy us q) (intVals (partP ps cx cy us q))
  dis : ∀ q q', q < 4 → q' < 4 → q ≠ q' → (partV ps cx cy us A c q).ownBlock = none ∨ (partV ps cx cy us A c q).ownBlock ≠ (partV ps cx cy us A c q').ownBlock
theorem part_snoc (ps : List Wh) (cx cy : Int) (us : List Nat) (j q : Nat) : partP ps cx cy (us ++ [j]) q = partP ps cx cy us q ++ (if quadP ps cx cy j = q then [j] else []) := by
  unfold partP
  rw [List.filter_append]
  congr 1
  by_cases h : quadP ps cx cy j = q <;> simp [List.filter_cons, h]
theorem Parts.nil (w : World) (B : Nat) (ps : List Wh) (cx cy : Int) : Parts w B ps cx cy [] (fun _ => none) (fun _ => 0) :=
  ⟨fun q _ => World.ownsRow_nil w B _ 1, fun q q' _ _ _ => .inl rfl⟩
theorem Parts.ext {w w' : World} {B : Nat} {ps : List Wh} {cx cy : Int} {us : List Nat} {A : Nat → Option Addr} {c : Nat → Nat} (h : Parts w B ps cx cy us A c) (he : Ext w w') : Parts w' B ps cx cy us A c :=
  ⟨fun q hq => (h.row q hq).kept (row := none) ⟨he.os, he.tape, he.output, he.size, fun k hk _ => he.block k hk⟩ (Classical.em _), h.dis⟩
/-- one number more in the row of its quarter -/
theorem Parts.push {w w' : World} {B : Nat} {ps : List Wh} {cx cy : Int} {us : List Nat} {A : Nat → Option Addr} {c : Nat → Nat} (h : Parts w B ps cx cy us A c) (j q g cap : Nat) (hq : q < 4) (hj : quadP ps cx cy j = q)
    (hown : w'.ownsRow B 2 1 (.slice (some ⟨g, 0, none⟩) (partN ps cx cy us q + 1) cap) (partN ps cx cy us q + 1) (intVals (partP ps cx cy us q) ++ [.int .i64 j]))
    (hgrow : w.grownBy w' (partV ps cx cy us A c q).ownBlock) (hat : (partV ps cx cy us A c q).ownBlock = some g ∨ g = w.heap.size) :
    Parts w' B ps cx cy (us ++ [j]) (fun i => if i = q then some ⟨g, 0, none⟩ else A i) (fun i => if i = q then cap else c i) := by
  have hsame : ∀ i, i ≠ q → partP ps cx cy (us ++ [j]) i = partP ps cx cy us i := fun i hi => by rw [part_snoc, if_neg (fun e => hi (by rw [← e, hj])), List.append_nil]
  have hnew : partP ps cx cy (us ++ [j]) q = partP ps cx cy us q ++ [j] := by rw [part_snoc, if_pos hj]
  have hv : ∀ i, i ≠ q → partV ps cx cy (us ++ [j]) (fun i => if i = q then some ⟨g, 0, none⟩ else A i) (fun i => if i = q then cap else c i) i = partV ps cx cy us A c i := fun i hi => by
    unfold partV partN
    rw [hsame i hi]
    simp only [if_neg hi]
  have hvq : partV ps cx cy (us ++ [j]) (fun i => if i = q then some ⟨g, 0, none⟩ else A i) (fun i => if i = q then cap else c i) q = .slice (some ⟨g, 0, none⟩) (partN ps cx cy us q + 1) cap := by
    unfold partV partN
    rw [hnew]
    simp
  have hold : ∀ i, i < 4 → i ≠ q → (partV ps cx cy us A c i).ownBlock = none ∨ (partV ps cx cy us A c i).ownBlock ≠ some g := fun i hi hiq => by
    rcases h.dis i q hi hq hiq with e | e
    · exact .inl e
    · rcases hat with e' | e'
      · exact .inr (by rw [e'] at e; exact e)
      · refine .inr fun e2 => ?_
        have := ((h.row i hi).lt g e2).2
        omega
  refine ⟨fun i hi => ?_, fun i i' hi hi' hne => ?_⟩
  · by_cases hiq : i = q
    · subst hiq
      rw [hvq]
      unfold partN intVals
      rw [hnew, List.map_append, List.length_append]
      exact hown
    · rw [hv i hiq]
      unfold partN
      rw [hsame i hiq]
      exact (h.row i hi).kept hgrow (h.dis i q hi hq hiq)
  · by_cases hiq : i = q
    · subst hiq
      rw [hvq, hv i' (fun e => hne e.symm)]
      refine .inr fun e => ?_
      rcases hold i' hi' (fun e => hne e.symm) with e' | e'
      · rw [e'] at e; cases e
      · exact e' e.symm
    · rw [hv i hiq]
      by_cases hiq' : i' = q
      · subst hiq'
        rw [hvq]
        exact hold i hi hiq
      · rw [hv i' hiq']
        exact h.dis i i' hi hi' hne
theorem partsArr_set (ps : List Wh) (cx cy : Int) (us : List Nat) (A : Nat → Option Addr) (c : Nat → Nat) (j q g cap : Nat) (hq : q < 4) (hj : quadP ps cx cy j = q) :
    (partsArr ps cx cy us A c).setIfInBounds q (.slice (some ⟨g, 0, none⟩) (partN ps cx cy us q + 1) cap) = partsArr ps cx cy (us ++ [j]) (fun i => if i = q then some ⟨g, 0, none⟩ else A i) (fun i => if i = q then cap else c i) := by
  have hN : ∀ i, partN ps cx cy (us ++ [j]) i = partN ps cx cy us i + if q = i then 1 else 0 := fun i => by
    unfold partN
    rw [part_snoc, List.length_append, hj]
    by_cases h : q = i <;> simp [h]
  unfold partsArr partV
  simp only [hN]
  rcases (by omega : q = 0 ∨ q = 1 ∨ q = 2 ∨ q = 3) with rfl | rfl | rfl | rfl <;> simp
theorem Parts.lies {w : World} {B : Nat} {ps : List Wh} {cx cy : Int} {us : List Nat} {A : Nat → Option Addr} {c : Nat → Nat} (h : Parts w B ps cx cy us A c) {q : Nat} (hq : q < 4) : Lies w 2 (A q) (intVals (partP ps cx cy us q)) := fun hp => by
  have hr := h.row q hq
  have hr2 := hr.2
  rcases hr2 with ⟨h0, h1⟩ | ⟨g', cap', cur, hv, hB, hb, rest⟩
  · exfalso
    rw [intVals_len] at hp
    unfold partN at h1
    omega
  · unfold partV at hr hv
    simp only [Value.slice.injEq] at hv
    rw [hv.1] at hr ⊢
    exact (lies_of_owns hr).1 hp
theorem owns_apart {w : World} {B size n k : Nat} {t u : TypeId} {v : Value} {xs : List Value} {cs : Array Value} (h : w.ownsRow B t size v n xs) (hk : Blk w k u cs) (hne : t ≠ u) : ¬ some k = v.ownBlock := fun e => by
  rcases h.2 with ⟨h0, _⟩ | ⟨g', cap', cur, hv, hB, hb, _⟩
  · rw [h0] at e; cases e
  · rw [hv] at e
    simp only [Value.ownBlock, Option.some.injEq] at e
    subst e
    have hb' : Blk w k t cur := hb
    exact hne (hb'.type hk)
theorem Parts.eq {w : World} {B : Nat} {ps : List Wh} {cx cy : Int} {us us' : List Nat} {A : Nat → Option Addr} {c : Nat → Nat} (h : Parts w B ps cx cy us A c) (e : us' = us) : Parts w B ps cx cy us' A c := e ▸ h
theorem Parts.cell {w : World} {B k off : Nat} {ps : List Wh} {cx cy : Int} {us : List Nat} {A : Nat → Option Addr} {c : Nat → Nat} {u : TypeId} {cs : Array Value} (h : Parts w B ps cx cy us A c) (hb : Blk w k u cs) (hne : 2 ≠ u) (v : Value) : Parts (w.setCell ⟨k, off, none⟩ v) B ps cx cy us A c :=
  ⟨fun q hq => (h.row q hq).kept (row := some k) (only_setCell (g := k) (p := ⟨k, off, none⟩) (only_refl _ _) rfl _) (Or.inr fun e => owns_apart (h.row q hq) hb hne e.symm), h.dis⟩
theorem Fr.grown {a b c : World} {g : Nat} {v v' : Value} {row : Option Nat} (h : Fr a b g v v') (hg : b.grownBy c row) (hr : ∀ k, row = some k → a.heap.size ≤ k) : Fr a c g v v' :=
  ⟨hg.os.trans h.os, hg.tape.trans h.tape, hg.output.trans h.output, Nat.le_trans h.size hg.size, fun k hk h1 h2 =>
    (hg.block k (Nat.lt_of_lt_of_le hk h.size) (fun e => by have := hr k e.symm; omega)).trans (h.block k hk h1 h2), h.own⟩
theorem Fr.own_set {a b : World} {g r off : Nat} {v v' u : Value} (h : Fr a b g v v') (hr : v'.ownBlock = some r) : Fr a (b.setCell ⟨r, off, none⟩ u) g v v' :=
  ⟨h.os, h.tape, h.output, by simpa using h.size, fun k hk h1 h2 => by
    rw [heap_setCell_other b ⟨r, off, none⟩ k u (fun e => ?_)]
    · exact h.block k hk h1 h2
    · have e' : k = r := by simpa using e
      subst e'
      rcases h.own with e2 | e2
      · exact h2 (hr.symm.trans e2)
      · have := e2 _ hr
        omega, h.own⟩
theorem Tr.grown {w w' : World} {B B2 g n m size : Nat} {v u : Value} {ys xs : List Value} {t : TypeId} (h : Tr w B g v n ys) (hr : w.ownsRow B2 t size u m xs) (h1 : t ≠ 49) (h2 : t ≠ 40) (hg : w.grownBy w' u.ownBlock) : Tr w' B g v n ys := by
  refine ⟨(hg.block g h.var.lt (owns_apart hr h.var h2)).trans h.var, h.row.kept hg ?_, h.base⟩
  cases hv : v.ownBlock with
  | none => exact .inl rfl
  | some k =>
    refine .inr fun e => ?_
    obtain ⟨cur, hc, -⟩ := h.own_blk hv
    exact owns_apart hr hc h1 e
theorem Tr.stored {w : World} {B g r n cap j : Nat} {u : Value} {ys : List Value} (h : Tr w B g (.slice (some ⟨r, 0, none⟩) n cap) n ys) : Tr (w.setCell ⟨r, j, none⟩ u) B g (.slice (some ⟨r, 0, none⟩) n cap) n (ys.set j u) :=
  ⟨((h.row.stored j u).2.block g h.var.lt (fun e => h.apart_own e)).trans h.var, (h.row.stored j u).1, h.base⟩
theorem Lies.set_node {w : World} {r off : Nat} {u : Value} {cur : Array Value} {A : Option Addr} {xs : List Value} (h : Lies w 2 A xs) (hb : Blk w r 49 cur) : Lies (w.setCell ⟨r, off, none⟩ u) 2 A xs := fun hp => by
  obtain ⟨b, o, c, a1, a2, a3⟩ := h hp
  refine ⟨b, o, c, a1, ?_, a3⟩
  refine (heap_setCell_other w ⟨r, off, none⟩ b u (fun e => ?_)).trans a2
  have e' : b = r := by simpa using e
  subst e'
  exact absurd (a2.type hb) (by decide)
theorem Lies.grown {w w' : World} {t : TypeId} {row : Option Nat} {A : Option Addr} {xs : List Value} (h : Lies w t A xs) (hg : w.grownBy w' row) (hne : 0 < xs.length → ∀ b o, A = some ⟨b, o, none⟩ → some b ≠ row) : Lies w' t A xs := fun hp => by
  obtain ⟨b, o, c, a1, a2, a3⟩ := h hp
  exact ⟨b, o, c, a1, (hg.block b a2.lt (hne hp b o a1)).trans a2, a3⟩
theorem NodesAt.grown {w w' : World} {wd : Nat} {L : List Nd} {ys : List Value} {row : Option Nat} (h : NodesAt w wd L ys) (hg : w.grownBy w' row) (ha : AddrsIn (fun b => some b ≠ row) ys) : NodesAt w' wd L ys := by
  refine ⟨h.1, fun i n hn => ?_⟩
  obtain ⟨A1, c1, A2, c2, a0, a1, a2, a3, a4, a5, a6, l1, l2⟩ := h.2 i n hn
  refine ⟨A1, c1, A2, c2, a0, a1, a2, a3, a4, a5, a6, l1.grown hg fun hp b o e => ?_, l2.grown hg fun hp b o e => ?_⟩
  · subst e; exact ha _ (List.mem_of_getElem? a3) b o none _ _ rfl (by rw [intVals_len] at hp; exact hp)
  · subst e; exact ha _ (List.mem_of_getElem? a4) b o none _ _ rfl (by rw [intVals_len] at hp; exact hp)
end Go.Proofs.Ytfehhbmmdbpdpaa
