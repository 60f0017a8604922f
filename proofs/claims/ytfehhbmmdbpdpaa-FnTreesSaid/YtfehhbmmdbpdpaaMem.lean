/- Memory: vectors of three floats in cells, slices of them, what a call leaves. -/
import Derived.Test.YtfehhbmmdbpdpaaFl
namespace Go.Proofs.Ytfehhbmmdbpdpaa
open Go Go.RowKit
set_option linter.unusedVariables false

/-- three canonical numbers -/
abbrev V3 := Nat × Nat × Nat
def cv (x y z : Nat) : V3 := (cn .f32 x, cn .f32 y, cn .f32 z)

/-- at block b, from o on, lie three floats that are c -/
def VAt (w : World) (b o : Nat) (c : V3) : Prop :=
  ∃ x y z, w.cell? ⟨b, o, none⟩ = some (.float .f32 x) ∧ w.cell? ⟨b, o + 1, none⟩ = some (.float .f32 y) ∧ w.cell? ⟨b, o + 2, none⟩ = some (.float .f32 z) ∧ cv x y z = c

/-- a slice's cells are vectors -/
def VS (w : World) (A : Option Addr) (cs : List V3) : Prop :=
  0 < cs.length → ∃ b o, A = some ⟨b, o, none⟩ ∧ b < w.heap.size ∧ ∀ i, i < cs.length → VAt w b (o + i * 3) (cs.getD i (0, 0, 0))

/-- .. and they may be written, and lie in blocks from B on -/
def VO (w : World) (B : Nat) (A : Option Addr) (cs : List V3) : Prop :=
  0 < cs.length → ∃ b o, A = some ⟨b, o, none⟩ ∧ B ≤ b ∧ b < w.heap.size ∧ (∀ j, w.frozen? ⟨b, j, none⟩ = false) ∧ ∀ i, i < cs.length → VAt w b (o + i * 3) (cs.getD i (0, 0, 0))

abbrev Ext (w w' : World) : Prop := Below w.heap.size w w'
theorem Ext.trans {a b c : World} (h : Ext a b) (k : Ext b c) : Ext a c := Below.trans h (k.mono h.size)
theorem Ext.rfl' (w : World) : Ext w w := Below.refl _ _
theorem Ext.drewN {a b : World} (h : Ext a b) (n : Nat) : Ext a (b.drewN n) := below_drewN h n

theorem Ext.setCell_at {a b : World} (h : Ext a b) (g o : Nat) (u : Value) (hg : a.heap.size ≤ g) : Ext a (b.setCell ⟨g, o, none⟩ u) := Below.setCell h (p := ⟨g, o, none⟩) hg u
theorem Ext.drew' {a b : World} (h : Ext a b) : Ext a b.drew := Below.drew h
theorem Ext.alloc' {a b : World} (h : Ext a b) (o : Obj) : Ext a (b.alloc o) := Below.alloc h h.size o
theorem bcell {W w1 : World} (hb : Ext W w1) : (∀ b o, b < W.heap.size → w1.cell? ⟨b, o, none⟩ = W.cell? ⟨b, o, none⟩) ∧ (∀ b o, b < W.heap.size → w1.frozen? ⟨b, o, none⟩ = W.frozen? ⟨b, o, none⟩) :=
  ⟨fun b o h => hb.cell (p := ⟨b, o, none⟩) h, fun b o h => hb.frozen (p := ⟨b, o, none⟩) h⟩
theorem VAt.ext {w w' : World} {b o : Nat} {c : V3} (h : VAt w b o c) (hb : b < w.heap.size) (he : Ext w w') : VAt w' b o c := by
  obtain ⟨x, y, z, h1, h2, h3, h4⟩ := h
  exact ⟨x, y, z, (he.cell (p := ⟨b, o, none⟩) hb).trans h1, (he.cell (p := ⟨b, o + 1, none⟩) hb).trans h2, (he.cell (p := ⟨b, o + 2, none⟩) hb).trans h3, h4⟩
theorem VS.ext {w w' : World} {A : Option Addr} {cs : List V3} (h : VS w A cs) (he : Ext w w') : VS w' A cs := fun hp => by
  obtain ⟨b, o, hA, hb, hc⟩ := h hp
  exact ⟨b, o, hA, Nat.lt_of_lt_of_le hb he.size, fun i hi => (hc i hi).ext hb he⟩
theorem VO.ext {w w' : World} {B : Nat} {A : Option Addr} {cs : List V3} (h : VO w B A cs) (he : Ext w w') : VO w' B A cs := fun hp => by
  obtain ⟨b, o, hA, hB, hb, hf, hc⟩ := h hp
  exact ⟨b, o, hA, hB, Nat.lt_of_lt_of_le hb he.size, fun j => (he.frozen (p := ⟨b, j, none⟩) hb).trans (hf j), fun i hi => (hc i hi).ext hb he⟩
theorem VO.vs {w : World} {B : Nat} {A : Option Addr} {cs : List V3} (h : VO w B A cs) : VS w A cs := fun hp => by
  obtain ⟨b, o, hA, _, hb, _, hc⟩ := h hp
  exact ⟨b, o, hA, hb, hc⟩
theorem VS.drewN {w : World} {A : Option Addr} {cs : List V3} (h : VS w A cs) (n : Nat) : VS (w.drewN n) A cs := h
theorem VS.nil (w : World) (A : Option Addr) : VS w A [] := fun h => absurd h (Nat.lt_irrefl 0)

theorem run_make_rowN {P : Program} (t e : TypeId) (i : TypeInfo) (z : Value) (ht : P.underlying t = some (.slice e)) (hi : P.info? e = some i) (hz : i.zero = some z)
    (kl kc : IntKind) (n c : Nat) (hnc : n ≤ c) (hbytes : i.bytes * c ≤ 281474976710656) (h63 : c ≤ 9223372036854775807) (w : World) :
    (Instr.makeSlice t (.int kl (n : Int)) (.int kc (c : Int))).run P w = .ok (.slice (some ⟨w.heap.size, 0, none⟩) n c) (w.alloc (.cells (madeCells z.cells (c * i.size)) e)) := by
  have hb : (i.bytes : Int) * (c : Int) ≤ 281474976710656 := by
    have h : ((i.bytes * c : Nat) : Int) ≤ 281474976710656 := by omega
    rwa [Int.natCast_mul] at h
  have hr := run_make (P := P) w t e i z ht hi hz kl kc n c (by omega) (by omega) hb (by omega)
  simp only [Int.toNat_natCast] at hr
  exact hr

/-- 'make([]T, n)' with T three floats -/
theorem run_make_v3 {P : Program} (t e : TypeId) (ht : P.underlying t = some (.slice e)) (hi : (P.info? e).map (fun i => (i.zero, i.size, i.bytes)) = some (some (.agg #[.float .f32 0, .float .f32 0, .float .f32 0]), 3, 12))
    (n : Nat) (hn : n ≤ 1048576) (w : World) :
    (Instr.makeSlice t (.int .i64 (n : Int)) (.int .i64 (n : Int))).run P w = .ok (.slice (some ⟨w.heap.size, 0, none⟩) n n) (w.alloc (.cells (madeCells #[.float .f32 0, .float .f32 0, .float .f32 0] (n * 3)) e)) := by
  obtain ⟨i, h1, h2, h3, h4⟩ := info_parts hi
  have := run_make_rowN (P := P) t e i _ ht h1 h2 .i64 .i64 n n (Nat.le_refl _) (by rw [h4]; omega) (by omega) w
  rw [h3] at this
  exact this

theorem ret_bool {a b : Bool} (h : a = b) : Ending.returned (.bool a) = .returned (.bool b) := by rw [h]
theorem ret_int {k : IntKind} {a b : Int} (h : a = b) : Ending.returned (.int k a) = .returned (.int k b) := by rw [h]

/-! ## a block known whole -/
def Blk (w : World) (g : Nat) (t : TypeId) (cs : Array Value) : Prop := w.heap[g]? = some (.cells cs t (0, 0))
section
variable {w w' : World} {g : Nat} {t : TypeId} {cs : Array Value}
theorem Blk.lt (h : Blk w g t cs) : g < w.heap.size := by
  rcases Nat.lt_or_ge g w.heap.size with hlt | hge
  · exact hlt
  · unfold Blk at h; rw [Array.getElem?_eq_none hge] at h; cases h
theorem Blk.cell (h : Blk w g t cs) (i : Nat) : w.cell? ⟨g, i, none⟩ = cs[i]? := cell_of_row w g i cs t (0, 0) h
theorem Blk.frozen (h : Blk w g t cs) (i : Nat) : w.frozen? ⟨g, i, none⟩ = false := by
  unfold Blk at h
  simp [World.frozen?, h]
theorem Blk.new (w : World) (t : TypeId) (cs : Array Value) : Blk (w.alloc (.cells cs t)) w.heap.size t cs := heap_alloc_new w _
theorem Blk.set_ (h : Blk w g t cs) (i : Nat) (u : Value) : Blk (w.setCell ⟨g, i, none⟩ u) g t (cs.setIfInBounds i u) := by
  unfold Blk at h ⊢
  simp [World.setCell, Array.getElem?_modify, h]
theorem Blk.ext (h : Blk w g t cs) (hb : Ext w w') : Blk w' g t cs := (hb.block g h.lt).trans h
end

/-- three cells of a block, and that they may be written: for the walk -/
theorem Blk.three {w : World} {g : Nat} {t : TypeId} {arr : Array Value} (h : Blk w g t arr) {n k : Nat} (hs : arr.size = n * 3) (hk : k < n) :
    ∃ v0 v1 v2, w.cell? ⟨g, k * 3, none⟩ = some v0 ∧ w.cell? ⟨g, k * 3 + 1, none⟩ = some v1 ∧ w.cell? ⟨g, k * 3 + 2, none⟩ = some v2 ∧
      w.frozen? ⟨g, k * 3, none⟩ = false ∧ w.frozen? ⟨g, k * 3 + 1, none⟩ = false ∧ w.frozen? ⟨g, k * 3 + 2, none⟩ = false := by
  refine ⟨arr[k * 3]'(by omega), arr[k * 3 + 1]'(by omega), arr[k * 3 + 2]'(by omega), ?_, ?_, ?_, h.frozen _, h.frozen _, h.frozen _⟩
  · rw [h.cell]; exact Array.getElem?_eq_getElem _
  · rw [h.cell]; exact Array.getElem?_eq_getElem _
  · rw [h.cell]; exact Array.getElem?_eq_getElem _
theorem Blk.set3 {w : World} {g : Nat} {t : TypeId} {arr : Array Value} (h : Blk w g t arr) (i : Nat) (x y z : Value) :
    Blk (((w.setCell ⟨g, i, none⟩ x).setCell ⟨g, i + 1, none⟩ y).setCell ⟨g, i + 2, none⟩ z) g t (((arr.setIfInBounds i x).setIfInBounds (i + 1) y).setIfInBounds (i + 2) z) :=
  ((h.set_ i x).set_ (i + 1) y).set_ (i + 2) z
/-- in an array of cells the i-th vector is c -/
def AVec (arr : Array Value) (i : Nat) (c : V3) : Prop :=
  ∃ x y z, arr[i * 3]? = some (.float .f32 x) ∧ arr[i * 3 + 1]? = some (.float .f32 y) ∧ arr[i * 3 + 2]? = some (.float .f32 z) ∧ cv x y z = c

theorem AVec.set_here {arr : Array Value} {k n : Nat} (hs : arr.size = n * 3) (hk : k < n) (x y z : Nat) :
    AVec (((arr.setIfInBounds (k * 3) (.float .f32 x)).setIfInBounds (k * 3 + 1) (.float .f32 y)).setIfInBounds (k * 3 + 2) (.float .f32 z)) k (cv x y z) := by
  refine ⟨x, y, z, ?_, ?_, ?_, rfl⟩ <;> simp [Array.getElem?_setIfInBounds] <;> omega
theorem AVec.set_far {arr : Array Value} {k i : Nat} {c : V3} (h : AVec arr i c) (hne : i ≠ k) (x y z : Value) :
    AVec (((arr.setIfInBounds (k * 3) x).setIfInBounds (k * 3 + 1) y).setIfInBounds (k * 3 + 2) z) i c := by
  obtain ⟨a, b, d, h1, h2, h3, h4⟩ := h
  refine ⟨a, b, d, ?_, ?_, ?_, h4⟩
  · rw [Array.getElem?_setIfInBounds_ne (by omega), Array.getElem?_setIfInBounds_ne (by omega), Array.getElem?_setIfInBounds_ne (by omega)]; exact h1
  · rw [Array.getElem?_setIfInBounds_ne (by omega), Array.getElem?_setIfInBounds_ne (by omega), Array.getElem?_setIfInBounds_ne (by omega)]; exact h2
  · rw [Array.getElem?_setIfInBounds_ne (by omega), Array.getElem?_setIfInBounds_ne (by omega), Array.getElem?_setIfInBounds_ne (by omega)]; exact h3
theorem Blk.vo {w : World} {g : Nat} {t : TypeId} {arr : Array Value} {cs : List V3} {B : Nat} (h : Blk w g t arr) (hB : B ≤ g) (hv : ∀ i, i < cs.length → AVec arr i (cs.getD i (0, 0, 0))) : VO w B (some ⟨g, 0, none⟩) cs := fun _ => by
  refine ⟨g, 0, rfl, hB, h.lt, fun j => h.frozen j, fun i hi => ?_⟩
  obtain ⟨x, y, z, h1, h2, h3, h4⟩ := hv i hi
  refine ⟨x, y, z, ?_, ?_, ?_, h4⟩
  · rw [h.cell, Nat.zero_add]; exact h1
  · rw [h.cell, Nat.zero_add]; exact h2
  · rw [h.cell, Nat.zero_add]; exact h3
theorem made_some {z : Array Value} {n i : Nat} (h : i < n) : ∃ v, (madeCells z n)[i]? = some v := ⟨(madeCells z n)[i]'(by rw [size_madeCells]; exact h), Array.getElem?_eq_getElem _⟩

theorem VO.mono {w : World} {B B' : Nat} {A : Option Addr} {cs : List V3} (h : VO w B A cs) (hB : B' ≤ B) : VO w B' A cs := fun hp => by
  obtain ⟨b, o, hA, hb, r⟩ := h hp
  exact ⟨b, o, hA, Nat.le_trans hB hb, r⟩

/-! ## marks: the numbers that a law writes into a slice -/
def mark (m : Int) : Value := .float .f32 (floatOfInt .f32 m)
/-- three cells an element hold k, k + 1, .. -/
def Marked (w : World) (A : Option Addr) (n : Nat) (k : Int) : Prop :=
  0 < n → ∃ b o, A = some ⟨b, o, none⟩ ∧ b < w.heap.size ∧ ∀ j, j < n * 3 → w.cell? ⟨b, o + j, none⟩ = some (mark (k + j))
theorem Marked.ext {w w' : World} {A : Option Addr} {n : Nat} {k : Int} (h : Marked w A n k) (he : Ext w w') : Marked w' A n k := fun hp => by
  obtain ⟨b, o, hA, hb, hc⟩ := h hp
  exact ⟨b, o, hA, Nat.lt_of_lt_of_le hb he.size, fun j hj => (he.cell (p := ⟨b, o + j, none⟩) hb).trans (hc j hj)⟩

/-- the first m cells of n are marked, all may be written -/
structure Marking (w : World) (b o n m : Nat) (k : Int) : Prop where
  done : ∀ j, j < m → w.cell? ⟨b, o + j, none⟩ = some (mark (k + j))
  all : ∀ j, j < n → ∃ v, w.cell? ⟨b, o + j, none⟩ = some v
  free : ∀ j, w.frozen? ⟨b, j, none⟩ = false
theorem VO.marking {w : World} {b o : Nat} {cs : List V3} (hf : ∀ j, w.frozen? ⟨b, j, none⟩ = false) (hc : ∀ i, i < cs.length → VAt w b (o + i * 3) (cs.getD i (0, 0, 0))) (k : Int) : Marking w b o (cs.length * 3) 0 k := by
  refine ⟨fun j hj => absurd hj (Nat.not_lt_zero j), fun j hj => ?_, hf⟩
  obtain ⟨x, y, z, h0, h1, h2, _⟩ := hc (j / 3) (by omega)
  have hj3 : j % 3 < 3 := Nat.mod_lt _ (by decide)
  have hd := Nat.div_add_mod j 3
  rcases (by omega : j % 3 = 0 ∨ j % 3 = 1 ∨ j % 3 = 2) with e | e | e
  · exact ⟨_, by rw [show o + j = o + j / 3 * 3 by omega]; exact h0⟩
  · exact ⟨_, by rw [show o + j = o + j / 3 * 3 + 1 by omega]; exact h1⟩
  · exact ⟨_, by rw [show o + j = o + j / 3 * 3 + 2 by omega]; exact h2⟩
theorem frozen_setCell (w : World) (a p : Addr) (v : Value) : (w.setCell a v).frozen? p = w.frozen? p := by simp [go_sem]
theorem Marking.step {w : World} {b o n m : Nat} {k : Int} (h : Marking w b o n m k) (hm : m < n) : Marking (w.setCell ⟨b, o + m, none⟩ (mark (k + m))) b o n (m + 1) k := by
  refine ⟨fun j hj => ?_, fun j hj => ?_, fun j => by rw [frozen_setCell]; exact h.free j⟩
  · by_cases e : j = m
    · subst e
      obtain ⟨v, hv⟩ := h.all j hm
      exact World.cell?_setCell_same w _ _ hv
    · rw [World.cell?_setCell_other w _ _ _ (by simp only [ne_eq, Addr.mk.injEq, not_and]; omega)]
      exact h.done j (by omega)
  · by_cases e : j = m
    · subst e
      obtain ⟨v, hv⟩ := h.all j hm
      exact ⟨_, World.cell?_setCell_same w _ _ hv⟩
    · rw [World.cell?_setCell_other w _ _ _ (by simp only [ne_eq, Addr.mk.injEq, not_and]; omega)]
      exact h.all j hj

/-- only block g, and what is new, has turned -/
theorem only_setCell {a w : World} {g : Nat} (h : a.grownBy w (some g)) {p : Addr} (hp : p.block = g) (u : Value) : a.grownBy (w.setCell p u) (some g) :=
  ⟨h.os, h.tape, h.output, by simpa [World.setCell] using h.size, fun i hi hne => (Below.heap_setCell w p u i (by
    rintro rfl
    exact hne (by rw [hp]))).trans (h.block i hi hne)⟩
theorem only_refl (w : World) (row : Option Nat) : w.grownBy w row := ⟨rfl, rfl, rfl, Nat.le_refl _, fun _ _ _ => rfl⟩
/-- what lies elsewhere is as it was -/
theorem VS.only {w w' : World} {A : Option Addr} {cs : List V3} {row : Option Nat} (h : VS w A cs) (hg : w.grownBy w' row) (hne : ∀ b o, A = some ⟨b, o, none⟩ → some b ≠ row) : VS w' A cs := fun hp => by
  obtain ⟨b, o, hA, hb, hc⟩ := h hp
  have hbl := hg.block b hb (hne b o hA)
  refine ⟨b, o, hA, Nat.lt_of_lt_of_le hb hg.size, fun i hi => ?_⟩
  obtain ⟨x, y, z, h0, h1, h2, h3⟩ := hc i hi
  exact ⟨x, y, z, (World.cell?_of_block (w := w) hbl).trans h0, (World.cell?_of_block (w := w) hbl).trans h1, (World.cell?_of_block (w := w) hbl).trans h2, h3⟩
theorem VO.only {w w' : World} {B : Nat} {A : Option Addr} {cs : List V3} {row : Option Nat} (h : VO w B A cs) (hg : w.grownBy w' row) (hne : ∀ b o, A = some ⟨b, o, none⟩ → some b ≠ row) : VO w' B A cs := fun hp => by
  obtain ⟨b, o, hA, hB, hb, hf, hc⟩ := h hp
  have hbl := hg.block b hb (hne b o hA)
  refine ⟨b, o, hA, hB, Nat.lt_of_lt_of_le hb hg.size, fun j => (World.frozen?_of_block (w := w) hbl).trans (hf j), fun i hi => ?_⟩
  obtain ⟨x, y, z, h0, h1, h2, h3⟩ := hc i hi
  exact ⟨x, y, z, (World.cell?_of_block (w := w) hbl).trans h0, (World.cell?_of_block (w := w) hbl).trans h1, (World.cell?_of_block (w := w) hbl).trans h2, h3⟩

theorem VO.set_lt {w : World} {B : Nat} {A : Option Addr} {cs : List V3} (h : VO w B A cs) (g i : Nat) (u : Value) (hg : g < B) : VO (w.setCell ⟨g, i, none⟩ u) B A cs := fun hp => by
  obtain ⟨b, o, hA, hB, hb, hf, hc⟩ := h hp
  refine ⟨b, o, hA, hB, by simpa [World.setCell] using hb, fun j => by rw [frozen_setCell]; exact hf j, fun k hk => ?_⟩
  obtain ⟨x, y, z, h0, h1, h2, h3⟩ := hc k hk
  have hne : ∀ q, (⟨g, i, none⟩ : Addr) ≠ ⟨b, q, none⟩ := fun q e => by injection e with e; omega
  exact ⟨x, y, z, (World.cell?_setCell_other w _ _ _ (hne _)).trans h0, (World.cell?_setCell_other w _ _ _ (hne _)).trans h1, (World.cell?_setCell_other w _ _ _ (hne _)).trans h2, h3⟩

theorem Marking.step3 {w : World} {b o n m : Nat} {k : Int} (h : Marking w b o n (m * 3) k) (hm : m * 3 + 3 ≤ n) :
    Marking (((w.setCell ⟨b, o + m * 3, none⟩ (.float .f32 (floatOfInt .f32 (k + m * 3)))).setCell ⟨b, o + m * 3 + 1, none⟩ (.float .f32 (floatOfInt .f32 (k + m * 3 + 1)))).setCell ⟨b, o + m * 3 + 2, none⟩ (.float .f32 (floatOfInt .f32 (k + m * 3 + 1 + 1)))) b o n ((m + 1) * 3) k := by
  have h1 := (h.step (by omega)).step (by omega) |>.step (m := m * 3 + 1 + 1) (by omega)
  have e : (m + 1) * 3 = m * 3 + 1 + 1 + 1 := by omega
  rw [e]
  have e1 : (k + ((m * 3 : Nat) : Int)) = k + m * 3 := by omega
  have e2 : (k + ((m * 3 + 1 : Nat) : Int)) = k + m * 3 + 1 := by omega
  have e3 : (k + ((m * 3 + 1 + 1 : Nat) : Int)) = k + m * 3 + 1 + 1 := by omega
  rw [e1, e2, e3] at h1
  exact h1

/-! ## slices of floats -/
def FS (w : World) (A : Option Addr) (xs : List Nat) : Prop :=
  0 < xs.length → ∃ b o, A = some ⟨b, o, none⟩ ∧ b < w.heap.size ∧ ∀ i, i < xs.length → ∃ x, w.cell? ⟨b, o + i, none⟩ = some (.float .f32 x) ∧ cn .f32 x = xs.getD i 0
theorem FS.ext {w w' : World} {A : Option Addr} {xs : List Nat} (h : FS w A xs) (he : Ext w w') : FS w' A xs := fun hp => by
  obtain ⟨b, o, hA, hb, hc⟩ := h hp
  refine ⟨b, o, hA, Nat.lt_of_lt_of_le hb he.size, fun i hi => ?_⟩
  obtain ⟨x, h1, h2⟩ := hc i hi
  exact ⟨x, (he.cell (p := ⟨b, o + i, none⟩) hb).trans h1, h2⟩
theorem any_take_succ {α : Type} (p : α → Bool) (xs : List α) (d : α) (k : Nat) (h : k < xs.length) : (xs.take (k + 1)).any p = ((xs.take k).any p || p (xs.getD k d)) := by
  rw [List.take_succ_eq_append_getElem h, List.any_append]
  simp [h]

/-- a block of three floats just made -/
theorem FS.three (w : World) (t : TypeId) (x y z : Nat) (g : Nat) (hg : g = w.heap.size) : FS (w.alloc (.cells #[.float .f32 x, .float .f32 y, .float .f32 z] t)) (some ⟨g, 0, none⟩) [cn .f32 x, cn .f32 y, cn .f32 z] := fun _ => by
  subst hg
  have h := Blk.new w t #[.float .f32 x, .float .f32 y, .float .f32 z]
  refine ⟨w.heap.size, 0, rfl, h.lt, fun i hi => ?_⟩
  match i, hi with
  | 0, _ => exact ⟨x, by rw [h.cell]; rfl, rfl⟩
  | 1, _ => exact ⟨y, by rw [h.cell]; rfl, rfl⟩
  | 2, _ => exact ⟨z, by rw [h.cell]; rfl, rfl⟩
theorem FS.one (w : World) (t : TypeId) (x : Nat) (g : Nat) (hg : g = w.heap.size) : FS (w.alloc (.cells #[.float .f32 x] t)) (some ⟨g, 0, none⟩) [cn .f32 x] := fun _ => by
  subst hg
  have h := Blk.new w t #[.float .f32 x]
  refine ⟨w.heap.size, 0, rfl, h.lt, fun i hi => ?_⟩
  match i, hi with
  | 0, _ => exact ⟨x, by rw [h.cell]; rfl, rfl⟩
theorem FS.two (w : World) (t : TypeId) (x y : Nat) (g : Nat) (hg : g = w.heap.size) : FS (w.alloc (.cells #[.float .f32 x, .float .f32 y] t)) (some ⟨g, 0, none⟩) [cn .f32 x, cn .f32 y] := fun _ => by
  subst hg
  have h := Blk.new w t #[.float .f32 x, .float .f32 y]
  refine ⟨w.heap.size, 0, rfl, h.lt, fun i hi => ?_⟩
  match i, hi with
  | 0, _ => exact ⟨x, by rw [h.cell]; rfl, rfl⟩
  | 1, _ => exact ⟨y, by rw [h.cell]; rfl, rfl⟩

theorem Blk.at_ (w : World) (t : TypeId) (cs : Array Value) (g : Nat) (hg : g = w.heap.size) : Blk (w.alloc (.cells cs t)) g t cs := by subst hg; exact Blk.new w t cs
theorem Blk.alloc {w : World} {g : Nat} {t : TypeId} {cs : Array Value} (h : Blk w g t cs) (o : Obj) : Blk (w.alloc o) g t cs := (Below.heap_alloc w o g h.lt).trans h
theorem Blk.below {B : Nat} {w w' : World} {g : Nat} {t : TypeId} {cs : Array Value} (h : Blk w g t cs) (hb : Below B w w') (hg : g < B) : Blk w' g t cs := (hb.block g hg).trans h
theorem Blk.set3v {w : World} {g : Nat} {t : TypeId} {a b c : Value} (h : Blk w g t #[a, b, c]) (x y z : Value) :
    Blk (((w.setCell ⟨g, 0, none⟩ x).setCell ⟨g, 1, none⟩ y).setCell ⟨g, 2, none⟩ z) g t #[x, y, z] := by
  have := h.set3 0 x y z
  simpa using this
theorem VS.below {B : Nat} {w w' : World} {A : Option Addr} {cs : List V3} (h : VS w A cs) (hb : Below B w w') (hB : w.heap.size ≤ B) : VS w' A cs := h.ext (hb.mono hB)
theorem bcellD {W w1 : World} (hb : Ext W.drew w1) : (∀ b o, b < W.heap.size → w1.cell? ⟨b, o, none⟩ = W.cell? ⟨b, o, none⟩) ∧ (∀ b o, b < W.heap.size → w1.frozen? ⟨b, o, none⟩ = W.frozen? ⟨b, o, none⟩) := @bcell W.drew w1 hb
theorem bcellN {W w1 : World} {n : Nat} (hb : Ext (W.drewN n) w1) : (∀ b o, b < W.heap.size → w1.cell? ⟨b, o, none⟩ = W.cell? ⟨b, o, none⟩) ∧ (∀ b o, b < W.heap.size → w1.frozen? ⟨b, o, none⟩ = W.frozen? ⟨b, o, none⟩) := @bcell (W.drewN n) w1 hb
end Go.Proofs.Ytfehhbmmdbpdpaa
