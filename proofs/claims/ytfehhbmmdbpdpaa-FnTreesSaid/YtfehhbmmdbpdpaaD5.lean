/- Memory: rows of values by the type of their block; what a call changes elsewhere; steps of the walk at floats that are exact. -/
import Derived.Test.YtfehhbmmdbpdpaaD4
import Derived.Test.YtfehhbmmdbpdpaaMem
import Derived.Test.YtfehhbmmdbpdpaaProg
import Derived.Handy
import Derived.StillTailTactics
import Derived.Deep.AppendLies
import Derived.Deep.RegionLaw
import Derived.Deep.RegionHeld3
import Derived.OwnWalk
import Derived.Lib.SmallJoins
namespace Go.Proofs.Ytfehhbmmdbpdpaa
open Go Go.RowKit
set_option linter.unusedVariables false
set_option linter.unusedSimpArgs false

/-! ## floats that are exact -/
theorem run_fcmp_raw (P : Program) (op : BinOp) (hop : isCmp op = true) (t : TypeId) (k : FloatKind) (x y : Nat) (w : World) :
    (binOp op t (.float k x) (.float k y)).run P w = .ok (.bool (fcmp op k x y)) w := by
  rw [run_fcmp P op hop]
  congr 2
  unfold fcmp
  rw [order_cn]
theorem wpList_fcmpD {P : Program} {ops : Array Oper} {rest : List Oper} {o : Oper} {a : Act} {w : World} {Q : Exit → Act → World → Prop} (hgd : Region.wanted o (yielded ops a.tmps) = true)
    (op : BinOp) (t t' : TypeId) (x y : Operand) (ho : o.op = .binOp op t x y t') (hop : isCmp op = true)
    (k : FloatKind) (X Y : Nat) (hx : a.eval x = .float k X) (hy : a.eval y = .float k Y)
    (b : Bool) (hb : fcmp op k X Y = b) (h : wpList P ops Q rest (a.put o.dst (.bool b)) w) : wpList P ops Q (o :: rest) a w := by
  subst hb
  refine wpList_step fun K hK => ?_
  rw [if_pos hgd]
  unfold Oper.wp execOp
  simp only [ho, hx, hy, Sem.run_bind, Sem.run_pure, Result.andThen_ok, run_fcmp_eqGuard, run_fcmp_raw P op hop]
  exact hK _ _ h
theorem wpList_floatD {P : Program} {ops : Array Oper} {rest : List Oper} {o : Oper} {a : Act} {w : World} {Q : Exit → Act → World → Prop} (hgd : Region.wanted o (yielded ops a.tmps) = true)
    (op : BinOp) (t t' : TypeId) (x y : Operand) (ho : o.op = .binOp op t x y t') (hop : op = .add ∨ op = .sub ∨ op = .mul ∨ op = .quo)
    (k : FloatKind) (X Y : Nat) (hx : a.eval x = .float k X) (hy : a.eval y = .float k Y) (r : Nat) (hr : floatBits op k X Y = some r)
    (h : wpList P ops Q rest (a.put o.dst (.float k r)) w) : wpList P ops Q (o :: rest) a w := by
  refine wpList_step fun K hK => ?_
  rw [if_pos hgd]
  unfold Oper.wp execOp
  simp only [ho, hx, hy, Sem.run_bind, Sem.run_pure, Result.andThen_ok, run_float_eqGuard P op hop, run_float_arith w op t k X Y r hr]
  exact hK _ _ h
theorem run_complex_arith (P : Program) (op : BinOp) (hop : op = .add ∨ op = .sub) (t : TypeId) (k : FloatKind) (a b c d r s : Nat) (hr : floatBits op k a c = some r) (hs : floatBits op k b d = some s) (w : World) :
    (binOp op t (.complex k a b) (.complex k c d)).run P w = .ok (.complex k r s) w := by
  unfold floatBits at hr hs
  rcases hop with rfl | rfl <;> simp only at hr hs <;> simp [binOp, Op.complexOp, Op.Complex.arith, Op.floatArith, hr, hs]
theorem run_store_complex (P : Program) (w : World) (a : Addr) (m : Mode) (k : FloatKind) (b c : Nat) : (store a (.complex k b c) m).run P w = stored P w a (.complex k b c) m := run_store P w a _ m rfl
theorem wpList_negD {P : Program} {ops : Array Oper} {rest : List Oper} {o : Oper} {a : Act} {w : World} {Q : Exit → Act → World → Prop} (hgd : Region.wanted o (yielded ops a.tmps) = true)
    (t : TypeId) (x : Operand) (ho : o.op = .unOp .neg t x) (k : FloatKind) (X : Nat) (hx : a.eval x = .float k X) (r : Nat) (hr : Op.negFloat k X = r)
    (h : wpList P ops Q rest (a.put o.dst (.float k r)) w) : wpList P ops Q (o :: rest) a w := by
  subst hr
  refine wpList_step fun K hK => ?_
  rw [if_pos hgd]
  unfold Oper.wp execOp
  simp only [ho, hx, Sem.run_bind, Sem.run_pure, Result.andThen_ok, Op.unary]
  exact hK _ _ h
/-- the walk stands here -/
def Stand (p : Prop) : Prop := p
theorem Stand.of {p : Prop} (h : Stand p) : p := h
theorem Stand.out {p : Prop} (h : p) : Stand p := h
theorem Ext.grown {w w1 w2 : World} {row : Option Nat} (h : Ext w w1) (hg : w1.grownBy w2 row) (hr : ∀ k, row = some k → w.heap.size ≤ k) : Ext w w2 :=
  ⟨hg.os.trans h.os, hg.tape.trans h.tape, hg.output.trans h.output, Nat.le_trans h.size hg.size, fun k hk => by
    rw [hg.block k (Nat.lt_of_lt_of_le hk h.size) (fun e => by have := hr k e.symm; omega), h.block k hk]⟩
/-! ## rows of values -/
/-- at a slice's address lie these values, in a block of this type -/
def Lies (w : World) (t : TypeId) (A : Option Addr) (xs : List Value) : Prop :=
  0 < xs.length → ∃ b o cur, A = some ⟨b, o, none⟩ ∧ Blk w b t cur ∧ ∀ j, j < xs.length → cur[o + j]? = xs[j]?
theorem Lies.ext {w w' : World} {t : TypeId} {A : Option Addr} {xs : List Value} (h : Lies w t A xs) (he : Ext w w') : Lies w' t A xs := fun hp => by
  obtain ⟨b, o, cur, h1, h2, h3⟩ := h hp
  exact ⟨b, o, cur, h1, h2.ext he, h3⟩
theorem Lies.cell {w : World} {t : TypeId} {A : Option Addr} {xs : List Value} (h : Lies w t A xs) (hp : 0 < xs.length) :
    ∃ b o, A = some ⟨b, o, none⟩ ∧ b < w.heap.size ∧ ∀ j v, xs[j]? = some v → w.cell? ⟨b, o + j, none⟩ = some v := by
  obtain ⟨b, o, cur, h1, h2, h3⟩ := h hp
  refine ⟨b, o, h1, h2.lt, fun j v hv => ?_⟩
  have hj : j < xs.length := by
    by_cases hj : j < xs.length
    · exact hj
    · rw [List.getElem?_eq_none (by omega)] at hv; cases hv
  rw [h2.cell (o + j), h3 j hj, hv]
theorem lies_of_owns {w : World} {B size n g cap : Nat} {e : TypeId} {xs : List Value} (h : w.ownsRow B e size (.slice (some ⟨g, 0, none⟩) n cap) n xs) : Lies w e (some ⟨g, 0, none⟩) xs ∧ B ≤ g ∧ g < w.heap.size := by
  obtain ⟨hlen, h2⟩ := h
  rcases h2 with ⟨h0, _⟩ | ⟨g', cap', cur, hv, hB, hb, hc, _, hs, ht⟩
  · cases h0
  · simp only [Value.slice.injEq, Option.some.injEq, Addr.mk.injEq, and_true, true_and] at hv
    obtain ⟨rfl, rfl⟩ := hv
    have hblk : Blk w g e cur := hb
    refine ⟨fun hp => ⟨g, 0, cur, rfl, hblk, fun j hj => ?_⟩, hB, hblk.lt⟩
    rw [← ht, List.getElem?_take, Nat.zero_add, if_pos (by rw [hlen] at hj; exact hj), Array.getElem?_toList]
/-! ## frames -/
/-- what grows the tree: the list of nodes and the variable that holds it are changed, no other block -/
structure Fr (w w' : World) (g : Nat) (v v' : Value) : Prop where
  os : w'.os = w.os
  tape : w'.tape = w.tape
  output : w'.output = w.output
  size : w.heap.size ≤ w'.heap.size
  block : ∀ k, k < w.heap.size → k ≠ g → some k ≠ v.ownBlock → w'.heap[k]? = w.heap[k]?
  own : v'.ownBlock = v.ownBlock ∨ ∀ r, v'.ownBlock = some r → w.heap.size ≤ r
theorem Fr.of_ext {w w' : World} (g : Nat) (v : Value) (h : Ext w w') : Fr w w' g v v := ⟨h.os, h.tape, h.output, h.size, fun k hk _ _ => h.block k hk, .inl rfl⟩
theorem Fr.trans {a b c : World} {g : Nat} {v v1 v2 : Value} (h : Fr a b g v v1) (k : Fr b c g v1 v2) : Fr a c g v v2 := by
  refine ⟨k.os.trans h.os, k.tape.trans h.tape, k.output.trans h.output, Nat.le_trans h.size k.size, fun i hi h1 h2 => ?_, ?_⟩
  · refine (k.block i (Nat.lt_of_lt_of_le hi h.size) h1 ?_).trans (h.block i hi h1 h2)
    rcases h.own with e | e
    · rw [e]; exact h2
    · intro hh; have := e i hh.symm; omega
  · rcases k.own with e | e
    · rw [e]; exact h.own
    · exact .inr fun r hr => Nat.le_trans h.size (e r hr)
theorem Blk.fr {w w' : World} {k g : Nat} {t : TypeId} {cs : Array Value} {v v' : Value} (h : Blk w k t cs) (hf : Fr w w' g v v') (h1 : k ≠ g) (h2 : some k ≠ v.ownBlock) : Blk w' k t cs :=
  (hf.block k h.lt h1 h2).trans h
theorem Blk.type {w : World} {k : Nat} {t u : TypeId} {cs ds : Array Value} (h : Blk w k t cs) (h' : Blk w k u ds) : t = u := by
  have a : w.heap[k]? = some (.cells cs t (0, 0)) := h
  have b : w.heap[k]? = some (.cells ds u (0, 0)) := h'
  rw [a] at b
  injection b with b
  injection b with _ b _
/-- a variable that holds the list of nodes, which is its own -/
structure Tr (w : World) (B g : Nat) (v : Value) (n : Nat) (ys : List Value) : Prop where
  var : Blk w g 40 #[v]
  row : w.ownsRow B 49 7 v n ys
  base : B ≤ g
theorem Tr.own_blk {w : World} {B g n : Nat} {v : Value} {ys : List Value} (h : Tr w B g v n ys) {r : Nat} (hr : v.ownBlock = some r) : ∃ cur, Blk w r 49 cur ∧ B ≤ r := by
  rcases h.row.2 with ⟨h0, _⟩ | ⟨g', cap', cur, hv, hB, hb, _⟩
  · rw [h0] at hr; cases hr
  · rw [hv] at hr
    simp only [Value.ownBlock, Option.some.injEq] at hr
    subst hr
    exact ⟨cur, hb, hB⟩
theorem Tr.apart {w : World} {B g n k : Nat} {v : Value} {ys : List Value} {t : TypeId} {cs : Array Value} (h : Tr w B g v n ys) (hk : Blk w k t cs) (h1 : t ≠ 49) (h2 : t ≠ 40) : k ≠ g ∧ some k ≠ v.ownBlock := by
  refine ⟨fun e => ?_, fun e => ?_⟩
  · subst e; exact h2 (hk.type h.var)
  · obtain ⟨cur, hc, -⟩ := h.own_blk e.symm
    exact h1 (hk.type hc)
theorem Tr.apart_own {w : World} {B g n : Nat} {v : Value} {ys : List Value} (h : Tr w B g v n ys) (e : some g = v.ownBlock) : False := by
  obtain ⟨cur, hc, -⟩ := h.own_blk e.symm
  exact absurd (h.var.type hc) (by decide)
theorem Lies.fr {w w' : World} {B g n : Nat} {v v' : Value} {ys : List Value} {t : TypeId} {A : Option Addr} {xs : List Value} (h : Lies w t A xs) (hT : Tr w B g v n ys) (hf : Fr w w' g v v') (h1 : t ≠ 49) (h2 : t ≠ 40) : Lies w' t A xs := fun hp => by
  obtain ⟨b, o, cur, a1, a2, a3⟩ := h hp
  obtain ⟨e1, e2⟩ := hT.apart a2 h1 h2
  exact ⟨b, o, cur, a1, a2.fr hf e1 e2, a3⟩
theorem Fr.below {w w' : World} {B g n : Nat} {v v' : Value} {ys : List Value} (hf : Fr w w' g v v') (hT : Tr w B g v n ys) {w0 : World} (h0 : Ext w0 w) (hB : w0.heap.size ≤ B) : Ext w0 w' := by
  have hg : w.grownBy w' none → True := fun _ => trivial
  have hb : ∀ k, k < w0.heap.size → w'.heap[k]? = w.heap[k]? := fun k hk => by
    refine hf.block k (Nat.lt_of_lt_of_le hk h0.size) (by have := hT.base; omega) fun e => ?_
    obtain ⟨cur, -, h⟩ := hT.own_blk e.symm
    omega
  exact ⟨hf.os.trans h0.os, hf.tape.trans h0.tape, hf.output.trans h0.output, Nat.le_trans h0.size hf.size, fun k hk => (hb k hk).trans (h0.block k hk)⟩
theorem Tr.ext {w w' : World} {B g n : Nat} {v : Value} {ys : List Value} (h : Tr w B g v n ys) (he : Ext w w') : Tr w' B g v n ys :=
  ⟨h.var.ext he, h.row.kept (row := none) ⟨he.os, he.tape, he.output, he.size, fun k hk _ => he.block k hk⟩ (Classical.em (v.ownBlock = none)), h.base⟩
theorem Tr.pushed {W W' w6 : World} {B g n m g2 cp2 : Nat} {v : Value} {ys zs : List Value} (h : Tr W B g v n ys) (he : Ext W W') (hgrow : W'.grownBy w6 v.ownBlock)
    (hown : w6.ownsRow B 49 7 (.slice (some ⟨g2, 0, none⟩) m cp2) m zs) (hat : v.ownBlock = some g2 ∨ g2 = W'.heap.size) :
    Tr (w6.setCell ⟨g, 0, none⟩ (.slice (some ⟨g2, 0, none⟩) m cp2)) B g (.slice (some ⟨g2, 0, none⟩) m cp2) m zs ∧ Fr W (w6.setCell ⟨g, 0, none⟩ (.slice (some ⟨g2, 0, none⟩) m cp2)) g v (.slice (some ⟨g2, 0, none⟩) m cp2) := by
  have hv' : Blk W' g 40 #[v] := h.var.ext he
  have hne : ¬ some g = v.ownBlock := fun e => h.apart_own e
  have hv6 : Blk w6 g 40 #[v] := (hgrow.block g hv'.lt hne).trans hv'
  have hb6 : Blk (w6.setCell ⟨g, 0, none⟩ (.slice (some ⟨g2, 0, none⟩) m cp2)) g 40 #[.slice (some ⟨g2, 0, none⟩) m cp2] := hv6.set_ 0 _
  have hgg : g2 ≠ g := fun e => by
    rcases hown.2 with ⟨h0, _⟩ | ⟨g', cap', cur, hv, hB, hb, _⟩
    · cases h0
    · simp only [Value.slice.injEq, Option.some.injEq, Addr.mk.injEq, and_true, true_and] at hv
      have hc : Blk w6 g2 49 cur := by rw [hv.1]; exact hb
      rw [e] at hc
      exact absurd (hc.type hv6) (by decide)
  refine ⟨⟨hb6, hown.kept (row := some g) (only_setCell (g := g) (p := ⟨g, 0, none⟩) (only_refl _ _) rfl _) (Or.inr (by simp [Value.ownBlock]; exact hgg)), h.base⟩, ?_⟩
  have hs : ∀ k, k ≠ g → (w6.setCell ⟨g, 0, none⟩ (.slice (some ⟨g2, 0, none⟩) m cp2)).heap[k]? = w6.heap[k]? := fun k hk => heap_setCell_other w6 ⟨g, 0, none⟩ k _ (fun e => hk (by simpa using e))
  refine ⟨hgrow.os.trans he.os, hgrow.tape.trans he.tape, hgrow.output.trans he.output, by have := he.size; have := hgrow.size; simp; omega, fun k hk h1 h2 => ?_, ?_⟩
  · rw [hs k h1, hgrow.block k (Nat.lt_of_lt_of_le hk he.size) h2, he.block k hk]
  · rcases hat with e | e
    · exact .inl (by rw [e]; rfl)
    · exact .inr fun r hr => by
        simp only [Value.ownBlock, Option.some.injEq] at hr
        rw [← hr, e]; exact he.size
/-! ## whirls and whole numbers in cells -/
def whVal (u : Wh) : List Value := [.complex .f32 (F u.1) (F u.2.1), .float .f32 (F u.2.2)]
def whVals (us : List Wh) : List Value := us.flatMap whVal
def intVals (is : List Nat) : List Value := is.map (fun (i : Nat) => .int .i64 (i : Int))
theorem whVals_len : ∀ us : List Wh, (whVals us).length = us.length * 2
  | [] => rfl
  | u :: us => by
    have := whVals_len us
    unfold whVals at *
    rw [List.flatMap_cons, List.length_append, this, List.length_cons]
    show 2 + _ = _
    omega
theorem whVals_at : ∀ (us : List Wh) (k : Nat) (u : Wh), us[k]? = some u → (whVals us)[k * 2]? = some (.complex .f32 (F u.1) (F u.2.1)) ∧ (whVals us)[k * 2 + 1]? = some (.float .f32 (F u.2.2))
  | [], k, u, h => by simp at h
  | v :: us, 0, u, h => by
    simp only [List.getElem?_cons_zero, Option.some.injEq] at h
    subst h
    exact ⟨rfl, rfl⟩
  | v :: us, k + 1, u, h => by
    rw [List.getElem?_cons_succ] at h
    obtain ⟨h1, h2⟩ := whVals_at us k u h
    unfold whVals at *
    rw [List.flatMap_cons]
    have hl : (whVal v).length = 2 := rfl
    constructor
    · rw [List.getElem?_append_right (by rw [hl]; omega), hl, show (k + 1) * 2 - 2 = k * 2 by omega]; exact h1
    · rw [List.getElem?_append_right (by rw [hl]; omega), hl, show (k + 1) * 2 + 1 - 2 = k * 2 + 1 by omega]; exact h2
theorem whVals_append (us vs : List Wh) : whVals (us ++ vs) = whVals us ++ whVals vs := by unfold whVals; rw [List.flatMap_append]
theorem intVals_at (is : List Nat) (k i : Nat) (h : is[k]? = some i) : (intVals is)[k]? = some (.int .i64 i) := by unfold intVals; rw [List.getElem?_map, h]; rfl
theorem intVals_len (is : List Nat) : (intVals is).length = is.length := by simp [intVals]
/-! ## nodes -/
/-- the i-th of the nodes in these cells -/
def NodeAt (w : World) (wd : Nat) (n : Nd) (ys : List Value) (i : Nat) : Prop :=
  ∃ A1 c1 A2 c2, ys[i * 7]? = some (.complex .f32 (F n.cx) (F n.cy)) ∧ ys[i * 7 + 1]? = some (.float .f32 (F (hP n.d wd))) ∧ ys[i * 7 + 2]? = some (.int .i64 n.d) ∧
    ys[i * 7 + 3]? = some (.slice A1 n.ws.length c1) ∧ ys[i * 7 + 4]? = some (.slice A2 n.nx.length c2) ∧ ys[i * 7 + 5]? = some (.float .f32 (F n.sp)) ∧ ys[i * 7 + 6]? = some (.complex .f32 (F n.mx) (F n.my)) ∧
    Lies w 2 A1 (intVals n.ws) ∧ Lies w 2 A2 (intVals n.nx)
def NodesAt (w : World) (wd : Nat) (L : List Nd) (ys : List Value) : Prop := ys.length = L.length * 7 ∧ ∀ i n, L[i]? = some n → NodeAt w wd n ys i
theorem NodesAt.nil (w : World) (wd : Nat) : NodesAt w wd [] [] := ⟨rfl, fun i n h => by simp at h⟩
theorem NodeAt.map {w w' : World} {wd : Nat} {n : Nd} {ys : List Value} {i : Nat} (h : NodeAt w wd n ys i) (hf : ∀ A xs, Lies w 2 A xs → Lies w' 2 A xs) : NodeAt w' wd n ys i := by
  obtain ⟨A1, c1, A2, c2, a0, a1, a2, a3, a4, a5, a6, l1, l2⟩ := h
  exact ⟨A1, c1, A2, c2, a0, a1, a2, a3, a4, a5, a6, hf _ _ l1, hf _ _ l2⟩
theorem NodesAt.map {w w' : World} {wd : Nat} {L : List Nd} {ys : List Value} (h : NodesAt w wd L ys) (hf : ∀ A xs, Lies w 2 A xs → Lies w' 2 A xs) : NodesAt w' wd L ys :=
  ⟨h.1, fun i n hn => (h.2 i n hn).map hf⟩
theorem NodeAt.left {w : World} {wd : Nat} {n : Nd} {ys zs : List Value} {i : Nat} (h : NodeAt w wd n ys i) : NodeAt w wd n (ys ++ zs) i := by
  obtain ⟨A1, c1, A2, c2, a0, a1, a2, a3, a4, a5, a6, l1, l2⟩ := h
  have key : ∀ j v, ys[j]? = some v → (ys ++ zs)[j]? = some v := fun j v hv => by
    obtain ⟨hj, -⟩ := List.getElem?_eq_some_iff.1 hv
    rw [List.getElem?_append_left hj]; exact hv
  exact ⟨A1, c1, A2, c2, key _ _ a0, key _ _ a1, key _ _ a2, key _ _ a3, key _ _ a4, key _ _ a5, key _ _ a6, l1, l2⟩
theorem NodeAt.right {w : World} {wd : Nat} {n : Nd} {ys zs : List Value} {i m : Nat} (hm : ys.length = m * 7) (h : NodeAt w wd n zs i) : NodeAt w wd n (ys ++ zs) (m + i) := by
  obtain ⟨A1, c1, A2, c2, a0, a1, a2, a3, a4, a5, a6, l1, l2⟩ := h
  have key : ∀ j v, zs[i * 7 + j]? = some v → (ys ++ zs)[(m + i) * 7 + j]? = some v := fun j v hv => by
    rw [List.getElem?_append_right (by omega), hm, show (m + i) * 7 + j - m * 7 = i * 7 + j by omega]; exact hv
  exact ⟨A1, c1, A2, c2, key 0 _ a0, key _ _ a1, key _ _ a2, key _ _ a3, key _ _ a4, key _ _ a5, key _ _ a6, l1, l2⟩
theorem NodesAt.append {w : World} {wd : Nat} {L M : List Nd} {ys zs : List Value} (h : NodesAt w wd L ys) (k : NodesAt w wd M zs) : NodesAt w wd (L ++ M) (ys ++ zs) := by
  refine ⟨by rw [List.length_append, List.length_append, h.1, k.1, Nat.add_mul], fun i n hn => ?_⟩
  by_cases hi : i < L.length
  · rw [List.getElem?_append_left hi] at hn
    exact (h.2 i n hn).left
  · rw [List.getElem?_append_right (by omega)] at hn
    have := NodeAt.right h.1 (k.2 _ n hn)
    rw [show L.length + (i - L.length) = i by omega] at this
    exact this
/-- the rows that these cells name lie in blocks of S -/
def AddrsIn (S : Nat → Prop) (ys : List Value) : Prop := ∀ v ∈ ys, ∀ b o x l c, v = .slice (some ⟨b, o, x⟩) l c → 0 < l → S b
theorem AddrsIn.nil (S : Nat → Prop) : AddrsIn S [] := fun v h => by cases h
theorem AddrsIn.append {S : Nat → Prop} {ys zs : List Value} (h : AddrsIn S ys) (k : AddrsIn S zs) : AddrsIn S (ys ++ zs) := fun v hv => by
  rcases List.mem_append.1 hv with hv | hv
  · exact h v hv
  · exact k v hv
theorem AddrsIn.mono {S T : Nat → Prop} {ys : List Value} (h : AddrsIn S ys) (hst : ∀ b, S b → T b) : AddrsIn T ys := fun v hv b o x l c e hl => hst b (h v hv b o x l c e hl)
theorem AddrsIn.node {S : Nat → Prop} {x0 x1 sp m0 m1 : Nat} {d : Int} {A1 A2 : Option Addr} {n1 c1 n2 c2 : Nat} (h1 : 0 < n1 → ∀ b o x, A1 = some ⟨b, o, x⟩ → S b) (h2 : 0 < n2 → ∀ b o x, A2 = some ⟨b, o, x⟩ → S b) {x2 : Nat} :
    AddrsIn S [.complex .f32 x0 x1, .float .f32 x2, .int .i64 d, .slice A1 n1 c1, .slice A2 n2 c2, .float .f32 sp, .complex .f32 m0 m1] := fun v hv b o x l c e hl => by
  subst e
  simp only [List.mem_cons, List.not_mem_nil, or_false, reduceCtorEq, false_or, Value.slice.injEq] at hv
  rcases hv with ⟨e1, e2, -⟩ | ⟨e1, e2, -⟩
  · subst e2; exact h1 hl b o x e1.symm
  · subst e2; exact h2 hl b o x e1.symm
end Go.Proofs.Ytfehhbmmdbpdpaa
