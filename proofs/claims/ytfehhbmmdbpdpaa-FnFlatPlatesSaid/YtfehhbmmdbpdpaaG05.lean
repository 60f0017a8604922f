/- Memory: rows of values by the type of their block; what a call changes elsewhere; steps of the walk at floats that are exact. -/
import Derived.Test.YtfehhbmmdbpdpaaG03
import Derived.Test.YtfehhbmmdbpdpaaG02
import Derived.Test.YtfehhbmmdbpdpaaProg
import Derived.Handy
import Derived.StillTailTactics
import Derived.Deep.AppendLies
import Derived.Deep.RegionLaw
import Derived.Deep.RegionHeld3
import Derived.OwnWalk
import Derived.Lib.SmallJoins
import Derived.Test.YtfehhbmmdbpdpaaG04
import Derived.Laws.Externs
namespace Go.Proofs.Ytfehhbmmdbpdpaa
open Go Go.RowKit
set_option linter.unusedVariables false
set_option linter.unusedSimpArgs false

/-! ## floats that are exact -/
theorem run_fcmp_raw (P : Program) (op : BinOp) (hop : isCmp op = true) (t : TypeId) (k : FloatKind) (x y : Nat) (w : World) :
    (binOp op t (.float k x) (.float k y)).run P w = .ok (.bool (fcmp op k x y)) w := by
  rw [run_fcmp P op hop]
  congr 2
  unfold fcmp
  rw [order_cn]
theorem wpList_fcmpD {P : Program} {ops : Array Oper} {rest : List Oper} {o : Oper} {a : Act} {w : World} {Q : Exit → Act → World → Prop} (hgd : Region.wanted o (yielded ops a.tmps) = true)
    (op : BinOp) (t t' : TypeId) (x y : Operand) (ho : o.op = .binOp op t x y t') (hop : isCmp op = true)
    (k : FloatKind) (X Y : Nat) (hx : a.eval x = .float k X) (hy : a.eval y = .float k Y)
    (b : Bool) (hb : fcmp op k X Y = b) (h : wpList P ops Q rest (a.put o.dst (.bool b)) w) : wpList P ops Q (o :: rest) a w := by
  subst hb
  refine wpList_step fun K hK => ?_
  rw [if_pos hgd]
  unfold Oper.wp execOp
  simp only [ho, hx, hy, Sem.run_bind, Sem.run_pure, Result.andThen_ok, run_fcmp_eqGuard, run_fcmp_raw P op hop]
  exact hK _ _ h
theorem wpList_floatD {P : Program} {ops : Array Oper} {rest : List Oper} {o : Oper} {a : Act} {w : World} {Q : Exit → Act → World → Prop} (hgd : Region.wanted o (yielded ops a.tmps) = true)
    (op : BinOp) (t t' : TypeId) (x y : Operand) (ho : o.op = .binOp op t x y t') (hop : op = .add ∨ op = .sub ∨ op = .mul ∨ op = .quo)
    (k : FloatKind) (X Y : Nat) (hx : a.eval x = .float k X) (hy : a.eval y = .float k Y) (r : Nat) (hr : floatBits op k X Y = some r)
    (h : wpList P ops Q rest (a.put o.dst (.float k r)) w) : wpList P ops Q (o :: rest) a w := by
  refine wpList_step fun K hK => ?_
  rw [if_pos hgd]
  unfold Oper.wp execOp
  simp only [ho, hx, hy, Sem.run_bind, Sem.run_pure, Result.andThen_ok, run_float_eqGuard P op hop, run_float_arith w op t k X Y r hr]
  exact hK _ _ h
theorem run_complex_arith (P : Program) (op : BinOp) (hop : op = .add ∨ op = .sub) (t : TypeId) (k : FloatKind) (a b c d r s : Nat) (hr : floatBits op k a c = some r) (hs : floatBits op k b d = some s) (w : World) :
    (binOp op t (.complex k a b) (.complex k c d)).run P w = .ok (.complex k r s) w := by
  unfold floatBits at hr hs
  rcases hop with rfl | rfl <;> simp only at hr hs <;> simp [binOp, Op.complexOp, Op.Complex.arith, Op.floatArith, hr, hs]
theorem run_store_complex (P : Program) (w : World) (a : Addr) (m : Mode) (k : FloatKind) (b c : Nat) : (store a (.complex k b c) m).run P w = stored P w a (.complex k b c) m := run_store P w a _ m rfl
theorem wpList_negD {P : Program} {ops : Array Oper} {rest : List Oper} {o : Oper} {a : Act} {w : World} {Q : Exit → Act → World → Prop} (hgd : Region.wanted o (yielded ops a.tmps) = true)
    (t : TypeId) (x : Operand) (ho : o.op = .unOp .neg t x) (k : FloatKind) (X : Nat) (hx : a.eval x = .float k X) (r : Nat) (hr : Op.negFloat k X = r)
    (h : wpList P ops Q rest (a.put o.dst (.float k r)) w) : wpList P ops Q (o :: rest) a w := by
  subst hr
  refine wpList_step fun K hK => ?_
  rw [if_pos hgd]
  unfold Oper.wp execOp
  simp only [ho, hx, Sem.run_bind, Sem.run_pure, Result.andThen_ok, Op.unary]
  exact hK _ _ h
/-- the walk stands here -/
def Stand (p : Prop) : Prop := p
theorem Stand.of {p : Prop} (h : Stand p) : p := h
theorem Stand.out {p : Prop} (h : p) : Stand p := h
theorem Ext.grown {w w1 w2 : World} {row : Option Nat} (h : Ext w w1) (hg : w1.grownBy w2 row) (hr : ∀ k, row = some k → w.heap.size ≤ k) : Ext w w2 :=
  ⟨hg.os.trans h.os, hg.tape.trans h.tape, hg.output.trans h.output, Nat.le_trans h.size hg.size, fun k hk => by
    rw [hg.block k (Nat.lt_of_lt_of_le hk h.size) (fun e => by have := hr k e.symm; omega), h.block k hk]⟩
/-! ## rows of values -/
/-- at a slice's address lie these values, in a block of this type -/
def Lies (w : World) (t : TypeId) (A : Option Addr) (xs : List Value) : Prop :=
  0 < xs.length → ∃ b o cur, A = some ⟨b, o, none⟩ ∧ Blk w b t cur ∧ ∀ j, j < xs.length → cur[o + j]? = xs[j]?
theorem Lies.ext {w w' : World} {t : TypeId} {A : Option Addr} {xs : List Value} (h : Lies w t A xs) (he : Ext w w') : Lies w' t A xs := fun hp => by
  obtain ⟨b, o, cur, h1, h2, h3⟩ := h hp
  exact ⟨b, o, cur, h1, h2.ext he, h3⟩
theorem Lies.cell {w : World} {t : TypeId} {A : Option Addr} {xs : List Value} (h : Lies w t A xs) (hp : 0 < xs.length) :
    ∃ b o, A = some ⟨b, o, none⟩ ∧ b < w.heap.size ∧ ∀ j v, xs[j]? = some v → w.cell? ⟨b, o + j, none⟩ = some v := by
  obtain ⟨b, o, cur, h1, h2, h3⟩ := h hp
  refine ⟨b, o, h1, h2.lt, fun j v hv => ?_⟩
  have hj : j < xs.length := by
    by_cases hj : j < xs.length
    · exact hj
    · rw [List.getElem?_eq_none (by omega)] at hv; cases hv
  rw [h2.cell (o + j), h3 j hj, hv]
theorem lies_of_owns {w : World} {B size n g cap : Nat} {e : TypeId} {xs : List Value} (h : w.ownsRow B e size (.slice (some ⟨g, 0, none⟩) n cap) n xs) : Lies w e (some ⟨g, 0, none⟩) xs ∧ B ≤ g ∧ g < w.heap.size := by
  obtain ⟨hlen, h2⟩ := h
  rcases h2 with ⟨h0, _⟩ | ⟨g', cap', cur, hv, hB, hb, hc, _, hs, ht⟩
  · cases h0
  · simp only [Value.slice.injEq, Option.some.injEq, Addr.mk.injEq, and_true, true_and] at hv
    obtain ⟨rfl, rfl⟩ := hv
    have hblk : Blk w g e cur := hb
    refine ⟨fun hp => ⟨g, 0, cur, rfl, hblk, fun j hj => ?_⟩, hB, hblk.lt⟩
    rw [← ht, List.getElem?_take, Nat.zero_add, if_pos (by rw [hlen] at hj; exact hj), Array.getElem?_toList]
/-! ## frames -/
/-- what grows the tree: the list of nodes and the variable that holds it are changed, no other block -/
structure Fr (w w' : World) (g : Nat) (v v' : Value) : Prop where
  os : w'.os = w.os
  tape : w'.tape = w.tape
  output : w'.output = w.output
  size : w.heap.size ≤ w'.heap.size
  block : ∀ k, k < w.heap.size → k ≠ g → some k ≠ v.ownBlock → w'.heap[k]? = w.heap[k]?
  own : v'.ownBlock = v.ownBlock ∨ ∀ r, v'.ownBlock = some r → w.heap.size ≤ r
theorem Fr.of_ext {w w' : World} (g : Nat) (v : Value) (h : Ext w w') : Fr w w' g v v := ⟨h.os, h.tape, h.output, h.size, fun k hk _ _ => h.block k hk, .inl rfl⟩
theorem Fr.trans {a b c : World} {g : Nat} {v v1 v2 : Value} (h : Fr a b g v v1) (k : Fr b c g v1 v2) : Fr a c g v v2 := by
  refine ⟨k.os.trans h.os, k.tape.trans h.tape, k.output.trans h.output, Nat.le_trans h.size k.size, fun i hi h1 h2 => ?_, ?_⟩
  · refine (k.block i (Nat.lt_of_lt_of_le hi h.size) h1 ?_).trans (h.block i hi h1 h2)
    rcases h.own with e | e
    · rw [e]; exact h2
    · intro hh; have := e i hh.symm; omega
  · rcases k.own with e | e
    · rw [e]; exact h.own
    · exact .inr fun r hr => Nat.le_trans h.size (e r hr)
theorem Blk.fr {w w' : World} {k g : Nat} {t : TypeId} {cs : Array Value} {v v' : Value} (h : Blk w k t cs) (hf : Fr w w' g v v') (h1 : k ≠ g) (h2 : some k ≠ v.ownBlock) : Blk w' k t cs :=
  (hf.block k h.lt h1 h2).trans h
theorem Blk.type {w : World} {k : Nat} {t u : TypeId} {cs ds : Array Value} (h : Blk w k t cs) (h' : Blk w k u ds) : t = u := by
  have a : w.heap[k]? = some (.cells cs t (0, 0)) := h
  have b : w.heap[k]? = some (.cells ds u (0, 0)) := h'
  rw [a] at b
  injection b with b
  injection b with _ b _
/-- a variable that holds the list of nodes, which is its own -/
structure Tr (w : World) (B g : Nat) (v : Value) (n : Nat) (ys : List Value) : Prop where
  var : Blk w g 40 #[v]
  row : w.ownsRow B 49 7 v n ys
  base : B ≤ g
theorem Tr.own_blk {w : World} {B g n : Nat} {v : Value} {ys : List Value} (h : Tr w B g v n ys) {r : Nat} (hr : v.ownBlock = some r) : ∃ cur, Blk w r 49 cur ∧ B ≤ r := by
  rcases h.row.2 with ⟨h0, _⟩ | ⟨g', cap', cur, hv, hB, hb, _⟩
  · rw [h0] at hr; cases hr
  · rw [hv] at hr
    simp only [Value.ownBlock, Option.some.injEq] at hr
    subst hr
    exact ⟨cur, hb, hB⟩
theorem Tr.apart {w : World} {B g n k : Nat} {v : Value} {ys : List Value} {t : TypeId} {cs : Array Value} (h : Tr w B g v n ys) (hk : Blk w k t cs) (h1 : t ≠ 49) (h2 : t ≠ 40) : k ≠ g ∧ some k ≠ v.ownBlock := by
  refine ⟨fun e => ?_, fun e => ?_⟩
  · subst e; exact h2 (hk.type h.var)
  · obtain ⟨cur, hc, -⟩ := h.own_blk e.symm
    exact h1 (hk.type hc)
theorem Tr.apart_own {w : World} {B g n : Nat} {v : Value} {ys : List Value} (h : Tr w B g v n ys) (e : some g = v.ownBlock) : False := by
  obtain ⟨cur, hc, -⟩ := h.own_blk e.symm
  exact absurd (h.var.type hc) (by decide)
theorem Lies.fr {w w' : World} {B g n : Nat} {v v' : Value} {ys : List Value} {t : TypeId} {A : Option Addr} {xs : List Value} (h : Lies w t A xs) (hT : Tr w B g v n ys) (hf : Fr w w' g v v') (h1 : t ≠ 49) (h2 : t ≠ 40) : Lies w' t A xs := fun hp => by
  obtain ⟨b, o, cur, a1, a2, a3⟩ := h hp
  obtain ⟨e1, e2⟩ := hT.apart a2 h1 h2
  exact ⟨b, o, cur, a1, a2.fr hf e1 e2, a3⟩
theorem Fr.below {w w' : World} {B g n : Nat} {v v' : Value} {ys : List Value} (hf : Fr w w' g v v') (hT : Tr w B g v n ys) {w0 : World} (h0 : Ext w0 w) (hB : w0.heap.size ≤ B) : Ext w0 w' := by
  have hg : w.grownBy w' none → True := fun _ => trivial
  have hb : ∀ k, k < w0.heap.size → w'.heap[k]? = w.heap[k]? := fun k hk => by
    refine hf.block k (Nat.lt_of_lt_of_le hk h0.size) (by have := hT.base; omega) fun e => ?_
    obtain ⟨cur, -, h⟩ := hT.own_blk e.symm
    omega
  exact ⟨hf.os.trans h0.os, hf.tape.trans h0.tape, hf.output.trans h0.output, Nat.le_trans h0.size hf.size, fun k hk => (hb k hk).trans (h0.block k hk)⟩
theorem Tr.ext {w w' : World} {B g n : Nat} {v : Value} {ys : List Value} (h : Tr w B g v n ys) (he : Ext w w') : Tr w' B g v n ys :=
  ⟨h.var.ext he, h.row.kept (row := none) ⟨he.os, he.tape, he.output, he.size, fun k hk _ => he.block k hk⟩ (Classical.em (v.ownBlock = none)), h.base⟩
theorem Tr.pushed {W W' w6 : World} {B g n m g2 cp2 : Nat} {v : Value} {ys zs : List Value} (h : Tr W B g v n ys) (he : Ext W W') (hgrow : W'.grownBy w6 v.ownBlock)
    (hown : w6.ownsRow B 49 7 (.slice (some ⟨g2, 0, none⟩) m cp2) m zs) (hat : v.ownBlock = some g2 ∨ g2 = W'.heap.size) :
    Tr (w6.setCell ⟨g, 0, none⟩ (.slice (some ⟨g2, 0, none⟩) m cp2)) B g (.slice (some ⟨g2, 0, none⟩) m cp2) m zs ∧ Fr W (w6.setCell ⟨g, 0, none⟩ (.slice (some ⟨g2, 0, none⟩) m cp2)) g v (.slice (some ⟨g2, 0, none⟩) m cp2) := by
  have hv' : Blk W' g 40 #[v] := h.var.ext he
  have hne : ¬ some g = v.ownBlock := fun e => h.apart_own e
  have hv6 : Blk w6 g 40 #[v] := (hgrow.block g hv'.lt hne).trans hv'
  have hb6 : Blk (w6.setCell ⟨g, 0, none⟩ (.slice (some ⟨g2, 0, none⟩) m cp2)) g 40 #[.slice (some ⟨g2, 0, none⟩) m cp2] := hv6.set_ 0 _
  have hgg : g2 ≠ g := fun e => by
    rcases hown.2 with ⟨h0, _⟩ | ⟨g', cap', cur, hv, hB, hb, _⟩
    · cases h0
    · simp only [Value.slice.injEq, Option.some.injEq, Addr.mk.injEq, and_true, true_and] at hv
      have hc : Blk w6 g2 49 cur := by rw [hv.1]; exact hb
      rw [e] at hc
      exact absurd (hc.type hv6) (by decide)
  refine ⟨⟨hb6, hown.kept (row := some g) (only_setCell (g := g) (p := ⟨g, 0, none⟩) (only_refl _ _) rfl _) (Or.inr (by simp [Value.ownBlock]; exact hgg)), h.base⟩, ?_⟩
  have hs : ∀ k, k ≠ g → (w6.setCell ⟨g, 0, none⟩ (.slice (some ⟨g2, 0, none⟩) m cp2)).heap[k]? = w6.heap[k]? := fun k hk => heap_setCell_other w6 ⟨g, 0, none⟩ k _ (fun e => hk (by simpa using e))
  refine ⟨hgrow.os.trans he.os, hgrow.tape.trans he.tape, hgrow.output.trans he.output, by have := he.size; have := hgrow.size; simp; omega, fun k hk h1 h2 => ?_, ?_⟩
  · rw [hs k h1, hgrow.block k (Nat.lt_of_lt_of_le hk he.size) h2, he.block k hk]
  · rcases hat with e | e
    · exact .inl (by rw [e]; rfl)
    · exact .inr fun r hr => by
        simp only [Value.ownBlock, Option.some.injEq] at hr
        rw [← hr, e]; exact he.size
/-! ## whirls and whole numbers in cells -/
def whVal (u : Wh) : List Value := [.complex .f32 (F u.1) (F u.2.1), .float .f32 (F u.2.2)]
def whVals (us : List Wh) : List Value := us.flatMap whVal
def intVals (is : List Nat) : List Value := is.map (fun (i : Nat) => .int .i64 (i : Int))
theorem whVals_len : ∀ us : List Wh, (whVals us).length = us.length * 2
  | [] => rfl
  | u :: us => by
    have := whVals_len us
    unfold whVals at *
    rw [List.flatMap_cons, List.length_append, this, List.length_cons]
    show 2 + _ = _
    omega
theorem whVals_at : ∀ (us : List Wh) (k : Nat) (u : Wh), us[k]? = some u → (whVals us)[k * 2]? = some (.complex .f32 (F u.1) (F u.2.1)) ∧ (whVals us)[k * 2 + 1]? = some (.float .f32 (F u.2.2))
  | [], k, u, h => by simp at h
  | v :: us, 0, u, h => by
    simp only [List.getElem?_cons_zero, Option.some.injEq] at h
    subst h
    exact ⟨rfl, rfl⟩
  | v :: us, k + 1, u, h => by
    rw [List.getElem?_cons_succ] at h
    obtain ⟨h1, h2⟩ := whVals_at us k u h
    unfold whVals at *
    rw [List.flatMap_cons]
    have hl : (whVal v).length = 2 := rfl
    constructor
    · rw [List.getElem?_append_right (by rw [hl]; omega), hl, show (k + 1) * 2 - 2 = k * 2 by omega]; exact h1
    · rw [List.getElem?_append_right (by rw [hl]; omega), hl, show (k + 1) * 2 + 1 - 2 = k * 2 + 1 by omega]; exact h2
theorem whVals_append (us vs : List Wh) : whVals (us ++ vs) = whVals us ++ whVals vs := by unfold whVals; rw [List.flatMap_append]
theorem intVals_at (is : List Nat) (k i : Nat) (h : is[k]? = some i) : (intVals is)[k]? = some (.int .i64 i) := by unfold intVals; rw [List.getElem?_map, h]; rfl
theorem intVals_len (is : List Nat) : (intVals is).length = is.length := by simp [intVals]
/-! ## nodes -/
/-- the i-th of the nodes in these cells -/
def NodeAt (w : World) (wd : Nat) (n : Nd) (ys : List Value) (i : Nat) : Prop :=
  ∃ A1 c1 A2 c2, ys[i * 7]? = some (.complex .f32 (F n.cx) (F n.cy)) ∧ ys[i * 7 + 1]? = some (.float .f32 (F (hP n.d wd))) ∧ ys[i * 7 + 2]? = some (.int .i64 n.d) ∧
    ys[i * 7 + 3]? = some (.slice A1 n.ws.length c1) ∧ ys[i * 7 + 4]? = some (.slice A2 n.nx.length c2) ∧ ys[i * 7 + 5]? = some (.float .f32 (F n.sp)) ∧ ys[i * 7 + 6]? = some (.complex .f32 (F n.mx) (F n.my)) ∧
    Lies w 2 A1 (intVals n.ws) ∧ Lies w 2 A2 (intVals n.nx)
def NodesAt (w : World) (wd : Nat) (L : List Nd) (ys : List Value) : Prop := ys.length = L.length * 7 ∧ ∀ i n, L[i]? = some n → NodeAt w wd n ys i
theorem NodesAt.nil (w : World) (wd : Nat) : NodesAt w wd [] [] := ⟨rfl, fun i n h => by simp at h⟩
theorem NodeAt.map {w w' : World} {wd : Nat} {n : Nd} {ys : List Value} {i : Nat} (h : NodeAt w wd n ys i) (hf : ∀ A xs, Lies w 2 A xs → Lies w' 2 A xs) : NodeAt w' wd n ys i := by
  obtain ⟨A1, c1, A2, c2, a0, a1, a2, a3, a4, a5, a6, l1, l2⟩ := h
  exact ⟨A1, c1, A2, c2, a0, a1, a2, a3, a4, a5, a6, hf _ _ l1, hf _ _ l2⟩
theorem NodesAt.map {w w' : World} {wd : Nat} {L : List Nd} {ys : List Value} (h : NodesAt w wd L ys) (hf : ∀ A xs, Lies w 2 A xs → Lies w' 2 A xs) : NodesAt w' wd L ys :=
  ⟨h.1, fun i n hn => (h.2 i n hn).map hf⟩
theorem NodeAt.left {w : World} {wd : Nat} {n : Nd} {ys zs : List Value} {i : Nat} (h : NodeAt w wd n ys i) : NodeAt w wd n (ys ++ zs) i := by
  obtain ⟨A1, c1, A2, c2, a0, a1, a2, a3, a4, a5, a6, l1, l2⟩ := h
  have key : ∀ j v, ys[j]? = some v → (ys ++ zs)[j]? = some v := fun j v hv => by
    obtain ⟨hj, -⟩ := List.getElem?_eq_some_iff.1 hv
    rw [List.getElem?_append_left hj]; exact hv
  exact ⟨A1, c1, A2, c2, key _ _ a0, key _ _ a1, key _ _ a2, key _ _ a3, key _ _ a4, key _ _ a5, key _ _ a6, l1, l2⟩
theorem NodeAt.right {w : World} {wd : Nat} {n : Nd} {ys zs : List Value} {i m : Nat} (hm : ys.length = m * 7) (h : NodeAt w wd n zs i) : NodeAt w wd n (ys ++ zs) (m + i) := by
  obtain ⟨A1, c1, A2, c2, a0, a1, a2, a3, a4, a5, a6, l1, l2⟩ := h
  have key : ∀ j v, zs[i * 7 + j]? = some v → (ys ++ zs)[(m + i) * 7 + j]? = some v := fun j v hv => by
    rw [List.getElem?_append_right (by omega), hm, show (m + i) * 7 + j - m * 7 = i * 7 + j by omega]; exact hv
  exact ⟨A1, c1, A2, c2, key 0 _ a0, key _ _ a1, key _ _ a2, key _ _ a3, key _ _ a4, key _ _ a5, key _ _ a6, l1, l2⟩
theorem NodesAt.append {w : World} {wd : Nat} {L M : List Nd} {ys zs : List Value} (h : NodesAt w wd L ys) (k : NodesAt w wd M zs) : NodesAt w wd (L ++ M) (ys ++ zs) := by
  refine ⟨by rw [List.length_append, List.length_append, h.1, k.1, Nat.add_mul], fun i n hn => ?_⟩
  by_cases hi : i < L.length
  · rw [List.getElem?_append_left hi] at hn
    exact (h.2 i n hn).left
  · rw [List.getElem?_append_right (by omega)] at hn
    have := NodeAt.right h.1 (k.2 _ n hn)
    rw [show L.length + (i - L.length) = i by omega] at this
    exact this
/-- the rows that these cells name lie in blocks of S -/
def AddrsIn (S : Nat → Prop) (ys : List Value) : Prop := ∀ v ∈ ys, ∀ b o x l c, v = .slice (some ⟨b, o, x⟩) l c → 0 < l → S b
theorem AddrsIn.nil (S : Nat → Prop) : AddrsIn S [] := fun v h => by cases h
theorem AddrsIn.append {S : Nat → Prop} {ys zs : List Value} (h : AddrsIn S ys) (k : AddrsIn S zs) : AddrsIn S (ys ++ zs) := fun v hv => by
  rcases List.mem_append.1 hv with hv | hv
  · exact h v hv
  · exact k v hv
theorem AddrsIn.mono {S T : Nat → Prop} {ys : List Value} (h : AddrsIn S ys) (hst : ∀ b, S b → T b) : AddrsIn T ys := fun v hv b o x l c e hl => hst b (h v hv b o x l c e hl)
theorem AddrsIn.node {S : Nat → Prop} {x0 x1 sp m0 m1 : Nat} {d : Int} {A1 A2 : Option Addr} {n1 c1 n2 c2 : Nat} (h1 : 0 < n1 → ∀ b o x, A1 = some ⟨b, o, x⟩ → S b) (h2 : 0 < n2 → ∀ b o x, A2 = some ⟨b, o, x⟩ → S b) {x2 : Nat} :
    AddrsIn S [.complex .f32 x0 x1, .float .f32 x2, .int .i64 d, .slice A1 n1 c1, .slice A2 n2 c2, .float .f32 sp, .complex .f32 m0 m1] := fun v hv b o x l c e hl => by
  subst e
  simp only [List.mem_cons, List.not_mem_nil, or_false, reduceCtorEq, false_or, Value.slice.injEq] at hv
  rcases hv with ⟨e1, e2, -⟩ | ⟨e1, e2, -⟩
  · subst e2; exact h1 hl b o x e1.symm
  · subst e2; exact h2 hl b o x e1.symm
end Go.Proofs.Ytfehhbmmdbpdpaa
/- Walks: the spin and the moment of whirls. -/
namespace Go.Proofs.Ytfehhbmmdbpdpaa
open Go Go.RowKit
set_option linter.unusedVariables false
set_option linter.unusedSimpArgs false
attribute [local go_sem] run_store_float run_store_complex

/-- a whirl that B10Many draws -/
def OkW (u : Wh) : Prop := ∃ x y s : Int, u = (256 * x, 256 * y, 512 * s) ∧ -16 ≤ x ∧ x ≤ 16 ∧ -16 ≤ y ∧ y ≤ 16 ∧ -4 ≤ s ∧ s ≤ 4
def spinL (us : List Wh) : Int := us.foldl (fun a u => a + u.2.2) 0
def momXL (c : Int) (us : List Wh) : Int := us.foldl (fun a u => a + (u.1 - c) * u.2.2 / 1024) 0
def momYL (c : Int) (us : List Wh) : Int := us.foldl (fun a u => a + (u.2.1 - c) * u.2.2 / 1024) 0
theorem fold_bound (f : Wh → Int) (b : Nat) (us : List Wh) (h : ∀ u ∈ us, (f u).natAbs ≤ b) : (us.foldl (fun a u => a + f u) 0).natAbs ≤ us.length * b := by
  have key : ∀ (us : List Wh) (a : Int), (∀ u ∈ us, (f u).natAbs ≤ b) → (us.foldl (fun a u => a + f u) a).natAbs ≤ a.natAbs + us.length * b := by
    intro us
    induction us with
    | nil => intro a _; simp
    | cons u us ih =>
      intro a h
      have h1 := h u (by simp)
      have h2 := ih (a + f u) (fun v hv => h v (by simp [hv]))
      rw [List.foldl_cons, List.length_cons, Nat.add_mul, Nat.one_mul]
      omega
  have := key us 0 h
  simpa using this
theorem fold_take (f : Wh → Int) (us : List Wh) (k : Nat) (u : Wh) (h : us[k]? = some u) : (us.take (k + 1)).foldl (fun a u => a + f u) 0 = (us.take k).foldl (fun a u => a + f u) 0 + f u := by
  obtain ⟨hk, hu⟩ := List.getElem?_eq_some_iff.1 h
  rw [List.take_succ_eq_append_getElem hk, List.foldl_append, hu]
  rfl
theorem OkW.term {u : Wh} (h : OkW u) {c : Int} (hc : c.natAbs ≤ 8192) (he : c % 2 = 0) :
    ((u.1 - c) * u.2.2 = 1024 * ((u.1 - c) * u.2.2 / 1024) ∧ ((u.1 - c) * u.2.2 / 1024).natAbs ≤ 24576) ∧ ((u.2.1 - c) * u.2.2 = 1024 * ((u.2.1 - c) * u.2.2 / 1024) ∧ ((u.2.1 - c) * u.2.2 / 1024).natAbs ≤ 24576) ∧ (u.1 - c).natAbs ≤ 12288 ∧ (u.2.1 - c).natAbs ≤ 12288 ∧ u.1.natAbs ≤ 4096 ∧ u.2.1.natAbs ≤ 4096 ∧ u.2.2.natAbs ≤ 2048 := by
  obtain ⟨x, y, s, rfl, h1, h2, h3, h4, h5, h6⟩ := h
  obtain ⟨e, he⟩ : ∃ e, c = 2 * e := ⟨c / 2, by omega⟩
  subst he
  have key : ∀ x : Int, -16 ≤ x → x ≤ 16 → (256 * x - 2 * e) * (512 * s) = 1024 * ((128 * x - e) * s) ∧ ((128 * x - e) * s).natAbs ≤ 24576 := by
    intro x hx1 hx2
    refine ⟨?_, ?_⟩
    · rw [show (256 * x - 2 * e) * (512 * s) = (2 * (128 * x - e)) * (512 * s) by congr 1; omega]
      rw [show (2 * (128 * x - e)) * (512 * s) = 1024 * ((128 * x - e) * s) by
        rw [Int.mul_assoc 2, Int.mul_left_comm (128 * x - e) 512 s, ← Int.mul_assoc 2 512]; rfl]
    · rw [Int.natAbs_mul]
      have : (128 * x - e).natAbs * s.natAbs ≤ 6144 * 4 := Nat.mul_le_mul (by omega) (by omega)
      omega
  obtain ⟨a1, a2⟩ := key x h1 h2
  obtain ⟨b1, b2⟩ := key y h3 h4
  refine ⟨?_, ?_, ?_, ?_, ?_, ?_, ?_⟩
  · dsimp only
    rw [a1, Int.mul_ediv_cancel_left _ (by decide)]
    exact ⟨rfl, a2⟩
  · dsimp only
    rw [b1, Int.mul_ediv_cancel_left _ (by decide)]
    exact ⟨rfl, b2⟩
  · show (256 * x - 2 * e).natAbs ≤ 12288; omega
  · show (256 * y - 2 * e).natAbs ≤ 12288; omega
  · show (256 * x).natAbs ≤ 4096; omega
  · show (256 * y).natAbs ≤ 4096; omega
  · show (512 * s).natAbs ≤ 2048; omega

set_option maxRecDepth 100000 in
theorem ScaleComplex_any (a b s p q : Nat) (hp : floatBits .mul .f32 a s = some p) (hq : floatBits .mul .f32 b s = some q) (w : World) :
    Calls Try.prog 90 #[.complex .f32 a b, .float .f32 s] w fun e w' => w = w' ∧ e = .returned (.complex .f32 p q) := by
  go_enter Try.func90, Try.ntmps90
  go_wp2_with (first
    | (refine wpList_floatD rfl _ _ _ _ _ rfl (by decide) _ _ _ rfl rfl _ hp ?_)
    | (refine wpList_floatD rfl _ _ _ _ _ rfl (by decide) _ _ _ rfl rfl _ hq ?_))
  go_ret
  exact ⟨rfl, rfl⟩
set_option maxRecDepth 100000 in
theorem totalSpin_any (A : Option Addr) (cap : Nat) (us : List Wh) (w : World) (hA : Lies w 51 A (whVals us)) (hl : us.length ≤ 12) (hok : ∀ u ∈ us, OkW u) :
    Calls Try.prog 91 #[.slice A us.length cap] w fun e w' => Ext w w' ∧ e = .returned (.float .f32 (F (spinL us))) := by
  have HA := Lib.hid hA
  have HL := Lib.hid hl
  have HOK := Lib.hid hok
  clear hA hl hok
  go_enter Try.func91, Try.ntmps91
  go_wp2_with fail
  go_loopw [3, 8] (fun s i wr => ∃ (k : Nat), k ≤ us.length ∧ i = .int .i64 k ∧ s = .float .f32 (F (spinL (us.take k))) ∧ Ext w wr) (fun _ i _ => us.length - (intOf i).toNat)
  case atStart => exact ⟨0, Nat.zero_le _, rfl, by rw [List.take_zero]; exact congrArg _ (F_zero .f32).symm, Ext.rfl' _⟩
  case round =>
    obtain ⟨k, hk, rfl, rfl, hbel⟩ := hrel
    have HE := Lib.hid hbel
    clear hbel
    have hk9 : k < 9223372036854775807 := by have := HL.out; omega
    by_cases hlt : k < us.length
    · obtain ⟨u, hu⟩ : ∃ u, us[k]? = some u := ⟨us[k], List.getElem?_eq_getElem hlt⟩
      obtain ⟨b, o, rfl, hb, hc⟩ := HA.out.cell (by rw [whVals_len]; omega)
      obtain ⟨v1, v2⟩ := whVals_at us k u hu
      have d0 := (HE.out.cell (p := ⟨b, o + k * 2, none⟩) hb).trans (hc _ _ v1)
      have d1 := (HE.out.cell (p := ⟨b, o + k * 2 + 1, none⟩) hb).trans (hc _ _ v2)
      have hterm := (HOK.out u (List.mem_of_getElem? hu)).term (c := 0) (by decide) (by decide)
      have hbd := fold_bound (fun u => u.2.2) 2048 (us.take k) (fun v hv => ((HOK.out v (List.mem_of_mem_take hv)).term (c := 0) (by decide) (by decide)).2.2.2.2.2.2)
      have hlen : (us.take k).length ≤ 12 := by rw [List.length_take]; have := HL.out; omega
      have hbd2 : (spinL (us.take k)).natAbs ≤ 24576 := Nat.le_trans hbd (Nat.mul_le_mul_right 2048 hlen)
      have hadd := F_add .f32 (spinL (us.take k)) u.2.2 (by omega) (by have := hterm.2.2.2.2.2.2; omega) (by have := hterm.2.2.2.2.2.2; omega)
      rw [show spinL (us.take k) + u.2.2 = spinL (us.take (k + 1)) from (fold_take (fun u => u.2.2) us k u hu).symm] at hadd
      have HADD := Lib.hid hadd
      have hlb := hb
      clear hterm hbd hbd2 hlen hadd hc v1 v2
      go_wp2_with (first
        | (refine wpList_floatD rfl _ _ _ _ _ rfl (by decide) _ _ _ rfl rfl _ HADD.out ?_))
      exact ⟨⟨k + 1, by omega, by go_num, rfl, by have := HE.out; (repeat first | with_reducible exact Ext.rfl' _ | with_reducible refine Ext.drewN ?_ _ | with_reducible refine Ext.drew' ?_ | with_reducible refine Ext.alloc' ?_ _ | with_reducible refine Ext.setCell_at ?_ _ _ _ (by first | exact Nat.le_refl _ | omega) | with_reducible assumption | refine Ext.trans ?_ (by with_reducible assumption))⟩, by simp [intOf]; omega⟩
    · have hkl : k = us.length := by omega
      go_wp2_with fail
      go_ret
      exact ⟨HE.out, by rw [hkl, List.take_length]; rfl⟩
theorem momX_step (us : List Wh) (k : Nat) (u : Wh) (c : Int) (hu : us[k]? = some u) (hl : us.length ≤ 12) (hok : ∀ u ∈ us, OkW u) (hc : c.natAbs ≤ 8192) (he : c % 2 = 0) :
    ∃ p, floatBits .sub .f32 (F u.1) (F c) = some (F (u.1 - c)) ∧ floatBits .mul .f32 (F (u.1 - c)) (F u.2.2) = some p ∧ floatBits .add .f32 (F (momXL c (us.take k))) p = some (F (momXL c (us.take (k + 1)))) := by
  obtain ⟨⟨t1, t2⟩, -, t3, -, t4, -, t5⟩ := (hok u (List.mem_of_getElem? hu)).term hc he
  have hlen : (us.take k).length ≤ 12 := by rw [List.length_take]; omega
  have hb : (momXL c (us.take k)).natAbs ≤ 294912 := Nat.le_trans (fold_bound (fun u => (u.1 - c) * u.2.2 / 1024) 24576 (us.take k) (fun v hv => ((hok v (List.mem_of_mem_take hv)).term hc he).1.2)) (Nat.mul_le_mul_right 24576 hlen)
  have hstep : momXL c (us.take (k + 1)) = momXL c (us.take k) + (u.1 - c) * u.2.2 / 1024 := fold_take (fun u => (u.1 - c) * u.2.2 / 1024) us k u hu
  rw [hstep]
  generalize momXL c (us.take k) = m at *
  generalize (u.1 - c) * u.2.2 / 1024 = q at *
  obtain ⟨m1, a1⟩ := F_mul m (u.1 - c) u.2.2 q t1 (by omega) (by omega) (by omega) (by omega) (by omega)
  exact ⟨_, F_sub .f32 u.1 c (by omega) (by omega) (by omega), m1, a1⟩
theorem momY_step (us : List Wh) (k : Nat) (u : Wh) (c : Int) (hu : us[k]? = some u) (hl : us.length ≤ 12) (hok : ∀ u ∈ us, OkW u) (hc : c.natAbs ≤ 8192) (he : c % 2 = 0) :
    ∃ p, floatBits .sub .f32 (F u.2.1) (F c) = some (F (u.2.1 - c)) ∧ floatBits .mul .f32 (F (u.2.1 - c)) (F u.2.2) = some p ∧ floatBits .add .f32 (F (momYL c (us.take k))) p = some (F (momYL c (us.take (k + 1)))) := by
  obtain ⟨-, ⟨t1, t2⟩, -, t3, -, t4, t5⟩ := (hok u (List.mem_of_getElem? hu)).term hc he
  have hlen : (us.take k).length ≤ 12 := by rw [List.length_take]; omega
  have hb : (momYL c (us.take k)).natAbs ≤ 294912 := Nat.le_trans (fold_bound (fun u => (u.2.1 - c) * u.2.2 / 1024) 24576 (us.take k) (fun v hv => ((hok v (List.mem_of_mem_take hv)).term hc he).2.1.2)) (Nat.mul_le_mul_right 24576 hlen)
  have hstep : momYL c (us.take (k + 1)) = momYL c (us.take k) + (u.2.1 - c) * u.2.2 / 1024 := fold_take (fun u => (u.2.1 - c) * u.2.2 / 1024) us k u hu
  rw [hstep]
  generalize momYL c (us.take k) = m at *
  generalize (u.2.1 - c) * u.2.2 / 1024 = q at *
  obtain ⟨m1, a1⟩ := F_mul m (u.2.1 - c) u.2.2 q t1 (by omega) (by omega) (by omega) (by omega) (by omega)
  exact ⟨_, F_sub .f32 u.2.1 c (by omega) (by omega) (by omega), m1, a1⟩
set_option maxRecDepth 100000 in
theorem moments_any (A : Option Addr) (cap : Nat) (us : List Wh) (cx cy : Int) (w : World) (hA : Lies w 51 A (whVals us)) (hl : us.length ≤ 12) (hok : ∀ u ∈ us, OkW u) (hx : cx.natAbs ≤ 8192) (hy : cy.natAbs ≤ 8192) (ex : cx % 2 = 0) (ey : cy % 2 = 0) :
    Calls Try.prog 49 #[.slice A us.length cap, .complex .f32 (F cx) (F cy)] w fun e w' => Ext w w' ∧ e = .returned (.tuple #[.float .f32 (F (spinL us)), .complex .f32 (F (momXL cx us)) (F (momYL cy us))]) := by
  have HA := Lib.hid hA
  have HL := Lib.hid hl
  have HOK := Lib.hid hok
  have HX := Lib.hid hx
  have HY := Lib.hid hy
  have HEX := Lib.hid ex
  have HEY := Lib.hid ey
  clear hA hl hok hx hy ex ey
  go_enter Try.func49, Try.ntmps49
  go_wp2_with fail
  go_loopw [6, 11] (fun s i wr => ∃ (k : Nat), k ≤ us.length ∧ i = .int .i64 k ∧ s = .complex .f32 (F (momXL cx (us.take k))) (F (momYL cy (us.take k))) ∧ Ext w wr) (fun _ i _ => us.length - (intOf i).toNat)
  case atStart => exact ⟨0, Nat.zero_le _, rfl, by rw [List.take_zero]; exact congr (congrArg (Value.complex .f32) (F_zero .f32).symm) (F_zero .f32).symm, Ext.rfl' _⟩
  case round =>
    obtain ⟨k, hk, rfl, rfl, hbel⟩ := hrel
    have HE := Lib.hid hbel
    clear hbel
    have hk9 : k < 9223372036854775807 := by have := HL.out; omega
    by_cases hlt : k < us.length
    · obtain ⟨u, hu⟩ : ∃ u, us[k]? = some u := ⟨us[k], List.getElem?_eq_getElem hlt⟩
      obtain ⟨b, o, rfl, hb, hc⟩ := HA.out.cell (by rw [whVals_len]; omega)
      obtain ⟨v1, v2⟩ := whVals_at us k u hu
      have d0 := (HE.out.cell (p := ⟨b, o + k * 2, none⟩) hb).trans (hc _ _ v1)
      have d1 := (HE.out.cell (p := ⟨b, o + k * 2 + 1, none⟩) hb).trans (hc _ _ v2)
      obtain ⟨p, s1, m1, a1⟩ := momX_step us k u cx hu HL.out HOK.out HX.out HEX.out
      obtain ⟨q, s2, m2, a2⟩ := momY_step us k u cy hu HL.out HOK.out HY.out HEY.out
      have hsub := fun w => run_complex_arith Try.prog .sub (.inr rfl) 27 .f32 (F u.1) (F u.2.1) (F cx) (F cy) _ _ s1 s2 w
      have hadd := fun w => run_complex_arith Try.prog .add (.inl rfl) 27 .f32 (F (momXL cx (us.take k))) (F (momYL cy (us.take k))) _ _ _ _ a1 a2 w
      have HM1 := Lib.hid m1
      have HM2 := Lib.hid m2
      clear m1 m2 a1 a2 s1 s2 hc v1 v2
      go_wp2_with (first
        | (go_at_call 90; refine (ScaleComplex_any _ _ _ _ _ HM1.out HM2.out _).mono ?_; rintro e wq ⟨rfl, rfl⟩))
      exact ⟨⟨k + 1, by omega, by go_num, rfl, by have := HE.out; (repeat first | with_reducible exact Ext.rfl' _ | with_reducible refine Ext.drewN ?_ _ | with_reducible refine Ext.drew' ?_ | with_reducible refine Ext.alloc' ?_ _ | with_reducible refine Ext.setCell_at ?_ _ _ _ (by first | exact Nat.le_refl _ | omega) | with_reducible assumption | refine Ext.trans ?_ (by with_reducible assumption))⟩, by simp [intOf]; omega⟩
    · have hkl : k = us.length := by omega
      go_wp2_with fail
      refine (totalSpin_any A cap us _ (HA.out.ext HE.out) HL.out HOK.out).mono ?_
      rintro e w2 ⟨he2, rfl⟩
      go_wp2_with fail
      go_ret2
      exact ⟨Ext.trans HE.out he2, rfl⟩
end Go.Proofs.Ytfehhbmmdbpdpaa
/- Memory: rows of floats, and a square of such rows. -/
namespace Go.Proofs.Ytfehhbmmdbpdpaa
open Go Go.RowKit
set_option linter.unusedVariables false
set_option linter.unusedSimpArgs false

/-- a row of floats in a block of its own -/
def Vec (w : World) (g n : Nat) (v : Nat → Nat) : Prop := ∃ arr : Array Value, Blk w g 34 arr ∧ ∀ c, c < n → arr[c]? = some (.float .f32 (v c))
def upd (v : Nat → Nat) (i x : Nat) : Nat → Nat := fun c => if c = i then x else v c
theorem upd_here (v : Nat → Nat) (i x : Nat) : upd v i x i = x := by unfold upd; rw [if_pos rfl]
theorem upd_far {v : Nat → Nat} {i x c : Nat} (h : c ≠ i) : upd v i x c = v c := by unfold upd; rw [if_neg h]
section
variable {w w' : World} {g h n i x : Nat} {v : Nat → Nat}
theorem Vec.lt (k : Vec w g n v) : g < w.heap.size := k.elim fun _ k => k.1.lt
theorem Vec.cell (k : Vec w g n v) {c : Nat} (hc : c < n) : w.cell? ⟨g, c, none⟩ = some (.float .f32 (v c)) := by
  obtain ⟨arr, h1, h2⟩ := k
  rw [h1.cell, h2 c hc]
theorem Vec.frozen (k : Vec w g n v) (c : Nat) : w.frozen? ⟨g, c, none⟩ = false := k.elim fun _ k => k.1.frozen c
theorem Vec.set (k : Vec w g n v) (i x : Nat) : Vec (w.setCell ⟨g, i, none⟩ (.float .f32 x)) g n (upd v i x) := by
  obtain ⟨arr, h1, h2⟩ := k
  refine ⟨_, h1.set_ i _, fun c hc => ?_⟩
  by_cases e : c = i
  · subst e
    have hs : c < arr.size := by
      by_cases hs : c < arr.size
      · exact hs
      · have := h2 c hc
        rw [Array.getElem?_eq_none (by omega)] at this
        cases this
    rw [upd_here, Array.getElem?_setIfInBounds_self_of_lt hs]
  · rw [upd_far e, Array.getElem?_setIfInBounds_ne (by omega)]
    exact h2 c hc
theorem Blk.set_other {t : TypeId} {cs : Array Value} {u : Value} (k : Blk w g t cs) (hne : g ≠ h) (i : Nat) : Blk (w.setCell ⟨h, i, none⟩ u) g t cs :=
  (heap_setCell_other w ⟨h, i, none⟩ g u (fun e => hne (by simpa using e))).trans k
theorem Vec.other {u : Value} (k : Vec w g n v) (hne : g ≠ h) (i : Nat) : Vec (w.setCell ⟨h, i, none⟩ u) g n v := k.elim fun arr k => ⟨arr, k.1.set_other hne i, k.2⟩
theorem Vec.drewN (k : Vec w g n v) (m : Nat) : Vec (w.drewN m) g n v := k
theorem Vec.drew (k : Vec w g n v) : Vec w.drew g n v := k
theorem Vec.ext (k : Vec w g n v) (he : Ext w w') : Vec w' g n v := k.elim fun arr k => ⟨arr, k.1.ext he, k.2⟩
theorem Vec.congr {v' : Nat → Nat} (k : Vec w g n v) (h : ∀ c, c < n → v' c = v c) : Vec w g n v' := k.elim fun arr k => ⟨arr, k.1, fun c hc => by rw [h c hc]; exact k.2 c hc⟩
end
/-- a square of rows -/
structure Mat (w : World) (R : Nat) (G C : Nat → Nat) (n : Nat) (V : Nat → Nat → Nat) : Prop where
  rows : ∃ arr : Array Value, Blk w R 67 arr ∧ ∀ r, r < n → arr[r]? = some (.slice (some ⟨G r, 0, none⟩) n (C r))
  row : ∀ r, r < n → Vec w (G r) n (V r)
  inj : ∀ r s, r < n → s < n → G r = G s → r = s
def upm (V : Nat → Nat → Nat) (r c x : Nat) : Nat → Nat → Nat := fun r' => if r' = r then upd (V r) c x else V r'
theorem upm_here (V : Nat → Nat → Nat) (r c x : Nat) : upm V r c x r c = x := by unfold upm; rw [if_pos rfl, upd_here]
theorem upm_far {V : Nat → Nat → Nat} {r c x r' c' : Nat} (h : r' ≠ r ∨ c' ≠ c) : upm V r c x r' c' = V r' c' := by
  unfold upm
  by_cases e : r' = r
  · subst e
    rw [if_pos rfl, upd_far (by omega)]
  · rw [if_neg e]
section
variable {w w' : World} {R n : Nat} {G C : Nat → Nat} {V : Nat → Nat → Nat}
theorem Mat.apart (k : Mat w R G C n V) {r : Nat} (hr : r < n) : G r ≠ R := fun e => by
  obtain ⟨arr, h1, -⟩ := k.rows
  obtain ⟨arr2, h2, -⟩ := k.row r hr
  rw [e] at h2
  exact absurd (h2.type h1) (by decide)
theorem Mat.cell_row (k : Mat w R G C n V) {r : Nat} (hr : r < n) : w.cell? ⟨R, r, none⟩ = some (.slice (some ⟨G r, 0, none⟩) n (C r)) := by
  obtain ⟨arr, h1, h2⟩ := k.rows
  rw [h1.cell, h2 r hr]
theorem Mat.frozen_row (k : Mat w R G C n V) (r : Nat) : w.frozen? ⟨R, r, none⟩ = false := k.rows.elim fun _ k => k.1.frozen r
theorem Mat.cell (k : Mat w R G C n V) {r c : Nat} (hr : r < n) (hc : c < n) : w.cell? ⟨G r, c, none⟩ = some (.float .f32 (V r c)) := (k.row r hr).cell hc
theorem Mat.frozen (k : Mat w R G C n V) {r : Nat} (hr : r < n) (c : Nat) : w.frozen? ⟨G r, c, none⟩ = false := (k.row r hr).frozen c
theorem Mat.set (k : Mat w R G C n V) {r : Nat} (hr : r < n) (c x : Nat) : Mat (w.setCell ⟨G r, c, none⟩ (.float .f32 x)) R G C n (upm V r c x) := by
  refine ⟨?_, fun s hs => ?_, k.inj⟩
  · obtain ⟨arr, h1, h2⟩ := k.rows
    exact ⟨arr, h1.set_other (k.apart hr).symm c, h2⟩
  · unfold upm
    by_cases e : s = r
    · subst e
      rw [if_pos rfl]
      exact (k.row s hs).set c x
    · rw [if_neg e]
      exact (k.row s hs).other (fun e2 => e (k.inj s r hs hr e2)) c
theorem Mat.other {u : Value} {h : Nat} (k : Mat w R G C n V) (hR : R ≠ h) (hG : ∀ r, r < n → G r ≠ h) (i : Nat) : Mat (w.setCell ⟨h, i, none⟩ u) R G C n V := by
  refine ⟨?_, fun s hs => (k.row s hs).other (hG s hs) i, k.inj⟩
  obtain ⟨arr, h1, h2⟩ := k.rows
  exact ⟨arr, h1.set_other hR i, h2⟩
theorem Mat.drewN (k : Mat w R G C n V) (m : Nat) : Mat (w.drewN m) R G C n V := ⟨k.rows, k.row, k.inj⟩
theorem Mat.drew (k : Mat w R G C n V) : Mat w.drew R G C n V := ⟨k.rows, k.row, k.inj⟩
theorem Mat.ext (k : Mat w R G C n V) (he : Ext w w') : Mat w' R G C n V := ⟨k.rows.elim fun arr k => ⟨arr, k.1.ext he, k.2⟩, fun r hr => (k.row r hr).ext he, k.inj⟩
end
/-- what is written as it was -/
theorem setCell_same {w : World} {g i : Nat} {u : Value} {t : TypeId} {arr : Array Value} (h : Blk w g t arr) (hu : arr[i]? = some u) : w.setCell ⟨g, i, none⟩ u = w := by
  have hlt := h.lt
  have hi : i < arr.size := (Array.getElem?_eq_some_iff.1 hu).1
  have hv := (Array.getElem?_eq_some_iff.1 hu).2
  have harr : arr.setIfInBounds i u = arr := by
    apply Array.ext
    · simp
    · intro j h1 h2
      by_cases e : i = j
      · subst e
        simp [hv]
      · rw [Array.getElem_setIfInBounds_ne _ e]
  unfold Blk at h
  have hg : w.heap[g]'hlt = .cells arr t (0, 0) := by
    have := Array.getElem?_eq_getElem hlt
    rw [h] at this
    injection this with this
    exact this.symm
  have hh : (w.setCell ⟨g, i, none⟩ u).heap = w.heap := by
    apply Array.ext
    · simp [World.setCell]
    · intro j h1 h2
      simp only [World.setCell]
      by_cases e : g = j
      · subst e
        simp [Array.getElem_modify, hg, harr]
      · simp [Array.getElem_modify, e]
  have : w.setCell ⟨g, i, none⟩ u = { w with heap := (w.setCell ⟨g, i, none⟩ u).heap } := rfl
  rw [this, hh]
end Go.Proofs.Ytfehhbmmdbpdpaa
/- Walks: what is left of a number of turns. -/
namespace Go.Proofs.Ytfehhbmmdbpdpaa
open Go Go.RowKit
set_option linter.unusedVariables false
set_option linter.unusedSimpArgs false
attribute [local go_sem] run_store_float

theorem trunc_fun {X : Nat} {s : Bool} {m : Nat} {p : Int} (h : FloatKind.f64.decode X = .number s m p) (w : World) : (callFunc 125 #[.float .f64 X]).run Try.prog w = .ok (.value (.float .f64 (FloatKind.f64.format.write (.number s (wholeM m p) 0)))) w := by
  rw [run_callFunc_extern Try.func125 (by kernel_rfl) (by kernel_rfl) (by kernel_rfl) (e := Extern.MathFloor.toIntegral "math.archTrunc" .zero) (by kernel_rfl)]
  have hun : Extern.MathFloor.toIntegral "math.archTrunc" .zero #[.float .f64 X] = pure (.float .f64 (FloatKind.f64.encode ((Ieee.Datum.number s m p).integral .zero))) := by
    delta Extern.MathFloor.toIntegral
    generalize hd : FloatKind.decode .f64 = D at *
    change (fun (x : Nat) => _) X = _
    rw [h]
  rw [hun, integral_zero]
  rfl
theorem Trunc_any {X : Nat} {s : Bool} {m : Nat} {p : Int} (h : FloatKind.f64.decode X = .number s m p) (w : World) : Calls Try.prog 117 #[.float .f64 X] w fun e w' => Ext w w' ∧ e = .returned (.float .f64 (FloatKind.f64.format.write (.number s (wholeM m p) 0))) := by
  have hf := fun W => trunc_fun h W
  clear h
  go_enter Try.func117, Try.ntmps117
  go_wp2_with fail
  go_ret
  exact ⟨by (repeat first | with_reducible exact Ext.rfl' _ | with_reducible refine Ext.drewN ?_ _ | with_reducible refine Ext.drew' ?_ | with_reducible refine Ext.alloc' ?_ _ | with_reducible refine Ext.setCell_at ?_ _ _ _ (by first | exact Nat.le_refl _ | omega) | with_reducible assumption | refine Ext.trans ?_ (by with_reducible assumption)), rfl⟩
theorem cn_one64 : cn .f64 4607182418800017408 = one64 := by decide
theorem cn_half64 : cn .f64 4602678819172646912 = half64 := by decide
theorem cn_quart64 : cn .f64 4598175219545276416 = quart64 := by decide
theorem cn_turn64 : cn .f64 4618760256179416344 = turn64 := by decide
theorem cn_big64 : cn .f64 4841369599423283200 = big64 := by decide
theorem cn_nbig64 : cn .f64 14064741636278059008 = nbig64 := by decide
theorem cn_num {k : FloatKind} {y : Nat} {s : Bool} {m : Nat} {p : Int} (h : k.decode y = .number s m p) : cn k y = y := cn_of_not (by unfold isN; rw [h]; rfl)

set_option maxRecDepth 100000 in
theorem partOf_any {y : Nat} {s : Bool} {m : Nat} {p : Int} (h : FloatKind.f64.decode y = .number s m p) (hb : isBig y = false) (w : World) : Calls Try.prog 97 #[.float .f64 y] w fun e w' => Ext w w' ∧ ∃ r, e = .returned (.float .f64 r) ∧ cn .f64 r = upP (fracP y) := by
  have hw := whole_lt h hb
  have hcy := cn_num h
  obtain ⟨Wb, hWb⟩ : ∃ Wb, FloatKind.f64.format.write (.number s (wholeM m p) 0) = Wb := ⟨_, rfl⟩
  have hcw : cn .f64 Wb = Wb := by rw [← hWb]; exact cn_of_not (read_write_nearest Ieee.double _ _ _)
  have hneq : fcmp .neq .f64 (cn .f64 Wb) (cn .f64 0) = decide (wholeM m p ≠ 0) := by
    rw [hcw, cn_zero64, ← hWb]; exact whole_neq (Nat.lt_trans hw (by decide))
  have HT : ∀ w, Calls Try.prog 117 #[.float .f64 y] w fun e w' => Ext w w' ∧ e = .returned (.float .f64 Wb) := fun w => by rw [← hWb]; exact Trunc_any h w
  have HTr := Lib.hid HT
  clear HT
  by_cases hT : wholeM m p = 0
  · rw [decide_eq_false (by simpa using hT)] at hneq
    have hf := impl_frac0 h hT
    cases hl : fcmp .lss .f64 (fracP y) 0 with
    | false =>
      have HR := Lib.hid (show cn .f64 y = upP (fracP y) by unfold upP; rw [hl, hcy, ← hf]; rfl)
      have hlc : fcmp .lss .f64 (cn .f64 y) (cn .f64 0) = false := by rw [hcy, cn_zero64, hf]; exact hl
      clear hl hf hT hcw hcy hWb hw hb h
      go_enter Try.func97, Try.ntmps97
      go_wp2_with (first
        | (go_at_call 117; refine (HTr.out _).mono ?_; rintro e w1 ⟨he1, rfl⟩)
        | (refine wpList_float rfl _ _ _ _ _ rfl (by decide) _ _ _ rfl rfl ?_; intro r1 n1 q1) | (refine wpList_fcmp rfl _ _ _ _ _ rfl rfl _ _ _ rfl rfl _ (by first | with_reducible assumption | rfl) ?_) | (refine wpList_fneg rfl _ _ rfl _ _ rfl ?_; intro r1 q1))
      go_ret
      exact ⟨by (repeat first | with_reducible exact Ext.rfl' _ | with_reducible refine Ext.drewN ?_ _ | with_reducible refine Ext.drew' ?_ | with_reducible refine Ext.alloc' ?_ _ | with_reducible refine Ext.setCell_at ?_ _ _ _ (by first | exact Nat.le_refl _ | omega) | with_reducible assumption | refine Ext.trans ?_ (by with_reducible assumption)), _, rfl, HR.out⟩
    | true =>
      have HR := Lib.hid (show fop .add .f64 (cn .f64 y) one64 = upP (fracP y) by unfold upP; rw [hl, hcy, ← hf]; rfl)
      have hlc : fcmp .lss .f64 (cn .f64 y) (cn .f64 0) = true := by rw [hcy, cn_zero64, hf]; exact hl
      clear hl hf hT hcw hcy hWb hw hb h
      go_enter Try.func97, Try.ntmps97
      go_wp2_with (first
        | (go_at_call 117; refine (HTr.out _).mono ?_; rintro e w1 ⟨he1, rfl⟩)
        | (refine wpList_float rfl _ _ _ _ _ rfl (by decide) _ _ _ rfl rfl ?_; intro r1 n1 q1) | (refine wpList_fcmp rfl _ _ _ _ _ rfl rfl _ _ _ rfl rfl _ (by first | with_reducible assumption | rfl) ?_) | (refine wpList_fneg rfl _ _ rfl _ _ rfl ?_; intro r1 q1))
      go_ret
      refine ⟨by (repeat first | with_reducible exact Ext.rfl' _ | with_reducible refine Ext.drewN ?_ _ | with_reducible refine Ext.drew' ?_ | with_reducible refine Ext.alloc' ?_ _ | with_reducible refine Ext.setCell_at ?_ _ _ _ (by first | exact Nat.le_refl _ | omega) | with_reducible assumption | refine Ext.trans ?_ (by with_reducible assumption)), _, rfl, ?_⟩
      rw [← HR.out, ← cn_one64]
      exact q1
  · rw [decide_eq_true (by simpa using hT)] at hneq
    have hf := impl_frac h hT
    rw [hWb] at hf
    have HF := Lib.hid (show fop .sub .f64 (cn .f64 y) (cn .f64 Wb) = fracP y by rw [hcy, hcw]; exact hf)
    cases hl : fcmp .lss .f64 (fracP y) 0 with
    | false =>
      have HL := Lib.hid hl
      clear hl hf hT hcw hcy hWb hw hb h
      go_enter Try.func97, Try.ntmps97
      go_wp2_with (first
        | (go_at_call 117; refine (HTr.out _).mono ?_; rintro e w1 ⟨he1, rfl⟩)
        | (refine wpList_float rfl _ _ _ _ _ rfl (by decide) _ _ _ rfl rfl ?_; intro r1 n1 q1; have HQ1 := Lib.hid (show cn .f64 r1 = fracP y from (show cn .f64 r1 = _ from q1).trans HF.out); clear q1)
        | (refine wpList_fcmp rfl _ _ _ _ _ rfl rfl _ _ _ rfl rfl _ hneq ?_)
        | (have hk1 : fcmp .lss .f64 (cn .f64 r1) (cn .f64 0) = false := (by rw [HQ1.out, cn_zero64]; exact HL.out); refine wpList_fcmp rfl _ _ _ _ _ rfl rfl _ _ _ rfl rfl _ hk1 ?_))
      go_ret
      refine ⟨by (repeat first | with_reducible exact Ext.rfl' _ | with_reducible refine Ext.drewN ?_ _ | with_reducible refine Ext.drew' ?_ | with_reducible refine Ext.alloc' ?_ _ | with_reducible refine Ext.setCell_at ?_ _ _ _ (by first | exact Nat.le_refl _ | omega) | with_reducible assumption | refine Ext.trans ?_ (by with_reducible assumption)), _, rfl, ?_⟩
      rw [HQ1.out]; unfold upP; rw [HL.out]; rfl
    | true =>
      have HL := Lib.hid hl
      clear hl hf hT hcw hcy hWb hw hb h
      go_enter Try.func97, Try.ntmps97
      go_wp2_with (first
        | (go_at_call 117; refine (HTr.out _).mono ?_; rintro e w1 ⟨he1, rfl⟩)
        | (refine wpList_float rfl _ _ _ _ _ rfl (by decide) _ _ _ rfl rfl ?_; intro r1 n1 q1; have HQ1 := Lib.hid (show cn .f64 r1 = fracP y from (show cn .f64 r1 = _ from q1).trans HF.out); clear q1)
        | (refine wpList_float rfl _ _ _ _ _ rfl (by decide) _ _ _ rfl rfl ?_; intro r2 n2 q2; have HQ2 := Lib.hid q2; clear q2)
        | (refine wpList_fcmp rfl _ _ _ _ _ rfl rfl _ _ _ rfl rfl _ hneq ?_)
        | (have hk1 : fcmp .lss .f64 (cn .f64 r1) (cn .f64 0) = true := (by rw [HQ1.out, cn_zero64]; exact HL.out); refine wpList_fcmp rfl _ _ _ _ _ rfl rfl _ _ _ rfl rfl _ hk1 ?_))
      go_ret
      refine ⟨by (repeat first | with_reducible exact Ext.rfl' _ | with_reducible refine Ext.drewN ?_ _ | with_reducible refine Ext.drew' ?_ | with_reducible refine Ext.alloc' ?_ _ | with_reducible refine Ext.setCell_at ?_ _ _ _ (by first | exact Nat.le_refl _ | omega) | with_reducible assumption | refine Ext.trans ?_ (by with_reducible assumption)), _, rfl, ?_⟩
      rw [show cn .f64 r2 = _ from HQ2.out, HQ1.out]; unfold upP; rw [HL.out, if_pos rfl, cn_one64]
end Go.Proofs.Ytfehhbmmdbpdpaa
