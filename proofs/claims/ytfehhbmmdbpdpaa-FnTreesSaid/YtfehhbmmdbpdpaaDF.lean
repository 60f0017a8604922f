/- Walks: the tree of whirls. -/
import Derived.Test.YtfehhbmmdbpdpaaDE
namespace Go.Proofs.Ytfehhbmmdbpdpaa
open Go Go.RowKit
set_option linter.unusedVariables false
set_option linter.unusedSimpArgs false
attribute [local go_sem] run_store_float run_store_complex

theorem F_max (a b : Int) (ha : a.natAbs < 16777216) (hb : b.natAbs < 16777216) (P : Program) (ts : Array TypeId) (t : TypeId) (w : World) :
    (Builtin.max_ ts t #[.float .f32 (F a), .float .f32 (F b)]).run P w = .ok (.float .f32 (F (max a b))) w := by
  have ho := F_order .f32 a b ha hb
  rcases Int.lt_trichotomy a b with h | h | h
  · have hc : compare a b = .lt := by rw [Int.compare_eq_lt]; exact h
    rw [hc] at ho
    simp [Builtin.max_, Builtin.max2, ho, Int.max_eq_right (Int.le_of_lt h)]
  · subst h
    have hc : compare a a = .eq := by simp
    rw [hc] at ho
    simp [Builtin.max_, Builtin.max2, ho]
  · have hc : compare a b = .gt := by rw [Int.compare_eq_gt]; exact h
    rw [hc] at ho
    simp [Builtin.max_, Builtin.max2, ho, Int.max_eq_left (Int.le_of_lt h)]
def lowX (ps : List Wh) : Int := lowF (fun u => u.1) ps (atW ps 0).1
def highX (ps : List Wh) : Int := highF (fun u => u.1) ps (atW ps 0).1
def lowY (ps : List Wh) : Int := lowF (fun u => u.2.1) ps (atW ps 0).2.1
def highY (ps : List Wh) : Int := highF (fun u => u.2.1) ps (atW ps 0).2.1
def widP (ps : List Wh) : Nat := (max (highX ps - lowX ps) (highY ps - lowY ps) / 256).toNat
def midX (ps : List Wh) : Int := (lowX ps + highX ps) / 2
def midY (ps : List Wh) : Int := (lowY ps + highY ps) / 2
def treeP (ps : List Wh) : List Nd := growP ps (widP ps) 6 0 0 (midX ps) (midY ps) (List.range ps.length)
theorem root_facts {ps : List Wh} (hps : OkPs ps) (hn : 0 < ps.length) :
    widP ps ≤ 32 ∧ max (highX ps - lowX ps) (highY ps - lowY ps) = 256 * (widP ps : Int) ∧ (highX ps - lowX ps).natAbs < 16777216 ∧ (highY ps - lowY ps).natAbs < 16777216 ∧ Pre ps (widP ps) ps.length 0 (midX ps) (midY ps) (List.range ps.length) := by
  obtain ⟨hw0, h0⟩ := hps.at hn
  have hm0 := List.mem_of_getElem? h0
  obtain ⟨x1, e1, a1, a2⟩ := lowF_q (Qs.x hps.2) ((Qs.x hps.2) _ hm0)
  obtain ⟨x2, e2, a3, a4⟩ := highF_q (Qs.x hps.2) ((Qs.x hps.2) _ hm0)
  obtain ⟨y1, e3, a5, a6⟩ := lowF_q (Qs.y hps.2) ((Qs.y hps.2) _ hm0)
  obtain ⟨y2, e4, a7, a8⟩ := highF_q (Qs.y hps.2) ((Qs.y hps.2) _ hm0)
  obtain ⟨lx1, lx2, -⟩ := lowF_facts (fun u => u.1) ps (atW ps 0).1
  obtain ⟨hx1, hx2, -⟩ := highF_facts (fun u => u.1) ps (atW ps 0).1
  obtain ⟨ly1, ly2, -⟩ := lowF_facts (fun u => u.2.1) ps (atW ps 0).2.1
  obtain ⟨hy1, hy2, -⟩ := highF_facts (fun u => u.2.1) ps (atW ps 0).2.1
  have E1 : lowX ps = 256 * x1 := e1
  have E2 : highX ps = 256 * x2 := e2
  have E3 : lowY ps = 256 * y1 := e3
  have E4 : highY ps = 256 * y2 := e4
  have L1 : lowX ps ≤ highX ps := Int.le_trans lx1 hx1
  have L2 : lowY ps ≤ highY ps := Int.le_trans ly1 hy1
  have hwid : max (highX ps - lowX ps) (highY ps - lowY ps) = 256 * (widP ps : Int) := by
    unfold widP
    rw [E1, E2, E3, E4] at *
    omega
  have hw32 : widP ps ≤ 32 := by
    have : (256 * (widP ps : Int)) ≤ 256 * 32 := by
      rw [← hwid, E1, E2, E3, E4]; omega
    omega
  have hP0 : hP 0 (widP ps) = 128 * (widP ps : Int) := by unfold hP; simp
  have mX : midX ps = 128 * (x1 + x2) := by unfold midX; rw [E1, E2]; omega
  have mY : midY ps = 128 * (y1 + y2) := by unfold midY; rw [E3, E4]; omega
  have w1 : highX ps - lowX ps ≤ 256 * (widP ps : Int) := by rw [← hwid]; exact Int.le_max_left _ _
  have w2 : highY ps - lowY ps ≤ 256 * (widP ps : Int) := by rw [← hwid]; exact Int.le_max_right _ _
  rw [E1, E2] at w1
  rw [E3, E4] at w2
  refine ⟨hw32, hwid, by rw [E1, E2]; omega, by rw [E3, E4]; omega, ⟨fun i hi => ?_, ?_, fun i hi => List.mem_range.1 hi, fun e => ?_, ?_, ?_, ?_, ?_⟩⟩
  · have hi' := List.mem_range.1 hi
    have hm := List.mem_of_getElem? (hps.at hi').2
    have b1 := lx2 _ hm
    have b2 := hx2 _ hm
    have b3 := ly2 _ hm
    have b4 := hy2 _ hm
    try dsimp only at b1 b2 b3 b4
    rw [e1] at b1
    rw [e2] at b2
    rw [e3] at b3
    rw [e4] at b4
    rw [hP0, mX, mY]
    omega
  · exact List.pairwise_lt_range
  · rw [List.range_eq_nil] at e; omega
  · rw [hP0, mX]; omega
  · rw [hP0, mY]; omega
  · rw [mX]; omega
  · rw [mY]; omega
/-- the nodes of a tree, as they come back -/
def TreeAt (w : World) (ps : List Wh) (r cp : Nat) : Prop :=
  ∃ zs, Lies w 49 (some ⟨r, 0, none⟩) zs ∧ NodesAt w (widP ps) (treeP ps) zs
theorem treeP_ok {ps : List Wh} (hps : OkPs ps) (hn : 0 < ps.length) : GrowOk ps (widP ps) ps.length 0 0 (List.range ps.length) 6 (treeP ps) :=
  grow_ok 6 0 0 _ _ _ (by omega) (root_facts hps hn).2.2.2.2
end Go.Proofs.Ytfehhbmmdbpdpaa
