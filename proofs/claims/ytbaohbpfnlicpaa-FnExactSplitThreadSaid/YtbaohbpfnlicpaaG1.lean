/- Walks: a thread cut in two, by the reference. -/
import Derived.Test.YtbaohbpfnlicpaaJ2
import Derived.StillTailTactics
namespace Go.Proofs.Ytbaohbpfnlicpaa
open Go Go.RowKit
set_option linter.unusedVariables false
set_option linter.unusedSimpArgs false
attribute [local go_sem] run_store_float

def splitA (i k : Int) (cs : List V3) : List V3 := (cs.take k.toNat).drop i.toNat
def splitB (i k : Int) (cs : List V3) : List V3 := cs.drop k.toNat ++ cs.take i.toNat
def splitOk (i k : Int) (cs : List V3) (sp : Nat) : Bool := hasP cs sp i && (hasP cs sp k && decide (i < k))
abbrev Two := Bool × (List V3 × Nat) × (List V3 × Nat)
def noTwo : Two := (false, ([], 0), ([], 0))
def bothP (P Q : Bool × List V3 × Nat) : Two := if P.1 && Q.1 then (true, P.2, Q.2) else noTwo
def splitP (i k : Int) (cs : List V3) (sp : Nat) : Two := if splitOk i k cs sp then bothP (giveP (splitA i k cs) sp) (giveP (splitB i k cs) sp) else noTwo
def RT2 (w0 w' : World) (e : Ending) (pb : Bool) (ds : List V3) (ps : Nat) (es : List V3) (qs : Nat) : Prop :=
  ∃ A c s A' c' s', e = .returned (.tuple #[.agg #[.slice A ds.length c, .float .f32 s], .agg #[.slice A' es.length c', .float .f32 s'], .bool pb]) ∧ VO w' w0.heap.size A ds ∧ VO w' w0.heap.size A' es ∧ cn .f32 s = ps ∧ cn .f32 s' = qs ∧ (0 < ds.length → 0 < es.length → ∀ b o b' o', A = some ⟨b, o, none⟩ → A' = some ⟨b', o', none⟩ → b ≠ b')
def RTT (w0 w' : World) (e : Ending) (P : Two) : Prop := RT2 w0 w' e P.1 P.2.1.1 P.2.1.2 P.2.2.1 P.2.2.2
theorem RTT.no {w0 w' : World} : RTT w0 w' (.returned (.tuple #[.agg #[.slice none 0 0, .float .f32 0], .agg #[.slice none 0 0, .float .f32 0], .bool false])) noTwo :=
  ⟨none, 0, 0, none, 0, 0, rfl, fun h => absurd h (Nat.lt_irrefl 0), fun h => absurd h (Nat.lt_irrefl 0), cn_zero32, cn_zero32, fun h => absurd h (Nat.lt_irrefl 0)⟩
theorem giveP_len (cs : List V3) (sp : Nat) (h : cs.length ≤ 1048576) : (giveP cs sp).2.1.length ≤ 1048576 := by
  unfold giveP
  split
  · exact h
  · simp
theorem splitP_len (i k : Int) (cs : List V3) (sp : Nat) : (splitP i k cs sp).2.1.1.length ≤ 1048576 ∧ (splitP i k cs sp).2.2.1.length ≤ 1048576 := by
  unfold splitP
  split
  · rename_i h
    unfold splitOk at h
    simp only [Bool.and_eq_true, decide_eq_true_eq] at h
    have := hasP_bounds h.1
    unfold bothP
    split
    · exact ⟨giveP_len _ _ (by simp [splitA]; omega), giveP_len _ _ (by simp [splitB]; omega)⟩
    · simp [noTwo]
  · simp [noTwo]

/-- two structs written, one behind the other -/
theorem two_set {w w2 : World} {a b : Nat} {t : TypeId} {x0 x1 y0 y1 u0 u1 v0 v1 : Value} (hA : Blk w2 a t #[x0, x1]) (hB : Blk w2 b t #[y0, y1]) (hne : a ≠ b) (hE : Ext w w2) (ha : w.heap.size ≤ a) (hb : w.heap.size ≤ b) :
    Blk ((((w2.setCell ⟨a, 0, none⟩ u0).setCell ⟨a, 1, none⟩ u1).setCell ⟨b, 0, none⟩ v0).setCell ⟨b, 1, none⟩ v1) a t #[u0, u1] ∧
    Blk ((((w2.setCell ⟨a, 0, none⟩ u0).setCell ⟨a, 1, none⟩ u1).setCell ⟨b, 0, none⟩ v0).setCell ⟨b, 1, none⟩ v1) b t #[v0, v1] ∧
    Ext w ((((w2.setCell ⟨a, 0, none⟩ u0).setCell ⟨a, 1, none⟩ u1).setCell ⟨b, 0, none⟩ v0).setCell ⟨b, 1, none⟩ v1) ∧
    (∀ B A cs, VO w2 B A cs → a < B → b < B → VO ((((w2.setCell ⟨a, 0, none⟩ u0).setCell ⟨a, 1, none⟩ u1).setCell ⟨b, 0, none⟩ v0).setCell ⟨b, 1, none⟩ v1) B A cs) := by
  refine ⟨?_, ?_, ?_, ?_⟩
  · have := (((hA.set_ 0 u0).set_ 1 u1).setne (h := b) (Ne.symm hne) 0 v0).setne (h := b) (Ne.symm hne) 1 v1
    simpa using this
  · have := (((hB.setne (h := a) hne 0 u0).setne (h := a) hne 1 u1).set_ 0 v0).set_ 1 v1
    simpa using this
  · exact Ext.setCell_at (Ext.setCell_at (Ext.setCell_at (Ext.setCell_at hE _ _ _ ha) _ _ _ ha) _ _ _ hb) _ _ _ hb
  · intro B A cs hv h1 h2
    exact (((hv.set_lt _ _ _ h1).set_lt _ _ _ h1).set_lt _ _ _ h2).set_lt _ _ _ h2

theorem two_setD {w w2 : World} {a b : Nat} {t : TypeId} {x0 x1 y0 y1 u0 u1 v0 v1 : Value} (hA : Blk w2 a t #[x0, x1]) (hB : Blk w2 b t #[y0, y1]) (hne : a ≠ b) (hE : Ext w w2) (ha : w.heap.size ≤ a) (hb : w.heap.size ≤ b) :
    Blk ((((w2.setCell ⟨a, 0, none⟩ u0).setCell ⟨a, 1, none⟩ u1).setCell ⟨b, 0, none⟩ v0).setCell ⟨b, 1, none⟩ v1).drew a t #[u0, u1] ∧
    Blk ((((w2.setCell ⟨a, 0, none⟩ u0).setCell ⟨a, 1, none⟩ u1).setCell ⟨b, 0, none⟩ v0).setCell ⟨b, 1, none⟩ v1).drew b t #[v0, v1] ∧
    Ext w ((((w2.setCell ⟨a, 0, none⟩ u0).setCell ⟨a, 1, none⟩ u1).setCell ⟨b, 0, none⟩ v0).setCell ⟨b, 1, none⟩ v1).drew ∧
    (∀ B A cs, VO w2 B A cs → a < B → b < B → VO ((((w2.setCell ⟨a, 0, none⟩ u0).setCell ⟨a, 1, none⟩ u1).setCell ⟨b, 0, none⟩ v0).setCell ⟨b, 1, none⟩ v1).drew B A cs) := by
  obtain ⟨h1, h2, h3, h4⟩ := two_set (u0 := u0) (u1 := u1) (v0 := v0) (v1 := v1) hA hB hne hE ha hb
  exact ⟨h1, h2, Ext.drew' h3, fun B A cs hv x y => VO.ext (h4 B A cs hv x y) (Ext.drew' (Ext.rfl' _))⟩
set_option maxRecDepth 100000 in
set_option maxHeartbeats 800000 in
theorem specSplitNo_any (A : Option Addr) (cap sp : Nat) (i k : Int) (cs : List V3) (w : World) (hA : VS w A cs) (hl : cs.length ≤ 1048576) (hno : splitOk i k cs (cn .f32 sp) = false) :
    Calls Try.prog 69 #[.agg #[.slice A cs.length cap, .float .f32 sp], .int .i64 i, .int .i64 k] w fun e w' => Ext w w' ∧ RTT w w' e noTwo := by
  have HA := Lib.hid hA
  have HL := Lib.hid hl
  clear hA hl
  have HT := Lib.hid (show TAt (((w.alloc (.cells #[.slice A cs.length cap, .float .f32 sp] 48)).alloc (.cells #[.slice none 0 0, .float .f32 0] 48)).alloc (.cells #[.slice none 0 0, .float .f32 0] 48)) w.heap.size 0 A cs.length cap sp from ⟨by simp <;> omega, by go_simp, by go_simp⟩)
  have HRa := Lib.hid (show Blk (((w.alloc (.cells #[.slice A cs.length cap, .float .f32 sp] 48)).alloc (.cells #[.slice none 0 0, .float .f32 0] 48)).alloc (.cells #[.slice none 0 0, .float .f32 0] 48)) (w.heap.size + 1) 48 #[.slice none 0 0, .float .f32 0] from (Blk.at_ _ _ _ _ (by simp)).alloc _)
  have HRb := Lib.hid (show Blk (((w.alloc (.cells #[.slice A cs.length cap, .float .f32 sp] 48)).alloc (.cells #[.slice none 0 0, .float .f32 0] 48)).alloc (.cells #[.slice none 0 0, .float .f32 0] 48)) (w.heap.size + 1 + 1) 48 #[.slice none 0 0, .float .f32 0] from Blk.at_ _ _ _ _ (by simp))
  have HE1 := Lib.hid (show Ext w (((w.alloc (.cells #[.slice A cs.length cap, .float .f32 sp] 48)).alloc (.cells #[.slice none 0 0, .float .f32 0] 48)).alloc (.cells #[.slice none 0 0, .float .f32 0] 48)) by (repeat first | with_reducible exact Ext.rfl' _ | with_reducible refine Ext.drewN ?_ _ | with_reducible refine Ext.drew' ?_ | with_reducible refine Ext.alloc' ?_ _ | with_reducible refine Ext.setCell_at ?_ _ _ _ (by first | exact Nat.le_refl _ | omega) | with_reducible assumption | refine Ext.trans ?_ (by with_reducible assumption)))
  unfold splitOk at hno
  cases h0 : hasP cs (cn .f32 sp) i with
  | false =>
    have H0 := Lib.hid h0
    clear h0 hno
    go_enter Try.func69, Try.ntmps69
    go_wp2_with fail
    generalize (((w.alloc (.cells #[.slice A cs.length cap, .float .f32 sp] 48)).alloc (.cells #[.slice none 0 0, .float .f32 0] 48)).alloc (.cells #[.slice none 0 0, .float .f32 0] 48)) = W1 at *
    refine (l06Point_any w.heap.size 0 A cap sp cs i _ HT.out (HA.out.ext HE1.out) HL.out false H0.out).mono ?_
    rintro e w2 ⟨he2, rfl⟩
    have HE2 := Lib.hid (Ext.trans HE1.out he2)
    have HA2 := Lib.hid (HRa.out.ext he2)
    have HB2 := Lib.hid (HRb.out.ext he2)
    clear he2
    have r0 : w2.cell? ⟨w.heap.size + 1, 0, none⟩ = some (.slice none 0 0) := HA2.out.cell 0
    have r1 : w2.cell? ⟨w.heap.size + 1, 1, none⟩ = some (.float .f32 0) := HA2.out.cell 1
    have rf0 := HA2.out.frozen 0
    have rf1 := HA2.out.frozen 1
    have s0 : w2.cell? ⟨w.heap.size + 1 + 1, 0, none⟩ = some (.slice none 0 0) := HB2.out.cell 0
    have s1 : w2.cell? ⟨w.heap.size + 1 + 1, 1, none⟩ = some (.float .f32 0) := HB2.out.cell 1
    have sf0 := HB2.out.frozen 0
    have sf1 := HB2.out.frozen 1
    go_wp2_with fail
    obtain ⟨hBa, hBb, hX, -⟩ := two_set (u0 := .slice none 0 0) (u1 := .float .f32 0) (v0 := .slice none 0 0) (v1 := .float .f32 0) HA2.out HB2.out (by omega) HE2.out (by omega) (by omega)
    generalize (((w2.setCell ⟨w.heap.size + 1, 0, none⟩ (.slice none 0 0)).setCell ⟨w.heap.size + 1, 1, none⟩ (.float .f32 0)).setCell ⟨w.heap.size + 1 + 1, 0, none⟩ (.slice none 0 0)).setCell ⟨w.heap.size + 1 + 1, 1, none⟩ (.float .f32 0) = W9 at *
    have q0 : W9.cell? ⟨w.heap.size + 1, 0, none⟩ = some (.slice none 0 0) := hBa.cell 0
    have q1 : W9.cell? ⟨w.heap.size + 1, 1, none⟩ = some (.float .f32 0) := hBa.cell 1
    have q2 : W9.cell? ⟨w.heap.size + 1 + 1, 0, none⟩ = some (.slice none 0 0) := hBb.cell 0
    have q3 : W9.cell? ⟨w.heap.size + 1 + 1, 1, none⟩ = some (.float .f32 0) := hBb.cell 1
    exact bodyPost_ret (v := .tuple #[.agg #[.slice none 0 0, .float .f32 0], .agg #[.slice none 0 0, .float .f32 0], .bool false]) (by simp [results, Try.results69, go_sem, q0, q1, q2, q3]) rfl ⟨hX, RTT.no⟩
  | true =>
   rw [h0, Bool.true_and] at hno
   have H0 := Lib.hid h0
   clear h0
   cases h1 : hasP cs (cn .f32 sp) k with
   | false =>
    have H1 := Lib.hid h1
    clear h1 hno
    go_enter Try.func69, Try.ntmps69
    go_wp2_with fail
    generalize (((w.alloc (.cells #[.slice A cs.length cap, .float .f32 sp] 48)).alloc (.cells #[.slice none 0 0, .float .f32 0] 48)).alloc (.cells #[.slice none 0 0, .float .f32 0] 48)) = W1 at *
    refine (l06Point_any w.heap.size 0 A cap sp cs i _ HT.out (HA.out.ext HE1.out) HL.out true H0.out).mono ?_
    rintro e w1 ⟨he1, rfl⟩
    have HEa := Lib.hid (Ext.trans HE1.out he1)
    have HTa := Lib.hid (HT.out.ext he1)
    have HAa := Lib.hid (HRa.out.ext he1)
    have HBa := Lib.hid (HRb.out.ext he1)
    clear he1
    go_wp2_with fail
    refine (l06Point_any w.heap.size 0 A cap sp cs k _ HTa.out (HA.out.ext HEa.out) HL.out false H1.out).mono ?_
    rintro e w2 ⟨he2, rfl⟩
    have HE2 := Lib.hid (Ext.trans HEa.out he2)
    have HA2 := Lib.hid (HAa.out.ext he2)
    have HB2 := Lib.hid (HBa.out.ext he2)
    clear he2
    have r0 : w2.cell? ⟨w.heap.size + 1, 0, none⟩ = some (.slice none 0 0) := HA2.out.cell 0
    have r1 : w2.cell? ⟨w.heap.size + 1, 1, none⟩ = some (.float .f32 0) := HA2.out.cell 1
    have rf0 := HA2.out.frozen 0
    have rf1 := HA2.out.frozen 1
    have s0 : w2.cell? ⟨w.heap.size + 1 + 1, 0, none⟩ = some (.slice none 0 0) := HB2.out.cell 0
    have s1 : w2.cell? ⟨w.heap.size + 1 + 1, 1, none⟩ = some (.float .f32 0) := HB2.out.cell 1
    have sf0 := HB2.out.frozen 0
    have sf1 := HB2.out.frozen 1
    go_wp2_with fail
    obtain ⟨hBa, hBb, hX, -⟩ := two_set (u0 := .slice none 0 0) (u1 := .float .f32 0) (v0 := .slice none 0 0) (v1 := .float .f32 0) HA2.out HB2.out (by omega) HE2.out (by omega) (by omega)
    generalize (((w2.setCell ⟨w.heap.size + 1, 0, none⟩ (.slice none 0 0)).setCell ⟨w.heap.size + 1, 1, none⟩ (.float .f32 0)).setCell ⟨w.heap.size + 1 + 1, 0, none⟩ (.slice none 0 0)).setCell ⟨w.heap.size + 1 + 1, 1, none⟩ (.float .f32 0) = W9 at *
    have q0 : W9.cell? ⟨w.heap.size + 1, 0, none⟩ = some (.slice none 0 0) := hBa.cell 0
    have q1 : W9.cell? ⟨w.heap.size + 1, 1, none⟩ = some (.float .f32 0) := hBa.cell 1
    have q2 : W9.cell? ⟨w.heap.size + 1 + 1, 0, none⟩ = some (.slice none 0 0) := hBb.cell 0
    have q3 : W9.cell? ⟨w.heap.size + 1 + 1, 1, none⟩ = some (.float .f32 0) := hBb.cell 1
    exact bodyPost_ret (v := .tuple #[.agg #[.slice none 0 0, .float .f32 0], .agg #[.slice none 0 0, .float .f32 0], .bool false]) (by simp [results, Try.results69, go_sem, q0, q1, q2, q3]) rfl ⟨hX, RTT.no⟩
   | true =>
    rw [h1, Bool.true_and] at hno
    have hge : k ≤ i := by simpa using hno
    have H1 := Lib.hid h1
    clear h1 hno
    go_enter Try.func69, Try.ntmps69
    go_wp2_with fail
    generalize (((w.alloc (.cells #[.slice A cs.length cap, .float .f32 sp] 48)).alloc (.cells #[.slice none 0 0, .float .f32 0] 48)).alloc (.cells #[.slice none 0 0, .float .f32 0] 48)) = W1 at *
    refine (l06Point_any w.heap.size 0 A cap sp cs i _ HT.out (HA.out.ext HE1.out) HL.out true H0.out).mono ?_
    rintro e w1 ⟨he1, rfl⟩
    have HEa := Lib.hid (Ext.trans HE1.out he1)
    have HTa := Lib.hid (HT.out.ext he1)
    have HAa := Lib.hid (HRa.out.ext he1)
    have HBa := Lib.hid (HRb.out.ext he1)
    clear he1
    go_wp2_with fail
    refine (l06Point_any w.heap.size 0 A cap sp cs k _ HTa.out (HA.out.ext HEa.out) HL.out true H1.out).mono ?_
    rintro e w2 ⟨he2, rfl⟩
    have HE2 := Lib.hid (Ext.trans HEa.out he2)
    have HA2 := Lib.hid (HAa.out.ext he2)
    have HB2 := Lib.hid (HBa.out.ext he2)
    clear he2
    have r0 : w2.cell? ⟨w.heap.size + 1, 0, none⟩ = some (.slice none 0 0) := HA2.out.cell 0
    have r1 : w2.cell? ⟨w.heap.size + 1, 1, none⟩ = some (.float .f32 0) := HA2.out.cell 1
    have rf0 := HA2.out.frozen 0
    have rf1 := HA2.out.frozen 1
    have s0 : w2.cell? ⟨w.heap.size + 1 + 1, 0, none⟩ = some (.slice none 0 0) := HB2.out.cell 0
    have s1 : w2.cell? ⟨w.heap.size + 1 + 1, 1, none⟩ = some (.float .f32 0) := HB2.out.cell 1
    have sf0 := HB2.out.frozen 0
    have sf1 := HB2.out.frozen 1
    go_wp2_with fail
    obtain ⟨hBa, hBb, hX, -⟩ := two_set (u0 := .slice none 0 0) (u1 := .float .f32 0) (v0 := .slice none 0 0) (v1 := .float .f32 0) HA2.out HB2.out (by omega) HE2.out (by omega) (by omega)
    generalize (((w2.setCell ⟨w.heap.size + 1, 0, none⟩ (.slice none 0 0)).setCell ⟨w.heap.size + 1, 1, none⟩ (.float .f32 0)).setCell ⟨w.heap.size + 1 + 1, 0, none⟩ (.slice none 0 0)).setCell ⟨w.heap.size + 1 + 1, 1, none⟩ (.float .f32 0) = W9 at *
    have q0 : W9.cell? ⟨w.heap.size + 1, 0, none⟩ = some (.slice none 0 0) := hBa.cell 0
    have q1 : W9.cell? ⟨w.heap.size + 1, 1, none⟩ = some (.float .f32 0) := hBa.cell 1
    have q2 : W9.cell? ⟨w.heap.size + 1 + 1, 0, none⟩ = some (.slice none 0 0) := hBb.cell 0
    have q3 : W9.cell? ⟨w.heap.size + 1 + 1, 1, none⟩ = some (.float .f32 0) := hBb.cell 1
    exact bodyPost_ret (v := .tuple #[.agg #[.slice none 0 0, .float .f32 0], .agg #[.slice none 0 0, .float .f32 0], .bool false]) (by simp [results, Try.results69, go_sem, q0, q1, q2, q3]) rfl ⟨hX, RTT.no⟩
end Go.Proofs.Ytbaohbpfnlicpaa
