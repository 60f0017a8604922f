/- Walks: a thread turned, by the program. -/
import Derived.Test.YtbaohbpfnlicpaaM11
import Derived.Test.YtbaohbpfnlicpaaK1
namespace Go.Proofs.Ytbaohbpfnlicpaa
open Go Go.RowKit
set_option linter.unusedVariables false
set_option linter.unusedSimpArgs false
attribute [local go_sem] run_store_float

def At2 (b c s : Nat) (w : World) : Prop := At1 b c w ∧ At1 (b + 1) s w
theorem At2.ext {b c s : Nat} {w w' : World} (h : At2 b c s w) (he : Ext w w') : At2 b c s w' := ⟨h.1.ext he, h.2.ext he⟩
set_option maxRecDepth 100000 in
theorem Turn1_any (b c s x' y' z' : Nat) (w : World) (h : At2 b c s w) : Calls Try.prog 156 #[.agg #[.float .f32 x', .float .f32 y', .float .f32 z'], .pointer (some ⟨b, 0, none⟩), .pointer (some ⟨b + 1, 0, none⟩)] w fun e w' => Ext w w' ∧ ∃ r s' t, e = .returned (.agg #[.float .f32 r, .float .f32 s', .float .f32 t]) ∧ cv r s' t = turnV (cn .f32 c) (cn .f32 s) (cv x' y' z') := by
  obtain ⟨⟨hb, c0⟩, hb1, c1⟩ := h
  go_enter Try.func156, Try.ntmps156
  go_wp2_with (first | (refine wpList_float rfl _ _ _ _ _ rfl (by decide) _ _ _ rfl rfl ?_; intro r6 n6 q6; have HQ := Lib.hid q6; clear q6))
  rename_i x1 k1 Q1 x2 k2 Q2 x3 k3 Q3 x4 k4 Q4 x5 k5 Q5
  have HQV := Lib.hid (show cv x3 r6 z' = turnV (cn .f32 c) (cn .f32 s) (cv x' y' z') by
    unfold cv turnV; dsimp only
    rw [show cn .f32 x3 = _ from Q3.out, show cn .f32 x1 = _ from Q1.out, show cn .f32 x2 = _ from Q2.out, show cn .f32 r6 = _ from HQ.out, show cn .f32 x4 = _ from Q4.out, show cn .f32 x5 = _ from Q5.out])
  clear Q1 Q2 Q3 Q4 Q5 HQ
  have HB0 := Lib.hid (Blk.ext (w' := ((w.alloc (.cells #[.float .f32 x', .float .f32 y', .float .f32 z'] 54)).alloc (.cells #[.float .f32 0, .float .f32 0, .float .f32 0] 54)).drewN (k1 + k2 + k3 + k4 + k5 + n6)) (Blk.at_ (w.alloc (.cells #[.float .f32 x', .float .f32 y', .float .f32 z'] 54)) 54 #[.float .f32 0, .float .f32 0, .float .f32 0] (w.heap.size + 1) (by simp)) (by (repeat first | with_reducible exact Ext.rfl' _ | with_reducible refine Ext.drewN ?_ _ | with_reducible refine Ext.drew' ?_ | with_reducible refine Ext.alloc' ?_ _ | with_reducible refine Ext.setCell_at ?_ _ _ _ (by first | exact Nat.le_refl _ | omega) | with_reducible assumption | refine Ext.trans ?_ (by with_reducible assumption))))
  have HX := Lib.hid (show Ext w (((w.alloc (.cells #[.float .f32 x', .float .f32 y', .float .f32 z'] 54)).alloc (.cells #[.float .f32 0, .float .f32 0, .float .f32 0] 54)).drewN (k1 + k2 + k3 + k4 + k5 + n6)) by (repeat first | with_reducible exact Ext.rfl' _ | with_reducible refine Ext.drewN ?_ _ | with_reducible refine Ext.drew' ?_ | with_reducible refine Ext.alloc' ?_ _ | with_reducible refine Ext.setCell_at ?_ _ _ _ (by first | exact Nat.le_refl _ | omega) | with_reducible assumption | refine Ext.trans ?_ (by with_reducible assumption)))
  generalize ((w.alloc (.cells #[.float .f32 x', .float .f32 y', .float .f32 z'] 54)).alloc (.cells #[.float .f32 0, .float .f32 0, .float .f32 0] 54)).drewN (k1 + k2 + k3 + k4 + k5 + n6) = W1 at *
  have HB2 := HB0.out.set3v (.float .f32 x3) (.float .f32 r6) (.float .f32 z')
  have e2 : Ext w (((W1.setCell ⟨w.heap.size + 1, 0, none⟩ (.float .f32 x3)).setCell ⟨w.heap.size + 1, 1, none⟩ (.float .f32 r6)).setCell ⟨w.heap.size + 1, 2, none⟩ (.float .f32 z')) := by
    have := HX.out
    (repeat first | with_reducible exact Ext.rfl' _ | with_reducible refine Ext.drewN ?_ _ | with_reducible refine Ext.drew' ?_ | with_reducible refine Ext.alloc' ?_ _ | with_reducible refine Ext.setCell_at ?_ _ _ _ (by first | exact Nat.le_refl _ | omega) | with_reducible assumption | refine Ext.trans ?_ (by with_reducible assumption))
  generalize ((W1.setCell ⟨w.heap.size + 1, 0, none⟩ (.float .f32 x3)).setCell ⟨w.heap.size + 1, 1, none⟩ (.float .f32 r6)).setCell ⟨w.heap.size + 1, 2, none⟩ (.float .f32 z') = W2 at *
  have q0 : W2.cell? ⟨w.heap.size + 1, 0, none⟩ = some (.float .f32 x3) := HB2.cell 0
  have q1 : W2.cell? ⟨w.heap.size + 1, 1, none⟩ = some (.float .f32 r6) := HB2.cell 1
  have q2 : W2.cell? ⟨w.heap.size + 1, 2, none⟩ = some (.float .f32 z') := HB2.cell 2
  exact bodyPost_ret (v := .agg #[.float .f32 x3, .float .f32 r6, .float .f32 z']) (by simp [results, Try.results156, go_sem, q0, q1, q2]) rfl ⟨e2, _, _, _, rfl, HQV.out⟩
theorem maps_turn (b c s : Nat) : MapsV 156 #[.pointer (some ⟨b, 0, none⟩), .pointer (some ⟨b + 1, 0, none⟩)] (At2 b c s) (turnV (cn .f32 c) (cn .f32 s)) :=
  ⟨fun args w => by go_simp, fun x' y' z' w h => Turn1_any b c s x' y' z' w h, fun w w' h he => h.ext he⟩
end Go.Proofs.Ytbaohbpfnlicpaa
