/- Walks: what the closures of the moves answer; a thread moved or scaled by the program. -/
import Derived.Test.YtbaohbpfnlicpaaM8
namespace Go.Proofs.Ytbaohbpfnlicpaa
open Go Go.RowKit
set_option linter.unusedVariables false
set_option linter.unusedSimpArgs false
attribute [local go_sem] run_store_float

/-- at block b lie these floats -/
def At3 (b x y z : Nat) (w : World) : Prop := b < w.heap.size ∧ w.cell? ⟨b, 0, none⟩ = some (.float .f32 x) ∧ w.cell? ⟨b, 1, none⟩ = some (.float .f32 y) ∧ w.cell? ⟨b, 2, none⟩ = some (.float .f32 z)
theorem At3.ext {b x y z : Nat} {w w' : World} (h : At3 b x y z w) (he : Ext w w') : At3 b x y z w' :=
  ⟨Nat.lt_of_lt_of_le h.1 he.size, (he.cell (p := ⟨b, 0, none⟩) h.1).trans h.2.1, (he.cell (p := ⟨b, 1, none⟩) h.1).trans h.2.2.1, (he.cell (p := ⟨b, 2, none⟩) h.1).trans h.2.2.2⟩
set_option maxRecDepth 100000 in
theorem Move1_any (b x y z x' y' z' : Nat) (w : World) (h : At3 b x y z w) : Calls Try.prog 138 #[.agg #[.float .f32 x', .float .f32 y', .float .f32 z'], .pointer (some ⟨b, 0, none⟩)] w fun e w' => Ext w w' ∧ ∃ r s t, e = .returned (.agg #[.float .f32 r, .float .f32 s, .float .f32 t]) ∧ cv r s t = vadd (cv x' y' z') (cv x y z) := by
  obtain ⟨hb, c0, c1, c2⟩ := h
  go_enter Try.func138, Try.ntmps138
  go_wp2_with fail
  have HR := Lib.hid (Blk.at_ (w.alloc (.cells #[.float .f32 x', .float .f32 y', .float .f32 z'] 54)) 54 #[.float .f32 0, .float .f32 0, .float .f32 0] (w.heap.size + 1) (by simp))
  have HX := Lib.hid (show Ext w ((w.alloc (.cells #[.float .f32 x', .float .f32 y', .float .f32 z'] 54)).alloc (.cells #[.float .f32 0, .float .f32 0, .float .f32 0] 54)) by (repeat first | with_reducible exact Ext.rfl' _ | with_reducible refine Ext.drewN ?_ _ | with_reducible refine Ext.drew' ?_ | with_reducible refine Ext.alloc' ?_ _ | with_reducible refine Ext.setCell_at ?_ _ _ _ (by first | exact Nat.le_refl _ | omega) | with_reducible assumption | refine Ext.trans ?_ (by with_reducible assumption)))
  generalize ((w.alloc (.cells #[.float .f32 x', .float .f32 y', .float .f32 z'] 54)).alloc (.cells #[.float .f32 0, .float .f32 0, .float .f32 0] 54)) = W1 at *
  refine (AddVectors_any _ _ _ _ _ _ _).mono ?_
  rintro e w2 ⟨he2, r, s, t, rfl, hq⟩
  have HQ := Lib.hid hq
  have HR2 := Lib.hid (HR.out.ext he2)
  have HX2 := Lib.hid (Ext.trans HX.out he2)
  clear he2 hq
  have m0 : w2.cell? ⟨w.heap.size + 1, 0, none⟩ = some (.float .f32 0) := HR2.out.cell 0
  have m1 : w2.cell? ⟨w.heap.size + 1, 1, none⟩ = some (.float .f32 0) := HR2.out.cell 1
  have m2 : w2.cell? ⟨w.heap.size + 1, 2, none⟩ = some (.float .f32 0) := HR2.out.cell 2
  have f0 := HR2.out.frozen 0
  have f1 := HR2.out.frozen 1
  have f2 := HR2.out.frozen 2
  go_wp2_with fail
  have HB2 := HR2.out.set3v (.float .f32 r) (.float .f32 s) (.float .f32 t)
  have e2 : Ext w (((w2.setCell ⟨w.heap.size + 1, 0, none⟩ (.float .f32 r)).setCell ⟨w.heap.size + 1, 1, none⟩ (.float .f32 s)).setCell ⟨w.heap.size + 1, 2, none⟩ (.float .f32 t)) := by
    have := HX2.out
    (repeat first | with_reducible exact Ext.rfl' _ | with_reducible refine Ext.drewN ?_ _ | with_reducible refine Ext.drew' ?_ | with_reducible refine Ext.alloc' ?_ _ | with_reducible refine Ext.setCell_at ?_ _ _ _ (by first | exact Nat.le_refl _ | omega) | with_reducible assumption | refine Ext.trans ?_ (by with_reducible assumption))
  generalize ((w2.setCell ⟨w.heap.size + 1, 0, none⟩ (.float .f32 r)).setCell ⟨w.heap.size + 1, 1, none⟩ (.float .f32 s)).setCell ⟨w.heap.size + 1, 2, none⟩ (.float .f32 t) = W2 at *
  have q0 : W2.cell? ⟨w.heap.size + 1, 0, none⟩ = some (.float .f32 r) := HB2.cell 0
  have q1 : W2.cell? ⟨w.heap.size + 1, 1, none⟩ = some (.float .f32 s) := HB2.cell 1
  have q2 : W2.cell? ⟨w.heap.size + 1, 2, none⟩ = some (.float .f32 t) := HB2.cell 2
  exact bodyPost_ret (v := .agg #[.float .f32 r, .float .f32 s, .float .f32 t]) (by simp [results, Try.results138, go_sem, q0, q1, q2]) rfl ⟨e2, _, _, _, rfl, HQ.out⟩
theorem maps_move (b x y z : Nat) : MapsV 138 #[.pointer (some ⟨b, 0, none⟩)] (At3 b x y z) (fun c => vadd c (cv x y z)) :=
  ⟨fun args w => by go_simp, fun x' y' z' w h => Move1_any b x y z x' y' z' w h, fun w w' h he => h.ext he⟩
def At1 (b q : Nat) (w : World) : Prop := b < w.heap.size ∧ w.cell? ⟨b, 0, none⟩ = some (.float .f32 q)
theorem At1.ext {b q : Nat} {w w' : World} (h : At1 b q w) (he : Ext w w') : At1 b q w' := ⟨Nat.lt_of_lt_of_le h.1 he.size, (he.cell (p := ⟨b, 0, none⟩) h.1).trans h.2⟩
set_option maxRecDepth 100000 in
theorem Scale1_any (b q x' y' z' : Nat) (w : World) (h : At1 b q w) : Calls Try.prog 139 #[.agg #[.float .f32 x', .float .f32 y', .float .f32 z'], .pointer (some ⟨b, 0, none⟩)] w fun e w' => Ext w w' ∧ ∃ r s t, e = .returned (.agg #[.float .f32 r, .float .f32 s, .float .f32 t]) ∧ cv r s t = vscale (cv x' y' z') (cn .f32 q) := by
  obtain ⟨hb, c0⟩ := h
  go_enter Try.func139, Try.ntmps139
  go_wp2_with fail
  have HR := Lib.hid (Blk.at_ (w.alloc (.cells #[.float .f32 x', .float .f32 y', .float .f32 z'] 54)) 54 #[.float .f32 0, .float .f32 0, .float .f32 0] (w.heap.size + 1) (by simp))
  have HX := Lib.hid (show Ext w ((w.alloc (.cells #[.float .f32 x', .float .f32 y', .float .f32 z'] 54)).alloc (.cells #[.float .f32 0, .float .f32 0, .float .f32 0] 54)) by (repeat first | with_reducible exact Ext.rfl' _ | with_reducible refine Ext.drewN ?_ _ | with_reducible refine Ext.drew' ?_ | with_reducible refine Ext.alloc' ?_ _ | with_reducible refine Ext.setCell_at ?_ _ _ _ (by first | exact Nat.le_refl _ | omega) | with_reducible assumption | refine Ext.trans ?_ (by with_reducible assumption)))
  generalize ((w.alloc (.cells #[.float .f32 x', .float .f32 y', .float .f32 z'] 54)).alloc (.cells #[.float .f32 0, .float .f32 0, .float .f32 0] 54)) = W1 at *
  refine (ScaleVector_any _ _ _ _ _).mono ?_
  rintro e w2 ⟨he2, r, s, t, rfl, hq⟩
  have HQ := Lib.hid hq
  have HR2 := Lib.hid (HR.out.ext he2)
  have HX2 := Lib.hid (Ext.trans HX.out he2)
  clear he2 hq
  have m0 : w2.cell? ⟨w.heap.size + 1, 0, none⟩ = some (.float .f32 0) := HR2.out.cell 0
  have m1 : w2.cell? ⟨w.heap.size + 1, 1, none⟩ = some (.float .f32 0) := HR2.out.cell 1
  have m2 : w2.cell? ⟨w.heap.size + 1, 2, none⟩ = some (.float .f32 0) := HR2.out.cell 2
  have f0 := HR2.out.frozen 0
  have f1 := HR2.out.frozen 1
  have f2 := HR2.out.frozen 2
  go_wp2_with fail
  have HB2 := HR2.out.set3v (.float .f32 r) (.float .f32 s) (.float .f32 t)
  have e2 : Ext w (((w2.setCell ⟨w.heap.size + 1, 0, none⟩ (.float .f32 r)).setCell ⟨w.heap.size + 1, 1, none⟩ (.float .f32 s)).setCell ⟨w.heap.size + 1, 2, none⟩ (.float .f32 t)) := by
    have := HX2.out
    (repeat first | with_reducible exact Ext.rfl' _ | with_reducible refine Ext.drewN ?_ _ | with_reducible refine Ext.drew' ?_ | with_reducible refine Ext.alloc' ?_ _ | with_reducible refine Ext.setCell_at ?_ _ _ _ (by first | exact Nat.le_refl _ | omega) | with_reducible assumption | refine Ext.trans ?_ (by with_reducible assumption))
  generalize ((w2.setCell ⟨w.heap.size + 1, 0, none⟩ (.float .f32 r)).setCell ⟨w.heap.size + 1, 1, none⟩ (.float .f32 s)).setCell ⟨w.heap.size + 1, 2, none⟩ (.float .f32 t) = W2 at *
  have q0 : W2.cell? ⟨w.heap.size + 1, 0, none⟩ = some (.float .f32 r) := HB2.cell 0
  have q1 : W2.cell? ⟨w.heap.size + 1, 1, none⟩ = some (.float .f32 s) := HB2.cell 1
  have q2 : W2.cell? ⟨w.heap.size + 1, 2, none⟩ = some (.float .f32 t) := HB2.cell 2
  exact bodyPost_ret (v := .agg #[.float .f32 r, .float .f32 s, .float .f32 t]) (by simp [results, Try.results139, go_sem, q0, q1, q2]) rfl ⟨e2, _, _, _, rfl, HQ.out⟩
theorem maps_scale (b q : Nat) : MapsV 139 #[.pointer (some ⟨b, 0, none⟩)] (At1 b q) (fun c => vscale c (cn .f32 q)) :=
  ⟨fun args w => by go_simp, fun x' y' z' w h => Scale1_any b q x' y' z' w h, fun w w' h he => h.ext he⟩
end Go.Proofs.Ytbaohbpfnlicpaa
