/- Walks: a thread scaled, by the reference: all cases. -/
import Derived.Test.YtbaohbpfnlicpaaM5
namespace Go.Proofs.Ytbaohbpfnlicpaa
open Go Go.RowKit
set_option linter.unusedVariables false
set_option linter.unusedSimpArgs false
attribute [local go_sem] run_store_float

set_option maxRecDepth 100000 in
theorem specScaleNo_any (A : Option Addr) (cap sp q : Nat) (cs : List V3) (w : World) (hA : VS w A cs) (hl : cs.length ≤ 1048576) (hi : isTh cs (cn .f32 sp) = false) :
    Calls Try.prog 63 #[.agg #[.slice A cs.length cap, .float .f32 sp], .float .f32 q] w fun e w' => Ext w w' ∧ RT w w' e (false, [], 0) := by
  have HA := Lib.hid hA
  have HL := Lib.hid hl
  have HI := Lib.hid hi
  clear hA hl hi
  have HT := Lib.hid (show TAt ((w.alloc (.cells #[.slice A cs.length cap, .float .f32 sp] 48)).alloc (.cells #[.slice none 0 0, .float .f32 0] 48)) w.heap.size 0 A cs.length cap sp from ⟨by simp <;> omega, by go_simp, by go_simp⟩)
  have HRs := Lib.hid (Blk.at_ (w.alloc (.cells #[.slice A cs.length cap, .float .f32 sp] 48)) 48 #[.slice none 0 0, .float .f32 0] (w.heap.size + 1) (by simp))
  have HE1 := Lib.hid (show Ext w ((w.alloc (.cells #[.slice A cs.length cap, .float .f32 sp] 48)).alloc (.cells #[.slice none 0 0, .float .f32 0] 48)) by (repeat first | with_reducible exact Ext.rfl' _ | with_reducible refine Ext.drewN ?_ _ | with_reducible refine Ext.drew' ?_ | with_reducible refine Ext.alloc' ?_ _ | with_reducible refine Ext.setCell_at ?_ _ _ _ (by first | exact Nat.le_refl _ | omega) | with_reducible assumption | refine Ext.trans ?_ (by with_reducible assumption)))
  go_enter Try.func63, Try.ntmps63
  go_wp2_with fail
  generalize ((w.alloc (.cells #[.slice A cs.length cap, .float .f32 sp] 48)).alloc (.cells #[.slice none 0 0, .float .f32 0] 48)) = W1 at *
  refine (l06Is_any w.heap.size 0 A cap sp cs _ HT.out (HA.out.ext HE1.out) HL.out false HI.out).mono ?_
  rintro e w2 ⟨he2, rfl⟩
  have HE2 := Lib.hid he2
  have r0 : w2.cell? ⟨w.heap.size + 1, 0, none⟩ = some (.slice none 0 0) := (HRs.out.ext he2).cell 0
  have r1 : w2.cell? ⟨w.heap.size + 1, 1, none⟩ = some (.float .f32 0) := (HRs.out.ext he2).cell 1
  have rf0 := (HRs.out.ext he2).frozen 0
  have rf1 := (HRs.out.ext he2).frozen 1
  clear he2
  go_wp2_with fail
  have hBS : Blk ((w2.setCell ⟨w.heap.size + 1, 0, none⟩ (.slice none 0 0)).setCell ⟨w.heap.size + 1, 1, none⟩ (.float .f32 0)) (w.heap.size + 1) 48 #[.slice none 0 0, .float .f32 0] := by
    have := ((HRs.out.ext HE2.out).set_ 0 (.slice none 0 0)).set_ 1 (.float .f32 0)
    simpa using this
  have e3 : Ext w ((w2.setCell ⟨w.heap.size + 1, 0, none⟩ (.slice none 0 0)).setCell ⟨w.heap.size + 1, 1, none⟩ (.float .f32 0)) := Ext.setCell_at (Ext.setCell_at (Ext.trans HE1.out HE2.out) _ _ _ (by omega)) _ _ _ (by omega)
  generalize (w2.setCell ⟨w.heap.size + 1, 0, none⟩ (.slice none 0 0)).setCell ⟨w.heap.size + 1, 1, none⟩ (.float .f32 0) = W9 at *
  have q0 : W9.cell? ⟨w.heap.size + 1, 0, none⟩ = some (.slice none 0 0) := hBS.cell 0
  have q1 : W9.cell? ⟨w.heap.size + 1, 1, none⟩ = some (.float .f32 0) := hBS.cell 1
  exact bodyPost_ret (v := .tuple #[.agg #[.slice none 0 0, .float .f32 0], .bool false]) (by simp [results, Try.results63, go_sem, q0, q1]) rfl ⟨e3, none, 0, 0, rfl, fun h => absurd h (Nat.lt_irrefl 0), cn_zero32⟩
set_option maxRecDepth 100000 in
theorem specScaleBad_any (A : Option Addr) (cap sp q : Nat) (cs : List V3) (w : World) (hA : VS w A cs) (hl : cs.length ≤ 1048576) (hi : isTh cs (cn .f32 sp) = true) (hv : finF (cn .f32 q) = false) :
    Calls Try.prog 63 #[.agg #[.slice A cs.length cap, .float .f32 sp], .float .f32 q] w fun e w' => Ext w w' ∧ RT w w' e (false, [], 0) := by
  have HA := Lib.hid hA
  have HL := Lib.hid hl
  have HI := Lib.hid hi
  have HV := Lib.hid hv
  clear hA hl hi hv
  have HT := Lib.hid (show TAt ((w.alloc (.cells #[.slice A cs.length cap, .float .f32 sp] 48)).alloc (.cells #[.slice none 0 0, .float .f32 0] 48)) w.heap.size 0 A cs.length cap sp from ⟨by simp <;> omega, by go_simp, by go_simp⟩)
  have HRs := Lib.hid (Blk.at_ (w.alloc (.cells #[.slice A cs.length cap, .float .f32 sp] 48)) 48 #[.slice none 0 0, .float .f32 0] (w.heap.size + 1) (by simp))
  have HE1 := Lib.hid (show Ext w ((w.alloc (.cells #[.slice A cs.length cap, .float .f32 sp] 48)).alloc (.cells #[.slice none 0 0, .float .f32 0] 48)) by (repeat first | with_reducible exact Ext.rfl' _ | with_reducible refine Ext.drewN ?_ _ | with_reducible refine Ext.drew' ?_ | with_reducible refine Ext.alloc' ?_ _ | with_reducible refine Ext.setCell_at ?_ _ _ _ (by first | exact Nat.le_refl _ | omega) | with_reducible assumption | refine Ext.trans ?_ (by with_reducible assumption)))
  go_enter Try.func63, Try.ntmps63
  go_wp2_with fail
  generalize ((w.alloc (.cells #[.slice A cs.length cap, .float .f32 sp] 48)).alloc (.cells #[.slice none 0 0, .float .f32 0] 48)) = W1 at *
  refine (l06Is_any w.heap.size 0 A cap sp cs _ HT.out (HA.out.ext HE1.out) HL.out true HI.out).mono ?_
  rintro e w0 ⟨he0, rfl⟩
  have HE0 := Lib.hid he0
  clear he0
  go_wp2_with fail
  refine (l01Finite_any _ false HV.out _).mono ?_
  rintro e w2 ⟨he3, rfl⟩
  have he2 := Ext.trans HE0.out he3
  clear he3
  have HE2 := Lib.hid he2
  have r0 : w2.cell? ⟨w.heap.size + 1, 0, none⟩ = some (.slice none 0 0) := (HRs.out.ext he2).cell 0
  have r1 : w2.cell? ⟨w.heap.size + 1, 1, none⟩ = some (.float .f32 0) := (HRs.out.ext he2).cell 1
  have rf0 := (HRs.out.ext he2).frozen 0
  have rf1 := (HRs.out.ext he2).frozen 1
  clear he2
  go_wp2_with fail
  have hBS : Blk ((w2.setCell ⟨w.heap.size + 1, 0, none⟩ (.slice none 0 0)).setCell ⟨w.heap.size + 1, 1, none⟩ (.float .f32 0)) (w.heap.size + 1) 48 #[.slice none 0 0, .float .f32 0] := by
    have := ((HRs.out.ext HE2.out).set_ 0 (.slice none 0 0)).set_ 1 (.float .f32 0)
    simpa using this
  have e3 : Ext w ((w2.setCell ⟨w.heap.size + 1, 0, none⟩ (.slice none 0 0)).setCell ⟨w.heap.size + 1, 1, none⟩ (.float .f32 0)) := Ext.setCell_at (Ext.setCell_at (Ext.trans HE1.out HE2.out) _ _ _ (by omega)) _ _ _ (by omega)
  generalize (w2.setCell ⟨w.heap.size + 1, 0, none⟩ (.slice none 0 0)).setCell ⟨w.heap.size + 1, 1, none⟩ (.float .f32 0) = W9 at *
  have q0 : W9.cell? ⟨w.heap.size + 1, 0, none⟩ = some (.slice none 0 0) := hBS.cell 0
  have q1 : W9.cell? ⟨w.heap.size + 1, 1, none⟩ = some (.float .f32 0) := hBS.cell 1
  exact bodyPost_ret (v := .tuple #[.agg #[.slice none 0 0, .float .f32 0], .bool false]) (by simp [results, Try.results63, go_sem, q0, q1]) rfl ⟨e3, none, 0, 0, rfl, fun h => absurd h (Nat.lt_irrefl 0), cn_zero32⟩
theorem specScaleAll_any (A : Option Addr) (cap sp q : Nat) (cs : List V3) (w : World) (hA : VS w A cs) (hl : cs.length ≤ 1048576) :
    Calls Try.prog 63 #[.agg #[.slice A cs.length cap, .float .f32 sp], .float .f32 q] w fun e w' => Ext w w' ∧ RT w w' e (onTh (fun c => vscale c (cn .f32 q)) (finF (cn .f32 q)) cs (cn .f32 sp)) := by
  cases hi : isTh cs (cn .f32 sp) with
  | false =>
    refine (specScaleNo_any A cap sp q cs w hA hl hi).mono fun e w' h => ⟨h.1, ?_⟩
    have : onTh (fun c => vscale c (cn .f32 q)) (finF (cn .f32 q)) cs (cn .f32 sp) = (false, [], 0) := by unfold onTh; rw [hi]; rfl
    rw [this]; exact h.2
  | true =>
    cases hv : finF (cn .f32 q) with
    | false =>
      refine (specScaleBad_any A cap sp q cs w hA hl hi hv).mono fun e w' h => ⟨h.1, ?_⟩
      have : onTh (fun c => vscale c (cn .f32 q)) false cs (cn .f32 sp) = (false, [], 0) := by unfold onTh; rw [hi]; rfl
      rw [this]; exact h.2
    | true =>
      have := specScale_any A cap sp q cs w hA hl hi hv
      rw [hv] at this
      exact this
end Go.Proofs.Ytbaohbpfnlicpaa
