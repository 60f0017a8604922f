/- Walks: a thread moved or scaled, by the program: all cases. -/
import Derived.Test.YtbaohbpfnlicpaaM7
namespace Go.Proofs.Ytbaohbpfnlicpaa
open Go Go.RowKit
set_option linter.unusedVariables false
set_option linter.unusedSimpArgs false
attribute [local go_sem] run_store_float

set_option maxRecDepth 100000 in
theorem repointedNo_any (A : Option Addr) (cap sp : Nat) (cs : List V3) (g : Nat) (fr : Array Value) (w : World) (hA : VS w A cs) (hl : cs.length ≤ 1048576) (hi : isTh cs (cn .f32 sp) = false) :
    Calls Try.prog 137 #[.agg #[.slice A cs.length cap, .float .f32 sp], .func (.func g) #[] fr] w fun e w' => Ext w w' ∧ RT w w' e (false, [], 0) := by
  have HA := Lib.hid hA
  have HL := Lib.hid hl
  have HI := Lib.hid hi
  clear hA hl hi
  go_enter Try.func137, Try.ntmps137
  go_wp2_with (go_at_call 112; refine (IsThread_any A cap sp cs _ (HA.out.ext (by (repeat first | with_reducible exact Ext.rfl' _ | with_reducible refine Ext.drewN ?_ _ | with_reducible refine Ext.drew' ?_ | with_reducible refine Ext.alloc' ?_ _ | with_reducible refine Ext.setCell_at ?_ _ _ _ (by first | exact Nat.le_refl _ | omega) | with_reducible assumption | refine Ext.trans ?_ (by with_reducible assumption)))) HL.out false HI.out).mono ?_; rintro e w1 ⟨he1, rfl⟩; obtain ⟨hc1, hf1⟩ := bcell he1; (try simp only [World.heap_drewN, World.cell?_drewN, World.frozen?_drewN] at hc1 hf1); (have hz0 : w.heap.size < w1.heap.size := (by have := he1.size; (try simp only [World.heap_drewN, World.size_alloc] at this); omega)); (have hz1 : w.heap.size + 1 < w1.heap.size := (by have := he1.size; (try simp only [World.heap_drewN, World.size_alloc] at this); omega)))
  have hR : Blk w1 (w.heap.size + 1) 48 #[.slice none 0 0, .float .f32 0] := Blk.ext (Blk.at_ (w.alloc (.cells #[.slice A cs.length cap, .float .f32 sp] 48)) 48 #[.slice none 0 0, .float .f32 0] (w.heap.size + 1) (by simp)) he1
  have hBS : Blk ((w1.setCell ⟨w.heap.size + 1, 0, none⟩ (.slice none 0 0)).setCell ⟨w.heap.size + 1, 1, none⟩ (.float .f32 0)) (w.heap.size + 1) 48 #[.slice none 0 0, .float .f32 0] := by
    have := (hR.set_ 0 (.slice none 0 0)).set_ 1 (.float .f32 0)
    simpa using this
  have e3 : Ext w ((w1.setCell ⟨w.heap.size + 1, 0, none⟩ (.slice none 0 0)).setCell ⟨w.heap.size + 1, 1, none⟩ (.float .f32 0)) := by (repeat first | with_reducible exact Ext.rfl' _ | with_reducible refine Ext.drewN ?_ _ | with_reducible refine Ext.drew' ?_ | with_reducible refine Ext.alloc' ?_ _ | with_reducible refine Ext.setCell_at ?_ _ _ _ (by first | exact Nat.le_refl _ | omega) | with_reducible assumption | refine Ext.trans ?_ (by with_reducible assumption))
  clear hc1 hf1 hR
  generalize (w1.setCell ⟨w.heap.size + 1, 0, none⟩ (.slice none 0 0)).setCell ⟨w.heap.size + 1, 1, none⟩ (.float .f32 0) = W9 at *
  have q0 : W9.cell? ⟨w.heap.size + 1, 0, none⟩ = some (.slice none 0 0) := hBS.cell 0
  have q1 : W9.cell? ⟨w.heap.size + 1, 1, none⟩ = some (.float .f32 0) := hBS.cell 1
  exact bodyPost_ret (v := .tuple #[.agg #[.slice none 0 0, .float .f32 0], .bool false]) (by simp [results, Try.results137, go_sem, q0, q1]) rfl ⟨e3, none, 0, 0, rfl, fun h => absurd h (Nat.lt_irrefl 0), cn_zero32⟩
theorem repointedAll_any (A : Option Addr) (cap sp : Nat) (cs : List V3) (g : Nat) (fr : Array Value) (ok : World → Prop) (f : V3 → V3) (hM : MapsV g fr ok f) (w : World) (hok : ok w) (hA : VS w A cs) (hl : cs.length ≤ 1048576) :
    Calls Try.prog 137 #[.agg #[.slice A cs.length cap, .float .f32 sp], .func (.func g) #[] fr] w fun e w' => Ext w w' ∧ RT w w' e (onTh f true cs (cn .f32 sp)) := by
  cases hi : isTh cs (cn .f32 sp) with
  | false =>
    refine (repointedNo_any A cap sp cs g fr w hA hl hi).mono fun e w' h => ⟨h.1, ?_⟩
    have : onTh f true cs (cn .f32 sp) = (false, [], 0) := by unfold onTh; rw [hi]; rfl
    rw [this]; exact h.2
  | true => exact repointed_any A cap sp cs g fr ok f hM w hok hA hl hi
end Go.Proofs.Ytbaohbpfnlicpaa
