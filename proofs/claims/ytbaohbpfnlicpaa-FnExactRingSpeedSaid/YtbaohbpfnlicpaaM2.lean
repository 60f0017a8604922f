/- Walks: a thread is given on, where it is right. -/
import Derived.Test.YtbaohbpfnlicpaaM1
namespace Go.Proofs.Ytbaohbpfnlicpaa
open Go Go.RowKit
set_option linter.unusedVariables false
set_option linter.unusedSimpArgs false
attribute [local go_sem] run_store_float

set_option maxRecDepth 100000 in
theorem l06Give_any (A : Option Addr) (cap sp : Nat) (cs : List V3) (w : World) (hA : VS w A cs) (hl : cs.length ≤ 1048576) (b : Bool) (hb : isTh cs (cn .f32 sp) = b) :
    Calls Try.prog 135 #[.agg #[.slice A cs.length cap, .float .f32 sp]] w fun e w' => Ext w w' ∧ e = .returned (.tuple #[if b then .agg #[.slice A cs.length cap, .float .f32 sp] else .agg #[.slice none 0 0, .float .f32 0], .bool b]) := by
  have HA := Lib.hid hA
  have HL := Lib.hid hl
  have HB := Lib.hid hb
  clear hA hl hb
  cases b
  all_goals
    go_enter Try.func135, Try.ntmps135
    go_wp2_with (go_at_call 108; refine (l06Is_any w.heap.size 0 A cap sp cs _ ⟨by simp <;> omega, by go_simp, by go_simp⟩ (HA.out.ext (by (repeat first | with_reducible exact Ext.rfl' _ | with_reducible refine Ext.drewN ?_ _ | with_reducible refine Ext.drew' ?_ | with_reducible refine Ext.alloc' ?_ _ | with_reducible refine Ext.setCell_at ?_ _ _ _ (by first | exact Nat.le_refl _ | omega) | with_reducible assumption | refine Ext.trans ?_ (by with_reducible assumption)))) HL.out _ HB.out).mono ?_; rintro e w1 ⟨he1, rfl⟩; obtain ⟨hc1, hf1⟩ := bcell he1; (try simp only [World.heap_drewN, World.cell?_drewN, World.frozen?_drewN] at hc1 hf1); (have hz0 : w.heap.size < w1.heap.size := (by have := he1.size; (try simp only [World.heap_drewN, World.size_alloc] at this); omega)); (have hz1 : w.heap.size + 1 < w1.heap.size := (by have := he1.size; (try simp only [World.heap_drewN, World.size_alloc] at this); omega)))
    exact bodyPost_ret (v := .tuple #[.agg #[_, _], .bool _]) (by simp [results, Try.results135, go_sem, hc1, hz0, hz1]) rfl ⟨by (repeat first | with_reducible exact Ext.rfl' _ | with_reducible refine Ext.drewN ?_ _ | with_reducible refine Ext.drew' ?_ | with_reducible refine Ext.alloc' ?_ _ | with_reducible refine Ext.setCell_at ?_ _ _ _ (by first | exact Nat.le_refl _ | omega) | with_reducible assumption | refine Ext.trans ?_ (by with_reducible assumption)), rfl⟩
set_option maxRecDepth 100000 in
theorem toldThread_any (A : Option Addr) (cap sp : Nat) (cs : List V3) (w : World) (hA : VS w A cs) (hl : cs.length ≤ 1048576) (b : Bool) (hb : isTh cs (cn .f32 sp) = b) :
    Calls Try.prog 144 #[.slice A cs.length cap, .float .f32 sp] w fun e w' => Ext w w' ∧ e = .returned (.tuple #[if b then .agg #[.slice A cs.length cap, .float .f32 sp] else .agg #[.slice none 0 0, .float .f32 0], .bool b]) := by
  have HA := Lib.hid hA
  have HL := Lib.hid hl
  have HB := Lib.hid hb
  clear hA hl hb
  cases b with
  | false =>
    go_enter Try.func144, Try.ntmps144
    go_wp2_with (go_at_call 112; refine (IsThread_any A cap sp cs _ (HA.out.ext (by (repeat first | with_reducible exact Ext.rfl' _ | with_reducible refine Ext.drewN ?_ _ | with_reducible refine Ext.drew' ?_ | with_reducible refine Ext.alloc' ?_ _ | with_reducible refine Ext.setCell_at ?_ _ _ _ (by first | exact Nat.le_refl _ | omega) | with_reducible assumption | refine Ext.trans ?_ (by with_reducible assumption)))) HL.out _ HB.out).mono ?_; rintro e w1 ⟨he1, rfl⟩; obtain ⟨hc1, hf1⟩ := bcell he1; (try simp only [World.heap_drewN, World.cell?_drewN, World.frozen?_drewN] at hc1 hf1); (have hz0 : w.heap.size < w1.heap.size := (by have := he1.size; (try simp only [World.heap_drewN, World.size_alloc] at this); omega)); (have hz1 : w.heap.size + 1 < w1.heap.size := (by have := he1.size; (try simp only [World.heap_drewN, World.size_alloc] at this); omega)))
    have hR : Blk w1 w.heap.size 48 #[.slice none 0 0, .float .f32 0] := ((Blk.new w 48 #[.slice none 0 0, .float .f32 0]).alloc _).ext he1
    have hBS : Blk ((w1.setCell ⟨w.heap.size, 0, none⟩ (.slice none 0 0)).setCell ⟨w.heap.size, 1, none⟩ (.float .f32 0)) w.heap.size 48 #[.slice none 0 0, .float .f32 0] := by
      have := (hR.set_ 0 (.slice none 0 0)).set_ 1 (.float .f32 0)
      simpa using this
    have e3 : Ext w ((w1.setCell ⟨w.heap.size, 0, none⟩ (.slice none 0 0)).setCell ⟨w.heap.size, 1, none⟩ (.float .f32 0)) := by (repeat first | with_reducible exact Ext.rfl' _ | with_reducible refine Ext.drewN ?_ _ | with_reducible refine Ext.drew' ?_ | with_reducible refine Ext.alloc' ?_ _ | with_reducible refine Ext.setCell_at ?_ _ _ _ (by first | exact Nat.le_refl _ | omega) | with_reducible assumption | refine Ext.trans ?_ (by with_reducible assumption))
    clear hc1 hf1 hR
    generalize (w1.setCell ⟨w.heap.size, 0, none⟩ (.slice none 0 0)).setCell ⟨w.heap.size, 1, none⟩ (.float .f32 0) = W4 at *
    have q0 : W4.cell? ⟨w.heap.size, 0, none⟩ = some (.slice none 0 0) := hBS.cell 0
    have q1 : W4.cell? ⟨w.heap.size, 1, none⟩ = some (.float .f32 0) := hBS.cell 1
    exact bodyPost_ret (v := .tuple #[.agg #[.slice none 0 0, .float .f32 0], .bool _]) (by simp [results, Try.results144, go_sem, q0, q1]) rfl ⟨e3, rfl⟩
  | true =>
    go_enter Try.func144, Try.ntmps144
    go_wp2_with (go_at_call 112; refine (IsThread_any A cap sp cs _ (HA.out.ext (by (repeat first | with_reducible exact Ext.rfl' _ | with_reducible refine Ext.drewN ?_ _ | with_reducible refine Ext.drew' ?_ | with_reducible refine Ext.alloc' ?_ _ | with_reducible refine Ext.setCell_at ?_ _ _ _ (by first | exact Nat.le_refl _ | omega) | with_reducible assumption | refine Ext.trans ?_ (by with_reducible assumption)))) HL.out _ HB.out).mono ?_; rintro e w1 ⟨he1, rfl⟩; obtain ⟨hc1, hf1⟩ := bcell he1; (try simp only [World.heap_drewN, World.cell?_drewN, World.frozen?_drewN] at hc1 hf1); (have hz0 : w.heap.size < w1.heap.size := (by have := he1.size; (try simp only [World.heap_drewN, World.size_alloc] at this); omega)); (have hz1 : w.heap.size + 1 < w1.heap.size := (by have := he1.size; (try simp only [World.heap_drewN, World.size_alloc] at this); omega)))
    have hR : Blk w1 w.heap.size 48 #[.slice none 0 0, .float .f32 0] := ((Blk.new w 48 #[.slice none 0 0, .float .f32 0]).alloc _).ext he1
    have hBS : Blk ((w1.setCell ⟨w.heap.size, 0, none⟩ (.slice A cs.length cap)).setCell ⟨w.heap.size, 1, none⟩ (.float .f32 sp)) w.heap.size 48 #[.slice A cs.length cap, .float .f32 sp] := by
      have := (hR.set_ 0 (.slice A cs.length cap)).set_ 1 (.float .f32 sp)
      simpa using this
    have e3 : Ext w ((w1.setCell ⟨w.heap.size, 0, none⟩ (.slice A cs.length cap)).setCell ⟨w.heap.size, 1, none⟩ (.float .f32 sp)) := by (repeat first | with_reducible exact Ext.rfl' _ | with_reducible refine Ext.drewN ?_ _ | with_reducible refine Ext.drew' ?_ | with_reducible refine Ext.alloc' ?_ _ | with_reducible refine Ext.setCell_at ?_ _ _ _ (by first | exact Nat.le_refl _ | omega) | with_reducible assumption | refine Ext.trans ?_ (by with_reducible assumption))
    clear hc1 hf1 hR
    generalize (w1.setCell ⟨w.heap.size, 0, none⟩ (.slice A cs.length cap)).setCell ⟨w.heap.size, 1, none⟩ (.float .f32 sp) = W4 at *
    have q0 : W4.cell? ⟨w.heap.size, 0, none⟩ = some (.slice A cs.length cap) := hBS.cell 0
    have q1 : W4.cell? ⟨w.heap.size, 1, none⟩ = some (.float .f32 sp) := hBS.cell 1
    exact bodyPost_ret (v := .tuple #[.agg #[.slice A cs.length cap, .float .f32 sp], .bool _]) (by simp [results, Try.results144, go_sem, q0, q1]) rfl ⟨e3, rfl⟩

end Go.Proofs.Ytbaohbpfnlicpaa
