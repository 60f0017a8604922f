/- Walks: a thread turned around, by the program. -/
import Derived.Test.YtbaohbpfnlicpaaB2
namespace Go.Proofs.Ytbaohbpfnlicpaa
open Go Go.RowKit
set_option linter.unusedVariables false
set_option linter.unusedSimpArgs false
attribute [local go_sem] run_store_float

theorem row3_of_vo {w : World} {B b o : Nat} {cs : List V3} (h : VO w B (some ⟨b, o, none⟩) cs) (hp : 0 < cs.length) : Row3 w b o cs.length (revMix cs 0) ∧ B ≤ b := by
  obtain ⟨b', o', hA, hB, hb, hf, hc⟩ := h hp
  simp only [Option.some.injEq, Addr.mk.injEq, and_true] at hA
  obtain ⟨rfl, rfl⟩ := hA
  refine ⟨⟨hb, hf, fun t ht => ?_⟩, hB⟩
  have : revMix cs 0 t = cs.getD t (0, 0, 0) := by
    unfold revMix
    rw [if_neg (by omega)]
  rw [this]
  exact hc t ht
theorem Row3.vo {w : World} {B b o n : Nat} {cs : List V3} (h : Row3 w b o n (fun t => cs.getD t (0, 0, 0))) (hn : n = cs.length) (hB : B ≤ b) : VO w B (some ⟨b, o, none⟩) cs := fun _ => by
  subst hn
  exact ⟨b, o, rfl, hB, h.1, h.2.1, h.2.2⟩

set_option maxRecDepth 100000 in
theorem implBack_any (A : Option Addr) (cap sp : Nat) (cs : List V3) (w : World) (hA : VS w A cs) (hl : cs.length ≤ 1048576) :
    Calls Try.prog 57 #[.agg #[.slice A cs.length cap, .float .f32 sp]] w fun e w' => Ext w w' ∧ RT w w' e (backP cs (cn .f32 sp)) := by
  have HA := Lib.hid hA
  have HL := Lib.hid hl
  clear hA hl
  unfold backP
  cases hi : isTh cs (cn .f32 sp) with
  | false =>
    have HI := Lib.hid hi
    clear hi
    go_enter Try.func57, Try.ntmps57
    go_wp2_with (go_at_call 112; refine (IsThread_any A cap sp cs _ (HA.out.ext (by (repeat first | with_reducible exact Ext.rfl' _ | with_reducible refine Ext.drewN ?_ _ | with_reducible refine Ext.drew' ?_ | with_reducible refine Ext.alloc' ?_ _ | with_reducible refine Ext.setCell_at ?_ _ _ _ (by first | exact Nat.le_refl _ | omega) | with_reducible assumption | refine Ext.trans ?_ (by with_reducible assumption)))) HL.out false HI.out).mono ?_; rintro e w1 ⟨he1, rfl⟩; obtain ⟨hc1, hf1⟩ := bcell he1; (try simp only [World.heap_drewN, World.cell?_drewN, World.frozen?_drewN] at hc1 hf1); (have hz0 : w.heap.size < w1.heap.size := (by have := he1.size; (try simp only [World.heap_drewN, World.size_alloc] at this); omega)); (have hz1 : w.heap.size + 1 < w1.heap.size := (by have := he1.size; (try simp only [World.heap_drewN, World.size_alloc] at this); omega)))
    have hR : Blk w1 (w.heap.size + 1) 48 #[.slice none 0 0, .float .f32 0] := Blk.ext (Blk.at_ (w.alloc (.cells #[.slice A cs.length cap, .float .f32 sp] 48)) 48 #[.slice none 0 0, .float .f32 0] (w.heap.size + 1) (by simp)) he1
    have hBS : Blk ((w1.setCell ⟨w.heap.size + 1, 0, none⟩ (.slice none 0 0)).setCell ⟨w.heap.size + 1, 1, none⟩ (.float .f32 0)) (w.heap.size + 1) 48 #[.slice none 0 0, .float .f32 0] := by
      have := (hR.set_ 0 (.slice none 0 0)).set_ 1 (.float .f32 0)
      simpa using this
    have e3 : Ext w ((w1.setCell ⟨w.heap.size + 1, 0, none⟩ (.slice none 0 0)).setCell ⟨w.heap.size + 1, 1, none⟩ (.float .f32 0)) := by (repeat first | with_reducible exact Ext.rfl' _ | with_reducible refine Ext.drewN ?_ _ | with_reducible refine Ext.drew' ?_ | with_reducible refine Ext.alloc' ?_ _ | with_reducible refine Ext.setCell_at ?_ _ _ _ (by first | exact Nat.le_refl _ | omega) | with_reducible assumption | refine Ext.trans ?_ (by with_reducible assumption))
    clear hc1 hf1 hR
    generalize (w1.setCell ⟨w.heap.size + 1, 0, none⟩ (.slice none 0 0)).setCell ⟨w.heap.size + 1, 1, none⟩ (.float .f32 0) = W9 at *
    have q0 : W9.cell? ⟨w.heap.size + 1, 0, none⟩ = some (.slice none 0 0) := hBS.cell 0
    have q1 : W9.cell? ⟨w.heap.size + 1, 1, none⟩ = some (.float .f32 0) := hBS.cell 1
    exact bodyPost_ret (v := .tuple #[.agg #[.slice none 0 0, .float .f32 0], .bool false]) (by simp [results, Try.results57, go_sem, q0, q1]) rfl ⟨e3, none, 0, 0, rfl, fun h => absurd h (Nat.lt_irrefl 0), cn_zero32⟩
  | true =>
    have h32 : 3 ≤ cs.length ∧ cs.length ≤ 32 := by unfold isTh at hi; simp only [Bool.and_eq_true, decide_eq_true_eq] at hi; exact hi.1.1
    have hp : 0 < cs.length := by omega
    have HP := Lib.hid hp
    have HI := Lib.hid hi
    clear hi h32 hp
    go_enter Try.func57, Try.ntmps57
    go_wp2_with (go_at_call 112; refine (IsThread_any A cap sp cs _ (HA.out.ext (by (repeat first | with_reducible exact Ext.rfl' _ | with_reducible refine Ext.drewN ?_ _ | with_reducible refine Ext.drew' ?_ | with_reducible refine Ext.alloc' ?_ _ | with_reducible refine Ext.setCell_at ?_ _ _ _ (by first | exact Nat.le_refl _ | omega) | with_reducible assumption | refine Ext.trans ?_ (by with_reducible assumption)))) HL.out true HI.out).mono ?_; rintro e w1 ⟨he1, rfl⟩; obtain ⟨hc1, hf1⟩ := bcell he1; (try simp only [World.heap_drewN, World.cell?_drewN, World.frozen?_drewN] at hc1 hf1); (have hz0 : w.heap.size < w1.heap.size := (by have := he1.size; (try simp only [World.heap_drewN, World.size_alloc] at this); omega)); (have hz1 : w.heap.size + 1 < w1.heap.size := (by have := he1.size; (try simp only [World.heap_drewN, World.size_alloc] at this); omega)))
    have hR : Blk w1 (w.heap.size + 1) 48 #[.slice none 0 0, .float .f32 0] := Blk.ext (Blk.at_ (w.alloc (.cells #[.slice A cs.length cap, .float .f32 sp] 48)) 48 #[.slice none 0 0, .float .f32 0] (w.heap.size + 1) (by simp)) he1
    have HT := Lib.hid (TAt.ext (w := (w.alloc (.cells #[.slice A cs.length cap, .float .f32 sp] 48)).alloc (.cells #[.slice none 0 0, .float .f32 0] 48)) (g := w.heap.size) (o := 0) (A := A) (n := cs.length) (cap := cap) (sp := sp) ⟨by simp <;> omega, by go_simp, by go_simp⟩ he1)
    have HE1 := Lib.hid (show Ext w w1 by (repeat first | with_reducible exact Ext.rfl' _ | with_reducible refine Ext.drewN ?_ _ | with_reducible refine Ext.drew' ?_ | with_reducible refine Ext.alloc' ?_ _ | with_reducible refine Ext.setCell_at ?_ _ _ _ (by first | exact Nat.le_refl _ | omega) | with_reducible assumption | refine Ext.trans ?_ (by with_reducible assumption)))
    have HR1 := Lib.hid hR
    clear he1 hc1 hf1 hR
    refine (CloneV_any A cap cs _ (HA.out.ext HE1.out) HL.out HP.out).mono ?_
    rintro e w2 ⟨he2, A2, cap2, rfl, hv2⟩
    obtain ⟨b2, o2, rfl, -⟩ := hv2 HP.out
    obtain ⟨hrow, hB2⟩ := row3_of_vo hv2 HP.out
    have HROW := Lib.hid hrow
    have HT2 := Lib.hid (HT.out.ext he2)
    have HR2 := Lib.hid (HR1.out.ext he2)
    have HE2 := Lib.hid (Ext.trans HE1.out he2)
    have HX2 := Lib.hid he2
    clear he2 hv2 hrow
    go_wp2_with fail
    refine (ReverseV_any b2 o2 cap2 cs _ HROW.out HL.out HP.out).mono ?_
    rintro e w3 ⟨rfl, hg3, hrow3⟩
    have hlt1 := HR1.out.lt
    have hx2 := HX2.out.size
    have HR3 := Lib.hid (show Blk w3 (w.heap.size + 1) 48 #[.slice none 0 0, .float .f32 0] from (hg3.block _ HR2.out.lt (by simp; omega)).trans HR2.out)
    obtain ⟨tl, t0, t1⟩ := HT2.out
    have s1 : w3.cell? ⟨w.heap.size, 1, none⟩ = some (.float .f32 sp) := (World.cell?_of_block (hg3.block _ tl (by simp; omega))).trans t1
    have HE3 := Lib.hid (Ext.grown HE2.out hg3 (fun k hk => by simp at hk; omega))
    have HV3 := Lib.hid (hrow3.vo (B := w1.heap.size) (by rw [List.length_reverse]) hB2)
    have r0 : w3.cell? ⟨w.heap.size + 1, 0, none⟩ = some (.slice none 0 0) := HR3.out.cell 0
    have r1 : w3.cell? ⟨w.heap.size + 1, 1, none⟩ = some (.float .f32 0) := HR3.out.cell 1
    have rf0 := HR3.out.frozen 0
    have rf1 := HR3.out.frozen 1
    have hlt0 : w.heap.size < w3.heap.size := Nat.lt_of_lt_of_le tl hg3.size
    clear hg3 hrow3 t0 t1 tl
    go_wp2_with fail
    have hBS : Blk ((w3.setCell ⟨w.heap.size + 1, 0, none⟩ (.slice (some ⟨b2, o2, none⟩) cs.length cap2)).setCell ⟨w.heap.size + 1, 1, none⟩ (.float .f32 sp)) (w.heap.size + 1) 48 #[.slice (some ⟨b2, o2, none⟩) cs.length cap2, .float .f32 sp] := by
      have := (HR3.out.set_ 0 (.slice (some ⟨b2, o2, none⟩) cs.length cap2)).set_ 1 (.float .f32 sp)
      simpa using this
    have e3 : Ext w ((w3.setCell ⟨w.heap.size + 1, 0, none⟩ (.slice (some ⟨b2, o2, none⟩) cs.length cap2)).setCell ⟨w.heap.size + 1, 1, none⟩ (.float .f32 sp)) := Ext.setCell_at (Ext.setCell_at HE3.out _ _ _ (by omega)) _ _ _ (by omega)
    have hvo : VO ((w3.setCell ⟨w.heap.size + 1, 0, none⟩ (.slice (some ⟨b2, o2, none⟩) cs.length cap2)).setCell ⟨w.heap.size + 1, 1, none⟩ (.float .f32 sp)) w.heap.size (some ⟨b2, o2, none⟩) cs.reverse := ((HV3.out.set_lt _ _ _ hlt1).set_lt _ _ _ hlt1).mono (by omega)
    generalize (w3.setCell ⟨w.heap.size + 1, 0, none⟩ (.slice (some ⟨b2, o2, none⟩) cs.length cap2)).setCell ⟨w.heap.size + 1, 1, none⟩ (.float .f32 sp) = W9 at *
    have q0 : W9.cell? ⟨w.heap.size + 1, 0, none⟩ = some (.slice (some ⟨b2, o2, none⟩) cs.length cap2) := hBS.cell 0
    have q1 : W9.cell? ⟨w.heap.size + 1, 1, none⟩ = some (.float .f32 sp) := hBS.cell 1
    exact bodyPost_ret (v := .tuple #[.agg #[.slice (some ⟨b2, o2, none⟩) cs.length cap2, .float .f32 sp], .bool true]) (by simp [results, Try.results57, go_sem, q0, q1]) rfl ⟨e3, some ⟨b2, o2, none⟩, cap2, sp, by simp, hvo, rfl⟩
end Go.Proofs.Ytbaohbpfnlicpaa
