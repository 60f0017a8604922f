/- Walks: a thread moved or scaled, by the program. -/
import Derived.Test.YtbaohbpfnlicpaaM9
namespace Go.Proofs.Ytbaohbpfnlicpaa
open Go Go.RowKit
set_option linter.unusedVariables false
set_option linter.unusedSimpArgs false
attribute [local go_sem] run_store_float

set_option maxRecDepth 100000 in
theorem implMove_any (A : Option Addr) (cap sp x y z : Nat) (cs : List V3) (w : World) (hA : VS w A cs) (hl : cs.length ≤ 1048576) (hv : vfin (cv x y z) = true) :
    Calls Try.prog 62 #[.agg #[.slice A cs.length cap, .float .f32 sp], .agg #[.float .f32 x, .float .f32 y, .float .f32 z]] w fun e w' => Ext w w' ∧ RT w w' e (onTh (fun c => vadd c (cv x y z)) true cs (cn .f32 sp)) := by
  have HA := Lib.hid hA
  have HL := Lib.hid hl
  have HV := Lib.hid hv
  clear hA hl hv
  go_enter Try.func62, Try.ntmps62
  go_wp2_with (go_at_call 136; refine (finiteVector_any _ _ _ _ HV.out _).mono ?_; rintro e w1 ⟨he1, rfl⟩; obtain ⟨hc1, hf1⟩ := bcell he1; (try simp only [World.heap_drewN, World.cell?_drewN, World.frozen?_drewN] at hc1 hf1); (have hz0 : w.heap.size < w1.heap.size := (by have := he1.size; (try simp only [World.heap_drewN, World.size_alloc] at this); omega)); (have hz1 : w.heap.size + 1 < w1.heap.size := (by have := he1.size; (try simp only [World.heap_drewN, World.size_alloc] at this); omega)); (have hz2 : w.heap.size + 2 < w1.heap.size := (by have := he1.size; (try simp only [World.heap_drewN, World.size_alloc] at this); omega)))
  have HB := Lib.hid (show At3 (w.heap.size + 1) x y z w1 from ⟨by omega, by go_simp, by go_simp, by go_simp⟩)
  have HR := Lib.hid (Blk.ext (Blk.at_ ((w.alloc (.cells #[.slice A cs.length cap, .float .f32 sp] 48)).alloc (.cells #[.float .f32 x, .float .f32 y, .float .f32 z] 54)) 48 #[.slice none 0 0, .float .f32 0] (w.heap.size + 1 + 1) (by simp)) he1)
  have HE1 := Lib.hid (show Ext w w1 by (repeat first | with_reducible exact Ext.rfl' _ | with_reducible refine Ext.drewN ?_ _ | with_reducible refine Ext.drew' ?_ | with_reducible refine Ext.alloc' ?_ _ | with_reducible refine Ext.setCell_at ?_ _ _ _ (by first | exact Nat.le_refl _ | omega) | with_reducible assumption | refine Ext.trans ?_ (by with_reducible assumption)))
  clear he1 hc1 hf1
  refine (repointedAll_any A cap sp cs _ _ _ _ (maps_move (w.heap.size + 1) x y z) _ HB.out (HA.out.ext HE1.out) HL.out).mono ?_
  rintro e w2 ⟨he2, A2, cap2, s2, rfl, hv2, hs2⟩
  have HR2 := Lib.hid (HR.out.ext he2)
  have HX2 := Lib.hid (Ext.trans HE1.out he2)
  have HV2 := Lib.hid hv2
  have HS2 := Lib.hid hs2
  clear he2 hv2 hs2
  generalize hP : onTh (fun c => vadd c (cv x y z)) true cs (cn .f32 sp) = P at *
  obtain ⟨pb, pl, ps⟩ := P
  have HP := Lib.hid hP
  clear hP
  have r0 : w2.cell? ⟨w.heap.size + 1 + 1, 0, none⟩ = some (.slice none 0 0) := HR2.out.cell 0
  have r1 : w2.cell? ⟨w.heap.size + 1 + 1, 1, none⟩ = some (.float .f32 0) := HR2.out.cell 1
  have rf0 := HR2.out.frozen 0
  have rf1 := HR2.out.frozen 1
  go_wp2_with fail
  have hBS : Blk ((w2.setCell ⟨w.heap.size + 1 + 1, 0, none⟩ (.slice A2 pl.length cap2)).setCell ⟨w.heap.size + 1 + 1, 1, none⟩ (.float .f32 s2)) (w.heap.size + 1 + 1) 48 #[.slice A2 pl.length cap2, .float .f32 s2] := by
    have := (HR2.out.set_ 0 (.slice A2 pl.length cap2)).set_ 1 (.float .f32 s2)
    simpa using this
  have e3 : Ext w ((w2.setCell ⟨w.heap.size + 1 + 1, 0, none⟩ (.slice A2 pl.length cap2)).setCell ⟨w.heap.size + 1 + 1, 1, none⟩ (.float .f32 s2)) := Ext.setCell_at (Ext.setCell_at HX2.out _ _ _ (by omega)) _ _ _ (by omega)
  have hvo : VO ((w2.setCell ⟨w.heap.size + 1 + 1, 0, none⟩ (.slice A2 pl.length cap2)).setCell ⟨w.heap.size + 1 + 1, 1, none⟩ (.float .f32 s2)) w.heap.size A2 pl := fun hp => by
    obtain ⟨b', o', hA2, hB2, _⟩ := HV2.out hp
    have hb : w1.heap.size ≤ b' := hB2
    refine ((HV2.out.mono (B' := w.heap.size) HE1.out.size).only (row := some (w.heap.size + 1 + 1)) (only_setCell (g := w.heap.size + 1 + 1) (p := ⟨w.heap.size + 1 + 1, 1, none⟩) (only_setCell (g := w.heap.size + 1 + 1) (p := ⟨w.heap.size + 1 + 1, 0, none⟩) (only_refl _ _) rfl _) rfl _) fun b1 o1 h => ?_) hp
    rw [hA2] at h
    simp only [Option.some.injEq, Addr.mk.injEq] at h
    intro hh
    simp only [Option.some.injEq] at hh
    omega
  generalize (w2.setCell ⟨w.heap.size + 1 + 1, 0, none⟩ (.slice A2 pl.length cap2)).setCell ⟨w.heap.size + 1 + 1, 1, none⟩ (.float .f32 s2) = W9 at *
  have q0 : W9.cell? ⟨w.heap.size + 1 + 1, 0, none⟩ = some (.slice A2 pl.length cap2) := hBS.cell 0
  have q1 : W9.cell? ⟨w.heap.size + 1 + 1, 1, none⟩ = some (.float .f32 s2) := hBS.cell 1
  refine bodyPost_ret (v := .tuple #[.agg #[.slice A2 pl.length cap2, .float .f32 s2], .bool pb]) (by simp [results, Try.results62, go_sem, q0, q1]) rfl ⟨e3, ?_⟩
  rw [HP.out]
  exact ⟨A2, cap2, s2, rfl, hvo, HS2.out⟩
end Go.Proofs.Ytbaohbpfnlicpaa
