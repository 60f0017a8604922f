/- Walks: a thread turned, by the program: all cases. -/
import Derived.Test.YtbaohbpfnlicpaaK3
namespace Go.Proofs.Ytbaohbpfnlicpaa
open Go Go.RowKit
set_option linter.unusedVariables false
set_option linter.unusedSimpArgs false
attribute [local go_sem] run_store_float

set_option maxRecDepth 100000 in
theorem implTurn_any (A : Option Addr) (cap sp q : Nat) (cs : List V3) (w : World) (hA : VS w A cs) (hl : cs.length ≤ 1048576) (hv : finF (cn .f32 q) = true) :
    Calls Try.prog 78 #[.agg #[.slice A cs.length cap, .float .f32 sp], .float .f32 q] w fun e w' => Ext w w' ∧ RT w w' e (onTh (turnV (cosP (cn .f32 q)) (sineP (cn .f32 q))) true cs (cn .f32 sp)) := by
  have HA := Lib.hid hA
  have HL := Lib.hid hl
  have HV := Lib.hid hv
  clear hA hl hv
  go_enter Try.func78, Try.ntmps78
  go_wp2_with (first
    | (go_at_call 105; refine (IsFinite_any _ _ HV.out _).mono ?_; rintro e w1 ⟨he1, rfl⟩; obtain ⟨hc1, hf1⟩ := bcell he1; (try simp only [World.heap_drewN, World.cell?_drewN, World.frozen?_drewN] at hc1 hf1); (have hz0 : w.heap.size < w1.heap.size := (by have := he1.size; (try simp only [World.heap_drewN, World.size_alloc] at this); omega)); (have hz1 : w.heap.size + 1 < w1.heap.size := (by have := he1.size; (try simp only [World.heap_drewN, World.size_alloc] at this); omega)))
    | (refine wpList_float rfl _ _ _ _ _ rfl (by decide) _ _ _ rfl rfl ?_; intro r0 n0 q0; have HQ0 := Lib.hid (show cosP (cn .f32 q) = sineP (cn .f32 r0) by unfold cosP; rw [show cn .f32 r0 = _ from q0, cn_quart32]); clear q0))
  have HE1 := Lib.hid (show Ext w w1 by (repeat first | with_reducible exact Ext.rfl' _ | with_reducible refine Ext.drewN ?_ _ | with_reducible refine Ext.drew' ?_ | with_reducible refine Ext.alloc' ?_ _ | with_reducible refine Ext.setCell_at ?_ _ _ _ (by first | exact Nat.le_refl _ | omega) | with_reducible assumption | refine Ext.trans ?_ (by with_reducible assumption)))
  have HR := Lib.hid (Blk.ext (Blk.at_ (w.alloc (.cells #[.slice A cs.length cap, .float .f32 sp] 48)) 48 #[.slice none 0 0, .float .f32 0] (w.heap.size + 1) (by simp)) he1)
  have HT := Lib.hid (Blk.ext (Blk.at_ (w) 48 #[.slice A cs.length cap, .float .f32 sp] (w.heap.size) (by simp)) (show Ext (w.alloc (.cells #[.slice A cs.length cap, .float .f32 sp] 48)) w1 by (repeat first | with_reducible exact Ext.rfl' _ | with_reducible refine Ext.drewN ?_ _ | with_reducible refine Ext.drew' ?_ | with_reducible refine Ext.alloc' ?_ _ | with_reducible refine Ext.setCell_at ?_ _ _ _ (by first | exact Nat.le_refl _ | omega) | with_reducible assumption | refine Ext.trans ?_ (by with_reducible assumption))))
  clear he1 hc1 hf1
  refine (SineTurns_any _ _).mono ?_
  rintro e w2 ⟨he2, rc, rfl, hrc⟩
  have HRC := Lib.hid (show cn .f32 rc = cosP (cn .f32 q) by rw [hrc, ← HQ0.out])
  have HE2 := Lib.hid (show Ext w1 w2 by (repeat first | with_reducible exact Ext.rfl' _ | with_reducible refine Ext.drewN ?_ _ | with_reducible refine Ext.drew' ?_ | with_reducible refine Ext.alloc' ?_ _ | with_reducible refine Ext.setCell_at ?_ _ _ _ (by first | exact Nat.le_refl _ | omega) | with_reducible assumption | refine Ext.trans ?_ (by with_reducible assumption)))
  clear he2 hrc HQ0
  go_wp2_with fail
  refine (SineTurns_any _ _).mono ?_
  rintro e w3 ⟨he3, rs, rfl, hrs⟩
  have HRS := Lib.hid hrs
  have HE3 := Lib.hid (Ext.trans HE2.out he3)
  clear he3 hrs HE2
  have t0 : w3.cell? ⟨w.heap.size, 0, none⟩ = some (.slice A cs.length cap) := (HT.out.ext HE3.out).cell 0
  have t1 : w3.cell? ⟨w.heap.size, 1, none⟩ = some (.float .f32 sp) := (HT.out.ext HE3.out).cell 1
  have ht3 : w.heap.size < w3.heap.size := (HT.out.ext HE3.out).lt
  go_wp2_with fail
  have HB := Lib.hid (show At2 w3.heap.size rc rs ((w3.alloc (.cells #[.float .f32 rc] 22)).alloc (.cells #[.float .f32 rs] 22)) from ⟨⟨by simp <;> omega, by go_simp⟩, by simp, by go_simp⟩)
  have HE0 := Lib.hid (show Ext w3 ((w3.alloc (.cells #[.float .f32 rc] 22)).alloc (.cells #[.float .f32 rs] 22)) by (repeat first | with_reducible exact Ext.rfl' _ | with_reducible refine Ext.drewN ?_ _ | with_reducible refine Ext.drew' ?_ | with_reducible refine Ext.alloc' ?_ _ | with_reducible refine Ext.setCell_at ?_ _ _ _ (by first | exact Nat.le_refl _ | omega) | with_reducible assumption | refine Ext.trans ?_ (by with_reducible assumption)))
  generalize ((w3.alloc (.cells #[.float .f32 rc] 22)).alloc (.cells #[.float .f32 rs] 22)) = W4 at *
  have tR := Lib.hid ((HR.out.ext HE3.out).ext HE0.out)
  have tE := Lib.hid (Ext.trans HE1.out (Ext.trans HE3.out HE0.out))
  clear HR HE1 HE3 HE0 HT t0 t1 ht3
  have HR := tR
  have HE1 := tE
  clear tR tE
  refine (repointedAll_any A cap sp cs _ _ _ _ (by have hm := maps_turn w3.heap.size rc rs; rw [HRC.out, HRS.out] at hm; exact hm) _ HB.out (HA.out.ext HE1.out) HL.out).mono ?_
  rintro e w5 ⟨he2, A2, cap2, s2, rfl, hv2, hs2⟩
  have HR2 := Lib.hid (HR.out.ext he2)
  have HX2 := Lib.hid (Ext.trans HE1.out he2)
  have HV2 := Lib.hid hv2
  have HS2 := Lib.hid hs2
  clear he2 hv2 hs2
  generalize hP : onTh (turnV (cosP (cn .f32 q)) (sineP (cn .f32 q))) true cs (cn .f32 sp) = P at *
  obtain ⟨pb, pl, ps⟩ := P
  have HP := Lib.hid hP
  clear hP
  have r0 : w5.cell? ⟨w.heap.size + 1, 0, none⟩ = some (.slice none 0 0) := HR2.out.cell 0
  have r1 : w5.cell? ⟨w.heap.size + 1, 1, none⟩ = some (.float .f32 0) := HR2.out.cell 1
  have rf0 := HR2.out.frozen 0
  have rf1 := HR2.out.frozen 1
  go_wp2_with fail
  have hBS : Blk ((w5.setCell ⟨w.heap.size + 1, 0, none⟩ (.slice A2 pl.length cap2)).setCell ⟨w.heap.size + 1, 1, none⟩ (.float .f32 s2)) (w.heap.size + 1) 48 #[.slice A2 pl.length cap2, .float .f32 s2] := by
    have := (HR2.out.set_ 0 (.slice A2 pl.length cap2)).set_ 1 (.float .f32 s2)
    simpa using this
  have e3 : Ext w ((w5.setCell ⟨w.heap.size + 1, 0, none⟩ (.slice A2 pl.length cap2)).setCell ⟨w.heap.size + 1, 1, none⟩ (.float .f32 s2)) := Ext.setCell_at (Ext.setCell_at HX2.out _ _ _ (by omega)) _ _ _ (by omega)
  have hvo : VO ((w5.setCell ⟨w.heap.size + 1, 0, none⟩ (.slice A2 pl.length cap2)).setCell ⟨w.heap.size + 1, 1, none⟩ (.float .f32 s2)) w.heap.size A2 pl := fun hp => by
    obtain ⟨b', o', hA2, hB2, _⟩ := HV2.out hp
    have hb : W4.heap.size ≤ b' := hB2
    refine ((HV2.out.mono (B' := w.heap.size) HE1.out.size).only (row := some (w.heap.size + 1)) (only_setCell (g := w.heap.size + 1) (p := ⟨w.heap.size + 1, 1, none⟩) (only_setCell (g := w.heap.size + 1) (p := ⟨w.heap.size + 1, 0, none⟩) (only_refl _ _) rfl _) rfl _) fun b1 o1 h => ?_) hp
    rw [hA2] at h
    simp only [Option.some.injEq, Addr.mk.injEq] at h
    intro hh
    simp only [Option.some.injEq] at hh
    have := HR.out.lt
    omega
  generalize (w5.setCell ⟨w.heap.size + 1, 0, none⟩ (.slice A2 pl.length cap2)).setCell ⟨w.heap.size + 1, 1, none⟩ (.float .f32 s2) = W9 at *
  have q0 : W9.cell? ⟨w.heap.size + 1, 0, none⟩ = some (.slice A2 pl.length cap2) := hBS.cell 0
  have q1 : W9.cell? ⟨w.heap.size + 1, 1, none⟩ = some (.float .f32 s2) := hBS.cell 1
  refine bodyPost_ret (v := .tuple #[.agg #[.slice A2 pl.length cap2, .float .f32 s2], .bool pb]) (by simp [results, Try.results78, go_sem, q0, q1]) rfl ⟨e3, ?_⟩
  rw [HP.out]
  exact ⟨A2, cap2, s2, rfl, hvo, HS2.out⟩
set_option maxRecDepth 100000 in
theorem implTurnBad_any (A : Option Addr) (cap sp q : Nat) (cs : List V3) (w : World) (hv : finF (cn .f32 q) = false) :
    Calls Try.prog 78 #[.agg #[.slice A cs.length cap, .float .f32 sp], .float .f32 q] w fun e w' => Ext w w' ∧ RT w w' e (false, [], 0) := by
  have HV := Lib.hid hv
  clear hv
  go_enter Try.func78, Try.ntmps78
  go_wp2_with (go_at_call 105; refine (IsFinite_any _ _ HV.out _).mono ?_; rintro e w1 ⟨he1, rfl⟩; obtain ⟨hc1, hf1⟩ := bcell he1; (try simp only [World.heap_drewN, World.cell?_drewN, World.frozen?_drewN] at hc1 hf1); (have hz0 : w.heap.size < w1.heap.size := (by have := he1.size; (try simp only [World.heap_drewN, World.size_alloc] at this); omega)); (have hz1 : w.heap.size + 1 < w1.heap.size := (by have := he1.size; (try simp only [World.heap_drewN, World.size_alloc] at this); omega)))
  have hR : Blk w1 (w.heap.size + 1) 48 #[.slice none 0 0, .float .f32 0] := Blk.ext (Blk.at_ (w.alloc (.cells #[.slice A cs.length cap, .float .f32 sp] 48)) 48 #[.slice none 0 0, .float .f32 0] (w.heap.size + 1) (by simp)) he1
  have hBS : Blk ((w1.setCell ⟨w.heap.size + 1, 0, none⟩ (.slice none 0 0)).setCell ⟨w.heap.size + 1, 1, none⟩ (.float .f32 0)) (w.heap.size + 1) 48 #[.slice none 0 0, .float .f32 0] := by
    have := (hR.set_ 0 (.slice none 0 0)).set_ 1 (.float .f32 0)
    simpa using this
  have e3 : Ext w ((w1.setCell ⟨w.heap.size + 1, 0, none⟩ (.slice none 0 0)).setCell ⟨w.heap.size + 1, 1, none⟩ (.float .f32 0)) := by (repeat first | with_reducible exact Ext.rfl' _ | with_reducible refine Ext.drewN ?_ _ | with_reducible refine Ext.drew' ?_ | with_reducible refine Ext.alloc' ?_ _ | with_reducible refine Ext.setCell_at ?_ _ _ _ (by first | exact Nat.le_refl _ | omega) | with_reducible assumption | refine Ext.trans ?_ (by with_reducible assumption))
  clear hc1 hf1 hR
  generalize (w1.setCell ⟨w.heap.size + 1, 0, none⟩ (.slice none 0 0)).setCell ⟨w.heap.size + 1, 1, none⟩ (.float .f32 0) = W9 at *
  have q0 : W9.cell? ⟨w.heap.size + 1, 0, none⟩ = some (.slice none 0 0) := hBS.cell 0
  have q1 : W9.cell? ⟨w.heap.size + 1, 1, none⟩ = some (.float .f32 0) := hBS.cell 1
  exact bodyPost_ret (v := .tuple #[.agg #[.slice none 0 0, .float .f32 0], .bool false]) (by simp [results, Try.results78, go_sem, q0, q1]) rfl ⟨e3, none, 0, 0, rfl, fun h => absurd h (Nat.lt_irrefl 0), cn_zero32⟩
theorem implTurnAll_any (A : Option Addr) (cap sp q : Nat) (cs : List V3) (w : World) (hA : VS w A cs) (hl : cs.length ≤ 1048576) :
    Calls Try.prog 78 #[.agg #[.slice A cs.length cap, .float .f32 sp], .float .f32 q] w fun e w' => Ext w w' ∧ RT w w' e (onTh (turnV (cosP (cn .f32 q)) (sineP (cn .f32 q))) (finF (cn .f32 q)) cs (cn .f32 sp)) := by
  cases hv : finF (cn .f32 q) with
  | false =>
    refine (implTurnBad_any A cap sp q cs w hv).mono fun e w' h => ⟨h.1, ?_⟩
    have : onTh (turnV (cosP (cn .f32 q)) (sineP (cn .f32 q))) false cs (cn .f32 sp) = (false, [], 0) := by unfold onTh; simp
    rw [this]; exact h.2
  | true => exact implTurn_any A cap sp q cs w hA hl hv
end Go.Proofs.Ytbaohbpfnlicpaa
