/- Walks: a thread turned, by the reference. -/
import Derived.Test.YtbaohbpfnlicpaaMx
import Derived.Test.YtbaohbpfnlicpaaV4
import Derived.Deep.RegionLaw
import Derived.Deep.RegionHeld3
namespace Go.Proofs.Ytbaohbpfnlicpaa
open Go Go.RowKit
set_option linter.unusedVariables false
set_option linter.unusedSimpArgs false
attribute [local go_sem] run_store_float

/-- a vector turned -/
def turnV (C S : Nat) (c : V3) : V3 := (fop .sub .f32 (fop .mul .f32 C c.1) (fop .mul .f32 S c.2.1), fop .add .f32 (fop .mul .f32 S c.1) (fop .mul .f32 C c.2.1), c.2.2)
def quart32 : Nat := 1048576000
theorem cn_quart32 : cn .f32 1048576000 = quart32 := by decide
/-- the cosine of a number of turns -/
def cosP (q : Nat) : Nat := sineP (fop .add .f32 q quart32)

set_option maxRecDepth 100000 in
set_option maxHeartbeats 3200000 in
theorem specTurn1_any (A : Option Addr) (cap sp q : Nat) (cs : List V3) (C S : Nat) (hC : cosP (cn .f32 q) = C) (hS : sineP (cn .f32 q) = S) (w : World) (hA : VS w A cs) (hl : cs.length ≤ 1048576) (hi : isTh cs (cn .f32 sp) = true) (hv : finF (cn .f32 q) = true) :
    Calls Try.prog 77 #[.agg #[.slice A cs.length cap, .float .f32 sp], .float .f32 q] w fun e w' => Ext w w' ∧ RT w w' e (onTh (turnV C S) (finF (cn .f32 q)) cs (cn .f32 sp)) := by
  have HA := Lib.hid hA
  have HL := Lib.hid hl
  have HI := Lib.hid hi
  have HV := Lib.hid hv
  have h32 : 3 ≤ cs.length ∧ cs.length ≤ 32 := by unfold isTh at hi; simp only [Bool.and_eq_true, decide_eq_true_eq] at hi; exact hi.1.1
  have HN := Lib.hid h32
  have HC := Lib.hid hC
  have HS := Lib.hid hS
  clear hA hl hi hv h32 hC hS
  have HT := Lib.hid (show TAt ((w.alloc (.cells #[.slice A cs.length cap, .float .f32 sp] 48)).alloc (.cells #[.slice none 0 0, .float .f32 0] 48)) w.heap.size 0 A cs.length cap sp from ⟨by simp <;> omega, by go_simp, by go_simp⟩)
  have HRs := Lib.hid (Blk.at_ (w.alloc (.cells #[.slice A cs.length cap, .float .f32 sp] 48)) 48 #[.slice none 0 0, .float .f32 0] (w.heap.size + 1) (by simp))
  have HE1 := Lib.hid (show Ext w ((w.alloc (.cells #[.slice A cs.length cap, .float .f32 sp] 48)).alloc (.cells #[.slice none 0 0, .float .f32 0] 48)) by (repeat first | with_reducible exact Ext.rfl' _ | with_reducible refine Ext.drewN ?_ _ | with_reducible refine Ext.drew' ?_ | with_reducible refine Ext.alloc' ?_ _ | with_reducible refine Ext.setCell_at ?_ _ _ _ (by first | exact Nat.le_refl _ | omega) | with_reducible assumption | refine Ext.trans ?_ (by with_reducible assumption)))
  go_enter Try.func77, Try.ntmps77
  go_wp2_with fail
  generalize ((w.alloc (.cells #[.slice A cs.length cap, .float .f32 sp] 48)).alloc (.cells #[.slice none 0 0, .float .f32 0] 48)) = W1 at *
  refine (l06Is_any w.heap.size 0 A cap sp cs _ HT.out (HA.out.ext HE1.out) HL.out true HI.out).mono ?_
  rintro e w2 ⟨he2, rfl⟩
  have HE2 := Lib.hid he2
  clear he2
  go_wp2_with fail
  refine (l01Finite_any _ true HV.out _).mono ?_
  rintro e w3 ⟨he3, rfl⟩
  have HE3 := Lib.hid (Ext.trans HE2.out he3)
  clear he3
  go_wp2_with (first | (refine wpList_float rfl _ _ _ _ _ rfl (by decide) _ _ _ rfl rfl ?_; intro r0 n0 q0; have HQ0 := Lib.hid (show cosP (cn .f32 q) = sineP (cn .f32 r0) by unfold cosP; rw [show cn .f32 r0 = _ from q0, cn_quart32]); clear q0))
  refine (l01Sine_any _ _).mono ?_
  rintro e w3a ⟨he3a, rc, rfl, hrc⟩
  have HRC := Lib.hid (show cn .f32 rc = C by rw [hrc, ← HQ0.out, HC.out])
  have HE3a := Lib.hid (show Ext W1 w3a by have := HE3.out; (repeat first | with_reducible exact Ext.rfl' _ | with_reducible refine Ext.drewN ?_ _ | with_reducible refine Ext.drew' ?_ | with_reducible refine Ext.alloc' ?_ _ | with_reducible refine Ext.setCell_at ?_ _ _ _ (by first | exact Nat.le_refl _ | omega) | with_reducible assumption | refine Ext.trans ?_ (by with_reducible assumption)))
  clear he3a hrc HQ0 HE3
  go_wp2_with fail
  refine (l01Sine_any _ _).mono ?_
  rintro e w3b ⟨he3b, rs, rfl, hrs⟩
  have HRS := Lib.hid (hrs.trans HS.out)
  have HE3 := Lib.hid (Ext.trans HE3a.out he3b)
  clear he3b hrs HE3a HC HS
  go_wp2_with fail
  refine (l06Own_any w.heap.size 0 A cap sp cs _ (HT.out.ext HE3.out) ((HA.out.ext HE1.out).ext HE3.out) HN.out.2 (by have := HN.out.1; omega)).mono ?_
  rintro e w4 ⟨he4, A4, cap4, rfl, hv4⟩
  have HE4 := Lib.hid (Ext.trans HE3.out he4)
  have HV4 := Lib.hid hv4
  clear he4 hv4
  go_wp2_with fail
  have HOut := Lib.hid (Blk.new w4 48 #[.slice A4 cs.length cap4, .float .f32 sp])
  have HRsW := Lib.hid ((HRs.out.ext HE4.out).alloc (.cells #[.slice A4 cs.length cap4, .float .f32 sp] 48))
  have HEW := Lib.hid (show Ext w (w4.alloc (.cells #[.slice A4 cs.length cap4, .float .f32 sp] 48)) from Ext.trans HE1.out (Ext.trans HE4.out (Ext.alloc' (Ext.rfl' _) _)))
  obtain ⟨gb, go, rfl, hgB, hgl, hgf, hgc⟩ := HV4.out (by have := HN.out.1; omega)
  have hszW1 := HRs.out.lt
  have hszw3 := HE3.out.size
  have hszw4 := HE4.out.size
  have HMix := Lib.hid (show Mix (w4.alloc (.cells #[.slice (some ⟨gb, go, none⟩) cs.length cap4, .float .f32 sp] 48)) gb go (turnV C S) cs 0 from by
    have he : Ext w4 (w4.alloc (.cells #[.slice (some ⟨gb, go, none⟩) cs.length cap4, .float .f32 sp] 48)) := Ext.alloc' (Ext.rfl' _) _
    refine ⟨Nat.lt_of_lt_of_le hgl he.size, fun j => (he.frozen (p := ⟨gb, j, none⟩) hgl).trans (hgf j), fun i hi => ?_⟩
    rw [if_neg (Nat.not_lt_zero _)]
    exact (hgc i hi).ext hgl he)
  clear hgf hgc
  generalize w4.alloc (.cells #[.slice (some ⟨gb, go, none⟩) cs.length cap4, .float .f32 sp] 48) = W5 at *
  go_loopw [9] (fun i wr => ∃ (k : Nat), k ≤ cs.length ∧ i = .int .i64 k ∧ Mix wr gb go (turnV C S) cs k ∧ Blk wr w4.heap.size 48 #[.slice (some ⟨gb, go, none⟩) cs.length cap4, .float .f32 sp] ∧ Blk wr (w.heap.size + 1) 48 #[.slice none 0 0, .float .f32 0] ∧ Ext w wr) (fun i _ => cs.length - (intOf i).toNat)
  case atStart => exact ⟨0, Nat.zero_le _, rfl, HMix.out, HOut.out, HRsW.out, HEW.out⟩
  case round =>
    obtain ⟨k, hk, rfl, hmx, hbo, hbr, hbel⟩ := hrel
    have HM := Lib.hid hmx
    have HO := Lib.hid hbo
    have HBR := Lib.hid hbr
    have HE := Lib.hid hbel
    clear hmx hbo hbr hbel
    have hk9 : k < 9223372036854775807 := by have := HL.out; omega
    have n4 : gb ≠ w4.heap.size := by omega
    have n5 : gb ≠ w.heap.size + 1 := by omega
    have n7 : w.heap.size ≤ gb := by omega
    have o0 : wr.cell? ⟨w4.heap.size, 0, none⟩ = some (.slice (some ⟨gb, go, none⟩) cs.length cap4) := HO.out.cell 0
    have o1 : wr.cell? ⟨w4.heap.size, 1, none⟩ = some (.float .f32 sp) := HO.out.cell 1
    by_cases hlt : k < cs.length
    · obtain ⟨a0, a1, a2, d0, d1, d2, hcv⟩ := HM.out.2.2 k hlt
      rw [if_neg (Nat.lt_irrefl k)] at hcv
      have HC := Lib.hid hcv
      clear hcv
      have n1 : w4.heap.size < wr.heap.size := HO.out.lt
      have n2 : gb < wr.heap.size := HM.out.1
      go_upto_region 11 with (first | (refine wpList_float rfl _ _ _ _ _ rfl (by decide) _ _ _ rfl rfl ?_; intro r6 n6 q6; have HQ := Lib.hid q6; clear q6))
      rename_i x1 k1 Q1 x2 k2 Q2 x3 k3 Q3 x4 k4 Q4 x5 k5 Q5
      have HE6 := Lib.hid (show Ext wr (((wr.alloc (.cells #[.float .f32 a0, .float .f32 a1, .float .f32 a2] 54)).drewN (k1 + k2 + k3 + k4 + k5 + n6)).alloc (.cells #[.float .f32 x3, .float .f32 r6, .float .f32 a2] 54)) by (repeat first | with_reducible exact Ext.rfl' _ | with_reducible refine Ext.drewN ?_ _ | with_reducible refine Ext.drew' ?_ | with_reducible refine Ext.alloc' ?_ _ | with_reducible refine Ext.setCell_at ?_ _ _ _ (by first | exact Nat.le_refl _ | omega) | with_reducible assumption | refine Ext.trans ?_ (by with_reducible assumption)))
      have HV6 := Lib.hid (Blk.at_ ((wr.alloc (.cells #[.float .f32 a0, .float .f32 a1, .float .f32 a2] 54)).drewN (k1 + k2 + k3 + k4 + k5 + n6)) 54 #[.float .f32 x3, .float .f32 r6, .float .f32 a2] (wr.heap.size + 1) (by simp))
      generalize (((wr.alloc (.cells #[.float .f32 a0, .float .f32 a1, .float .f32 a2] 54)).drewN (k1 + k2 + k3 + k4 + k5 + n6)).alloc (.cells #[.float .f32 x3, .float .f32 r6, .float .f32 a2] 54)) = W6 at *
      have HQV := Lib.hid (show cv x3 r6 a2 = turnV C S (cs.getD k (0, 0, 0)) by
        rw [← HC.out]; unfold cv turnV; dsimp only
        rw [show cn .f32 x3 = _ from Q3.out, show cn .f32 x1 = _ from Q1.out, show cn .f32 x2 = _ from Q2.out, show cn .f32 r6 = _ from HQ.out, show cn .f32 x4 = _ from Q4.out, show cn .f32 x5 = _ from Q5.out, HRC.out, HRS.out])
      clear Q1 Q2 Q3 Q4 Q5 HQ
      have z0 : W6.cell? ⟨w4.heap.size, 0, none⟩ = some (.slice (some ⟨gb, go, none⟩) cs.length cap4) := (HO.out.ext HE6.out).cell 0
      have v0 : W6.cell? ⟨wr.heap.size + 1, 0, none⟩ = some (.float .f32 x3) := HV6.out.cell 0
      have v1 : W6.cell? ⟨wr.heap.size + 1, 1, none⟩ = some (.float .f32 r6) := HV6.out.cell 1
      have v2 : W6.cell? ⟨wr.heap.size + 1, 2, none⟩ = some (.float .f32 a2) := HV6.out.cell 2
      have i0 := (HE6.out.cell (p := ⟨gb, go + k * 3, none⟩) n2).trans d0
      have i1 := (HE6.out.cell (p := ⟨gb, go + k * 3 + 1, none⟩) n2).trans d1
      have i2 := (HE6.out.cell (p := ⟨gb, go + k * 3 + 2, none⟩) n2).trans d2
      have g0 := (HE6.out.frozen (p := ⟨gb, go + k * 3, none⟩) n2).trans (HM.out.2.1 _)
      have g1 := (HE6.out.frozen (p := ⟨gb, go + k * 3 + 1, none⟩) n2).trans (HM.out.2.1 _)
      have g2 := (HE6.out.frozen (p := ⟨gb, go + k * 3 + 2, none⟩) n2).trans (HM.out.2.1 _)
      clear d0 d1 d2
      go_wp2_with fail
      have hM6 := HM.out.ext HE6.out
      have hO6 := HO.out.ext HE6.out
      have hR6 := HBR.out.ext HE6.out
      have hE6 := Ext.trans HE.out HE6.out
      refine ⟨⟨k + 1, by omega, by go_num, hM6.step hlt HQV.out, ((hO6.setne n4 _ _).setne n4 _ _).setne n4 _ _, ((hR6.setne n5 _ _).setne n5 _ _).setne n5 _ _, ?_⟩, by simp [intOf]; omega⟩
      exact Ext.setCell_at (Ext.setCell_at (Ext.setCell_at hE6 _ _ _ n7) _ _ _ n7) _ _ _ n7
    · have hkl : k = cs.length := by omega
      subst hkl
      have hvo := HM.out.vo (B := w.heap.size) n7
      have HVO := Lib.hid hvo
      clear hvo
      go_wp2_with fail
      cases hb : isTh (cs.map (turnV C S)) (cn .f32 sp) with
      | false =>
        have HBv := Lib.hid hb
        clear hb
        have hgv := l06Give_any (some ⟨gb, go, none⟩) cap4 sp (cs.map (turnV C S)) wr HVO.out.vs (by rw [List.length_map]; exact HL.out) _ HBv.out
        rw [List.length_map] at hgv
        refine hgv.mono ?_
        clear hgv
        rintro e w6 ⟨he6, rfl⟩
        have HX6 := Lib.hid he6
        have r0 : w6.cell? ⟨w.heap.size + 1, 0, none⟩ = some (.slice none 0 0) := (HBR.out.ext he6).cell 0
        have r1 : w6.cell? ⟨w.heap.size + 1, 1, none⟩ = some (.float .f32 0) := (HBR.out.ext he6).cell 1
        have rf0 := (HBR.out.ext he6).frozen 0
        have rf1 := (HBR.out.ext he6).frozen 1
        clear he6
        go_wp2_with fail
        have hBS : Blk ((w6.setCell ⟨w.heap.size + 1, 0, none⟩ (.slice none 0 0)).setCell ⟨w.heap.size + 1, 1, none⟩ (.float .f32 0)) (w.heap.size + 1) 48 #[.slice none 0 0, .float .f32 0] := by
          have := ((show Blk w6 (w.heap.size + 1) _ _ from HBR.out.ext HX6.out).set_ 0 (.slice none 0 0)).set_ 1 (.float .f32 0)
          simpa using this
        have e3 : Ext w ((w6.setCell ⟨w.heap.size + 1, 0, none⟩ (.slice none 0 0)).setCell ⟨w.heap.size + 1, 1, none⟩ (.float .f32 0)) := Ext.setCell_at (Ext.setCell_at (Ext.trans HE.out HX6.out) _ _ _ (by omega)) _ _ _ (by omega)
        have hvo : VO ((w6.setCell ⟨w.heap.size + 1, 0, none⟩ (.slice none 0 0)).setCell ⟨w.heap.size + 1, 1, none⟩ (.float .f32 0)) w.heap.size (some ⟨gb, go, none⟩) (cs.map (turnV C S)) := by
          refine (HVO.out.ext HX6.out).only (row := some (w.heap.size + 1)) (only_setCell (g := w.heap.size + 1) (p := ⟨w.heap.size + 1, 1, none⟩) (only_setCell (g := w.heap.size + 1) (p := ⟨w.heap.size + 1, 0, none⟩) (only_refl _ _) rfl _) rfl _) fun b' o' h => ?_
          simp only [Option.some.injEq, Addr.mk.injEq] at h
          intro hh
          simp only [Option.some.injEq] at hh
          omega
        generalize (w6.setCell ⟨w.heap.size + 1, 0, none⟩ (.slice none 0 0)).setCell ⟨w.heap.size + 1, 1, none⟩ (.float .f32 0) = W9 at *
        have q0 : W9.cell? ⟨w.heap.size + 1, 0, none⟩ = some (.slice none 0 0) := hBS.cell 0
        have q1 : W9.cell? ⟨w.heap.size + 1, 1, none⟩ = some (.float .f32 0) := hBS.cell 1
        refine bodyPost_ret (v := .tuple #[.agg #[.slice none 0 0, .float .f32 0], .bool false]) (by simp [results, Try.results77, go_sem, q0, q1]) rfl ⟨e3, ?_⟩
        unfold onTh
        rw [HI.out, HV.out, HBv.out]
        exact ⟨none, 0, 0, rfl, fun h => absurd h (Nat.lt_irrefl 0), cn_zero32⟩
      | true =>
        have HBv := Lib.hid hb
        clear hb
        have hgv := l06Give_any (some ⟨gb, go, none⟩) cap4 sp (cs.map (turnV C S)) wr HVO.out.vs (by rw [List.length_map]; exact HL.out) _ HBv.out
        rw [List.length_map] at hgv
        refine hgv.mono ?_
        clear hgv
        rintro e w6 ⟨he6, rfl⟩
        have HX6 := Lib.hid he6
        have r0 : w6.cell? ⟨w.heap.size + 1, 0, none⟩ = some (.slice none 0 0) := (HBR.out.ext he6).cell 0
        have r1 : w6.cell? ⟨w.heap.size + 1, 1, none⟩ = some (.float .f32 0) := (HBR.out.ext he6).cell 1
        have rf0 := (HBR.out.ext he6).frozen 0
        have rf1 := (HBR.out.ext he6).frozen 1
        clear he6
        go_wp2_with fail
        have hBS : Blk ((w6.setCell ⟨w.heap.size + 1, 0, none⟩ (.slice (some ⟨gb, go, none⟩) cs.length cap4)).setCell ⟨w.heap.size + 1, 1, none⟩ (.float .f32 sp)) (w.heap.size + 1) 48 #[.slice (some ⟨gb, go, none⟩) cs.length cap4, .float .f32 sp] := by
          have := ((show Blk w6 (w.heap.size + 1) _ _ from HBR.out.ext HX6.out).set_ 0 (.slice (some ⟨gb, go, none⟩) cs.length cap4)).set_ 1 (.float .f32 sp)
          simpa using this
        have e3 : Ext w ((w6.setCell ⟨w.heap.size + 1, 0, none⟩ (.slice (some ⟨gb, go, none⟩) cs.length cap4)).setCell ⟨w.heap.size + 1, 1, none⟩ (.float .f32 sp)) := Ext.setCell_at (Ext.setCell_at (Ext.trans HE.out HX6.out) _ _ _ (by omega)) _ _ _ (by omega)
        have hvo : VO ((w6.setCell ⟨w.heap.size + 1, 0, none⟩ (.slice (some ⟨gb, go, none⟩) cs.length cap4)).setCell ⟨w.heap.size + 1, 1, none⟩ (.float .f32 sp)) w.heap.size (some ⟨gb, go, none⟩) (cs.map (turnV C S)) := by
          refine (HVO.out.ext HX6.out).only (row := some (w.heap.size + 1)) (only_setCell (g := w.heap.size + 1) (p := ⟨w.heap.size + 1, 1, none⟩) (only_setCell (g := w.heap.size + 1) (p := ⟨w.heap.size + 1, 0, none⟩) (only_refl _ _) rfl _) rfl _) fun b' o' h => ?_
          simp only [Option.some.injEq, Addr.mk.injEq] at h
          intro hh
          simp only [Option.some.injEq] at hh
          omega
        generalize (w6.setCell ⟨w.heap.size + 1, 0, none⟩ (.slice (some ⟨gb, go, none⟩) cs.length cap4)).setCell ⟨w.heap.size + 1, 1, none⟩ (.float .f32 sp) = W9 at *
        have q0 : W9.cell? ⟨w.heap.size + 1, 0, none⟩ = some (.slice (some ⟨gb, go, none⟩) cs.length cap4) := hBS.cell 0
        have q1 : W9.cell? ⟨w.heap.size + 1, 1, none⟩ = some (.float .f32 sp) := hBS.cell 1
        refine bodyPost_ret (v := .tuple #[.agg #[.slice (some ⟨gb, go, none⟩) cs.length cap4, .float .f32 sp], .bool true]) (by simp [results, Try.results77, go_sem, q0, q1]) rfl ⟨e3, ?_⟩
        unfold onTh
        rw [HI.out, HV.out, HBv.out]
        exact ⟨some ⟨gb, go, none⟩, cap4, sp, by simp, hvo, rfl⟩
end Go.Proofs.Ytbaohbpfnlicpaa
