/- The law FnExactTurnThread: for all arguments it answers true, and changes nothing that was there. -/
import Derived.Test.YtbaohbpfnlicpaaK2
import Derived.Test.YtbaohbpfnlicpaaK4
import Derived.Test.YtbaohbpfnlicpaaW1m
import Derived.Test.YtbaohbpfnlicpaaSh
import Derived.Deep.RegionHeld3
namespace Go.Proofs.Ytbaohbpfnlicpaa
open Go Go.RowKit
set_option linter.unusedVariables false
set_option linter.unusedSimpArgs false
attribute [local go_sem] run_store_float

set_option maxRecDepth 100000 in
set_option maxHeartbeats 1600000 in
theorem lawTurn (A : Option Addr) (cap sp : Nat) (cs : List V3) (q : Nat) (w : World) (hA : VS w A cs) (hl : cs.length ≤ 9223372036854775807)  :
    Calls Try.prog 21 #[.agg #[.slice A cs.length cap, .float .f32 sp], .float .f32 q] w fun e w' => Ext w w' ∧ e = .returned (.bool true) := by
  have HA := Lib.hid hA
  have HL := Lib.hid hl
  clear hA hl
  by_cases hbig : (1048576 : Int) - cs.length < 0
  · have HB := Lib.hid hbig
    clear hbig
    go_enter Try.func21, Try.ntmps21
    go_wp2_with fail
    refine (szThread_big _ _ _ _ _ _ (by omega) (by omega) HL.out HB.out).mono ?_
    rintro e w1 ⟨he1, rfl⟩
    go_wp2_with fail
    go_ret
    refine ⟨?_, rfl⟩
    (repeat first | with_reducible exact Ext.rfl' _ | with_reducible refine Ext.drewN ?_ _ | with_reducible refine Ext.drew' ?_ | with_reducible refine Ext.alloc' ?_ _ | with_reducible refine Ext.setCell_at ?_ _ _ _ (by first | exact Nat.le_refl _ | omega) | with_reducible assumption | refine Ext.trans ?_ (by with_reducible assumption))
  · have HB := Lib.hid hbig
    have hle : cs.length ≤ 1048576 := by omega
    have HLE := Lib.hid hle
    clear hbig hle
    go_enter Try.func21, Try.ntmps21
    go_wp2_with fail
    refine (szThread_ok _ _ _ _ _ _ (by omega) (by omega) HL.out (by have := HB.out; omega)).mono ?_
    rintro e w1 ⟨he1, p, rfl, hq, hq2⟩
    have Hhq2 := Lib.hid hq2
    clear hq2
    obtain ⟨hc1, hf1⟩ := bcell he1
    (try simp only [World.heap_drewN, World.cell?_drewN, World.frozen?_drewN] at hc1 hf1)
    have hs1 := he1.size
    (try simp only [World.heap_drewN, World.size_alloc, World.size_setCell, World.size_drew] at hs1)
    have hz1_w : w.heap.size < w1.heap.size := by omega
    go_wp2_with fail
    refine (toThread_any _ _ _ cs _ (HA.out.ext (by (repeat first | with_reducible exact Ext.rfl' _ | with_reducible refine Ext.drewN ?_ _ | with_reducible refine Ext.drew' ?_ | with_reducible refine Ext.alloc' ?_ _ | with_reducible refine Ext.setCell_at ?_ _ _ _ (by first | exact Nat.le_refl _ | omega) | with_reducible assumption | refine Ext.trans ?_ (by with_reducible assumption)))) HLE.out).mono ?_
    rintro e w2 ⟨he2, A2, rfl, hv2⟩
    have HV2 := Lib.hid hv2
    obtain ⟨hc2, hf2⟩ := bcell he2
    have hs2 := he2.size
    have hz2 : w.heap.size < w2.heap.size := by omega
    clear hv2
    go_wp2_with fail
    refine (specTurnAll_any _ _ _ _ cs _ HV2.out.vs HLE.out).mono ?_
    obtain ⟨P, hP⟩ : ∃ P, onTh (turnV (cosP (cn .f32 q)) (sineP (cn .f32 q))) (finF (cn .f32 q)) cs (cn .f32 sp) = P := ⟨_, rfl⟩
    have hPl : P.2.1.length ≤ 1048576 := by
      rw [← hP]
      exact onTh_len _ _ _ _ HLE.out
    have HP := Lib.hid hP
    rw [hP]
    obtain ⟨pb, ds, ps⟩ := P
    have HDL := Lib.hid (show ds.length ≤ 1048576 from hPl)
    clear hPl hP
    rintro e w3 ⟨he3, A3, cap3, s3, rfl, hv3, hs3⟩
    have HV3 := Lib.hid (show VO w3 w2.heap.size A3 ds from hv3)
    have HS3 := Lib.hid (show cn .f32 s3 = ps from hs3)
    obtain ⟨hc3, hf3⟩ := bcell he3
    have hs3' := he3.size
    have hz3 : w.heap.size < w3.heap.size := by omega
    clear hv3 hs3
    go_wp2_with fail
    refine (toThread_any _ _ _ cs _ (HA.out.ext (by (repeat first | with_reducible exact Ext.rfl' _ | with_reducible refine Ext.drewN ?_ _ | with_reducible refine Ext.drew' ?_ | with_reducible refine Ext.alloc' ?_ _ | with_reducible refine Ext.setCell_at ?_ _ _ _ (by first | exact Nat.le_refl _ | omega) | with_reducible assumption | refine Ext.trans ?_ (by with_reducible assumption)))) HLE.out).mono ?_
    rintro e w4 ⟨he4, A4, rfl, hv4⟩
    have HV4 := Lib.hid hv4
    obtain ⟨hc4, hf4⟩ := bcell he4
    have hs4 := he4.size
    (try simp only [World.size_alloc] at hs4)
    have hz4 : w.heap.size < w4.heap.size := by omega
    have hz4' : w3.heap.size < w4.heap.size := by omega
    clear hv4
    go_wp2_with fail
    have hcall := implTurnAll_any A4 cs.length sp q cs (w4.alloc (.cells #[.slice A4 cs.length cs.length, .float .f32 sp] 48)) (HV4.out.vs.ext (by (repeat first | with_reducible exact Ext.rfl' _ | with_reducible refine Ext.drewN ?_ _ | with_reducible refine Ext.drew' ?_ | with_reducible refine Ext.alloc' ?_ _ | with_reducible refine Ext.setCell_at ?_ _ _ _ (by first | exact Nat.le_refl _ | omega) | with_reducible assumption | refine Ext.trans ?_ (by with_reducible assumption)))) HLE.out
    rw [HP.out] at hcall
    refine hcall.mono ?_
    clear hcall
    rintro e w5 ⟨he5, A5, cap5, s5, rfl, hv5, hs5⟩
    have HV5 := Lib.hid (show VO w5 (w4.heap.size + 1) A5 ds from by have := hv5; simpa using this)
    have HS5 := Lib.hid (show cn .f32 s5 = ps from hs5)
    obtain ⟨hc5, hf5⟩ := bcell he5
    have hs5' := he5.size
    (try simp only [World.size_alloc] at hs5')
    have hz5 : w.heap.size < w5.heap.size := by omega
    have hz5' : w3.heap.size < w5.heap.size := by omega
    have hz5'' : w4.heap.size < w5.heap.size := by omega
    clear hv5 hs5
    have E23 : Ext w2 w3 := he3
    have E34 : Ext w3 w4 := by (repeat first | with_reducible exact Ext.rfl' _ | with_reducible refine Ext.drewN ?_ _ | with_reducible refine Ext.drew' ?_ | with_reducible refine Ext.alloc' ?_ _ | with_reducible refine Ext.setCell_at ?_ _ _ _ (by first | exact Nat.le_refl _ | omega) | with_reducible assumption | refine Ext.trans ?_ (by with_reducible assumption))
    have E45 : Ext w4 w5 := by (repeat first | with_reducible exact Ext.rfl' _ | with_reducible refine Ext.drewN ?_ _ | with_reducible refine Ext.drew' ?_ | with_reducible refine Ext.alloc' ?_ _ | with_reducible refine Ext.setCell_at ?_ _ _ _ (by first | exact Nat.le_refl _ | omega) | with_reducible assumption | refine Ext.trans ?_ (by with_reducible assumption))
    have HE35 := Lib.hid (Ext.trans E34 E45)
    have HE05 := Lib.hid (show Ext w w5 from Ext.trans (Ext.trans (show Ext w w2 by (repeat first | with_reducible exact Ext.rfl' _ | with_reducible refine Ext.drewN ?_ _ | with_reducible refine Ext.drew' ?_ | with_reducible refine Ext.alloc' ?_ _ | with_reducible refine Ext.setCell_at ?_ _ _ _ (by first | exact Nat.le_refl _ | omega) | with_reducible assumption | refine Ext.trans ?_ (by with_reducible assumption))) E23) (Ext.trans E34 E45))
    have HE45 := Lib.hid E45
    have v0 : w5.cell? ⟨w.heap.size, 0, none⟩ = some (.slice A cs.length cap) := by go_simp
    have v1 : w5.cell? ⟨w.heap.size, 1, none⟩ = some (.float .f32 sp) := by go_simp
    have v2 : w5.cell? ⟨w3.heap.size, 0, none⟩ = some (.slice A3 ds.length cap3) := by go_simp
    have v3 : w5.cell? ⟨w3.heap.size, 1, none⟩ = some (.float .f32 s3) := by go_simp
    have v4 : w5.cell? ⟨w4.heap.size, 0, none⟩ = some (.slice A4 cs.length cs.length) := by go_simp
    have v5 : w5.cell? ⟨w4.heap.size, 1, none⟩ = some (.float .f32 sp) := by go_simp
    clear he1 he2 he3 he4 he5 hc1 hf1 hc2 hf2 hc3 hf3 hc4 hf4 hc5 hf5 E23 E34 E45
    go_wp2_with fail
    have e5a : Ext w5 (w5.alloc (.cells #[.slice A5 ds.length cap5, .float .f32 s5] 48)) := by (repeat first | with_reducible exact Ext.rfl' _ | with_reducible refine Ext.drewN ?_ _ | with_reducible refine Ext.drew' ?_ | with_reducible refine Ext.alloc' ?_ _ | with_reducible refine Ext.setCell_at ?_ _ _ _ (by first | exact Nat.le_refl _ | omega) | with_reducible assumption | refine Ext.trans ?_ (by with_reducible assumption))
    have HE5a := Lib.hid e5a
    clear e5a
    refine (eqThread_any _ _ _ _ _ _ ds _ (HV5.out.vs.ext HE5a.out) ((HV3.out.vs.ext HE35.out).ext HE5a.out) (by rw [HS3.out, HS5.out]) HDL.out).mono ?_
    rintro e w6 ⟨he6, rfl⟩
    obtain ⟨hc6, hf6⟩ := bcell he6
    have hs6 := he6.size
    (try simp only [World.size_alloc] at hs6)
    have hz6 : w.heap.size < w6.heap.size := by omega
    have hz63 : w3.heap.size < w6.heap.size := by omega
    have hz64 : w4.heap.size < w6.heap.size := by omega
    have hz65 : w5.heap.size < w6.heap.size := by omega
    have HE56 := Lib.hid (Ext.trans HE5a.out he6)
    have u0 : w6.cell? ⟨w.heap.size, 0, none⟩ = some (.slice A cs.length cap) := by go_simp
    have u1 : w6.cell? ⟨w.heap.size, 1, none⟩ = some (.float .f32 sp) := by go_simp
    have u2 : w6.cell? ⟨w3.heap.size, 0, none⟩ = some (.slice A3 ds.length cap3) := by go_simp
    have u3 : w6.cell? ⟨w3.heap.size, 1, none⟩ = some (.float .f32 s3) := by go_simp
    have u4 : w6.cell? ⟨w4.heap.size, 0, none⟩ = some (.slice A4 cs.length cs.length) := by go_simp
    have u5 : w6.cell? ⟨w4.heap.size, 1, none⟩ = some (.float .f32 sp) := by go_simp
    have u6 : w6.cell? ⟨w5.heap.size, 0, none⟩ = some (.slice A5 ds.length cap5) := by go_simp
    have u7 : w6.cell? ⟨w5.heap.size, 1, none⟩ = some (.float .f32 s5) := by go_simp
    clear he6 hc6 hf6 v0 v1 v2 v3 v4 v5
    have HE06 := Lib.hid (Ext.trans HE05.out HE56.out)
    have HV46 := Lib.hid (HV4.out.ext (Ext.trans HE45.out HE56.out))
    go_wp2_with fail
    go_region_held3 (fun W => W.cell? ⟨w.heap.size, 0, none⟩ = some (.slice A cs.length cap) ∧ W.cell? ⟨w.heap.size, 1, none⟩ = some (.float .f32 sp) ∧ W.cell? ⟨w3.heap.size, 0, none⟩ = some (.slice A3 ds.length cap3) ∧ W.cell? ⟨w3.heap.size, 1, none⟩ = some (.float .f32 s3) ∧ W.cell? ⟨w4.heap.size, 0, none⟩ = some (.slice A4 cs.length cs.length) ∧ W.cell? ⟨w4.heap.size, 1, none⟩ = some (.float .f32 sp) ∧ W.cell? ⟨w5.heap.size, 0, none⟩ = some (.slice A5 ds.length cap5) ∧ W.cell? ⟨w5.heap.size, 1, none⟩ = some (.float .f32 s5)) (((try dsimp only); (repeat' apply And.intro) <;> (simp [*, go_sem]; done)))
      (first
        | (go_at_call 35; refine (toThread_any A cap sp cs _ (HA.out.ext (Ext.trans HE06.out (Ext.drew' (Ext.rfl' _)))) HLE.out).mono ?_; rintro e w7 ⟨he7, A7, rfl, hv7⟩; (have h7 := bcellD he7; obtain ⟨hc7, hf7⟩ := h7); have hs7 : w6.heap.size ≤ w7.heap.size := he7.size; have hz7_0 : w.heap.size < w7.heap.size := (by omega); have hz7_1 : w3.heap.size < w7.heap.size := (by omega); have hz7_2 : w4.heap.size < w7.heap.size := (by omega); have hz7_3 : w5.heap.size < w7.heap.size := (by omega))
        | (go_at_call 37; refine (eqThread_any _ _ _ _ _ _ cs _ (HV46.out.vs.ext (Ext.trans (Ext.drew' (Ext.rfl' _)) he7)) hv7.vs rfl HLE.out).mono ?_; rintro e w8 ⟨he8, rfl⟩; obtain ⟨hc8, hf8⟩ := bcell he8; have hs8 := he8.size; have hz8_0 : w.heap.size < w8.heap.size := (by omega); have hz8_1 : w3.heap.size < w8.heap.size := (by omega); have hz8_2 : w4.heap.size < w8.heap.size := (by omega); have hz8_3 : w5.heap.size < w8.heap.size := (by omega)))
    have HE68 := Lib.hid (Ext.trans (Ext.trans (Ext.drew' (Ext.rfl' w6)) he7) he8)
    have v0 : w8.cell? ⟨w.heap.size, 0, none⟩ = some (.slice A cs.length cap) := by go_simp
    have v1 : w8.cell? ⟨w.heap.size, 1, none⟩ = some (.float .f32 sp) := by go_simp
    have v2 : w8.cell? ⟨w3.heap.size, 0, none⟩ = some (.slice A3 ds.length cap3) := by go_simp
    have v3 : w8.cell? ⟨w3.heap.size, 1, none⟩ = some (.float .f32 s3) := by go_simp
    have v4 : w8.cell? ⟨w4.heap.size, 0, none⟩ = some (.slice A4 cs.length cs.length) := by go_simp
    have v5 : w8.cell? ⟨w4.heap.size, 1, none⟩ = some (.float .f32 sp) := by go_simp
    have v6 : w8.cell? ⟨w5.heap.size, 0, none⟩ = some (.slice A5 ds.length cap5) := by go_simp
    have v7 : w8.cell? ⟨w5.heap.size, 1, none⟩ = some (.float .f32 s5) := by go_simp
    clear he7 he8 hc7 hf7 hc8 hf8 hv7 u0 u1 u2 u3 u4 u5 u6 u7
    go_wp2_with fail
    refine (markThread2_any A4 cs.length sp cs 1 _ _ (HV46.out.ext HE68.out) (by omega) (by omega) HLE.out).mono ?_
    rintro e w9 ⟨rfl, -, row, hg9, hr9⟩
    have hrow : ∀ g, row = some g → w3.heap.size + 1 ≤ g ∧ g < w4.heap.size := fun g hg => by
      obtain ⟨hp, o, hA4, hB, -⟩ := hr9 g hg
      obtain ⟨b', o', hA4', -, hlt, -⟩ := HV4.out hp
      rw [hA4] at hA4'
      simp only [Option.some.injEq, Addr.mk.injEq] at hA4'
      have hBB : w3.heap.size + 1 ≤ g := by have := hB; simpa using this
      exact ⟨hBB, by omega⟩
    have hcell9 : ∀ b o, b < w8.heap.size → (∀ g, row = some g → g ≠ b) → w9.cell? ⟨b, o, none⟩ = w8.cell? ⟨b, o, none⟩ := fun b o hb hne =>
      World.cell?_of_block (hg9.block b hb (fun e => hne b e.symm rfl))
    have hs9 := hg9.size
    have n0 : ∀ g, row = some g → g ≠ w.heap.size := fun g hg => by have := hrow g hg; omega
    have n3 : ∀ g, row = some g → g ≠ w3.heap.size := fun g hg => by have := hrow g hg; omega
    have n4 : ∀ g, row = some g → g ≠ w4.heap.size := fun g hg => by have := hrow g hg; omega
    have n5 : ∀ g, row = some g → g ≠ w5.heap.size := fun g hg => by have := hrow g hg; omega
    have u0 : w9.cell? ⟨w.heap.size, 0, none⟩ = some (.slice A cs.length cap) := (hcell9 _ _ (by omega) n0).trans v0
    have u1 : w9.cell? ⟨w.heap.size, 1, none⟩ = some (.float .f32 sp) := (hcell9 _ _ (by omega) n0).trans v1
    have u2 : w9.cell? ⟨w3.heap.size, 0, none⟩ = some (.slice A3 ds.length cap3) := (hcell9 _ _ (by omega) n3).trans v2
    have u3 : w9.cell? ⟨w3.heap.size, 1, none⟩ = some (.float .f32 s3) := (hcell9 _ _ (by omega) n3).trans v3
    have u4 : w9.cell? ⟨w4.heap.size, 0, none⟩ = some (.slice A4 cs.length cs.length) := (hcell9 _ _ (by omega) n4).trans v4
    have u5 : w9.cell? ⟨w4.heap.size, 1, none⟩ = some (.float .f32 sp) := (hcell9 _ _ (by omega) n4).trans v5
    have u6 : w9.cell? ⟨w5.heap.size, 0, none⟩ = some (.slice A5 ds.length cap5) := (hcell9 _ _ (by omega) n5).trans v6
    have u7 : w9.cell? ⟨w5.heap.size, 1, none⟩ = some (.float .f32 s5) := (hcell9 _ _ (by omega) n5).trans v7
    have HE08 := Lib.hid (Ext.trans HE06.out HE68.out)
    have HE09 := Lib.hid (Ext.grown HE08.out hg9 (fun k hk => by have := hrow k hk; omega))
    have HE38 := Lib.hid (Ext.trans HE35.out (Ext.trans HE56.out HE68.out))
    have HE39 := Lib.hid (Ext.grown HE38.out hg9 (fun k hk => by have := hrow k hk; omega))
    have HV59 := Lib.hid ((HV5.out.ext (Ext.trans HE56.out HE68.out)).only_lt hg9 (fun k hk => by have := hrow k hk; omega))
    have hz9_0 : w.heap.size < w9.heap.size := by omega
    have hz9_3 : w3.heap.size < w9.heap.size := by omega
    have hz9_5 : w5.heap.size < w9.heap.size := by omega
    have hk9 : ¬ ((1 : Int) + cs.length * 3 < 0) := by omega
    clear hg9 hr9 hrow hcell9 n0 n3 n4 n5 v0 v1 v2 v3 v4 v5 v6 v7 row
    go_wp2_with fail
    refine (eqThread_any _ _ _ _ _ _ ds _ HV59.out.vs (HV3.out.vs.ext HE39.out) (by rw [HS3.out, HS5.out]) HDL.out).mono ?_
    rintro e w10 ⟨he10, rfl⟩
    obtain ⟨hc10, hf10⟩ := bcell he10
    have hs10 := he10.size
    have hz10_0 : w.heap.size < w10.heap.size := by omega
    have hz10_3 : w3.heap.size < w10.heap.size := by omega
    have hz10_5 : w5.heap.size < w10.heap.size := by omega
    have HE0a := Lib.hid (Ext.trans HE09.out he10)
    have HE3a := Lib.hid (Ext.trans HE39.out he10)
    have HV5a := Lib.hid (HV59.out.ext he10)
    have v0 : w10.cell? ⟨w.heap.size, 0, none⟩ = some (.slice A cs.length cap) := by go_simp
    have v1 : w10.cell? ⟨w.heap.size, 1, none⟩ = some (.float .f32 sp) := by go_simp
    have v2 : w10.cell? ⟨w3.heap.size, 0, none⟩ = some (.slice A3 ds.length cap3) := by go_simp
    have v3 : w10.cell? ⟨w3.heap.size, 1, none⟩ = some (.float .f32 s3) := by go_simp
    have v4 : w10.cell? ⟨w5.heap.size, 0, none⟩ = some (.slice A5 ds.length cap5) := by go_simp
    have v5 : w10.cell? ⟨w5.heap.size, 1, none⟩ = some (.float .f32 s5) := by go_simp
    clear he10 hc10 hf10 u0 u1 u2 u3 u4 u5 u6 u7
    go_wp2_with fail
    refine (markThread2_any A5 cap5 s5 ds 1 _ _ HV5a.out (by omega) (by omega) HDL.out).mono ?_
    rintro e w11 ⟨rfl, hm11, row, hg11, hr11⟩
    have hrow : ∀ g, row = some g → w4.heap.size + 1 ≤ g ∧ g < w5.heap.size := fun g hg => by
      obtain ⟨hp, o, hA5, hB, -⟩ := hr11 g hg
      obtain ⟨b', o', hA5', -, hlt, -⟩ := HV5.out hp
      rw [hA5] at hA5'
      simp only [Option.some.injEq, Addr.mk.injEq] at hA5'
      exact ⟨hB, by omega⟩
    have hcell11 : ∀ b o, b < w10.heap.size → (∀ g, row = some g → g ≠ b) → w11.cell? ⟨b, o, none⟩ = w10.cell? ⟨b, o, none⟩ := fun b o hb hne =>
      World.cell?_of_block (hg11.block b hb (fun e => hne b e.symm rfl))
    have hs11 := hg11.size
    have n0 : ∀ g, row = some g → g ≠ w.heap.size := fun g hg => by have := hrow g hg; omega
    have n3 : ∀ g, row = some g → g ≠ w3.heap.size := fun g hg => by have := hrow g hg; omega
    have n5 : ∀ g, row = some g → g ≠ w5.heap.size := fun g hg => by have := hrow g hg; omega
    have u0 : w11.cell? ⟨w.heap.size, 0, none⟩ = some (.slice A cs.length cap) := (hcell11 _ _ (by omega) n0).trans v0
    have u1 : w11.cell? ⟨w.heap.size, 1, none⟩ = some (.float .f32 sp) := (hcell11 _ _ (by omega) n0).trans v1
    have u2 : w11.cell? ⟨w3.heap.size, 0, none⟩ = some (.slice A3 ds.length cap3) := (hcell11 _ _ (by omega) n3).trans v2
    have u3 : w11.cell? ⟨w3.heap.size, 1, none⟩ = some (.float .f32 s3) := (hcell11 _ _ (by omega) n3).trans v3
    have u4 : w11.cell? ⟨w5.heap.size, 0, none⟩ = some (.slice A5 ds.length cap5) := (hcell11 _ _ (by omega) n5).trans v4
    have u5 : w11.cell? ⟨w5.heap.size, 1, none⟩ = some (.float .f32 s5) := (hcell11 _ _ (by omega) n5).trans v5
    have HE0b := Lib.hid (Ext.grown HE0a.out hg11 (fun k hk => by have := hrow k hk; omega))
    have HE3b := Lib.hid (Ext.grown HE3a.out hg11 (fun k hk => by have := hrow k hk; omega))
    have HM11 := Lib.hid hm11
    have hz11_0 : w.heap.size < w11.heap.size := by omega
    have hz11_3 : w3.heap.size < w11.heap.size := by omega
    have hz11_5 : w5.heap.size < w11.heap.size := by omega
    clear hg11 hr11 hrow hcell11 n0 n3 n5 v0 v1 v2 v3 v4 v5 hm11 row
    go_wp2_with fail
    refine (heldThread_any A5 ds.length cap5 s5 1 _ HM11.out (by omega) (by omega) HDL.out).mono ?_
    rintro e w12 ⟨he12, rfl⟩
    obtain ⟨hc12, hf12⟩ := bcell he12
    have hs12 := he12.size
    have hz12_0 : w.heap.size < w12.heap.size := by omega
    have hz12_3 : w3.heap.size < w12.heap.size := by omega
    have hz12_5 : w5.heap.size < w12.heap.size := by omega
    have HE0c := Lib.hid (Ext.trans HE0b.out he12)
    have HE3c := Lib.hid (Ext.trans HE3b.out he12)
    have HM12 := Lib.hid (HM11.out.ext he12)
    have hk12 : ¬ ((1 : Int) + ds.length * 3 < 0) := by omega
    have v0 : w12.cell? ⟨w.heap.size, 0, none⟩ = some (.slice A cs.length cap) := by go_simp
    have v1 : w12.cell? ⟨w.heap.size, 1, none⟩ = some (.float .f32 sp) := by go_simp
    have v2 : w12.cell? ⟨w3.heap.size, 0, none⟩ = some (.slice A3 ds.length cap3) := by go_simp
    have v3 : w12.cell? ⟨w3.heap.size, 1, none⟩ = some (.float .f32 s3) := by go_simp
    have v4 : w12.cell? ⟨w5.heap.size, 0, none⟩ = some (.slice A5 ds.length cap5) := by go_simp
    have v5 : w12.cell? ⟨w5.heap.size, 1, none⟩ = some (.float .f32 s5) := by go_simp
    clear he12 hc12 hf12 u0 u1 u2 u3 u4 u5
    go_wp2_with fail
    refine (toThread_any A cap sp cs _ (HA.out.ext HE0c.out) HLE.out).mono ?_
    rintro e w13 ⟨he13, A13, rfl, hv13⟩
    obtain ⟨hc13, hf13⟩ := bcell he13
    have hs13 := he13.size
    have hz13_0 : w.heap.size < w13.heap.size := by omega
    have hz13_3 : w3.heap.size < w13.heap.size := by omega
    have hz13_5 : w5.heap.size < w13.heap.size := by omega
    have HV13 := Lib.hid hv13
    have HE0d := Lib.hid (Ext.trans HE0c.out he13)
    have HE3d := Lib.hid (Ext.trans HE3c.out he13)
    have HM13 := Lib.hid (HM12.out.ext he13)
    have u0 : w13.cell? ⟨w.heap.size, 0, none⟩ = some (.slice A cs.length cap) := by go_simp
    have u1 : w13.cell? ⟨w.heap.size, 1, none⟩ = some (.float .f32 sp) := by go_simp
    have u2 : w13.cell? ⟨w3.heap.size, 0, none⟩ = some (.slice A3 ds.length cap3) := by go_simp
    have u3 : w13.cell? ⟨w3.heap.size, 1, none⟩ = some (.float .f32 s3) := by go_simp
    have u4 : w13.cell? ⟨w5.heap.size, 0, none⟩ = some (.slice A5 ds.length cap5) := by go_simp
    have u5 : w13.cell? ⟨w5.heap.size, 1, none⟩ = some (.float .f32 s5) := by go_simp
    clear he13 hc13 hf13 hv13 v0 v1 v2 v3 v4 v5
    go_wp2_with fail
    have hcall := implTurnAll_any A13 cs.length sp q cs w13 HV13.out.vs HLE.out
    rw [HP.out] at hcall
    refine hcall.mono ?_
    clear hcall
    rintro e w14 ⟨he14, A14, cap14, s14, rfl, hv14, hs14'⟩
    have HV14 := Lib.hid (show VO w14 w13.heap.size A14 ds from hv14)
    have HS14 := Lib.hid (show cn .f32 s14 = ps from hs14')
    obtain ⟨hc14, hf14⟩ := bcell he14
    have hs14 := he14.size
    have hz14_0 : w.heap.size < w14.heap.size := by omega
    have hz14_3 : w3.heap.size < w14.heap.size := by omega
    have hz14_5 : w5.heap.size < w14.heap.size := by omega
    have HE0e := Lib.hid (Ext.trans HE0d.out he14)
    have HE3e := Lib.hid (Ext.trans HE3d.out he14)
    have HM14 := Lib.hid (HM13.out.ext he14)
    have v0 : w14.cell? ⟨w.heap.size, 0, none⟩ = some (.slice A cs.length cap) := by go_simp
    have v1 : w14.cell? ⟨w.heap.size, 1, none⟩ = some (.float .f32 sp) := by go_simp
    have v2 : w14.cell? ⟨w3.heap.size, 0, none⟩ = some (.slice A3 ds.length cap3) := by go_simp
    have v3 : w14.cell? ⟨w3.heap.size, 1, none⟩ = some (.float .f32 s3) := by go_simp
    have v4 : w14.cell? ⟨w5.heap.size, 0, none⟩ = some (.slice A5 ds.length cap5) := by go_simp
    have v5 : w14.cell? ⟨w5.heap.size, 1, none⟩ = some (.float .f32 s5) := by go_simp
    clear he14 hc14 hf14 hv14 hs14' u0 u1 u2 u3 u4 u5
    go_wp2_with fail
    have e14a : Ext w14 (w14.alloc (.cells #[.slice A14 ds.length cap14, .float .f32 s14] 48)) := by (repeat first | with_reducible exact Ext.rfl' _ | with_reducible refine Ext.drewN ?_ _ | with_reducible refine Ext.drew' ?_ | with_reducible refine Ext.alloc' ?_ _ | with_reducible refine Ext.setCell_at ?_ _ _ _ (by first | exact Nat.le_refl _ | omega) | with_reducible assumption | refine Ext.trans ?_ (by with_reducible assumption))
    have HE14a := Lib.hid e14a
    clear e14a
    refine (eqThread_any _ _ _ _ _ _ ds _ (HV14.out.vs.ext HE14a.out) ((HV3.out.vs.ext HE3e.out).ext HE14a.out) (by rw [HS3.out, HS14.out]) HDL.out).mono ?_
    rintro e w15 ⟨he15, rfl⟩
    obtain ⟨hc15, hf15⟩ := bcell he15
    have hs15 := he15.size
    (try simp only [World.size_alloc] at hs15)
    have hz15_5 : w5.heap.size < w15.heap.size := by omega
    have HE0f := Lib.hid (Ext.trans HE0e.out (Ext.trans HE14a.out he15))
    have HM15 := Lib.hid (HM14.out.ext (Ext.trans HE14a.out he15))
    have u0 : w15.cell? ⟨w5.heap.size, 0, none⟩ = some (.slice A5 ds.length cap5) := by go_simp
    have u1 : w15.cell? ⟨w5.heap.size, 1, none⟩ = some (.float .f32 s5) := by go_simp
    clear he15 hc15 hf15 v0 v1 v2 v3 v4 v5
    go_wp2_with fail
    refine (heldThread_any A5 ds.length cap5 s5 1 _ HM15.out (by omega) (by omega) HDL.out).mono ?_
    rintro e w16 ⟨he16, rfl⟩
    go_wp2_with fail
    go_ret
    exact ⟨Ext.trans HE0f.out he16, rfl⟩
end Go.Proofs.Ytbaohbpfnlicpaa
