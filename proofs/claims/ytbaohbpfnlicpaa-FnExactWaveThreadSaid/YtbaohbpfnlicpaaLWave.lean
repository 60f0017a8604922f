/- The law FnExactWaveThread: for all arguments it answers true, and changes nothing that was there. -/
import Derived.Test.YtbaohbpfnlicpaaQ5
import Derived.Test.YtbaohbpfnlicpaaQ6
import Derived.Test.YtbaohbpfnlicpaaSh2
namespace Go.Proofs.Ytbaohbpfnlicpaa
open Go Go.RowKit
set_option linter.unusedVariables false
set_option linter.unusedSimpArgs false
attribute [local go_sem] run_store_float

theorem vo_lt {w : World} {B : Nat} {A : Option Addr} {cs : List V3} (h : VO w B A cs) (hp : 0 < cs.length) {b o : Nat} (hA : A = some ⟨b, o, none⟩) : B ≤ b ∧ b < w.heap.size := by
  obtain ⟨b', o', hA', h1, h2, -⟩ := h hp
  rw [hA'] at hA
  simp only [Option.some.injEq, Addr.mk.injEq] at hA
  omega
set_option maxRecDepth 100000 in
set_option maxHeartbeats 1600000 in
theorem lawWave (n waves : Int) (radius size sp : Nat) (w : World) (b1 : -9223372036854775808 ≤ n ∧ n ≤ 9223372036854775807) (b2 : -9223372036854775808 ≤ waves ∧ waves ≤ 9223372036854775807) :
    Calls Try.prog 20 #[.int .i64 n, .int .i64 waves, .float .f32 radius, .float .f32 size, .float .f32 sp] w fun e w' => Ext w w' ∧ e = .returned (.bool true) := by
  obtain ⟨Q, hQ⟩ : ∃ Q, waveP n waves (cn .f32 radius) (cn .f32 size) (cn .f32 sp) = Q := ⟨_, rfl⟩
  have hql : (waveP n waves (cn .f32 radius) (cn .f32 size) (cn .f32 sp)).2.1.length ≤ 1048576 := waveP_len _ _ _ _ _
  rw [hQ] at hql
  obtain ⟨pb, ds, ps⟩ := Q
  have HQ := Lib.hid hQ
  have HDL := Lib.hid (show ds.length ≤ 1048576 from hql)
  clear hQ hql b1 b2
  have HX := Lib.hid (Ext.rfl' w)
  go_enter Try.func20, Try.ntmps20
  go_wp2_with fail
  refine (specWave_any n waves radius size sp _).mono ?_
  rintro e w1 ⟨hstep, hrt⟩
  obtain ⟨A1, cap1, s1, rfl, hva, hsa⟩ := RT.three hrt HQ.out
  have HVa := Lib.hid hva
  have HSa := Lib.hid hsa
  clear hva hsa hrt
  have tHX := Lib.hid (Ext.trans HX.out hstep)
  clear HX
  have HX := tHX
  clear tHX
  clear hstep
  have HW := Lib.hid (Ext.rfl' w1)
  go_wp2_with fail
  have hstep : Ext w1 (w1.alloc (.cells #[.slice A1 ds.length cap1, .float .f32 s1] 48)) := by (repeat first | with_reducible exact Ext.rfl' _ | with_reducible refine Ext.drewN ?_ _ | with_reducible refine Ext.drew' ?_ | with_reducible refine Ext.alloc' ?_ _ | with_reducible refine Ext.setCell_at ?_ _ _ _ (by first | exact Nat.le_refl _ | omega) | with_reducible assumption | refine Ext.trans ?_ (by with_reducible assumption))
  have hblk0 : Blk (w1.alloc (.cells #[.slice A1 ds.length cap1, .float .f32 s1] 48)) (w1.heap.size) 48 #[.slice A1 ds.length cap1, .float .f32 s1] := Blk.at_ _ _ _ _ (by simp)
  generalize w1.alloc (.cells #[.slice A1 ds.length cap1, .float .f32 s1] 48) = W1 at *
  have tHX := Lib.hid (Ext.trans HX.out hstep)
  clear HX
  have HX := tHX
  clear tHX
  have tHW := Lib.hid (Ext.trans HW.out hstep)
  clear HW
  have HW := tHW
  clear tHW
  have d2_0_0 : W1.cell? ⟨w1.heap.size, 0, none⟩ = some (.slice A1 ds.length cap1) := hblk0.cell 0
  have d2_0_1 : W1.cell? ⟨w1.heap.size, 1, none⟩ = some (.float .f32 s1) := hblk0.cell 1
  have zz2_0 : w1.heap.size < W1.heap.size := hblk0.lt
  clear hstep hblk0
  have hszW1 : w.heap.size ≤ W1.heap.size := HX.out.size
  refine (implWave_any n waves radius size sp _).mono ?_
  rintro e w2 ⟨hstep, hrt⟩
  obtain ⟨A2, cap2, s2, rfl, hva, hsa⟩ := RT.three hrt HQ.out
  have HVg := Lib.hid hva
  have HVg0 := Lib.hid hva
  have HSg := Lib.hid hsa
  clear hva hsa hrt
  have tHX := Lib.hid (Ext.trans HX.out hstep)
  clear HX
  have HX := tHX
  clear tHX
  have tHW := Lib.hid (Ext.trans HW.out hstep)
  clear HW
  have HW := tHW
  clear tHW
  have c3_0_0 : w2.cell? ⟨w1.heap.size, 0, none⟩ = some (.slice A1 ds.length cap1) := (Below.cell hstep (p := ⟨w1.heap.size, 0, none⟩) (by omega)).trans d2_0_0
  have c3_0_1 : w2.cell? ⟨w1.heap.size, 1, none⟩ = some (.float .f32 s1) := (Below.cell hstep (p := ⟨w1.heap.size, 1, none⟩) (by omega)).trans d2_0_1
  have z3_0 : w1.heap.size < w2.heap.size := by have := hstep.size; omega
  clear d2_0_0 d2_0_1
  clear hstep
  go_wp2_with fail
  have hstep : Ext w2 (w2.alloc (.cells #[.slice A2 ds.length cap2, .float .f32 s2] 48)) := by (repeat first | with_reducible exact Ext.rfl' _ | with_reducible refine Ext.drewN ?_ _ | with_reducible refine Ext.drew' ?_ | with_reducible refine Ext.alloc' ?_ _ | with_reducible refine Ext.setCell_at ?_ _ _ _ (by first | exact Nat.le_refl _ | omega) | with_reducible assumption | refine Ext.trans ?_ (by with_reducible assumption))
  have hblk0 : Blk (w2.alloc (.cells #[.slice A2 ds.length cap2, .float .f32 s2] 48)) (w2.heap.size) 48 #[.slice A2 ds.length cap2, .float .f32 s2] := Blk.at_ _ _ _ _ (by simp)
  generalize w2.alloc (.cells #[.slice A2 ds.length cap2, .float .f32 s2] 48) = W2 at *
  have tHX := Lib.hid (Ext.trans HX.out hstep)
  clear HX
  have HX := tHX
  clear tHX
  have tHW := Lib.hid (Ext.trans HW.out hstep)
  clear HW
  have HW := tHW
  clear tHW
  have tHVg := Lib.hid (HVg.out.ext hstep)
  clear HVg
  have HVg := tHVg
  clear tHVg
  have c4_0_0 : W2.cell? ⟨w1.heap.size, 0, none⟩ = some (.slice A1 ds.length cap1) := (Below.cell hstep (p := ⟨w1.heap.size, 0, none⟩) (by omega)).trans c3_0_0
  have c4_0_1 : W2.cell? ⟨w1.heap.size, 1, none⟩ = some (.float .f32 s1) := (Below.cell hstep (p := ⟨w1.heap.size, 1, none⟩) (by omega)).trans c3_0_1
  have z4_0 : w1.heap.size < W2.heap.size := by have := hstep.size; omega
  clear c3_0_0 c3_0_1
  have d4_0_0 : W2.cell? ⟨w2.heap.size, 0, none⟩ = some (.slice A2 ds.length cap2) := hblk0.cell 0
  have d4_0_1 : W2.cell? ⟨w2.heap.size, 1, none⟩ = some (.float .f32 s2) := hblk0.cell 1
  have zz4_0 : w2.heap.size < W2.heap.size := hblk0.lt
  clear hstep hblk0
  refine (eqThread_any _ _ _ _ _ _ ds _ HVg.out.vs (HVa.out.vs.ext HW.out) (by rw [HSa.out, HSg.out]) HDL.out).mono ?_
  rintro e w3 ⟨hstep, rfl⟩
  have tHX := Lib.hid (Ext.trans HX.out hstep)
  clear HX
  have HX := tHX
  clear tHX
  have tHW := Lib.hid (Ext.trans HW.out hstep)
  clear HW
  have HW := tHW
  clear tHW
  have tHVg := Lib.hid (HVg.out.ext hstep)
  clear HVg
  have HVg := tHVg
  clear tHVg
  have c5_0_0 : w3.cell? ⟨w1.heap.size, 0, none⟩ = some (.slice A1 ds.length cap1) := (Below.cell hstep (p := ⟨w1.heap.size, 0, none⟩) (by omega)).trans c4_0_0
  have c5_0_1 : w3.cell? ⟨w1.heap.size, 1, none⟩ = some (.float .f32 s1) := (Below.cell hstep (p := ⟨w1.heap.size, 1, none⟩) (by omega)).trans c4_0_1
  have z5_0 : w1.heap.size < w3.heap.size := by have := hstep.size; omega
  have c5_1_0 : w3.cell? ⟨w2.heap.size, 0, none⟩ = some (.slice A2 ds.length cap2) := (Below.cell hstep (p := ⟨w2.heap.size, 0, none⟩) (by omega)).trans d4_0_0
  have c5_1_1 : w3.cell? ⟨w2.heap.size, 1, none⟩ = some (.float .f32 s2) := (Below.cell hstep (p := ⟨w2.heap.size, 1, none⟩) (by omega)).trans d4_0_1
  have z5_1 : w2.heap.size < w3.heap.size := by have := hstep.size; omega
  clear c4_0_0 c4_0_1 d4_0_0 d4_0_1
  clear hstep
  go_wp2_with fail
  refine (markThread2_any A2 cap2 s2 ds 1 _ _ HVg.out (by omega) (by omega) HDL.out).mono ?_
  rintro e w4 ⟨rfl, hmk, row, hg, hr⟩
  have hrow : ∀ g, row = some g → W1.heap.size ≤ g ∧ g < w2.heap.size := fun g hg => by
    obtain ⟨hp, o, hAx, hB, -⟩ := hr g hg
    exact vo_lt HVg0.out hp hAx
  have HMg := Lib.hid hmk
  have tHX := Lib.hid (Ext.grown HX.out hg (fun k hk => by have := hrow k hk; omega))
  have tHW := Lib.hid (Ext.grown HW.out hg (fun k hk => by have := hrow k hk; omega))
  clear HX HW HVg hmk
  have HX := tHX
  have HW := tHW
  clear tHX tHW
  have c6_0_0 : w4.cell? ⟨w1.heap.size, 0, none⟩ = some (.slice A1 ds.length cap1) := (marked_cell hg _ _ (by omega) (fun j hj => by have := hrow j hj; omega)).trans c5_0_0
  have c6_0_1 : w4.cell? ⟨w1.heap.size, 1, none⟩ = some (.float .f32 s1) := (marked_cell hg _ _ (by omega) (fun j hj => by have := hrow j hj; omega)).trans c5_0_1
  have z6_0 : w1.heap.size < w4.heap.size := by have := hg.size; omega
  have c6_1_0 : w4.cell? ⟨w2.heap.size, 0, none⟩ = some (.slice A2 ds.length cap2) := (marked_cell hg _ _ (by omega) (fun j hj => by have := hrow j hj; omega)).trans c5_1_0
  have c6_1_1 : w4.cell? ⟨w2.heap.size, 1, none⟩ = some (.float .f32 s2) := (marked_cell hg _ _ (by omega) (fun j hj => by have := hrow j hj; omega)).trans c5_1_1
  have z6_1 : w2.heap.size < w4.heap.size := by have := hg.size; omega
  clear c5_0_0 c5_0_1 c5_1_0 c5_1_1
  clear hg hr hrow row
  go_wp2_with fail
  refine (heldThread_any A2 ds.length cap2 s2 1 _ HMg.out (by omega) (by omega) HDL.out).mono ?_
  rintro e w5 ⟨hstep, rfl⟩
  have tHX := Lib.hid (Ext.trans HX.out hstep)
  clear HX
  have HX := tHX
  clear tHX
  have tHW := Lib.hid (Ext.trans HW.out hstep)
  clear HW
  have HW := tHW
  clear tHW
  have tHMg := Lib.hid (HMg.out.ext hstep)
  clear HMg
  have HMg := tHMg
  clear tHMg
  have c7_0_0 : w5.cell? ⟨w1.heap.size, 0, none⟩ = some (.slice A1 ds.length cap1) := (Below.cell hstep (p := ⟨w1.heap.size, 0, none⟩) (by omega)).trans c6_0_0
  have c7_0_1 : w5.cell? ⟨w1.heap.size, 1, none⟩ = some (.float .f32 s1) := (Below.cell hstep (p := ⟨w1.heap.size, 1, none⟩) (by omega)).trans c6_0_1
  have z7_0 : w1.heap.size < w5.heap.size := by have := hstep.size; omega
  have c7_1_0 : w5.cell? ⟨w2.heap.size, 0, none⟩ = some (.slice A2 ds.length cap2) := (Below.cell hstep (p := ⟨w2.heap.size, 0, none⟩) (by omega)).trans c6_1_0
  have c7_1_1 : w5.cell? ⟨w2.heap.size, 1, none⟩ = some (.float .f32 s2) := (Below.cell hstep (p := ⟨w2.heap.size, 1, none⟩) (by omega)).trans c6_1_1
  have z7_1 : w2.heap.size < w5.heap.size := by have := hstep.size; omega
  clear c6_0_0 c6_0_1 c6_1_0 c6_1_1
  clear hstep
  have hka_w5 : ¬ (1 + (ds.length : Int) * 3 < 0) := by omega
  go_wp2_with fail
  refine (implWave_any n waves radius size sp _).mono ?_
  rintro e w6 ⟨hstep, hrt⟩
  obtain ⟨A6, cap6, s6, rfl, hva, hsa⟩ := RT.three hrt HQ.out
  have HVj := Lib.hid hva
  have HSj := Lib.hid hsa
  clear hva hsa hrt
  have tHX := Lib.hid (Ext.trans HX.out hstep)
  clear HX
  have HX := tHX
  clear tHX
  have tHW := Lib.hid (Ext.trans HW.out hstep)
  clear HW
  have HW := tHW
  clear tHW
  have tHMg := Lib.hid (HMg.out.ext hstep)
  clear HMg
  have HMg := tHMg
  clear tHMg
  have c8_0_0 : w6.cell? ⟨w1.heap.size, 0, none⟩ = some (.slice A1 ds.length cap1) := (Below.cell hstep (p := ⟨w1.heap.size, 0, none⟩) (by omega)).trans c7_0_0
  have c8_0_1 : w6.cell? ⟨w1.heap.size, 1, none⟩ = some (.float .f32 s1) := (Below.cell hstep (p := ⟨w1.heap.size, 1, none⟩) (by omega)).trans c7_0_1
  have z8_0 : w1.heap.size < w6.heap.size := by have := hstep.size; omega
  have c8_1_0 : w6.cell? ⟨w2.heap.size, 0, none⟩ = some (.slice A2 ds.length cap2) := (Below.cell hstep (p := ⟨w2.heap.size, 0, none⟩) (by omega)).trans c7_1_0
  have c8_1_1 : w6.cell? ⟨w2.heap.size, 1, none⟩ = some (.float .f32 s2) := (Below.cell hstep (p := ⟨w2.heap.size, 1, none⟩) (by omega)).trans c7_1_1
  have z8_1 : w2.heap.size < w6.heap.size := by have := hstep.size; omega
  clear c7_0_0 c7_0_1 c7_1_0 c7_1_1
  clear hstep
  go_wp2_with fail
  have hstep : Ext w6 (w6.alloc (.cells #[.slice A6 ds.length cap6, .float .f32 s6] 48)) := by (repeat first | with_reducible exact Ext.rfl' _ | with_reducible refine Ext.drewN ?_ _ | with_reducible refine Ext.drew' ?_ | with_reducible refine Ext.alloc' ?_ _ | with_reducible refine Ext.setCell_at ?_ _ _ _ (by first | exact Nat.le_refl _ | omega) | with_reducible assumption | refine Ext.trans ?_ (by with_reducible assumption))
  have hblk0 : Blk (w6.alloc (.cells #[.slice A6 ds.length cap6, .float .f32 s6] 48)) (w6.heap.size) 48 #[.slice A6 ds.length cap6, .float .f32 s6] := Blk.at_ _ _ _ _ (by simp)
  generalize w6.alloc (.cells #[.slice A6 ds.length cap6, .float .f32 s6] 48) = W6 at *
  have tHX := Lib.hid (Ext.trans HX.out hstep)
  clear HX
  have HX := tHX
  clear tHX
  have tHW := Lib.hid (Ext.trans HW.out hstep)
  clear HW
  have HW := tHW
  clear tHW
  have tHMg := Lib.hid (HMg.out.ext hstep)
  clear HMg
  have HMg := tHMg
  clear tHMg
  have tHVj := Lib.hid (HVj.out.ext hstep)
  clear HVj
  have HVj := tHVj
  clear tHVj
  have c9_0_0 : W6.cell? ⟨w1.heap.size, 0, none⟩ = some (.slice A1 ds.length cap1) := (Below.cell hstep (p := ⟨w1.heap.size, 0, none⟩) (by omega)).trans c8_0_0
  have c9_0_1 : W6.cell? ⟨w1.heap.size, 1, none⟩ = some (.float .f32 s1) := (Below.cell hstep (p := ⟨w1.heap.size, 1, none⟩) (by omega)).trans c8_0_1
  have z9_0 : w1.heap.size < W6.heap.size := by have := hstep.size; omega
  have c9_1_0 : W6.cell? ⟨w2.heap.size, 0, none⟩ = some (.slice A2 ds.length cap2) := (Below.cell hstep (p := ⟨w2.heap.size, 0, none⟩) (by omega)).trans c8_1_0
  have c9_1_1 : W6.cell? ⟨w2.heap.size, 1, none⟩ = some (.float .f32 s2) := (Below.cell hstep (p := ⟨w2.heap.size, 1, none⟩) (by omega)).trans c8_1_1
  have z9_1 : w2.heap.size < W6.heap.size := by have := hstep.size; omega
  clear c8_0_0 c8_0_1 c8_1_0 c8_1_1
  have d9_0_0 : W6.cell? ⟨w6.heap.size, 0, none⟩ = some (.slice A6 ds.length cap6) := hblk0.cell 0
  have d9_0_1 : W6.cell? ⟨w6.heap.size, 1, none⟩ = some (.float .f32 s6) := hblk0.cell 1
  have zz9_0 : w6.heap.size < W6.heap.size := hblk0.lt
  clear hstep hblk0
  refine (eqThread_any _ _ _ _ _ _ ds _ HVj.out.vs (HVa.out.vs.ext HW.out) (by rw [HSa.out, HSj.out]) HDL.out).mono ?_
  rintro e w7 ⟨hstep, rfl⟩
  have tHX := Lib.hid (Ext.trans HX.out hstep)
  clear HX
  have HX := tHX
  clear tHX
  have tHW := Lib.hid (Ext.trans HW.out hstep)
  clear HW
  have HW := tHW
  clear tHW
  have tHMg := Lib.hid (HMg.out.ext hstep)
  clear HMg
  have HMg := tHMg
  clear tHMg
  have tHVj := Lib.hid (HVj.out.ext hstep)
  clear HVj
  have HVj := tHVj
  clear tHVj
  have c10_0_0 : w7.cell? ⟨w1.heap.size, 0, none⟩ = some (.slice A1 ds.length cap1) := (Below.cell hstep (p := ⟨w1.heap.size, 0, none⟩) (by omega)).trans c9_0_0
  have c10_0_1 : w7.cell? ⟨w1.heap.size, 1, none⟩ = some (.float .f32 s1) := (Below.cell hstep (p := ⟨w1.heap.size, 1, none⟩) (by omega)).trans c9_0_1
  have z10_0 : w1.heap.size < w7.heap.size := by have := hstep.size; omega
  have c10_1_0 : w7.cell? ⟨w2.heap.size, 0, none⟩ = some (.slice A2 ds.length cap2) := (Below.cell hstep (p := ⟨w2.heap.size, 0, none⟩) (by omega)).trans c9_1_0
  have c10_1_1 : w7.cell? ⟨w2.heap.size, 1, none⟩ = some (.float .f32 s2) := (Below.cell hstep (p := ⟨w2.heap.size, 1, none⟩) (by omega)).trans c9_1_1
  have z10_1 : w2.heap.size < w7.heap.size := by have := hstep.size; omega
  have c10_2_0 : w7.cell? ⟨w6.heap.size, 0, none⟩ = some (.slice A6 ds.length cap6) := (Below.cell hstep (p := ⟨w6.heap.size, 0, none⟩) (by omega)).trans d9_0_0
  have c10_2_1 : w7.cell? ⟨w6.heap.size, 1, none⟩ = some (.float .f32 s6) := (Below.cell hstep (p := ⟨w6.heap.size, 1, none⟩) (by omega)).trans d9_0_1
  have z10_2 : w6.heap.size < w7.heap.size := by have := hstep.size; omega
  clear c9_0_0 c9_0_1 c9_1_0 c9_1_1 d9_0_0 d9_0_1
  clear hstep
  clear hka_w5
  go_wp2_with fail
  refine (heldThread_any A2 ds.length cap2 s2 1 _ HMg.out (by omega) (by omega) HDL.out).mono ?_
  rintro e w8 ⟨hstep, rfl⟩
  have tHX := Lib.hid (Ext.trans HX.out hstep)
  clear HX
  have HX := tHX
  clear tHX
  have tHW := Lib.hid (Ext.trans HW.out hstep)
  clear HW
  have HW := tHW
  clear tHW
  have tHMg := Lib.hid (HMg.out.ext hstep)
  clear HMg
  have HMg := tHMg
  clear tHMg
  have tHVj := Lib.hid (HVj.out.ext hstep)
  clear HVj
  have HVj := tHVj
  clear tHVj
  have c11_0_0 : w8.cell? ⟨w1.heap.size, 0, none⟩ = some (.slice A1 ds.length cap1) := (Below.cell hstep (p := ⟨w1.heap.size, 0, none⟩) (by omega)).trans c10_0_0
  have c11_0_1 : w8.cell? ⟨w1.heap.size, 1, none⟩ = some (.float .f32 s1) := (Below.cell hstep (p := ⟨w1.heap.size, 1, none⟩) (by omega)).trans c10_0_1
  have z11_0 : w1.heap.size < w8.heap.size := by have := hstep.size; omega
  have c11_1_0 : w8.cell? ⟨w2.heap.size, 0, none⟩ = some (.slice A2 ds.length cap2) := (Below.cell hstep (p := ⟨w2.heap.size, 0, none⟩) (by omega)).trans c10_1_0
  have c11_1_1 : w8.cell? ⟨w2.heap.size, 1, none⟩ = some (.float .f32 s2) := (Below.cell hstep (p := ⟨w2.heap.size, 1, none⟩) (by omega)).trans c10_1_1
  have z11_1 : w2.heap.size < w8.heap.size := by have := hstep.size; omega
  have c11_2_0 : w8.cell? ⟨w6.heap.size, 0, none⟩ = some (.slice A6 ds.length cap6) := (Below.cell hstep (p := ⟨w6.heap.size, 0, none⟩) (by omega)).trans c10_2_0
  have c11_2_1 : w8.cell? ⟨w6.heap.size, 1, none⟩ = some (.float .f32 s6) := (Below.cell hstep (p := ⟨w6.heap.size, 1, none⟩) (by omega)).trans c10_2_1
  have z11_2 : w6.heap.size < w8.heap.size := by have := hstep.size; omega
  clear c10_0_0 c10_0_1 c10_1_0 c10_1_1 c10_2_0 c10_2_1
  clear hstep
  have hka_w8 : ¬ (1 + (ds.length : Int) * 3 < 0) := by omega
  go_wp2_with fail
  go_ret
  exact ⟨HX.out, rfl⟩
end Go.Proofs.Ytbaohbpfnlicpaa
