/- The law FnExactNearestOfThreads: for all arguments it answers true, and changes nothing that was there. -/
import Derived.Test.YtbaohbpfnlicpaaN4
import Derived.Test.YtbaohbpfnlicpaaSh2
import Derived.Deep.RegionHeld3
import Derived.Deep.DeepCutAuto
namespace Go.Proofs.Ytbaohbpfnlicpaa
open Go Go.RowKit
set_option linter.unusedVariables false
set_option linter.unusedSimpArgs false
attribute [local go_sem] run_store_float

theorem RN.open {e : Ending} {P : Bool × Nat × Nat × Nat} {pb : Bool} {px py pl : Nat} (h : RN e P) (hP : P = (pb, px, py, pl)) : ∃ r, e = .returned (.tuple #[.int .i64 px, .int .i64 py, .float .f32 r, .bool pb]) ∧ cn .f32 r = pl := by subst hP; exact h
set_option maxRecDepth 100000 in
set_option maxHeartbeats 12800000 in
theorem lawNear (A : Option Addr) (cap sp : Nat) (cs : List V3) (A' : Option Addr) (cap' sp' : Nat) (cs' : List V3) (w : World) (hA : VS w A cs) (hl : cs.length ≤ 9223372036854775807) (hA' : VS w A' cs') (hl' : cs'.length ≤ 9223372036854775807) :
    Calls Try.prog 18 #[.agg #[.slice A cs.length cap, .float .f32 sp], .agg #[.slice A' cs'.length cap', .float .f32 sp']] w fun e w' => Ext w w' ∧ e = .returned (.bool true) := by
  have HA := Lib.hid hA
  have HL := Lib.hid hl
  have HA' := Lib.hid hA'
  have HL' := Lib.hid hl'
  clear hA hl hA' hl'
  by_cases hbig : (1048576 : Int) - cs.length < 0
  · have HB := Lib.hid hbig
    clear hbig
    go_enter Try.func18, Try.ntmps18
    go_wp2_with fail
    refine (szThread_big _ _ _ _ _ _ (by omega) (by omega) HL.out (by have := HB.out; omega)).mono ?_
    rintro e w1 ⟨he1, rfl⟩
    go_wp2_with fail
    go_ret
    refine ⟨?_, rfl⟩
    (repeat first | with_reducible exact Ext.rfl' _ | with_reducible refine Ext.drewN ?_ _ | with_reducible refine Ext.drew' ?_ | with_reducible refine Ext.alloc' ?_ _ | with_reducible refine Ext.setCell_at ?_ _ _ _ (by first | exact Nat.le_refl _ | omega) | with_reducible assumption | refine Ext.trans ?_ (by with_reducible assumption))
  · have HBG0 := Lib.hid hbig
    have HLE := Lib.hid (show cs.length ≤ 1048576 by omega)
    clear hbig
    by_cases hbig : (1048576 : Int) - cs.length - cs'.length < 0
    · have HB := Lib.hid hbig
      clear hbig
      go_enter Try.func18, Try.ntmps18
      go_wp2_with fail
      refine (szThread_ok _ _ _ _ _ _ (by omega) (by omega) HL.out (by have := HBG0.out; omega)).mono ?_
      rintro e w1 ⟨he1, q0, rfl, hq0, hr0⟩
      have Hhr0 := Lib.hid hr0
      clear hr0
      obtain ⟨hc1, hf1⟩ := bcell he1
      (try simp only [World.heap_drewN, World.cell?_drewN, World.frozen?_drewN] at hc1 hf1)
      have hs1 := he1.size
      (try simp only [World.heap_drewN, World.size_alloc, World.size_setCell, World.size_drew] at hs1)
      have hz1_w : w.heap.size < w1.heap.size := by omega
      have hz1_w1 : w.heap.size + 1 < w1.heap.size := by omega
      go_wp2_with fail
      refine (szThread_big _ _ _ _ _ _ (by omega) (by have := Hhr0.out; omega) HL'.out (by have := Hhr0.out; have := HB.out; omega)).mono ?_
      rintro e w2 ⟨he2, rfl⟩
      go_wp2_with fail
      go_ret
      refine ⟨?_, rfl⟩
      (repeat first | with_reducible exact Ext.rfl' _ | with_reducible refine Ext.drewN ?_ _ | with_reducible refine Ext.drew' ?_ | with_reducible refine Ext.alloc' ?_ _ | with_reducible refine Ext.setCell_at ?_ _ _ _ (by first | exact Nat.le_refl _ | omega) | with_reducible assumption | refine Ext.trans ?_ (by with_reducible assumption))
    · have HBG1 := Lib.hid hbig
      have HLE' := Lib.hid (show cs'.length ≤ 1048576 by omega)
      clear hbig
      go_enter Try.func18, Try.ntmps18
      go_wp2_with fail
      refine (szThread_ok _ _ _ _ _ _ (by omega) (by omega) HL.out (by have := HBG0.out; omega)).mono ?_
      rintro e w1 ⟨he1, q0, rfl, hq0, hr0⟩
      have Hhr0 := Lib.hid hr0
      clear hr0
      obtain ⟨hc1, hf1⟩ := bcell he1
      (try simp only [World.heap_drewN, World.cell?_drewN, World.frozen?_drewN] at hc1 hf1)
      have hs1 := he1.size
      (try simp only [World.heap_drewN, World.size_alloc, World.size_setCell, World.size_drew] at hs1)
      have hz1_w : w.heap.size < w1.heap.size := by omega
      have hz1_w1 : w.heap.size + 1 < w1.heap.size := by omega
      go_wp2_with fail
      refine (szThread_ok _ _ _ _ _ _ (by omega) (by have := Hhr0.out; omega) HL'.out (by have := Hhr0.out; have := HBG1.out; omega)).mono ?_
      rintro e w2 ⟨he2, q1, rfl, hq1, hr1⟩
      have Hhr1 := Lib.hid hr1
      clear hr1
      obtain ⟨hc2, hf2⟩ := bcell he2
      (try simp only [World.heap_drewN, World.cell?_drewN, World.frozen?_drewN] at hc2 hf2)
      have hs2 := he2.size
      (try simp only [World.heap_drewN, World.size_alloc, World.size_setCell, World.size_drew] at hs2)
      have hz2_w : w.heap.size < w2.heap.size := by omega
      have hz2_w1 : w.heap.size + 1 < w2.heap.size := by omega
      have c0_0 : w2.cell? ⟨w.heap.size, 0, none⟩ = some (.slice A cs.length cap) := by go_simp
      have c0_1 : w2.cell? ⟨w.heap.size, 1, none⟩ = some (.float .f32 sp) := by go_simp
      have c0_2 : w2.cell? ⟨w.heap.size + 1, 0, none⟩ = some (.slice A' cs'.length cap') := by go_simp
      have c0_3 : w2.cell? ⟨w.heap.size + 1, 1, none⟩ = some (.float .f32 sp') := by go_simp
      have c0_z0 : w.heap.size < w2.heap.size := by omega
      have c0_z1 : w.heap.size + 1 < w2.heap.size := by omega
      have HX := Lib.hid (show Ext w w2 by (repeat first | with_reducible exact Ext.rfl' _ | with_reducible refine Ext.drewN ?_ _ | with_reducible refine Ext.drew' ?_ | with_reducible refine Ext.alloc' ?_ _ | with_reducible refine Ext.setCell_at ?_ _ _ _ (by first | exact Nat.le_refl _ | omega) | with_reducible assumption | refine Ext.trans ?_ (by with_reducible assumption)))
      clear he1 hc1 hf1 he2 hc2 hf2
      obtain ⟨PP, hP⟩ : ∃ PP, nearP cs (cn .f32 sp) cs' (cn .f32 sp') = PP := ⟨_, rfl⟩
      have HP := Lib.hid hP
      clear hP
      obtain ⟨pb, px, py, pl⟩ := PP
      go_wp2_with fail
      go_region_held3 (fun W => W.cell? ⟨w.heap.size, 0, none⟩ = some (.slice A cs.length cap) ∧ W.cell? ⟨w.heap.size, 1, none⟩ = some (.float .f32 sp) ∧ W.cell? ⟨w.heap.size + 1, 0, none⟩ = some (.slice A' cs'.length cap') ∧ W.cell? ⟨w.heap.size + 1, 1, none⟩ = some (.float .f32 sp')) (((try dsimp only); (repeat' apply And.intro) <;> (simp [*, go_sem]; done)))
        (first
          | (go_at_call 71; refine (specNear_any A1 cs.length sp A2 cs'.length sp' cs cs' _ (hv1'.vs.ext (by (repeat first | with_reducible exact Ext.rfl' _ | with_reducible refine Ext.drewN ?_ _ | with_reducible refine Ext.drew' ?_ | with_reducible refine Ext.alloc' ?_ _ | with_reducible refine Ext.setCell_at ?_ _ _ _ (by first | exact Nat.le_refl _ | omega) | with_reducible assumption | refine Ext.trans ?_ (by with_reducible assumption)))) (hv2.vs.ext (by (repeat first | with_reducible exact Ext.rfl' _ | with_reducible refine Ext.drewN ?_ _ | with_reducible refine Ext.drew' ?_ | with_reducible refine Ext.alloc' ?_ _ | with_reducible refine Ext.setCell_at ?_ _ _ _ (by first | exact Nat.le_refl _ | omega) | with_reducible assumption | refine Ext.trans ?_ (by with_reducible assumption)))) HLE.out HLE'.out).mono ?_; rintro e wd ⟨hp3, hrn⟩; obtain ⟨r3, rfl, hr3⟩ := RN.open hrn HP.out; have X3 : Ext wb wd := (by (repeat first | with_reducible exact Ext.rfl' _ | with_reducible refine Ext.drewN ?_ _ | with_reducible refine Ext.drew' ?_ | with_reducible refine Ext.alloc' ?_ _ | with_reducible refine Ext.setCell_at ?_ _ _ _ (by first | exact Nat.le_refl _ | omega) | with_reducible assumption | refine Ext.trans ?_ (by with_reducible assumption))); have E3 := Ext.trans E2 X3; obtain ⟨hpc3, hpf3⟩ := bcell E3; have hps3 : w2.heap.size ≤ wd.heap.size := E3.size; have hpz3_0 : w.heap.size < wd.heap.size := (by omega); have hpz3_1 : w.heap.size + 1 < wd.heap.size := (by omega))
          | (go_at_call 35; have hguard := hv1; refine (toThread_any A' cap' sp' cs' _ (HA'.out.ext (Ext.trans HX.out (Ext.trans E1 (by (repeat first | with_reducible exact Ext.rfl' _ | with_reducible refine Ext.drewN ?_ _ | with_reducible refine Ext.drew' ?_ | with_reducible refine Ext.alloc' ?_ _ | with_reducible refine Ext.setCell_at ?_ _ _ _ (by first | exact Nat.le_refl _ | omega) | with_reducible assumption | refine Ext.trans ?_ (by with_reducible assumption)))))) HLE'.out).mono ?_; rintro e wb ⟨hp2, A2, rfl, hv2⟩; have X2 : Ext wa wb := (by (repeat first | with_reducible exact Ext.rfl' _ | with_reducible refine Ext.drewN ?_ _ | with_reducible refine Ext.drew' ?_ | with_reducible refine Ext.alloc' ?_ _ | with_reducible refine Ext.setCell_at ?_ _ _ _ (by first | exact Nat.le_refl _ | omega) | with_reducible assumption | refine Ext.trans ?_ (by with_reducible assumption))); have E2 := Ext.trans E1 X2; have hv1' := VO.ext hv1 X2; obtain ⟨hpc2, hpf2⟩ := bcell E2; have hps2 : w2.heap.size ≤ wb.heap.size := E2.size; have hpz2_0 : w.heap.size < wb.heap.size := (by omega); have hpz2_1 : w.heap.size + 1 < wb.heap.size := (by omega))
          | (go_at_call 35; refine (toThread_any A cap sp cs _ (HA.out.ext (Ext.trans HX.out (by (repeat first | with_reducible exact Ext.rfl' _ | with_reducible refine Ext.drewN ?_ _ | with_reducible refine Ext.drew' ?_ | with_reducible refine Ext.alloc' ?_ _ | with_reducible refine Ext.setCell_at ?_ _ _ _ (by first | exact Nat.le_refl _ | omega) | with_reducible assumption | refine Ext.trans ?_ (by with_reducible assumption))))) HLE.out).mono ?_; rintro e wa ⟨hp1, A1, rfl, hv1⟩; have E1 : Ext w2 wa := (by (repeat first | with_reducible exact Ext.rfl' _ | with_reducible refine Ext.drewN ?_ _ | with_reducible refine Ext.drew' ?_ | with_reducible refine Ext.alloc' ?_ _ | with_reducible refine Ext.setCell_at ?_ _ _ _ (by first | exact Nat.le_refl _ | omega) | with_reducible assumption | refine Ext.trans ?_ (by with_reducible assumption))); obtain ⟨hpc1, hpf1⟩ := bcell E1; have hps1 : w2.heap.size ≤ wa.heap.size := E1.size; have hpz1_0 : w.heap.size < wa.heap.size := (by omega); have hpz1_1 : w.heap.size + 1 < wa.heap.size := (by omega)))
      have hstep : Ext w2 wd := E3
      have HR3 := Lib.hid (show cn .f32 r3 = pl from hr3)
      clear hp1 hp2 hp3 X2 X3 E1 E2 E3 hpc1 hpf1 hpc2 hpf2 hpc3 hpf3 hv1 hv1' hv2 hr3
      have tHX := Lib.hid (Ext.trans HX.out hstep)
      clear HX
      have HX := tHX
      clear tHX
      have c1_0_0 : wd.cell? ⟨w.heap.size, 0, none⟩ = some (.slice A cs.length cap) := (Below.cell hstep (p := ⟨w.heap.size, 0, none⟩) (by omega)).trans c0_0
      have c1_0_1 : wd.cell? ⟨w.heap.size, 1, none⟩ = some (.float .f32 sp) := (Below.cell hstep (p := ⟨w.heap.size, 1, none⟩) (by omega)).trans c0_1
      have z1_0 : w.heap.size < wd.heap.size := by have := hstep.size; omega
      have c1_1_0 : wd.cell? ⟨w.heap.size + 1, 0, none⟩ = some (.slice A' cs'.length cap') := (Below.cell hstep (p := ⟨w.heap.size + 1, 0, none⟩) (by omega)).trans c0_2
      have c1_1_1 : wd.cell? ⟨w.heap.size + 1, 1, none⟩ = some (.float .f32 sp') := (Below.cell hstep (p := ⟨w.heap.size + 1, 1, none⟩) (by omega)).trans c0_3
      have z1_1 : w.heap.size + 1 < wd.heap.size := by have := hstep.size; omega
      clear c0_0 c0_1 c0_2 c0_3
      clear hstep
      go_wp2_with fail
      refine (toThread_any A cap sp cs _ (HA.out.ext HX.out) HLE.out).mono ?_
      rintro e w4 ⟨hstep, A4, rfl, hv4⟩
      have HV4 := Lib.hid hv4
      clear hv4
      have tHX := Lib.hid (Ext.trans HX.out hstep)
      clear HX
      have HX := tHX
      clear tHX
      have c2_0_0 : w4.cell? ⟨w.heap.size, 0, none⟩ = some (.slice A cs.length cap) := (Below.cell hstep (p := ⟨w.heap.size, 0, none⟩) (by omega)).trans c1_0_0
      have c2_0_1 : w4.cell? ⟨w.heap.size, 1, none⟩ = some (.float .f32 sp) := (Below.cell hstep (p := ⟨w.heap.size, 1, none⟩) (by omega)).trans c1_0_1
      have z2_0 : w.heap.size < w4.heap.size := by have := hstep.size; omega
      have c2_1_0 : w4.cell? ⟨w.heap.size + 1, 0, none⟩ = some (.slice A' cs'.length cap') := (Below.cell hstep (p := ⟨w.heap.size + 1, 0, none⟩) (by omega)).trans c1_1_0
      have c2_1_1 : w4.cell? ⟨w.heap.size + 1, 1, none⟩ = some (.float .f32 sp') := (Below.cell hstep (p := ⟨w.heap.size + 1, 1, none⟩) (by omega)).trans c1_1_1
      have z2_1 : w.heap.size + 1 < w4.heap.size := by have := hstep.size; omega
      clear c1_0_0 c1_0_1 c1_1_0 c1_1_1
      clear hstep
      go_wp2_with fail
      have hstep : Ext w4 (w4.alloc (.cells #[.slice A4 cs.length cs.length, .float .f32 sp] 48)) := by (repeat first | with_reducible exact Ext.rfl' _ | with_reducible refine Ext.drewN ?_ _ | with_reducible refine Ext.drew' ?_ | with_reducible refine Ext.alloc' ?_ _ | with_reducible refine Ext.setCell_at ?_ _ _ _ (by first | exact Nat.le_refl _ | omega) | with_reducible assumption | refine Ext.trans ?_ (by with_reducible assumption))
      have hblk0 : Blk (w4.alloc (.cells #[.slice A4 cs.length cs.length, .float .f32 sp] 48)) (w4.heap.size) 48 #[.slice A4 cs.length cs.length, .float .f32 sp] := Blk.at_ _ _ _ _ (by simp)
      generalize w4.alloc (.cells #[.slice A4 cs.length cs.length, .float .f32 sp] 48) = W4 at *
      have tHX := Lib.hid (Ext.trans HX.out hstep)
      clear HX
      have HX := tHX
      clear tHX
      have tHV4 := Lib.hid (HV4.out.ext hstep)
      clear HV4
      have HV4 := tHV4
      clear tHV4
      have c3_0_0 : W4.cell? ⟨w.heap.size, 0, none⟩ = some (.slice A cs.length cap) := (Below.cell hstep (p := ⟨w.heap.size, 0, none⟩) (by omega)).trans c2_0_0
      have c3_0_1 : W4.cell? ⟨w.heap.size, 1, none⟩ = some (.float .f32 sp) := (Below.cell hstep (p := ⟨w.heap.size, 1, none⟩) (by omega)).trans c2_0_1
      have z3_0 : w.heap.size < W4.heap.size := by have := hstep.size; omega
      have c3_1_0 : W4.cell? ⟨w.heap.size + 1, 0, none⟩ = some (.slice A' cs'.length cap') := (Below.cell hstep (p := ⟨w.heap.size + 1, 0, none⟩) (by omega)).trans c2_1_0
      have c3_1_1 : W4.cell? ⟨w.heap.size + 1, 1, none⟩ = some (.float .f32 sp') := (Below.cell hstep (p := ⟨w.heap.size + 1, 1, none⟩) (by omega)).trans c2_1_1
      have z3_1 : w.heap.size + 1 < W4.heap.size := by have := hstep.size; omega
      clear c2_0_0 c2_0_1 c2_1_0 c2_1_1
      have d3_0_0 : W4.cell? ⟨w4.heap.size, 0, none⟩ = some (.slice A4 cs.length cs.length) := hblk0.cell 0
      have d3_0_1 : W4.cell? ⟨w4.heap.size, 1, none⟩ = some (.float .f32 sp) := hblk0.cell 1
      have zz3_0 : w4.heap.size < W4.heap.size := hblk0.lt
      clear hstep hblk0
      refine (toThread_any A' cap' sp' cs' _ (HA'.out.ext HX.out) HLE'.out).mono ?_
      rintro e w5 ⟨hstep, A5, rfl, hv5⟩
      have HV5 := Lib.hid hv5
      clear hv5
      have tHX := Lib.hid (Ext.trans HX.out hstep)
      clear HX
      have HX := tHX
      clear tHX
      have tHV4 := Lib.hid (HV4.out.ext hstep)
      clear HV4
      have HV4 := tHV4
      clear tHV4
      have c4_0_0 : w5.cell? ⟨w.heap.size, 0, none⟩ = some (.slice A cs.length cap) := (Below.cell hstep (p := ⟨w.heap.size, 0, none⟩) (by omega)).trans c3_0_0
      have c4_0_1 : w5.cell? ⟨w.heap.size, 1, none⟩ = some (.float .f32 sp) := (Below.cell hstep (p := ⟨w.heap.size, 1, none⟩) (by omega)).trans c3_0_1
      have z4_0 : w.heap.size < w5.heap.size := by have := hstep.size; omega
      have c4_1_0 : w5.cell? ⟨w.heap.size + 1, 0, none⟩ = some (.slice A' cs'.length cap') := (Below.cell hstep (p := ⟨w.heap.size + 1, 0, none⟩) (by omega)).trans c3_1_0
      have c4_1_1 : w5.cell? ⟨w.heap.size + 1, 1, none⟩ = some (.float .f32 sp') := (Below.cell hstep (p := ⟨w.heap.size + 1, 1, none⟩) (by omega)).trans c3_1_1
      have z4_1 : w.heap.size + 1 < w5.heap.size := by have := hstep.size; omega
      have c4_2_0 : w5.cell? ⟨w4.heap.size, 0, none⟩ = some (.slice A4 cs.length cs.length) := (Below.cell hstep (p := ⟨w4.heap.size, 0, none⟩) (by omega)).trans d3_0_0
      have c4_2_1 : w5.cell? ⟨w4.heap.size, 1, none⟩ = some (.float .f32 sp) := (Below.cell hstep (p := ⟨w4.heap.size, 1, none⟩) (by omega)).trans d3_0_1
      have z4_2 : w4.heap.size < w5.heap.size := by have := hstep.size; omega
      clear c3_0_0 c3_0_1 c3_1_0 c3_1_1 d3_0_0 d3_0_1
      clear hstep
      go_wp2_with fail
      have hstep : Ext w5 (w5.alloc (.cells #[.slice A5 cs'.length cs'.length, .float .f32 sp'] 48)) := by (repeat first | with_reducible exact Ext.rfl' _ | with_reducible refine Ext.drewN ?_ _ | with_reducible refine Ext.drew' ?_ | with_reducible refine Ext.alloc' ?_ _ | with_reducible refine Ext.setCell_at ?_ _ _ _ (by first | exact Nat.le_refl _ | omega) | with_reducible assumption | refine Ext.trans ?_ (by with_reducible assumption))
      have hblk0 : Blk (w5.alloc (.cells #[.slice A5 cs'.length cs'.length, .float .f32 sp'] 48)) (w5.heap.size) 48 #[.slice A5 cs'.length cs'.length, .float .f32 sp'] := Blk.at_ _ _ _ _ (by simp)
      generalize w5.alloc (.cells #[.slice A5 cs'.length cs'.length, .float .f32 sp'] 48) = W5 at *
      have tHX := Lib.hid (Ext.trans HX.out hstep)
      clear HX
      have HX := tHX
      clear tHX
      have tHV4 := Lib.hid (HV4.out.ext hstep)
      clear HV4
      have HV4 := tHV4
      clear tHV4
      have tHV5 := Lib.hid (HV5.out.ext hstep)
      clear HV5
      have HV5 := tHV5
      clear tHV5
      have c5_0_0 : W5.cell? ⟨w.heap.size, 0, none⟩ = some (.slice A cs.length cap) := (Below.cell hstep (p := ⟨w.heap.size, 0, none⟩) (by omega)).trans c4_0_0
      have c5_0_1 : W5.cell? ⟨w.heap.size, 1, none⟩ = some (.float .f32 sp) := (Below.cell hstep (p := ⟨w.heap.size, 1, none⟩) (by omega)).trans c4_0_1
      have z5_0 : w.heap.size < W5.heap.size := by have := hstep.size; omega
      have c5_1_0 : W5.cell? ⟨w.heap.size + 1, 0, none⟩ = some (.slice A' cs'.length cap') := (Below.cell hstep (p := ⟨w.heap.size + 1, 0, none⟩) (by omega)).trans c4_1_0
      have c5_1_1 : W5.cell? ⟨w.heap.size + 1, 1, none⟩ = some (.float .f32 sp') := (Below.cell hstep (p := ⟨w.heap.size + 1, 1, none⟩) (by omega)).trans c4_1_1
      have z5_1 : w.heap.size + 1 < W5.heap.size := by have := hstep.size; omega
      have c5_2_0 : W5.cell? ⟨w4.heap.size, 0, none⟩ = some (.slice A4 cs.length cs.length) := (Below.cell hstep (p := ⟨w4.heap.size, 0, none⟩) (by omega)).trans c4_2_0
      have c5_2_1 : W5.cell? ⟨w4.heap.size, 1, none⟩ = some (.float .f32 sp) := (Below.cell hstep (p := ⟨w4.heap.size, 1, none⟩) (by omega)).trans c4_2_1
      have z5_2 : w4.heap.size < W5.heap.size := by have := hstep.size; omega
      clear c4_0_0 c4_0_1 c4_1_0 c4_1_1 c4_2_0 c4_2_1
      have d5_0_0 : W5.cell? ⟨w5.heap.size, 0, none⟩ = some (.slice A5 cs'.length cs'.length) := hblk0.cell 0
      have d5_0_1 : W5.cell? ⟨w5.heap.size, 1, none⟩ = some (.float .f32 sp') := hblk0.cell 1
      have zz5_0 : w5.heap.size < W5.heap.size := hblk0.lt
      clear hstep hblk0
      have hcall := implNear_any A4 cs.length sp A5 cs'.length sp' cs cs' W5 HV4.out.vs HV5.out.vs HLE.out HLE'.out
      refine (hcall).mono ?_
      rintro e w6 ⟨hstep, hrn⟩
      obtain ⟨r6, rfl, hr6⟩ := RN.open hrn HP.out
      have HR6 := Lib.hid (show cn .f32 r6 = pl from hr6)
      clear hr6 hcall
      have tHX := Lib.hid (Ext.trans HX.out hstep)
      clear HX
      have HX := tHX
      clear tHX
      have tHV4 := Lib.hid (HV4.out.ext hstep)
      clear HV4
      have HV4 := tHV4
      clear tHV4
      have tHV5 := Lib.hid (HV5.out.ext hstep)
      clear HV5
      have HV5 := tHV5
      clear tHV5
      have c6_0_0 : w6.cell? ⟨w.heap.size, 0, none⟩ = some (.slice A cs.length cap) := (Below.cell hstep (p := ⟨w.heap.size, 0, none⟩) (by omega)).trans c5_0_0
      have c6_0_1 : w6.cell? ⟨w.heap.size, 1, none⟩ = some (.float .f32 sp) := (Below.cell hstep (p := ⟨w.heap.size, 1, none⟩) (by omega)).trans c5_0_1
      have z6_0 : w.heap.size < w6.heap.size := by have := hstep.size; omega
      have c6_1_0 : w6.cell? ⟨w.heap.size + 1, 0, none⟩ = some (.slice A' cs'.length cap') := (Below.cell hstep (p := ⟨w.heap.size + 1, 0, none⟩) (by omega)).trans c5_1_0
      have c6_1_1 : w6.cell? ⟨w.heap.size + 1, 1, none⟩ = some (.float .f32 sp') := (Below.cell hstep (p := ⟨w.heap.size + 1, 1, none⟩) (by omega)).trans c5_1_1
      have z6_1 : w.heap.size + 1 < w6.heap.size := by have := hstep.size; omega
      have c6_2_0 : w6.cell? ⟨w4.heap.size, 0, none⟩ = some (.slice A4 cs.length cs.length) := (Below.cell hstep (p := ⟨w4.heap.size, 0, none⟩) (by omega)).trans c5_2_0
      have c6_2_1 : w6.cell? ⟨w4.heap.size, 1, none⟩ = some (.float .f32 sp) := (Below.cell hstep (p := ⟨w4.heap.size, 1, none⟩) (by omega)).trans c5_2_1
      have z6_2 : w4.heap.size < w6.heap.size := by have := hstep.size; omega
      have c6_3_0 : w6.cell? ⟨w5.heap.size, 0, none⟩ = some (.slice A5 cs'.length cs'.length) := (Below.cell hstep (p := ⟨w5.heap.size, 0, none⟩) (by omega)).trans d5_0_0
      have c6_3_1 : w6.cell? ⟨w5.heap.size, 1, none⟩ = some (.float .f32 sp') := (Below.cell hstep (p := ⟨w5.heap.size, 1, none⟩) (by omega)).trans d5_0_1
      have z6_3 : w5.heap.size < w6.heap.size := by have := hstep.size; omega
      clear c5_0_0 c5_0_1 c5_1_0 c5_1_1 c5_2_0 c5_2_1 d5_0_0 d5_0_1
      clear hstep
      go_wp2_with (first
        | (refine wpList_fconv rfl 22 38 _ rfl .f32 .f64 isF32 Try.underlying38 _ rfl (fun _ => ovf_widen _) ?_; intro r1 n1 q1)
        | (go_at_call 31; refine (sameFloat_any _ _ (by unfold FR at *; simp only [*, HR3.out, HR6.out]) _).mono ?_; rintro e w7 ⟨he7, rfl⟩))
      have hstep : Ext w6 w7 := by (repeat first | with_reducible exact Ext.rfl' _ | with_reducible refine Ext.drewN ?_ _ | with_reducible refine Ext.drew' ?_ | with_reducible refine Ext.alloc' ?_ _ | with_reducible refine Ext.setCell_at ?_ _ _ _ (by first | exact Nat.le_refl _ | omega) | with_reducible assumption | refine Ext.trans ?_ (by with_reducible assumption))
      clear he7
      have tHX := Lib.hid (Ext.trans HX.out hstep)
      clear HX
      have HX := tHX
      clear tHX
      have tHV4 := Lib.hid (HV4.out.ext hstep)
      clear HV4
      have HV4 := tHV4
      clear tHV4
      have tHV5 := Lib.hid (HV5.out.ext hstep)
      clear HV5
      have HV5 := tHV5
      clear tHV5
      have c7_0_0 : w7.cell? ⟨w.heap.size, 0, none⟩ = some (.slice A cs.length cap) := (Below.cell hstep (p := ⟨w.heap.size, 0, none⟩) (by omega)).trans c6_0_0
      have c7_0_1 : w7.cell? ⟨w.heap.size, 1, none⟩ = some (.float .f32 sp) := (Below.cell hstep (p := ⟨w.heap.size, 1, none⟩) (by omega)).trans c6_0_1
      have z7_0 : w.heap.size < w7.heap.size := by have := hstep.size; omega
      have c7_1_0 : w7.cell? ⟨w.heap.size + 1, 0, none⟩ = some (.slice A' cs'.length cap') := (Below.cell hstep (p := ⟨w.heap.size + 1, 0, none⟩) (by omega)).trans c6_1_0
      have c7_1_1 : w7.cell? ⟨w.heap.size + 1, 1, none⟩ = some (.float .f32 sp') := (Below.cell hstep (p := ⟨w.heap.size + 1, 1, none⟩) (by omega)).trans c6_1_1
      have z7_1 : w.heap.size + 1 < w7.heap.size := by have := hstep.size; omega
      have c7_2_0 : w7.cell? ⟨w4.heap.size, 0, none⟩ = some (.slice A4 cs.length cs.length) := (Below.cell hstep (p := ⟨w4.heap.size, 0, none⟩) (by omega)).trans c6_2_0
      have c7_2_1 : w7.cell? ⟨w4.heap.size, 1, none⟩ = some (.float .f32 sp) := (Below.cell hstep (p := ⟨w4.heap.size, 1, none⟩) (by omega)).trans c6_2_1
      have z7_2 : w4.heap.size < w7.heap.size := by have := hstep.size; omega
      have c7_3_0 : w7.cell? ⟨w5.heap.size, 0, none⟩ = some (.slice A5 cs'.length cs'.length) := (Below.cell hstep (p := ⟨w5.heap.size, 0, none⟩) (by omega)).trans c6_3_0
      have c7_3_1 : w7.cell? ⟨w5.heap.size, 1, none⟩ = some (.float .f32 sp') := (Below.cell hstep (p := ⟨w5.heap.size, 1, none⟩) (by omega)).trans c6_3_1
      have z7_3 : w5.heap.size < w7.heap.size := by have := hstep.size; omega
      clear c6_0_0 c6_0_1 c6_1_0 c6_1_1 c6_2_0 c6_2_1 c6_3_0 c6_3_1
      clear hstep
      go_wp2_with fail
      go_region_held3 (fun W => W.cell? ⟨w.heap.size, 0, none⟩ = some (.slice A cs.length cap) ∧ W.cell? ⟨w.heap.size, 1, none⟩ = some (.float .f32 sp) ∧ W.cell? ⟨w4.heap.size, 0, none⟩ = some (.slice A4 cs.length cs.length) ∧ W.cell? ⟨w4.heap.size, 1, none⟩ = some (.float .f32 sp)) (((try dsimp only); (repeat' apply And.intro) <;> (simp [*, go_sem]; done)))
        (first
          | (go_at_call 37; refine (eqThread_any _ _ _ _ _ _ cs _ (HV4.out.vs.ext (Ext.trans (Ext.drew' (Ext.rfl' _)) hp1)) hpv.vs rfl HLE.out).mono ?_; rintro e w9 ⟨hp2, rfl⟩; obtain ⟨hpc2, hpf2⟩ := bcell hp2; have hpsp2 : w8.heap.size ≤ w9.heap.size := hp2.size; have hpzp2_0 : w.heap.size < w9.heap.size := (by omega); have hpzp2_1 : w4.heap.size < w9.heap.size := (by omega))
          | (go_at_call 35; refine (toThread_any A cap sp cs _ (HA.out.ext (Ext.trans HX.out (Ext.drew' (Ext.rfl' _)))) HLE.out).mono ?_; rintro e w8 ⟨hp1, A8, rfl, hpv⟩; (have hpp := bcellD hp1; obtain ⟨hpc, hpf⟩ := hpp); have hpsp1 : w7.heap.size ≤ w8.heap.size := hp1.size; have hpzp1_0 : w.heap.size < w8.heap.size := (by omega); have hpzp1_1 : w4.heap.size < w8.heap.size := (by omega)))
      have hstep : Ext w7 w9 := Ext.trans (Ext.trans (Ext.drew' (Ext.rfl' w7)) hp1) hp2
      clear hp2 hpc hpf hpc2 hpf2 hpv
      have tHX := Lib.hid (Ext.trans HX.out hstep)
      clear HX
      have HX := tHX
      clear tHX
      have tHV4 := Lib.hid (HV4.out.ext hstep)
      clear HV4
      have HV4 := tHV4
      clear tHV4
      have tHV5 := Lib.hid (HV5.out.ext hstep)
      clear HV5
      have HV5 := tHV5
      clear tHV5
      have c8_0_0 : w9.cell? ⟨w.heap.size, 0, none⟩ = some (.slice A cs.length cap) := (Below.cell hstep (p := ⟨w.heap.size, 0, none⟩) (by omega)).trans c7_0_0
      have c8_0_1 : w9.cell? ⟨w.heap.size, 1, none⟩ = some (.float .f32 sp) := (Below.cell hstep (p := ⟨w.heap.size, 1, none⟩) (by omega)).trans c7_0_1
      have z8_0 : w.heap.size < w9.heap.size := by have := hstep.size; omega
      have c8_1_0 : w9.cell? ⟨w.heap.size + 1, 0, none⟩ = some (.slice A' cs'.length cap') := (Below.cell hstep (p := ⟨w.heap.size + 1, 0, none⟩) (by omega)).trans c7_1_0
      have c8_1_1 : w9.cell? ⟨w.heap.size + 1, 1, none⟩ = some (.float .f32 sp') := (Below.cell hstep (p := ⟨w.heap.size + 1, 1, none⟩) (by omega)).trans c7_1_1
      have z8_1 : w.heap.size + 1 < w9.heap.size := by have := hstep.size; omega
      have c8_2_0 : w9.cell? ⟨w4.heap.size, 0, none⟩ = some (.slice A4 cs.length cs.length) := (Below.cell hstep (p := ⟨w4.heap.size, 0, none⟩) (by omega)).trans c7_2_0
      have c8_2_1 : w9.cell? ⟨w4.heap.size, 1, none⟩ = some (.float .f32 sp) := (Below.cell hstep (p := ⟨w4.heap.size, 1, none⟩) (by omega)).trans c7_2_1
      have z8_2 : w4.heap.size < w9.heap.size := by have := hstep.size; omega
      have c8_3_0 : w9.cell? ⟨w5.heap.size, 0, none⟩ = some (.slice A5 cs'.length cs'.length) := (Below.cell hstep (p := ⟨w5.heap.size, 0, none⟩) (by omega)).trans c7_3_0
      have c8_3_1 : w9.cell? ⟨w5.heap.size, 1, none⟩ = some (.float .f32 sp') := (Below.cell hstep (p := ⟨w5.heap.size, 1, none⟩) (by omega)).trans c7_3_1
      have z8_3 : w5.heap.size < w9.heap.size := by have := hstep.size; omega
      clear c7_0_0 c7_0_1 c7_1_0 c7_1_1 c7_2_0 c7_2_1 c7_3_0 c7_3_1
      clear hstep hp1
      go_wp2_with fail
      go_region_held3 (fun W => W.cell? ⟨w.heap.size + 1, 0, none⟩ = some (.slice A' cs'.length cap') ∧ W.cell? ⟨w.heap.size + 1, 1, none⟩ = some (.float .f32 sp') ∧ W.cell? ⟨w5.heap.size, 0, none⟩ = some (.slice A5 cs'.length cs'.length) ∧ W.cell? ⟨w5.heap.size, 1, none⟩ = some (.float .f32 sp')) (((try dsimp only); (repeat' apply And.intro) <;> (simp [*, go_sem]; done)))
        (first
          | (go_at_call 37; refine (eqThread_any _ _ _ _ _ _ cs' _ (HV5.out.vs.ext (Ext.trans (Ext.drew' (Ext.rfl' _)) hp1)) hpv.vs rfl HLE'.out).mono ?_; rintro e wp9 ⟨hp2, rfl⟩; obtain ⟨hpc2, hpf2⟩ := bcell hp2; have hpsp2 : wp8.heap.size ≤ wp9.heap.size := hp2.size; have hpzp2_0 : w.heap.size + 1 < wp9.heap.size := (by omega); have hpzp2_1 : w5.heap.size < wp9.heap.size := (by omega))
          | (go_at_call 35; refine (toThread_any A' cap' sp' cs' _ (HA'.out.ext (Ext.trans HX.out (Ext.drew' (Ext.rfl' _)))) HLE'.out).mono ?_; rintro e wp8 ⟨hp1, A8, rfl, hpv⟩; (have hpp := bcellD hp1; obtain ⟨hpc, hpf⟩ := hpp); have hpsp1 : w9.heap.size ≤ wp8.heap.size := hp1.size; have hpzp1_0 : w.heap.size + 1 < wp8.heap.size := (by omega); have hpzp1_1 : w5.heap.size < wp8.heap.size := (by omega)))
      have hstep : Ext w9 wp9 := Ext.trans (Ext.trans (Ext.drew' (Ext.rfl' w9)) hp1) hp2
      clear hp2 hpc hpf hpc2 hpf2 hpv
      have tHX := Lib.hid (Ext.trans HX.out hstep)
      clear HX
      have HX := tHX
      clear tHX
      have tHV4 := Lib.hid (HV4.out.ext hstep)
      clear HV4
      have HV4 := tHV4
      clear tHV4
      have tHV5 := Lib.hid (HV5.out.ext hstep)
      clear HV5
      have HV5 := tHV5
      clear tHV5
      have c9_0_0 : wp9.cell? ⟨w.heap.size, 0, none⟩ = some (.slice A cs.length cap) := (Below.cell hstep (p := ⟨w.heap.size, 0, none⟩) (by omega)).trans c8_0_0
      have c9_0_1 : wp9.cell? ⟨w.heap.size, 1, none⟩ = some (.float .f32 sp) := (Below.cell hstep (p := ⟨w.heap.size, 1, none⟩) (by omega)).trans c8_0_1
      have z9_0 : w.heap.size < wp9.heap.size := by have := hstep.size; omega
      have c9_1_0 : wp9.cell? ⟨w.heap.size + 1, 0, none⟩ = some (.slice A' cs'.length cap') := (Below.cell hstep (p := ⟨w.heap.size + 1, 0, none⟩) (by omega)).trans c8_1_0
      have c9_1_1 : wp9.cell? ⟨w.heap.size + 1, 1, none⟩ = some (.float .f32 sp') := (Below.cell hstep (p := ⟨w.heap.size + 1, 1, none⟩) (by omega)).trans c8_1_1
      have z9_1 : w.heap.size + 1 < wp9.heap.size := by have := hstep.size; omega
      have c9_2_0 : wp9.cell? ⟨w4.heap.size, 0, none⟩ = some (.slice A4 cs.length cs.length) := (Below.cell hstep (p := ⟨w4.heap.size, 0, none⟩) (by omega)).trans c8_2_0
      have c9_2_1 : wp9.cell? ⟨w4.heap.size, 1, none⟩ = some (.float .f32 sp) := (Below.cell hstep (p := ⟨w4.heap.size, 1, none⟩) (by omega)).trans c8_2_1
      have z9_2 : w4.heap.size < wp9.heap.size := by have := hstep.size; omega
      have c9_3_0 : wp9.cell? ⟨w5.heap.size, 0, none⟩ = some (.slice A5 cs'.length cs'.length) := (Below.cell hstep (p := ⟨w5.heap.size, 0, none⟩) (by omega)).trans c8_3_0
      have c9_3_1 : wp9.cell? ⟨w5.heap.size, 1, none⟩ = some (.float .f32 sp') := (Below.cell hstep (p := ⟨w5.heap.size, 1, none⟩) (by omega)).trans c8_3_1
      have z9_3 : w5.heap.size < wp9.heap.size := by have := hstep.size; omega
      clear c8_0_0 c8_0_1 c8_1_0 c8_1_1 c8_2_0 c8_2_1 c8_3_0 c8_3_1
      clear hstep hp1
      go_wp2_with fail
      go_ret
      exact ⟨HX.out, rfl⟩
end Go.Proofs.Ytbaohbpfnlicpaa
