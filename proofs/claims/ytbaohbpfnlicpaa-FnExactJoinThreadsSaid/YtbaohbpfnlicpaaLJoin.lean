/- The law FnExactJoinThreads: for all arguments it answers true, and changes nothing that was there. -/
import Derived.Test.YtbaohbpfnlicpaaJ3
import Derived.Test.YtbaohbpfnlicpaaSh2
import Derived.Deep.RegionHeld3
import Derived.Deep.DeepCutAuto
namespace Go.Proofs.Ytbaohbpfnlicpaa
open Go Go.RowKit
set_option linter.unusedVariables false
set_option linter.unusedSimpArgs false
attribute [local go_sem] run_store_float

set_option maxRecDepth 100000 in
set_option maxHeartbeats 3200000 in
theorem lawJoin (A : Option Addr) (cap sp : Nat) (cs : List V3) (A' : Option Addr) (cap' sp' : Nat) (cs' : List V3) (i : Int) (k : Int) (w : World) (hA : VS w A cs) (hl : cs.length ≤ 9223372036854775807) (hA' : VS w A' cs') (hl' : cs'.length ≤ 9223372036854775807) (hbi : -9223372036854775808 ≤ i ∧ i ≤ 9223372036854775807) (hbk : -9223372036854775808 ≤ k ∧ k ≤ 9223372036854775807) :
    Calls Try.prog 16 #[.agg #[.slice A cs.length cap, .float .f32 sp], .agg #[.slice A' cs'.length cap', .float .f32 sp'], .int .i64 i, .int .i64 k] w fun e w' => Ext w w' ∧ e = .returned (.bool true) := by
  have HA := Lib.hid hA
  have HL := Lib.hid hl
  have HA' := Lib.hid hA'
  have HL' := Lib.hid hl'
  have HBi := Lib.hid hbi
  have HBk := Lib.hid hbk
  clear hA hl hA' hl' hbi hbk
  by_cases hbig : (1048576 : Int) - cs.length < 0
  · have HB := Lib.hid hbig
    clear hbig
    go_enter Try.func16, Try.ntmps16
    go_wp2_with fail
    refine (szThread_big _ _ _ _ _ _ (by omega) (by omega) HL.out (by have := HB.out; omega)).mono ?_
    rintro e w1 ⟨he1, rfl⟩
    go_wp2_with fail
    go_ret
    refine ⟨?_, rfl⟩
    (repeat first | with_reducible exact Ext.rfl' _ | with_reducible refine Ext.drewN ?_ _ | with_reducible refine Ext.drew' ?_ | with_reducible refine Ext.alloc' ?_ _ | with_reducible refine Ext.setCell_at ?_ _ _ _ (by first | exact Nat.le_refl _ | omega) | with_reducible assumption | refine Ext.trans ?_ (by with_reducible assumption))
  · have HBG0 := Lib.hid hbig
    have HLE := Lib.hid (show cs.length ≤ 1048576 by omega)
    clear hbig
    by_cases hbig : (1048576 : Int) - cs.length - cs'.length < 0
    · have HB := Lib.hid hbig
      clear hbig
      go_enter Try.func16, Try.ntmps16
      go_wp2_with fail
      refine (szThread_ok _ _ _ _ _ _ (by omega) (by omega) HL.out (by have := HBG0.out; omega)).mono ?_
      rintro e w1 ⟨he1, q0, rfl, hq0, hr0⟩
      have Hhr0 := Lib.hid hr0
      clear hr0
      obtain ⟨hc1, hf1⟩ := bcell he1
      (try simp only [World.heap_drewN, World.cell?_drewN, World.frozen?_drewN] at hc1 hf1)
      have hs1 := he1.size
      (try simp only [World.heap_drewN, World.size_alloc, World.size_setCell, World.size_drew] at hs1)
      have hz1_w : w.heap.size < w1.heap.size := by omega
      have hz1_w1 : w.heap.size + 1 < w1.heap.size := by omega
      go_wp2_with fail
      refine (szThread_big _ _ _ _ _ _ (by omega) (by have := Hhr0.out; omega) HL'.out (by have := Hhr0.out; have := HB.out; omega)).mono ?_
      rintro e w2 ⟨he2, rfl⟩
      go_wp2_with fail
      go_ret
      refine ⟨?_, rfl⟩
      (repeat first | with_reducible exact Ext.rfl' _ | with_reducible refine Ext.drewN ?_ _ | with_reducible refine Ext.drew' ?_ | with_reducible refine Ext.alloc' ?_ _ | with_reducible refine Ext.setCell_at ?_ _ _ _ (by first | exact Nat.le_refl _ | omega) | with_reducible assumption | refine Ext.trans ?_ (by with_reducible assumption))
    · have HBG1 := Lib.hid hbig
      have HLE' := Lib.hid (show cs'.length ≤ 1048576 by omega)
      clear hbig
      go_enter Try.func16, Try.ntmps16
      go_wp2_with fail
      refine (szThread_ok _ _ _ _ _ _ (by omega) (by omega) HL.out (by have := HBG0.out; omega)).mono ?_
      rintro e w1 ⟨he1, q0, rfl, hq0, hr0⟩
      have Hhr0 := Lib.hid hr0
      clear hr0
      obtain ⟨hc1, hf1⟩ := bcell he1
      (try simp only [World.heap_drewN, World.cell?_drewN, World.frozen?_drewN] at hc1 hf1)
      have hs1 := he1.size
      (try simp only [World.heap_drewN, World.size_alloc, World.size_setCell, World.size_drew] at hs1)
      have hz1_w : w.heap.size < w1.heap.size := by omega
      have hz1_w1 : w.heap.size + 1 < w1.heap.size := by omega
      go_wp2_with fail
      refine (szThread_ok _ _ _ _ _ _ (by omega) (by have := Hhr0.out; omega) HL'.out (by have := Hhr0.out; have := HBG1.out; omega)).mono ?_
      rintro e w2 ⟨he2, q1, rfl, hq1, hr1⟩
      have Hhr1 := Lib.hid hr1
      clear hr1
      obtain ⟨hc2, hf2⟩ := bcell he2
      (try simp only [World.heap_drewN, World.cell?_drewN, World.frozen?_drewN] at hc2 hf2)
      have hs2 := he2.size
      (try simp only [World.heap_drewN, World.size_alloc, World.size_setCell, World.size_drew] at hs2)
      have hz2_w : w.heap.size < w2.heap.size := by omega
      have hz2_w1 : w.heap.size + 1 < w2.heap.size := by omega
      obtain ⟨pb, ds, ps, hP⟩ : ∃ pb ds ps, joinP i k cs (cn .f32 sp) cs' (cn .f32 sp') = (pb, ds, ps) := ⟨_, _, _, rfl⟩
      have hPl : ds.length ≤ 1048576 := by
        have : (joinP i k cs (cn .f32 sp) cs' (cn .f32 sp')).2.1.length ≤ 1048576 := joinP_len _ _ _ _ _ _ HLE.out HLE'.out
        rw [hP] at this
        exact this
      have HP := Lib.hid hP
      have HDL := Lib.hid hPl
      clear hPl hP
      have c0_0 : w2.cell? ⟨w.heap.size, 0, none⟩ = some (.slice A cs.length cap) := by go_simp
      have c0_1 : w2.cell? ⟨w.heap.size, 1, none⟩ = some (.float .f32 sp) := by go_simp
      have c0_2 : w2.cell? ⟨w.heap.size + 1, 0, none⟩ = some (.slice A' cs'.length cap') := by go_simp
      have c0_3 : w2.cell? ⟨w.heap.size + 1, 1, none⟩ = some (.float .f32 sp') := by go_simp
      have c0_z0 : w.heap.size < w2.heap.size := by omega
      have c0_z1 : w.heap.size + 1 < w2.heap.size := by omega
      have HX := Lib.hid (show Ext w w2 by (repeat first | with_reducible exact Ext.rfl' _ | with_reducible refine Ext.drewN ?_ _ | with_reducible refine Ext.drew' ?_ | with_reducible refine Ext.alloc' ?_ _ | with_reducible refine Ext.setCell_at ?_ _ _ _ (by first | exact Nat.le_refl _ | omega) | with_reducible assumption | refine Ext.trans ?_ (by with_reducible assumption)))
      clear he1 hc1 hf1 he2 hc2 hf2
      go_upto_region 8 with fail
      go_cut [10, 11] (fun p b wx => ∃ (g : Nat) (A0 : Option Addr) (cap0 s0 : Nat), p = .pointer (some ⟨g, 0, none⟩) ∧ b = .bool pb ∧ Laid w2 wx g A0 ds cap0 s0 ∧ cn .f32 s0 = ps)
      case first =>
        go_region_held3 (fun W => W.cell? ⟨w.heap.size, 0, none⟩ = some (.slice A cs.length cap) ∧ W.cell? ⟨w.heap.size, 1, none⟩ = some (.float .f32 sp) ∧ W.cell? ⟨w.heap.size + 1, 0, none⟩ = some (.slice A' cs'.length cap') ∧ W.cell? ⟨w.heap.size + 1, 1, none⟩ = some (.float .f32 sp')) (((try dsimp only); (repeat' apply And.intro) <;> (simp [*, go_sem]; done)))
          (first
            | (go_at_call 67; refine (specJoin_any _ _ _ _ _ _ i k cs cs' _ (hv__0.vs.ext (by (repeat first | with_reducible exact Ext.rfl' _ | with_reducible refine Ext.drewN ?_ _ | with_reducible refine Ext.drew' ?_ | with_reducible refine Ext.alloc' ?_ _ | with_reducible refine Ext.setCell_at ?_ _ _ _ (by first | exact Nat.le_refl _ | omega) | with_reducible assumption | refine Ext.trans ?_ (by with_reducible assumption)))) (hv_1.vs.ext (by (repeat first | with_reducible exact Ext.rfl' _ | with_reducible refine Ext.drewN ?_ _ | with_reducible refine Ext.drew' ?_ | with_reducible refine Ext.alloc' ?_ _ | with_reducible refine Ext.setCell_at ?_ _ _ _ (by first | exact Nat.le_refl _ | omega) | with_reducible assumption | refine Ext.trans ?_ (by with_reducible assumption)))) HLE.out HLE'.out (Nat.le_refl _) (Nat.le_refl _)).mono ?_; rintro e v2 ⟨he_2, hrt⟩; obtain ⟨A0, cap0, s0, rfl, hv_2, hs0⟩ := RT.three hrt HP.out; have X_2 : Ext v1 v2 := (by (repeat first | with_reducible exact Ext.rfl' _ | with_reducible refine Ext.drewN ?_ _ | with_reducible refine Ext.drew' ?_ | with_reducible refine Ext.alloc' ?_ _ | with_reducible refine Ext.setCell_at ?_ _ _ _ (by first | exact Nat.le_refl _ | omega) | with_reducible assumption | refine Ext.trans ?_ (by with_reducible assumption))); have E_2 := Ext.trans E_1 X_2; obtain ⟨hc_2, hf_2⟩ := bcell E_2; have hs_2 : w2.heap.size ≤ v2.heap.size := E_2.size; have hz_2_0 : w.heap.size < v2.heap.size := (by omega); have hz_2_1 : w.heap.size + 1 < v2.heap.size := (by omega); (try ((first | have B_2 := Blk.ext B_1 he_2 | have B_2 := Blk.ext (Blk.at_drew _ 48 #[.slice none 0 0, .float .f32 0] _ rfl) he_2 | have B_2 := Blk.ext (Blk.at_ _ 48 #[.slice none 0 0, .float .f32 0] _ rfl) he_2); have r0 : v2.cell? ⟨_, 0, none⟩ = some (.slice none 0 0) := B_2.cell 0; have r1 : v2.cell? ⟨_, 1, none⟩ = some (.float .f32 0) := B_2.cell 1; have rf0 := B_2.frozen 0; have rf1 := B_2.frozen 1)))
            | (go_at_call 35; have hguard := hv_0; refine (toThread_any A' cap' sp' cs' _ (HA'.out.ext (Ext.trans HX.out (by (repeat first | with_reducible exact Ext.rfl' _ | with_reducible refine Ext.drewN ?_ _ | with_reducible refine Ext.drew' ?_ | with_reducible refine Ext.alloc' ?_ _ | with_reducible refine Ext.setCell_at ?_ _ _ _ (by first | exact Nat.le_refl _ | omega) | with_reducible assumption | refine Ext.trans ?_ (by with_reducible assumption))))) HLE'.out).mono ?_; rintro e v1 ⟨he_1, A_1, rfl, hv_1⟩; have X_1 : Ext v0 v1 := (by (repeat first | with_reducible exact Ext.rfl' _ | with_reducible refine Ext.drewN ?_ _ | with_reducible refine Ext.drew' ?_ | with_reducible refine Ext.alloc' ?_ _ | with_reducible refine Ext.setCell_at ?_ _ _ _ (by first | exact Nat.le_refl _ | omega) | with_reducible assumption | refine Ext.trans ?_ (by with_reducible assumption))); have E_1 := Ext.trans E_0 X_1; have hv__0 := VO.ext hv_0 X_1; obtain ⟨hc_1, hf_1⟩ := bcell E_1; have hs_1 : w2.heap.size ≤ v1.heap.size := E_1.size; have hz_1_0 : w.heap.size < v1.heap.size := (by omega); have hz_1_1 : w.heap.size + 1 < v1.heap.size := (by omega); (try (first | have B_1 := Blk.ext B_0 he_1 | have B_1 := Blk.ext (Blk.at_drew _ 48 #[.slice none 0 0, .float .f32 0] _ rfl) he_1 | have B_1 := Blk.ext (Blk.at_ _ 48 #[.slice none 0 0, .float .f32 0] _ rfl) he_1)))
            | (go_at_call 35; refine (toThread_any A cap sp cs _ (HA.out.ext (Ext.trans HX.out (by (repeat first | with_reducible exact Ext.rfl' _ | with_reducible refine Ext.drewN ?_ _ | with_reducible refine Ext.drew' ?_ | with_reducible refine Ext.alloc' ?_ _ | with_reducible refine Ext.setCell_at ?_ _ _ _ (by first | exact Nat.le_refl _ | omega) | with_reducible assumption | refine Ext.trans ?_ (by with_reducible assumption))))) HLE.out).mono ?_; rintro e v0 ⟨he_0, A_0, rfl, hv_0⟩; have E_0 : Ext w2 v0 := (by (repeat first | with_reducible exact Ext.rfl' _ | with_reducible refine Ext.drewN ?_ _ | with_reducible refine Ext.drew' ?_ | with_reducible refine Ext.alloc' ?_ _ | with_reducible refine Ext.setCell_at ?_ _ _ _ (by first | exact Nat.le_refl _ | omega) | with_reducible assumption | refine Ext.trans ?_ (by with_reducible assumption))); obtain ⟨hc_0, hf_0⟩ := bcell E_0; have hs_0 : w2.heap.size ≤ v0.heap.size := E_0.size; have hz_0_0 : w.heap.size < v0.heap.size := (by omega); have hz_0_1 : w.heap.size + 1 < v0.heap.size := (by omega); (try (first | have B_0 := Blk.ext (Blk.at_drew _ 48 #[.slice none 0 0, .float .f32 0] _ rfl) he_0 | have B_0 := Blk.ext (Blk.at_ _ 48 #[.slice none 0 0, .float .f32 0] _ rfl) he_0))))
        all_goals
          go_wp2_with fail
          go_meet
          refine ⟨_, A0, cap0, s0, rfl, rfl, ?_, hs0⟩
          first
            | exact Laid.new E_2 hv_2 (by (try simp only [World.size_alloc, World.size_drew]); omega) cap0 s0 _
            | exact Laid.set E_2 hv_2 (by (try simp only [World.size_alloc, World.size_drew]); omega) B_2 (by (try simp only [World.size_alloc, World.size_drew]); omega) (by (try have := B_1.lt); (try simp only [World.size_alloc, World.size_drew]); omega) cap0 s0
      case rest =>
        obtain ⟨gS, AS, capS, sS, rfl, rfl, hlaid, hsS⟩ := hcut
        obtain ⟨hl1, hl2, hl3, hl4, hl5, hl6, hl7⟩ := hlaid
        rename World => wS
        have HVS := Lib.hid hl6
        have HSS := Lib.hid hsS
        have HXS := Lib.hid (Ext.trans HX.out hl5)
        have hgS : gS < wS.heap.size := hl2
        obtain ⟨hcc, hff⟩ := bcell hl5
        have c1_s : w2.heap.size ≤ wS.heap.size := hl5.size
        have c1_0 : wS.cell? ⟨w.heap.size, 0, none⟩ = some (.slice A cs.length cap) := (hcc _ _ c0_z0).trans c0_0
        have c1_1 : wS.cell? ⟨w.heap.size, 1, none⟩ = some (.float .f32 sp) := (hcc _ _ c0_z0).trans c0_1
        have c1_2 : wS.cell? ⟨w.heap.size + 1, 0, none⟩ = some (.slice A' cs'.length cap') := (hcc _ _ c0_z1).trans c0_2
        have c1_3 : wS.cell? ⟨w.heap.size + 1, 1, none⟩ = some (.float .f32 sp') := (hcc _ _ c0_z1).trans c0_3
        have c1_z0 : w.heap.size < wS.heap.size := Nat.lt_of_lt_of_le c0_z0 c1_s
        have c1_z1 : w.heap.size + 1 < wS.heap.size := Nat.lt_of_lt_of_le c0_z1 c1_s
        clear hcc hff c0_0 c0_1 c0_2 c0_3 c0_z0 c0_z1 
        have c1_4 : wS.cell? ⟨gS, 0, none⟩ = some (.slice AS ds.length capS) := hl3
        have c1_5 : wS.cell? ⟨gS, 1, none⟩ = some (.float .f32 sS) := hl4
        have c1_z2 : gS < wS.heap.size := hl2
        clear hl3 hl4 hl2 hl6 hl7 hsS hl5
        have HW := Lib.hid (Ext.rfl' wS)
        go_wp2_with fail
        refine (toThread_any A cap sp cs _ (HA.out.ext HXS.out) HLE.out).mono ?_
        rintro e wx0 ⟨hx, X0, rfl, hvx⟩
        have HVX0 := Lib.hid hvx
        have HX00 := Lib.hid hvx
        have HXt := Lib.hid (Ext.trans HXS.out hx)
        have HWt := Lib.hid (Ext.trans HW.out hx)
        obtain ⟨hcc, hff⟩ := bcell hx
        have c2_s : wS.heap.size ≤ wx0.heap.size := hx.size
        have c2_0 : wx0.cell? ⟨w.heap.size, 0, none⟩ = some (.slice A cs.length cap) := (hcc _ _ c1_z0).trans c1_0
        have c2_1 : wx0.cell? ⟨w.heap.size, 1, none⟩ = some (.float .f32 sp) := (hcc _ _ c1_z0).trans c1_1
        have c2_2 : wx0.cell? ⟨w.heap.size + 1, 0, none⟩ = some (.slice A' cs'.length cap') := (hcc _ _ c1_z1).trans c1_2
        have c2_3 : wx0.cell? ⟨w.heap.size + 1, 1, none⟩ = some (.float .f32 sp') := (hcc _ _ c1_z1).trans c1_3
        have c2_4 : wx0.cell? ⟨gS, 0, none⟩ = some (.slice AS ds.length capS) := (hcc _ _ c1_z2).trans c1_4
        have c2_5 : wx0.cell? ⟨gS, 1, none⟩ = some (.float .f32 sS) := (hcc _ _ c1_z2).trans c1_5
        have c2_z0 : w.heap.size < wx0.heap.size := Nat.lt_of_lt_of_le c1_z0 c2_s
        have c2_z1 : w.heap.size + 1 < wx0.heap.size := Nat.lt_of_lt_of_le c1_z1 c2_s
        have c2_z2 : gS < wx0.heap.size := Nat.lt_of_lt_of_le c1_z2 c2_s
        clear hcc hff c1_0 c1_1 c1_2 c1_3 c1_4 c1_5 c1_z0 c1_z1 c1_z2 hvx HXS HW 
        clear hx
        have HXS := HXt
        have HW := HWt
        clear HXt HWt
        go_upto_region 10 with fail
        have hy : Ext wx0 (wx0.alloc (.cells #[.slice X0 cs.length cs.length, .float .f32 sp] 48)) := by (repeat first | with_reducible exact Ext.rfl' _ | with_reducible refine Ext.drewN ?_ _ | with_reducible refine Ext.drew' ?_ | with_reducible refine Ext.alloc' ?_ _ | with_reducible refine Ext.setCell_at ?_ _ _ _ (by first | exact Nat.le_refl _ | omega) | with_reducible assumption | refine Ext.trans ?_ (by with_reducible assumption))
        have hyb := Blk.at_ wx0 48 #[.slice X0 cs.length cs.length, .float .f32 sp] _ rfl
        have hya := hyb.cell 0
        have hyc := hyb.cell 1
        have hyz := hyb.lt
        clear hyb
        generalize wx0.alloc (.cells #[.slice X0 cs.length cs.length, .float .f32 sp] 48) = wy0 at *
        have hyx : Ext wx0 wy0 := hy
        have HXt := Lib.hid (Ext.trans HXS.out hyx)
        have HWt := Lib.hid (Ext.trans HW.out hyx)
        have HVXt0 := Lib.hid (HVX0.out.ext hyx)
        obtain ⟨hcc, hff⟩ := bcell hyx
        have c3_s : wx0.heap.size ≤ wy0.heap.size := hyx.size
        have c3_0 : wy0.cell? ⟨w.heap.size, 0, none⟩ = some (.slice A cs.length cap) := (hcc _ _ c2_z0).trans c2_0
        have c3_1 : wy0.cell? ⟨w.heap.size, 1, none⟩ = some (.float .f32 sp) := (hcc _ _ c2_z0).trans c2_1
        have c3_2 : wy0.cell? ⟨w.heap.size + 1, 0, none⟩ = some (.slice A' cs'.length cap') := (hcc _ _ c2_z1).trans c2_2
        have c3_3 : wy0.cell? ⟨w.heap.size + 1, 1, none⟩ = some (.float .f32 sp') := (hcc _ _ c2_z1).trans c2_3
        have c3_4 : wy0.cell? ⟨gS, 0, none⟩ = some (.slice AS ds.length capS) := (hcc _ _ c2_z2).trans c2_4
        have c3_5 : wy0.cell? ⟨gS, 1, none⟩ = some (.float .f32 sS) := (hcc _ _ c2_z2).trans c2_5
        have c3_z0 : w.heap.size < wy0.heap.size := Nat.lt_of_lt_of_le c2_z0 c3_s
        have c3_z1 : w.heap.size + 1 < wy0.heap.size := Nat.lt_of_lt_of_le c2_z1 c3_s
        have c3_z2 : gS < wy0.heap.size := Nat.lt_of_lt_of_le c2_z2 c3_s
        clear hcc hff c2_0 c2_1 c2_2 c2_3 c2_4 c2_5 c2_z0 c2_z1 c2_z2 HXS HW HVX0
        clear hyx hy
        have HXS := HXt
        have HW := HWt
        clear HXt HWt
        have HVX0 := HVXt0
        clear HVXt0
        have c3_6 : wy0.cell? ⟨wx0.heap.size, 0, none⟩ = some (.slice X0 cs.length cs.length) := hya
        have c3_7 : wy0.cell? ⟨wx0.heap.size, 1, none⟩ = some (.float .f32 sp) := hyc
        have c3_z3 : wx0.heap.size < wy0.heap.size := hyz
        clear hya hyc hyz
        go_wp2_with fail
        refine (toThread_any A' cap' sp' cs' _ (HA'.out.ext HXS.out) HLE'.out).mono ?_
        rintro e wx1 ⟨hx, X1, rfl, hvx⟩
        have HVX1 := Lib.hid hvx
        have HX01 := Lib.hid hvx
        have HXt := Lib.hid (Ext.trans HXS.out hx)
        have HWt := Lib.hid (Ext.trans HW.out hx)
        have HVXt0 := Lib.hid (HVX0.out.ext hx)
        obtain ⟨hcc, hff⟩ := bcell hx
        have c4_s : wy0.heap.size ≤ wx1.heap.size := hx.size
        have c4_0 : wx1.cell? ⟨w.heap.size, 0, none⟩ = some (.slice A cs.length cap) := (hcc _ _ c3_z0).trans c3_0
        have c4_1 : wx1.cell? ⟨w.heap.size, 1, none⟩ = some (.float .f32 sp) := (hcc _ _ c3_z0).trans c3_1
        have c4_2 : wx1.cell? ⟨w.heap.size + 1, 0, none⟩ = some (.slice A' cs'.length cap') := (hcc _ _ c3_z1).trans c3_2
        have c4_3 : wx1.cell? ⟨w.heap.size + 1, 1, none⟩ = some (.float .f32 sp') := (hcc _ _ c3_z1).trans c3_3
        have c4_4 : wx1.cell? ⟨gS, 0, none⟩ = some (.slice AS ds.length capS) := (hcc _ _ c3_z2).trans c3_4
        have c4_5 : wx1.cell? ⟨gS, 1, none⟩ = some (.float .f32 sS) := (hcc _ _ c3_z2).trans c3_5
        have c4_6 : wx1.cell? ⟨wx0.heap.size, 0, none⟩ = some (.slice X0 cs.length cs.length) := (hcc _ _ c3_z3).trans c3_6
        have c4_7 : wx1.cell? ⟨wx0.heap.size, 1, none⟩ = some (.float .f32 sp) := (hcc _ _ c3_z3).trans c3_7
        have c4_z0 : w.heap.size < wx1.heap.size := Nat.lt_of_lt_of_le c3_z0 c4_s
        have c4_z1 : w.heap.size + 1 < wx1.heap.size := Nat.lt_of_lt_of_le c3_z1 c4_s
        have c4_z2 : gS < wx1.heap.size := Nat.lt_of_lt_of_le c3_z2 c4_s
        have c4_z3 : wx0.heap.size < wx1.heap.size := Nat.lt_of_lt_of_le c3_z3 c4_s
        clear hcc hff c3_0 c3_1 c3_2 c3_3 c3_4 c3_5 c3_6 c3_7 c3_z0 c3_z1 c3_z2 c3_z3 hvx HXS HW HVX0
        clear hx
        have HXS := HXt
        have HW := HWt
        clear HXt HWt
        have HVX0 := HVXt0
        clear HVXt0
        go_upto_region 11 with fail
        have hy : Ext wx1 (wx1.alloc (.cells #[.slice X1 cs'.length cs'.length, .float .f32 sp'] 48)) := by (repeat first | with_reducible exact Ext.rfl' _ | with_reducible refine Ext.drewN ?_ _ | with_reducible refine Ext.drew' ?_ | with_reducible refine Ext.alloc' ?_ _ | with_reducible refine Ext.setCell_at ?_ _ _ _ (by first | exact Nat.le_refl _ | omega) | with_reducible assumption | refine Ext.trans ?_ (by with_reducible assumption))
        have hyb := Blk.at_ wx1 48 #[.slice X1 cs'.length cs'.length, .float .f32 sp'] _ rfl
        have hya := hyb.cell 0
        have hyc := hyb.cell 1
        have hyz := hyb.lt
        clear hyb
        generalize wx1.alloc (.cells #[.slice X1 cs'.length cs'.length, .float .f32 sp'] 48) = wy1 at *
        have hyx : Ext wx1 wy1 := hy
        have HXt := Lib.hid (Ext.trans HXS.out hyx)
        have HWt := Lib.hid (Ext.trans HW.out hyx)
        have HVXt0 := Lib.hid (HVX0.out.ext hyx)
        have HVXt1 := Lib.hid (HVX1.out.ext hyx)
        obtain ⟨hcc, hff⟩ := bcell hyx
        have c5_s : wx1.heap.size ≤ wy1.heap.size := hyx.size
        have c5_0 : wy1.cell? ⟨w.heap.size, 0, none⟩ = some (.slice A cs.length cap) := (hcc _ _ c4_z0).trans c4_0
        have c5_1 : wy1.cell? ⟨w.heap.size, 1, none⟩ = some (.float .f32 sp) := (hcc _ _ c4_z0).trans c4_1
        have c5_2 : wy1.cell? ⟨w.heap.size + 1, 0, none⟩ = some (.slice A' cs'.length cap') := (hcc _ _ c4_z1).trans c4_2
        have c5_3 : wy1.cell? ⟨w.heap.size + 1, 1, none⟩ = some (.float .f32 sp') := (hcc _ _ c4_z1).trans c4_3
        have c5_4 : wy1.cell? ⟨gS, 0, none⟩ = some (.slice AS ds.length capS) := (hcc _ _ c4_z2).trans c4_4
        have c5_5 : wy1.cell? ⟨gS, 1, none⟩ = some (.float .f32 sS) := (hcc _ _ c4_z2).trans c4_5
        have c5_6 : wy1.cell? ⟨wx0.heap.size, 0, none⟩ = some (.slice X0 cs.length cs.length) := (hcc _ _ c4_z3).trans c4_6
        have c5_7 : wy1.cell? ⟨wx0.heap.size, 1, none⟩ = some (.float .f32 sp) := (hcc _ _ c4_z3).trans c4_7
        have c5_z0 : w.heap.size < wy1.heap.size := Nat.lt_of_lt_of_le c4_z0 c5_s
        have c5_z1 : w.heap.size + 1 < wy1.heap.size := Nat.lt_of_lt_of_le c4_z1 c5_s
        have c5_z2 : gS < wy1.heap.size := Nat.lt_of_lt_of_le c4_z2 c5_s
        have c5_z3 : wx0.heap.size < wy1.heap.size := Nat.lt_of_lt_of_le c4_z3 c5_s
        clear hcc hff c4_0 c4_1 c4_2 c4_3 c4_4 c4_5 c4_6 c4_7 c4_z0 c4_z1 c4_z2 c4_z3 HXS HW HVX0 HVX1
        clear hyx hy
        have HXS := HXt
        have HW := HWt
        clear HXt HWt
        have HVX0 := HVXt0
        clear HVXt0
        have HVX1 := HVXt1
        clear HVXt1
        have c5_8 : wy1.cell? ⟨wx1.heap.size, 0, none⟩ = some (.slice X1 cs'.length cs'.length) := hya
        have c5_9 : wy1.cell? ⟨wx1.heap.size, 1, none⟩ = some (.float .f32 sp') := hyc
        have c5_z4 : wx1.heap.size < wy1.heap.size := hyz
        clear hya hyc hyz
        go_upto_region 11 with fail
        go_cut [14, 15] (fun p b wx => ∃ (g : Nat) (A0 : Option Addr) (cap0 s0 : Nat), p = .pointer (some ⟨g, 0, none⟩) ∧ b = .bool pb ∧ Laid wy1 wx g A0 ds cap0 s0 ∧ cn .f32 s0 = ps)
        case first =>
          go_wp2_with fail
          refine (implJoin_any _ _ _ _ _ _ i k cs cs' _ (HVX0.out.vs.ext (by (repeat first | with_reducible exact Ext.rfl' _ | with_reducible refine Ext.drewN ?_ _ | with_reducible refine Ext.drew' ?_ | with_reducible refine Ext.alloc' ?_ _ | with_reducible refine Ext.setCell_at ?_ _ _ _ (by first | exact Nat.le_refl _ | omega) | with_reducible assumption | refine Ext.trans ?_ (by with_reducible assumption)))) (HVX1.out.vs.ext (by (repeat first | with_reducible exact Ext.rfl' _ | with_reducible refine Ext.drewN ?_ _ | with_reducible refine Ext.drew' ?_ | with_reducible refine Ext.alloc' ?_ _ | with_reducible refine Ext.setCell_at ?_ _ _ _ (by first | exact Nat.le_refl _ | omega) | with_reducible assumption | refine Ext.trans ?_ (by with_reducible assumption)))) HLE.out HLE'.out (Nat.le_refl _) (Nat.le_refl _)).mono ?_
          rintro e v0 ⟨he_0, hrt⟩
          obtain ⟨A0, cap0, s0, rfl, hv_0, hs0⟩ := RT.three hrt HP.out
          have E_0 : Ext wy1 v0 := (by (repeat first | with_reducible exact Ext.rfl' _ | with_reducible refine Ext.drewN ?_ _ | with_reducible refine Ext.drew' ?_ | with_reducible refine Ext.alloc' ?_ _ | with_reducible refine Ext.setCell_at ?_ _ _ _ (by first | exact Nat.le_refl _ | omega) | with_reducible assumption | refine Ext.trans ?_ (by with_reducible assumption)))
          go_wp2_with fail
          go_meet
          exact ⟨_, A0, cap0, s0, rfl, rfl, Laid.new E_0 hv_0 (by (try simp only [World.size_alloc, World.size_drew]); omega) cap0 s0 _, hs0⟩
        case rest =>
          obtain ⟨gG, AG, capG, sG, rfl, rfl, hlaid, hsG⟩ := hcut
          obtain ⟨hl1, hl2, hl3, hl4, hl5, hl6, hl7⟩ := hlaid
          rename World => wG
          have HVG := Lib.hid hl6
          have HNG := Lib.hid hl7
          have HSG := Lib.hid hsG
          have hgG : wy1.heap.size ≤ gG := hl1
          have HXt := Lib.hid (Ext.trans HXS.out hl5)
          have HWt := Lib.hid (Ext.trans HW.out hl5)
          have HVXt0 := Lib.hid (HVX0.out.ext hl5)
          have HVXt1 := Lib.hid (HVX1.out.ext hl5)
          obtain ⟨hcc, hff⟩ := bcell hl5
          have c6_s : wy1.heap.size ≤ wG.heap.size := hl5.size
          have c6_0 : wG.cell? ⟨w.heap.size, 0, none⟩ = some (.slice A cs.length cap) := (hcc _ _ c5_z0).trans c5_0
          have c6_1 : wG.cell? ⟨w.heap.size, 1, none⟩ = some (.float .f32 sp) := (hcc _ _ c5_z0).trans c5_1
          have c6_2 : wG.cell? ⟨w.heap.size + 1, 0, none⟩ = some (.slice A' cs'.length cap') := (hcc _ _ c5_z1).trans c5_2
          have c6_3 : wG.cell? ⟨w.heap.size + 1, 1, none⟩ = some (.float .f32 sp') := (hcc _ _ c5_z1).trans c5_3
          have c6_4 : wG.cell? ⟨gS, 0, none⟩ = some (.slice AS ds.length capS) := (hcc _ _ c5_z2).trans c5_4
          have c6_5 : wG.cell? ⟨gS, 1, none⟩ = some (.float .f32 sS) := (hcc _ _ c5_z2).trans c5_5
          have c6_6 : wG.cell? ⟨wx0.heap.size, 0, none⟩ = some (.slice X0 cs.length cs.length) := (hcc _ _ c5_z3).trans c5_6
          have c6_7 : wG.cell? ⟨wx0.heap.size, 1, none⟩ = some (.float .f32 sp) := (hcc _ _ c5_z3).trans c5_7
          have c6_8 : wG.cell? ⟨wx1.heap.size, 0, none⟩ = some (.slice X1 cs'.length cs'.length) := (hcc _ _ c5_z4).trans c5_8
          have c6_9 : wG.cell? ⟨wx1.heap.size, 1, none⟩ = some (.float .f32 sp') := (hcc _ _ c5_z4).trans c5_9
          have c6_z0 : w.heap.size < wG.heap.size := Nat.lt_of_lt_of_le c5_z0 c6_s
          have c6_z1 : w.heap.size + 1 < wG.heap.size := Nat.lt_of_lt_of_le c5_z1 c6_s
          have c6_z2 : gS < wG.heap.size := Nat.lt_of_lt_of_le c5_z2 c6_s
          have c6_z3 : wx0.heap.size < wG.heap.size := Nat.lt_of_lt_of_le c5_z3 c6_s
          have c6_z4 : wx1.heap.size < wG.heap.size := Nat.lt_of_lt_of_le c5_z4 c6_s
          clear hcc hff c5_0 c5_1 c5_2 c5_3 c5_4 c5_5 c5_6 c5_7 c5_8 c5_9 c5_z0 c5_z1 c5_z2 c5_z3 c5_z4 HXS HW HVX0 HVX1
          have HXS := HXt
          have HW := HWt
          clear HXt HWt
          have HVX0 := HVXt0
          clear HVXt0
          have HVX1 := HVXt1
          clear HVXt1
          have c6_10 : wG.cell? ⟨gG, 0, none⟩ = some (.slice AG ds.length capG) := hl3
          have c6_11 : wG.cell? ⟨gG, 1, none⟩ = some (.float .f32 sG) := hl4
          have c6_z5 : gG < wG.heap.size := hl2
          clear hl1 hl3 hl4 hl2 hl6 hl7 hsG hl5
          go_wp2_with fail
          refine (eqThread_any _ _ _ _ _ _ ds _ HVG.out.vs (HVS.out.vs.ext HW.out) (by rw [HSS.out, HSG.out]) HDL.out).mono ?_
          rintro e we ⟨hstep, rfl⟩
          have HXt := Lib.hid (Ext.trans HXS.out hstep)
          have HWt := Lib.hid (Ext.trans HW.out hstep)
          have tHVX0 := Lib.hid (HVX0.out.ext hstep)
          have tHVX1 := Lib.hid (HVX1.out.ext hstep)
          have tHVG := Lib.hid (HVG.out.ext hstep)
          obtain ⟨hcc, hff⟩ := bcell hstep
          have c7_s : wG.heap.size ≤ we.heap.size := hstep.size
          have c7_0 : we.cell? ⟨w.heap.size, 0, none⟩ = some (.slice A cs.length cap) := (hcc _ _ c6_z0).trans c6_0
          have c7_1 : we.cell? ⟨w.heap.size, 1, none⟩ = some (.float .f32 sp) := (hcc _ _ c6_z0).trans c6_1
          have c7_2 : we.cell? ⟨w.heap.size + 1, 0, none⟩ = some (.slice A' cs'.length cap') := (hcc _ _ c6_z1).trans c6_2
          have c7_3 : we.cell? ⟨w.heap.size + 1, 1, none⟩ = some (.float .f32 sp') := (hcc _ _ c6_z1).trans c6_3
          have c7_4 : we.cell? ⟨gS, 0, none⟩ = some (.slice AS ds.length capS) := (hcc _ _ c6_z2).trans c6_4
          have c7_5 : we.cell? ⟨gS, 1, none⟩ = some (.float .f32 sS) := (hcc _ _ c6_z2).trans c6_5
          have c7_6 : we.cell? ⟨wx0.heap.size, 0, none⟩ = some (.slice X0 cs.length cs.length) := (hcc _ _ c6_z3).trans c6_6
          have c7_7 : we.cell? ⟨wx0.heap.size, 1, none⟩ = some (.float .f32 sp) := (hcc _ _ c6_z3).trans c6_7
          have c7_8 : we.cell? ⟨wx1.heap.size, 0, none⟩ = some (.slice X1 cs'.length cs'.length) := (hcc _ _ c6_z4).trans c6_8
          have c7_9 : we.cell? ⟨wx1.heap.size, 1, none⟩ = some (.float .f32 sp') := (hcc _ _ c6_z4).trans c6_9
          have c7_10 : we.cell? ⟨gG, 0, none⟩ = some (.slice AG ds.length capG) := (hcc _ _ c6_z5).trans c6_10
          have c7_11 : we.cell? ⟨gG, 1, none⟩ = some (.float .f32 sG) := (hcc _ _ c6_z5).trans c6_11
          have c7_z0 : w.heap.size < we.heap.size := Nat.lt_of_lt_of_le c6_z0 c7_s
          have c7_z1 : w.heap.size + 1 < we.heap.size := Nat.lt_of_lt_of_le c6_z1 c7_s
          have c7_z2 : gS < we.heap.size := Nat.lt_of_lt_of_le c6_z2 c7_s
          have c7_z3 : wx0.heap.size < we.heap.size := Nat.lt_of_lt_of_le c6_z3 c7_s
          have c7_z4 : wx1.heap.size < we.heap.size := Nat.lt_of_lt_of_le c6_z4 c7_s
          have c7_z5 : gG < we.heap.size := Nat.lt_of_lt_of_le c6_z5 c7_s
          clear hcc hff c6_0 c6_1 c6_2 c6_3 c6_4 c6_5 c6_6 c6_7 c6_8 c6_9 c6_10 c6_11 c6_z0 c6_z1 c6_z2 c6_z3 c6_z4 c6_z5 HXS HW HVX0 HVX1 HVG
          clear hstep
          have HXS := HXt
          have HW := HWt
          clear HXt HWt
          have HVX0 := tHVX0
          clear tHVX0
          have HVX1 := tHVX1
          clear tHVX1
          have HVG := tHVG
          clear tHVG
          go_wp2_with fail
          go_region_held3 (fun W => W.cell? ⟨w.heap.size, 0, none⟩ = some (.slice A cs.length cap) ∧ W.cell? ⟨w.heap.size, 1, none⟩ = some (.float .f32 sp) ∧ W.cell? ⟨wx0.heap.size, 0, none⟩ = some (.slice X0 cs.length cs.length) ∧ W.cell? ⟨wx0.heap.size, 1, none⟩ = some (.float .f32 sp)) (((try dsimp only); (repeat' apply And.intro) <;> (simp [*, go_sem]; done)))
            (first
              | (go_at_call 37; refine (eqThread_any _ _ _ _ _ _ cs _ (HVX0.out.vs.ext (Ext.trans (Ext.drew' (Ext.rfl' _)) hp1)) hpv.vs rfl HLE.out).mono ?_; rintro e wf0 ⟨hp2, rfl⟩; obtain ⟨hpc2, hpf2⟩ := bcell hp2; have hspb : wp.heap.size ≤ wf0.heap.size := hp2.size; have hzpb_0 : w.heap.size < wf0.heap.size := (by omega); have hzpb_1 : wx0.heap.size < wf0.heap.size := (by omega))
              | (go_at_call 35; refine (toThread_any A cap sp cs _ (HA.out.ext (Ext.trans HXS.out (Ext.drew' (Ext.rfl' _)))) HLE.out).mono ?_; rintro e wp ⟨hp1, Ap, rfl, hpv⟩; (have hpp := bcellD hp1; obtain ⟨hpc, hpf⟩ := hpp); have hspa : we.heap.size ≤ wp.heap.size := hp1.size; have hzpa_0 : w.heap.size < wp.heap.size := (by omega); have hzpa_1 : wx0.heap.size < wp.heap.size := (by omega)))
          have hstep : Ext we wf0 := Ext.trans (Ext.trans (Ext.drew' (Ext.rfl' we)) hp1) hp2
          clear hp2 hpc hpf hpc2 hpf2 hpv
          have HXt := Lib.hid (Ext.trans HXS.out hstep)
          have HWt := Lib.hid (Ext.trans HW.out hstep)
          have tHVX0 := Lib.hid (HVX0.out.ext hstep)
          have tHVX1 := Lib.hid (HVX1.out.ext hstep)
          have tHVG := Lib.hid (HVG.out.ext hstep)
          obtain ⟨hcc, hff⟩ := bcell hstep
          have c8_s : we.heap.size ≤ wf0.heap.size := hstep.size
          have c8_0 : wf0.cell? ⟨w.heap.size, 0, none⟩ = some (.slice A cs.length cap) := (hcc _ _ c7_z0).trans c7_0
          have c8_1 : wf0.cell? ⟨w.heap.size, 1, none⟩ = some (.float .f32 sp) := (hcc _ _ c7_z0).trans c7_1
          have c8_2 : wf0.cell? ⟨w.heap.size + 1, 0, none⟩ = some (.slice A' cs'.length cap') := (hcc _ _ c7_z1).trans c7_2
          have c8_3 : wf0.cell? ⟨w.heap.size + 1, 1, none⟩ = some (.float .f32 sp') := (hcc _ _ c7_z1).trans c7_3
          have c8_4 : wf0.cell? ⟨gS, 0, none⟩ = some (.slice AS ds.length capS) := (hcc _ _ c7_z2).trans c7_4
          have c8_5 : wf0.cell? ⟨gS, 1, none⟩ = some (.float .f32 sS) := (hcc _ _ c7_z2).trans c7_5
          have c8_6 : wf0.cell? ⟨wx0.heap.size, 0, none⟩ = some (.slice X0 cs.length cs.length) := (hcc _ _ c7_z3).trans c7_6
          have c8_7 : wf0.cell? ⟨wx0.heap.size, 1, none⟩ = some (.float .f32 sp) := (hcc _ _ c7_z3).trans c7_7
          have c8_8 : wf0.cell? ⟨wx1.heap.size, 0, none⟩ = some (.slice X1 cs'.length cs'.length) := (hcc _ _ c7_z4).trans c7_8
          have c8_9 : wf0.cell? ⟨wx1.heap.size, 1, none⟩ = some (.float .f32 sp') := (hcc _ _ c7_z4).trans c7_9
          have c8_10 : wf0.cell? ⟨gG, 0, none⟩ = some (.slice AG ds.length capG) := (hcc _ _ c7_z5).trans c7_10
          have c8_11 : wf0.cell? ⟨gG, 1, none⟩ = some (.float .f32 sG) := (hcc _ _ c7_z5).trans c7_11
          have c8_z0 : w.heap.size < wf0.heap.size := Nat.lt_of_lt_of_le c7_z0 c8_s
          have c8_z1 : w.heap.size + 1 < wf0.heap.size := Nat.lt_of_lt_of_le c7_z1 c8_s
          have c8_z2 : gS < wf0.heap.size := Nat.lt_of_lt_of_le c7_z2 c8_s
          have c8_z3 : wx0.heap.size < wf0.heap.size := Nat.lt_of_lt_of_le c7_z3 c8_s
          have c8_z4 : wx1.heap.size < wf0.heap.size := Nat.lt_of_lt_of_le c7_z4 c8_s
          have c8_z5 : gG < wf0.heap.size := Nat.lt_of_lt_of_le c7_z5 c8_s
          clear hcc hff c7_0 c7_1 c7_2 c7_3 c7_4 c7_5 c7_6 c7_7 c7_8 c7_9 c7_10 c7_11 c7_z0 c7_z1 c7_z2 c7_z3 c7_z4 c7_z5 HXS HW hp1 HVX0 HVX1 HVG
          clear hstep
          have HXS := HXt
          have HW := HWt
          clear HXt HWt
          have HVX0 := tHVX0
          clear tHVX0
          have HVX1 := tHVX1
          clear tHVX1
          have HVG := tHVG
          clear tHVG
          go_wp2_with fail
          go_region_held3 (fun W => W.cell? ⟨w.heap.size + 1, 0, none⟩ = some (.slice A' cs'.length cap') ∧ W.cell? ⟨w.heap.size + 1, 1, none⟩ = some (.float .f32 sp') ∧ W.cell? ⟨wx1.heap.size, 0, none⟩ = some (.slice X1 cs'.length cs'.length) ∧ W.cell? ⟨wx1.heap.size, 1, none⟩ = some (.float .f32 sp')) (((try dsimp only); (repeat' apply And.intro) <;> (simp [*, go_sem]; done)))
            (first
              | (go_at_call 37; refine (eqThread_any _ _ _ _ _ _ cs' _ (HVX1.out.vs.ext (Ext.trans (Ext.drew' (Ext.rfl' _)) hp1)) hpv.vs rfl HLE'.out).mono ?_; rintro e wf1 ⟨hp2, rfl⟩; obtain ⟨hpc2, hpf2⟩ := bcell hp2; have hspb : wp.heap.size ≤ wf1.heap.size := hp2.size; have hzpb_0 : w.heap.size + 1 < wf1.heap.size := (by omega); have hzpb_1 : wx1.heap.size < wf1.heap.size := (by omega))
              | (go_at_call 35; refine (toThread_any A' cap' sp' cs' _ (HA'.out.ext (Ext.trans HXS.out (Ext.drew' (Ext.rfl' _)))) HLE'.out).mono ?_; rintro e wp ⟨hp1, Ap, rfl, hpv⟩; (have hpp := bcellD hp1; obtain ⟨hpc, hpf⟩ := hpp); have hspa : wf0.heap.size ≤ wp.heap.size := hp1.size; have hzpa_0 : w.heap.size + 1 < wp.heap.size := (by omega); have hzpa_1 : wx1.heap.size < wp.heap.size := (by omega)))
          have hstep : Ext wf0 wf1 := Ext.trans (Ext.trans (Ext.drew' (Ext.rfl' wf0)) hp1) hp2
          clear hp2 hpc hpf hpc2 hpf2 hpv
          have HXt := Lib.hid (Ext.trans HXS.out hstep)
          have HWt := Lib.hid (Ext.trans HW.out hstep)
          have tHVX0 := Lib.hid (HVX0.out.ext hstep)
          have tHVX1 := Lib.hid (HVX1.out.ext hstep)
          have tHVG := Lib.hid (HVG.out.ext hstep)
          obtain ⟨hcc, hff⟩ := bcell hstep
          have c9_s : wf0.heap.size ≤ wf1.heap.size := hstep.size
          have c9_0 : wf1.cell? ⟨w.heap.size, 0, none⟩ = some (.slice A cs.length cap) := (hcc _ _ c8_z0).trans c8_0
          have c9_1 : wf1.cell? ⟨w.heap.size, 1, none⟩ = some (.float .f32 sp) := (hcc _ _ c8_z0).trans c8_1
          have c9_2 : wf1.cell? ⟨w.heap.size + 1, 0, none⟩ = some (.slice A' cs'.length cap') := (hcc _ _ c8_z1).trans c8_2
          have c9_3 : wf1.cell? ⟨w.heap.size + 1, 1, none⟩ = some (.float .f32 sp') := (hcc _ _ c8_z1).trans c8_3
          have c9_4 : wf1.cell? ⟨gS, 0, none⟩ = some (.slice AS ds.length capS) := (hcc _ _ c8_z2).trans c8_4
          have c9_5 : wf1.cell? ⟨gS, 1, none⟩ = some (.float .f32 sS) := (hcc _ _ c8_z2).trans c8_5
          have c9_6 : wf1.cell? ⟨wx0.heap.size, 0, none⟩ = some (.slice X0 cs.length cs.length) := (hcc _ _ c8_z3).trans c8_6
          have c9_7 : wf1.cell? ⟨wx0.heap.size, 1, none⟩ = some (.float .f32 sp) := (hcc _ _ c8_z3).trans c8_7
          have c9_8 : wf1.cell? ⟨wx1.heap.size, 0, none⟩ = some (.slice X1 cs'.length cs'.length) := (hcc _ _ c8_z4).trans c8_8
          have c9_9 : wf1.cell? ⟨wx1.heap.size, 1, none⟩ = some (.float .f32 sp') := (hcc _ _ c8_z4).trans c8_9
          have c9_10 : wf1.cell? ⟨gG, 0, none⟩ = some (.slice AG ds.length capG) := (hcc _ _ c8_z5).trans c8_10
          have c9_11 : wf1.cell? ⟨gG, 1, none⟩ = some (.float .f32 sG) := (hcc _ _ c8_z5).trans c8_11
          have c9_z0 : w.heap.size < wf1.heap.size := Nat.lt_of_lt_of_le c8_z0 c9_s
          have c9_z1 : w.heap.size + 1 < wf1.heap.size := Nat.lt_of_lt_of_le c8_z1 c9_s
          have c9_z2 : gS < wf1.heap.size := Nat.lt_of_lt_of_le c8_z2 c9_s
          have c9_z3 : wx0.heap.size < wf1.heap.size := Nat.lt_of_lt_of_le c8_z3 c9_s
          have c9_z4 : wx1.heap.size < wf1.heap.size := Nat.lt_of_lt_of_le c8_z4 c9_s
          have c9_z5 : gG < wf1.heap.size := Nat.lt_of_lt_of_le c8_z5 c9_s
          clear hcc hff c8_0 c8_1 c8_2 c8_3 c8_4 c8_5 c8_6 c8_7 c8_8 c8_9 c8_10 c8_11 c8_z0 c8_z1 c8_z2 c8_z3 c8_z4 c8_z5 HXS HW hp1 HVX0 HVX1 HVG
          clear hstep
          have HXS := HXt
          have HW := HWt
          clear HXt HWt
          have HVX0 := tHVX0
          clear tHVX0
          have HVX1 := tHVX1
          clear tHVX1
          have HVG := tHVG
          clear tHVG
          go_wp2_with fail
          refine (markThread2_any X0 cs.length sp cs (1 : Int) _ _ HVX0.out (by omega) (by omega) HLE.out).mono ?_
          rintro e wm0 ⟨rfl, -, row, hg, hr⟩
          have hrow : ∀ g, row = some g → wS.heap.size ≤ g ∧ g < wx0.heap.size := fun g hg => by
            obtain ⟨hp, o, hAx, hB, -⟩ := hr g hg
            obtain ⟨b', o', hAx', -, hlt, -⟩ := HX00.out hp
            rw [hAx] at hAx'
            simp only [Option.some.injEq, Addr.mk.injEq] at hAx'
            exact ⟨hB, by omega⟩
          have HXt := Lib.hid (Ext.grown HXS.out hg (fun k hk => by have := hrow k hk; omega))
          have HWt := Lib.hid (Ext.grown HW.out hg (fun k hk => by have := hrow k hk; omega))
          have tHVX1 := Lib.hid (HVX1.out.only_lt hg (fun k hk => by have := hrow k hk; omega))
          have tHVG := Lib.hid (HVG.out.only_lt hg (fun k hk => by have := hrow k hk; omega))
          have c10_s : wf1.heap.size ≤ wm0.heap.size := hg.size
          have hne0 : ∀ g, row = some g → g ≠ w.heap.size := fun g hg => by have := hrow g hg; omega
          have hne1 : ∀ g, row = some g → g ≠ w.heap.size + 1 := fun g hg => by have := hrow g hg; omega
          have hne2 : ∀ g, row = some g → g ≠ gS := fun g hg => by have := hrow g hg; omega
          have hne4 : ∀ g, row = some g → g ≠ wx1.heap.size := fun g hg => by have := hrow g hg; omega
          have hne5 : ∀ g, row = some g → g ≠ gG := fun g hg => by have := hrow g hg; omega
          have c10_0 : wm0.cell? ⟨w.heap.size, 0, none⟩ = some (.slice A cs.length cap) := (marked_cell hg _ _ c9_z0 hne0).trans c9_0
          have c10_1 : wm0.cell? ⟨w.heap.size, 1, none⟩ = some (.float .f32 sp) := (marked_cell hg _ _ c9_z0 hne0).trans c9_1
          have c10_2 : wm0.cell? ⟨w.heap.size + 1, 0, none⟩ = some (.slice A' cs'.length cap') := (marked_cell hg _ _ c9_z1 hne1).trans c9_2
          have c10_3 : wm0.cell? ⟨w.heap.size + 1, 1, none⟩ = some (.float .f32 sp') := (marked_cell hg _ _ c9_z1 hne1).trans c9_3
          have c10_4 : wm0.cell? ⟨gS, 0, none⟩ = some (.slice AS ds.length capS) := (marked_cell hg _ _ c9_z2 hne2).trans c9_4
          have c10_5 : wm0.cell? ⟨gS, 1, none⟩ = some (.float .f32 sS) := (marked_cell hg _ _ c9_z2 hne2).trans c9_5
          have c10_6 : wm0.cell? ⟨wx1.heap.size, 0, none⟩ = some (.slice X1 cs'.length cs'.length) := (marked_cell hg _ _ c9_z4 hne4).trans c9_8
          have c10_7 : wm0.cell? ⟨wx1.heap.size, 1, none⟩ = some (.float .f32 sp') := (marked_cell hg _ _ c9_z4 hne4).trans c9_9
          have c10_8 : wm0.cell? ⟨gG, 0, none⟩ = some (.slice AG ds.length capG) := (marked_cell hg _ _ c9_z5 hne5).trans c9_10
          have c10_9 : wm0.cell? ⟨gG, 1, none⟩ = some (.float .f32 sG) := (marked_cell hg _ _ c9_z5 hne5).trans c9_11
          have c10_z0 : w.heap.size < wm0.heap.size := Nat.lt_of_lt_of_le c9_z0 c10_s
          have c10_z1 : w.heap.size + 1 < wm0.heap.size := Nat.lt_of_lt_of_le c9_z1 c10_s
          have c10_z2 : gS < wm0.heap.size := Nat.lt_of_lt_of_le c9_z2 c10_s
          have c10_z3 : wx1.heap.size < wm0.heap.size := Nat.lt_of_lt_of_le c9_z4 c10_s
          have c10_z4 : gG < wm0.heap.size := Nat.lt_of_lt_of_le c9_z5 c10_s
          clear c9_0 c9_1 c9_2 c9_3 c9_4 c9_5 c9_6 c9_7 c9_8 c9_9 c9_10 c9_11 c9_z0 c9_z1 c9_z2 c9_z3 c9_z4 c9_z5 hne0 hne1 hne2 hne4 hne5 HXS HW HVX0 HVX1 HVG
          clear hg hr hrow row
          have HXS := HXt
          have HW := HWt
          clear HXt HWt
          have HVX1 := tHVX1
          clear tHVX1
          have HVG := tHVG
          clear tHVG
          go_wp2_with fail
          refine (markThread2_any X1 cs'.length sp' cs' ((1 : Int) + cs.length * 3) _ _ HVX1.out (by omega) (by have := HLE.out; omega) HLE'.out).mono ?_
          rintro e wm1 ⟨rfl, -, row, hg, hr⟩
          have hrow : ∀ g, row = some g → wy0.heap.size ≤ g ∧ g < wx1.heap.size := fun g hg => by
            obtain ⟨hp, o, hAx, hB, -⟩ := hr g hg
            obtain ⟨b', o', hAx', -, hlt, -⟩ := HX01.out hp
            rw [hAx] at hAx'
            simp only [Option.some.injEq, Addr.mk.injEq] at hAx'
            exact ⟨hB, by omega⟩
          have HXt := Lib.hid (Ext.grown HXS.out hg (fun k hk => by have := hrow k hk; omega))
          have HWt := Lib.hid (Ext.grown HW.out hg (fun k hk => by have := hrow k hk; omega))
          have tHVG := Lib.hid (HVG.out.only_lt hg (fun k hk => by have := hrow k hk; omega))
          have c11_s : wm0.heap.size ≤ wm1.heap.size := hg.size
          have hne0 : ∀ g, row = some g → g ≠ w.heap.size := fun g hg => by have := hrow g hg; omega
          have hne1 : ∀ g, row = some g → g ≠ w.heap.size + 1 := fun g hg => by have := hrow g hg; omega
          have hne2 : ∀ g, row = some g → g ≠ gS := fun g hg => by have := hrow g hg; omega
          have hne4 : ∀ g, row = some g → g ≠ gG := fun g hg => by have := hrow g hg; omega
          have c11_0 : wm1.cell? ⟨w.heap.size, 0, none⟩ = some (.slice A cs.length cap) := (marked_cell hg _ _ c10_z0 hne0).trans c10_0
          have c11_1 : wm1.cell? ⟨w.heap.size, 1, none⟩ = some (.float .f32 sp) := (marked_cell hg _ _ c10_z0 hne0).trans c10_1
          have c11_2 : wm1.cell? ⟨w.heap.size + 1, 0, none⟩ = some (.slice A' cs'.length cap') := (marked_cell hg _ _ c10_z1 hne1).trans c10_2
          have c11_3 : wm1.cell? ⟨w.heap.size + 1, 1, none⟩ = some (.float .f32 sp') := (marked_cell hg _ _ c10_z1 hne1).trans c10_3
          have c11_4 : wm1.cell? ⟨gS, 0, none⟩ = some (.slice AS ds.length capS) := (marked_cell hg _ _ c10_z2 hne2).trans c10_4
          have c11_5 : wm1.cell? ⟨gS, 1, none⟩ = some (.float .f32 sS) := (marked_cell hg _ _ c10_z2 hne2).trans c10_5
          have c11_6 : wm1.cell? ⟨gG, 0, none⟩ = some (.slice AG ds.length capG) := (marked_cell hg _ _ c10_z4 hne4).trans c10_8
          have c11_7 : wm1.cell? ⟨gG, 1, none⟩ = some (.float .f32 sG) := (marked_cell hg _ _ c10_z4 hne4).trans c10_9
          have c11_z0 : w.heap.size < wm1.heap.size := Nat.lt_of_lt_of_le c10_z0 c11_s
          have c11_z1 : w.heap.size + 1 < wm1.heap.size := Nat.lt_of_lt_of_le c10_z1 c11_s
          have c11_z2 : gS < wm1.heap.size := Nat.lt_of_lt_of_le c10_z2 c11_s
          have c11_z3 : gG < wm1.heap.size := Nat.lt_of_lt_of_le c10_z4 c11_s
          clear c10_0 c10_1 c10_2 c10_3 c10_4 c10_5 c10_6 c10_7 c10_8 c10_9 c10_z0 c10_z1 c10_z2 c10_z3 c10_z4 hne0 hne1 hne2 hne4 HXS HW HVX1 HVG
          clear hg hr hrow row
          have HXS := HXt
          have HW := HWt
          clear HXt HWt
          have HVG := tHVG
          clear tHVG
          have hkx : ¬ ((((1 : Int) + cs.length * 3) + cs'.length * 3) < 0) := by omega
          go_wp2_with fail
          refine (eqThread_any _ _ _ _ _ _ ds _ HVG.out.vs (HVS.out.vs.ext HW.out) (by rw [HSS.out, HSG.out]) HDL.out).mono ?_
          rintro e wn ⟨hstep, rfl⟩
          have HXt := Lib.hid (Ext.trans HXS.out hstep)
          have HWt := Lib.hid (Ext.trans HW.out hstep)
          have tHVG := Lib.hid (HVG.out.ext hstep)
          obtain ⟨hcc, hff⟩ := bcell hstep
          have c12_s : wm1.heap.size ≤ wn.heap.size := hstep.size
          have c12_0 : wn.cell? ⟨w.heap.size, 0, none⟩ = some (.slice A cs.length cap) := (hcc _ _ c11_z0).trans c11_0
          have c12_1 : wn.cell? ⟨w.heap.size, 1, none⟩ = some (.float .f32 sp) := (hcc _ _ c11_z0).trans c11_1
          have c12_2 : wn.cell? ⟨w.heap.size + 1, 0, none⟩ = some (.slice A' cs'.length cap') := (hcc _ _ c11_z1).trans c11_2
          have c12_3 : wn.cell? ⟨w.heap.size + 1, 1, none⟩ = some (.float .f32 sp') := (hcc _ _ c11_z1).trans c11_3
          have c12_4 : wn.cell? ⟨gS, 0, none⟩ = some (.slice AS ds.length capS) := (hcc _ _ c11_z2).trans c11_4
          have c12_5 : wn.cell? ⟨gS, 1, none⟩ = some (.float .f32 sS) := (hcc _ _ c11_z2).trans c11_5
          have c12_6 : wn.cell? ⟨gG, 0, none⟩ = some (.slice AG ds.length capG) := (hcc _ _ c11_z3).trans c11_6
          have c12_7 : wn.cell? ⟨gG, 1, none⟩ = some (.float .f32 sG) := (hcc _ _ c11_z3).trans c11_7
          have c12_z0 : w.heap.size < wn.heap.size := Nat.lt_of_lt_of_le c11_z0 c12_s
          have c12_z1 : w.heap.size + 1 < wn.heap.size := Nat.lt_of_lt_of_le c11_z1 c12_s
          have c12_z2 : gS < wn.heap.size := Nat.lt_of_lt_of_le c11_z2 c12_s
          have c12_z3 : gG < wn.heap.size := Nat.lt_of_lt_of_le c11_z3 c12_s
          clear hcc hff c11_0 c11_1 c11_2 c11_3 c11_4 c11_5 c11_6 c11_7 c11_z0 c11_z1 c11_z2 c11_z3 HXS HW HVG
          clear hstep
          have HXS := HXt
          have HW := HWt
          clear HXt HWt
          have HVG := tHVG
          clear tHVG
          go_wp2_with fail
          refine (markThread2_any AG capG sG ds 1 _ _ HVG.out (by omega) (by omega) HDL.out).mono ?_
          rintro e wh ⟨rfl, hmk, row, hg, hr⟩
          have hrow : ∀ g, row = some g → wy1.heap.size ≤ g ∧ g ≠ gG := fun g hg => by
            obtain ⟨hp, o, hAx, hB, -⟩ := hr g hg
            exact ⟨hB, HNG.out hp _ _ hAx⟩
          have HM := Lib.hid hmk
          have HXt := Lib.hid (Ext.grown HXS.out hg (fun k hk => by have := hrow k hk; omega))
          have HWt := Lib.hid (Ext.grown HW.out hg (fun k hk => by have := hrow k hk; omega))
          have c13_s : wn.heap.size ≤ wh.heap.size := hg.size
          have hne0 : ∀ g, row = some g → g ≠ w.heap.size := fun g hg => by have := hrow g hg; omega
          have hne1 : ∀ g, row = some g → g ≠ w.heap.size + 1 := fun g hg => by have := hrow g hg; omega
          have hne2 : ∀ g, row = some g → g ≠ gS := fun g hg => by have := hrow g hg; omega
          have hne3 : ∀ g, row = some g → g ≠ gG := fun g hg => by have := hrow g hg; omega
          have c13_0 : wh.cell? ⟨w.heap.size, 0, none⟩ = some (.slice A cs.length cap) := (marked_cell hg _ _ c12_z0 hne0).trans c12_0
          have c13_1 : wh.cell? ⟨w.heap.size, 1, none⟩ = some (.float .f32 sp) := (marked_cell hg _ _ c12_z0 hne0).trans c12_1
          have c13_2 : wh.cell? ⟨w.heap.size + 1, 0, none⟩ = some (.slice A' cs'.length cap') := (marked_cell hg _ _ c12_z1 hne1).trans c12_2
          have c13_3 : wh.cell? ⟨w.heap.size + 1, 1, none⟩ = some (.float .f32 sp') := (marked_cell hg _ _ c12_z1 hne1).trans c12_3
          have c13_4 : wh.cell? ⟨gS, 0, none⟩ = some (.slice AS ds.length capS) := (marked_cell hg _ _ c12_z2 hne2).trans c12_4
          have c13_5 : wh.cell? ⟨gS, 1, none⟩ = some (.float .f32 sS) := (marked_cell hg _ _ c12_z2 hne2).trans c12_5
          have c13_6 : wh.cell? ⟨gG, 0, none⟩ = some (.slice AG ds.length capG) := (marked_cell hg _ _ c12_z3 hne3).trans c12_6
          have c13_7 : wh.cell? ⟨gG, 1, none⟩ = some (.float .f32 sG) := (marked_cell hg _ _ c12_z3 hne3).trans c12_7
          have c13_z0 : w.heap.size < wh.heap.size := Nat.lt_of_lt_of_le c12_z0 c13_s
          have c13_z1 : w.heap.size + 1 < wh.heap.size := Nat.lt_of_lt_of_le c12_z1 c13_s
          have c13_z2 : gS < wh.heap.size := Nat.lt_of_lt_of_le c12_z2 c13_s
          have c13_z3 : gG < wh.heap.size := Nat.lt_of_lt_of_le c12_z3 c13_s
          clear c12_0 c12_1 c12_2 c12_3 c12_4 c12_5 c12_6 c12_7 c12_z0 c12_z1 c12_z2 c12_z3 hne0 hne1 hne2 hne3 HXS HW HVG
          clear hg hr hrow row hmk
          have HXS := HXt
          have HW := HWt
          clear HXt HWt
          go_wp2_with fail
          refine (heldThread_any AG ds.length capG sG 1 _ HM.out (by omega) (by omega) HDL.out).mono ?_
          rintro e wi ⟨hstep, rfl⟩
          have HXt := Lib.hid (Ext.trans HXS.out hstep)
          have HWt := Lib.hid (Ext.trans HW.out hstep)
          have tHM := Lib.hid (HM.out.ext hstep)
          obtain ⟨hcc, hff⟩ := bcell hstep
          have c14_s : wh.heap.size ≤ wi.heap.size := hstep.size
          have c14_0 : wi.cell? ⟨w.heap.size, 0, none⟩ = some (.slice A cs.length cap) := (hcc _ _ c13_z0).trans c13_0
          have c14_1 : wi.cell? ⟨w.heap.size, 1, none⟩ = some (.float .f32 sp) := (hcc _ _ c13_z0).trans c13_1
          have c14_2 : wi.cell? ⟨w.heap.size + 1, 0, none⟩ = some (.slice A' cs'.length cap') := (hcc _ _ c13_z1).trans c13_2
          have c14_3 : wi.cell? ⟨w.heap.size + 1, 1, none⟩ = some (.float .f32 sp') := (hcc _ _ c13_z1).trans c13_3
          have c14_4 : wi.cell? ⟨gS, 0, none⟩ = some (.slice AS ds.length capS) := (hcc _ _ c13_z2).trans c13_4
          have c14_5 : wi.cell? ⟨gS, 1, none⟩ = some (.float .f32 sS) := (hcc _ _ c13_z2).trans c13_5
          have c14_6 : wi.cell? ⟨gG, 0, none⟩ = some (.slice AG ds.length capG) := (hcc _ _ c13_z3).trans c13_6
          have c14_7 : wi.cell? ⟨gG, 1, none⟩ = some (.float .f32 sG) := (hcc _ _ c13_z3).trans c13_7
          have c14_z0 : w.heap.size < wi.heap.size := Nat.lt_of_lt_of_le c13_z0 c14_s
          have c14_z1 : w.heap.size + 1 < wi.heap.size := Nat.lt_of_lt_of_le c13_z1 c14_s
          have c14_z2 : gS < wi.heap.size := Nat.lt_of_lt_of_le c13_z2 c14_s
          have c14_z3 : gG < wi.heap.size := Nat.lt_of_lt_of_le c13_z3 c14_s
          clear hcc hff c13_0 c13_1 c13_2 c13_3 c13_4 c13_5 c13_6 c13_7 c13_z0 c13_z1 c13_z2 c13_z3 HXS HW HM
          clear hstep
          have HXS := HXt
          have HW := HWt
          clear HXt HWt
          have HM := tHM
          clear tHM
          have hkd : ¬ ((1 : Int) + ds.length * 3 < 0) := by omega
          go_upto_region 31 with fail
          go_cut [19, 20] (fun p b wx => ∃ (g : Nat) (A0 : Option Addr) (cap0 s0 : Nat), p = .pointer (some ⟨g, 0, none⟩) ∧ b = .bool pb ∧ Laid wi wx g A0 ds cap0 s0 ∧ cn .f32 s0 = ps)
          case first =>
            go_region_held3 (fun W => W.cell? ⟨w.heap.size, 0, none⟩ = some (.slice A cs.length cap) ∧ W.cell? ⟨w.heap.size, 1, none⟩ = some (.float .f32 sp) ∧ W.cell? ⟨w.heap.size + 1, 0, none⟩ = some (.slice A' cs'.length cap') ∧ W.cell? ⟨w.heap.size + 1, 1, none⟩ = some (.float .f32 sp')) (((try dsimp only); (repeat' apply And.intro) <;> (simp [*, go_sem]; done)))
              (first
                | (go_at_call 68; refine (implJoin_any _ _ _ _ _ _ i k cs cs' _ (hv__0.vs.ext (by (repeat first | with_reducible exact Ext.rfl' _ | with_reducible refine Ext.drewN ?_ _ | with_reducible refine Ext.drew' ?_ | with_reducible refine Ext.alloc' ?_ _ | with_reducible refine Ext.setCell_at ?_ _ _ _ (by first | exact Nat.le_refl _ | omega) | with_reducible assumption | refine Ext.trans ?_ (by with_reducible assumption)))) (hv_1.vs.ext (by (repeat first | with_reducible exact Ext.rfl' _ | with_reducible refine Ext.drewN ?_ _ | with_reducible refine Ext.drew' ?_ | with_reducible refine Ext.alloc' ?_ _ | with_reducible refine Ext.setCell_at ?_ _ _ _ (by first | exact Nat.le_refl _ | omega) | with_reducible assumption | refine Ext.trans ?_ (by with_reducible assumption)))) HLE.out HLE'.out (Nat.le_refl _) (Nat.le_refl _)).mono ?_; rintro e v2 ⟨he_2, hrt⟩; obtain ⟨A0, cap0, s0, rfl, hv_2, hs0⟩ := RT.three hrt HP.out; have X_2 : Ext v1 v2 := (by (repeat first | with_reducible exact Ext.rfl' _ | with_reducible refine Ext.drewN ?_ _ | with_reducible refine Ext.drew' ?_ | with_reducible refine Ext.alloc' ?_ _ | with_reducible refine Ext.setCell_at ?_ _ _ _ (by first | exact Nat.le_refl _ | omega) | with_reducible assumption | refine Ext.trans ?_ (by with_reducible assumption))); have E_2 := Ext.trans E_1 X_2; obtain ⟨hc_2, hf_2⟩ := bcell E_2; have hs_2 : wi.heap.size ≤ v2.heap.size := E_2.size; have hz_2_0 : w.heap.size < v2.heap.size := (by omega); have hz_2_1 : w.heap.size + 1 < v2.heap.size := (by omega); (try ((first | have B_2 := Blk.ext B_1 he_2 | have B_2 := Blk.ext (Blk.at_drew _ 48 #[.slice none 0 0, .float .f32 0] _ rfl) he_2 | have B_2 := Blk.ext (Blk.at_ _ 48 #[.slice none 0 0, .float .f32 0] _ rfl) he_2); have r0 : v2.cell? ⟨_, 0, none⟩ = some (.slice none 0 0) := B_2.cell 0; have r1 : v2.cell? ⟨_, 1, none⟩ = some (.float .f32 0) := B_2.cell 1; have rf0 := B_2.frozen 0; have rf1 := B_2.frozen 1)))
                | (go_at_call 35; have hguard := hv_0; refine (toThread_any A' cap' sp' cs' _ (HA'.out.ext (Ext.trans HXS.out (by (repeat first | with_reducible exact Ext.rfl' _ | with_reducible refine Ext.drewN ?_ _ | with_reducible refine Ext.drew' ?_ | with_reducible refine Ext.alloc' ?_ _ | with_reducible refine Ext.setCell_at ?_ _ _ _ (by first | exact Nat.le_refl _ | omega) | with_reducible assumption | refine Ext.trans ?_ (by with_reducible assumption))))) HLE'.out).mono ?_; rintro e v1 ⟨he_1, A_1, rfl, hv_1⟩; have X_1 : Ext v0 v1 := (by (repeat first | with_reducible exact Ext.rfl' _ | with_reducible refine Ext.drewN ?_ _ | with_reducible refine Ext.drew' ?_ | with_reducible refine Ext.alloc' ?_ _ | with_reducible refine Ext.setCell_at ?_ _ _ _ (by first | exact Nat.le_refl _ | omega) | with_reducible assumption | refine Ext.trans ?_ (by with_reducible assumption))); have E_1 := Ext.trans E_0 X_1; have hv__0 := VO.ext hv_0 X_1; obtain ⟨hc_1, hf_1⟩ := bcell E_1; have hs_1 : wi.heap.size ≤ v1.heap.size := E_1.size; have hz_1_0 : w.heap.size < v1.heap.size := (by omega); have hz_1_1 : w.heap.size + 1 < v1.heap.size := (by omega); (try (first | have B_1 := Blk.ext B_0 he_1 | have B_1 := Blk.ext (Blk.at_drew _ 48 #[.slice none 0 0, .float .f32 0] _ rfl) he_1 | have B_1 := Blk.ext (Blk.at_ _ 48 #[.slice none 0 0, .float .f32 0] _ rfl) he_1)))
                | (go_at_call 35; refine (toThread_any A cap sp cs _ (HA.out.ext (Ext.trans HXS.out (by (repeat first | with_reducible exact Ext.rfl' _ | with_reducible refine Ext.drewN ?_ _ | with_reducible refine Ext.drew' ?_ | with_reducible refine Ext.alloc' ?_ _ | with_reducible refine Ext.setCell_at ?_ _ _ _ (by first | exact Nat.le_refl _ | omega) | with_reducible assumption | refine Ext.trans ?_ (by with_reducible assumption))))) HLE.out).mono ?_; rintro e v0 ⟨he_0, A_0, rfl, hv_0⟩; have E_0 : Ext wi v0 := (by (repeat first | with_reducible exact Ext.rfl' _ | with_reducible refine Ext.drewN ?_ _ | with_reducible refine Ext.drew' ?_ | with_reducible refine Ext.alloc' ?_ _ | with_reducible refine Ext.setCell_at ?_ _ _ _ (by first | exact Nat.le_refl _ | omega) | with_reducible assumption | refine Ext.trans ?_ (by with_reducible assumption))); obtain ⟨hc_0, hf_0⟩ := bcell E_0; have hs_0 : wi.heap.size ≤ v0.heap.size := E_0.size; have hz_0_0 : w.heap.size < v0.heap.size := (by omega); have hz_0_1 : w.heap.size + 1 < v0.heap.size := (by omega); (try (first | have B_0 := Blk.ext (Blk.at_drew _ 48 #[.slice none 0 0, .float .f32 0] _ rfl) he_0 | have B_0 := Blk.ext (Blk.at_ _ 48 #[.slice none 0 0, .float .f32 0] _ rfl) he_0))))
            all_goals
              go_wp2_with fail
              go_meet
              refine ⟨_, A0, cap0, s0, rfl, rfl, ?_, hs0⟩
              first
                | exact Laid.new E_2 hv_2 (by (try simp only [World.size_alloc, World.size_drew]); omega) cap0 s0 _
                | exact Laid.set E_2 hv_2 (by (try simp only [World.size_alloc, World.size_drew]); omega) B_2 (by (try simp only [World.size_alloc, World.size_drew]); omega) (by (try have := B_1.lt); (try simp only [World.size_alloc, World.size_drew]); omega) cap0 s0
          case rest =>
            obtain ⟨gH, AH, capH, sH, rfl, rfl, hlaid, hsH⟩ := hcut
            obtain ⟨hl1, hl2, hl3, hl4, hl5, hl6, hl7⟩ := hlaid
            rename World => wH
            have HVH := Lib.hid hl6
            have HSH := Lib.hid hsH
            have HXt := Lib.hid (Ext.trans HXS.out hl5)
            have HWt := Lib.hid (Ext.trans HW.out hl5)
            have tHM := Lib.hid (HM.out.ext hl5)
            obtain ⟨hcc, hff⟩ := bcell hl5
            have c15_s : wi.heap.size ≤ wH.heap.size := hl5.size
            have c15_0 : wH.cell? ⟨gS, 0, none⟩ = some (.slice AS ds.length capS) := (hcc _ _ c14_z2).trans c14_4
            have c15_1 : wH.cell? ⟨gS, 1, none⟩ = some (.float .f32 sS) := (hcc _ _ c14_z2).trans c14_5
            have c15_2 : wH.cell? ⟨gG, 0, none⟩ = some (.slice AG ds.length capG) := (hcc _ _ c14_z3).trans c14_6
            have c15_3 : wH.cell? ⟨gG, 1, none⟩ = some (.float .f32 sG) := (hcc _ _ c14_z3).trans c14_7
            have c15_z0 : gS < wH.heap.size := Nat.lt_of_lt_of_le c14_z2 c15_s
            have c15_z1 : gG < wH.heap.size := Nat.lt_of_lt_of_le c14_z3 c15_s
            clear hcc hff c14_0 c14_1 c14_2 c14_3 c14_4 c14_5 c14_6 c14_7 c14_z0 c14_z1 c14_z2 c14_z3 HXS HW HM
            have HXS := HXt
            have HW := HWt
            clear HXt HWt
            have HM := tHM
            clear tHM
            have c15_4 : wH.cell? ⟨gH, 0, none⟩ = some (.slice AH ds.length capH) := hl3
            have c15_5 : wH.cell? ⟨gH, 1, none⟩ = some (.float .f32 sH) := hl4
            have c15_z2 : gH < wH.heap.size := hl2
            clear hl1 hl3 hl4 hl2 hl6 hl7 hsH hl5
            go_wp2_with fail
            refine (eqThread_any _ _ _ _ _ _ ds _ HVH.out.vs (HVS.out.vs.ext HW.out) (by rw [HSS.out, HSH.out]) HDL.out).mono ?_
            rintro e wj ⟨hstep, rfl⟩
            have HXt := Lib.hid (Ext.trans HXS.out hstep)
            have HWt := Lib.hid (Ext.trans HW.out hstep)
            have tHM := Lib.hid (HM.out.ext hstep)
            obtain ⟨hcc, hff⟩ := bcell hstep
            have c16_s : wH.heap.size ≤ wj.heap.size := hstep.size
            have c16_0 : wj.cell? ⟨gS, 0, none⟩ = some (.slice AS ds.length capS) := (hcc _ _ c15_z0).trans c15_0
            have c16_1 : wj.cell? ⟨gS, 1, none⟩ = some (.float .f32 sS) := (hcc _ _ c15_z0).trans c15_1
            have c16_2 : wj.cell? ⟨gG, 0, none⟩ = some (.slice AG ds.length capG) := (hcc _ _ c15_z1).trans c15_2
            have c16_3 : wj.cell? ⟨gG, 1, none⟩ = some (.float .f32 sG) := (hcc _ _ c15_z1).trans c15_3
            have c16_4 : wj.cell? ⟨gH, 0, none⟩ = some (.slice AH ds.length capH) := (hcc _ _ c15_z2).trans c15_4
            have c16_5 : wj.cell? ⟨gH, 1, none⟩ = some (.float .f32 sH) := (hcc _ _ c15_z2).trans c15_5
            have c16_z0 : gS < wj.heap.size := Nat.lt_of_lt_of_le c15_z0 c16_s
            have c16_z1 : gG < wj.heap.size := Nat.lt_of_lt_of_le c15_z1 c16_s
            have c16_z2 : gH < wj.heap.size := Nat.lt_of_lt_of_le c15_z2 c16_s
            clear hcc hff c15_0 c15_1 c15_2 c15_3 c15_4 c15_5 c15_z0 c15_z1 c15_z2 HXS HW HM
            clear hstep
            have HXS := HXt
            have HW := HWt
            clear HXt HWt
            have HM := tHM
            clear tHM
            go_wp2_with fail
            refine (heldThread_any AG ds.length capG sG 1 _ HM.out (by omega) (by omega) HDL.out).mono ?_
            rintro e wk ⟨hstep, rfl⟩
            go_wp2_with fail
            go_ret
            exact ⟨Ext.trans HXS.out hstep, rfl⟩
end Go.Proofs.Ytbaohbpfnlicpaa
