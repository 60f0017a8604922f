/- The law FnExactSplitThread: for all arguments it answers true, and changes nothing that was there. -/
import Derived.Test.YtbaohbpfnlicpaaG2
import Derived.Test.YtbaohbpfnlicpaaG3
import Derived.Test.YtbaohbpfnlicpaaSh2
import Derived.Deep.RegionHeld3
namespace Go.Proofs.Ytbaohbpfnlicpaa
open Go Go.RowKit
set_option linter.unusedVariables false
set_option linter.unusedSimpArgs false
attribute [local go_sem] run_store_float

theorem Marked.only {w w' : World} {A : Option Addr} {n : Nat} {k : Int} {row : Option Nat} (h : Marked w A n k) (hg : w.grownBy w' row) (hne : 0 < n → ∀ b o, A = some ⟨b, o, none⟩ → ¬ some b = row) : Marked w' A n k := fun hp => by
  obtain ⟨b, o, hA, hb, hc⟩ := h hp
  exact ⟨b, o, hA, Nat.lt_of_lt_of_le hb hg.size, fun j hj => (World.cell?_of_block (hg.block b hb (hne hp b o hA))).trans (hc j hj)⟩
theorem VO.only2 {w w' : World} {B : Nat} {A : Option Addr} {cs : List V3} {row : Option Nat} (h : VO w B A cs) (hg : w.grownBy w' row) (hne : 0 < cs.length → ∀ b o, A = some ⟨b, o, none⟩ → ¬ some b = row) : VO w' B A cs := fun hp => h.only hg (hne hp) hp
theorem RTT.open {w0 w' : World} {e : Ending} {P : Two} {pb : Bool} {ds es : List V3} {ps qs : Nat} (h : RTT w0 w' e P) (hP : P = (pb, (ds, ps), (es, qs))) : RT2 w0 w' e pb ds ps es qs := by subst hP; exact h
set_option maxRecDepth 100000 in
set_option maxHeartbeats 3200000 in
theorem lawSplit (A : Option Addr) (cap sp : Nat) (cs : List V3) (i k : Int) (w : World) (hA : VS w A cs) (hl : cs.length ≤ 9223372036854775807) (h1 : -9223372036854775808 ≤ i ∧ i ≤ 9223372036854775807) (h2 : -9223372036854775808 ≤ k ∧ k ≤ 9223372036854775807) :
    Calls Try.prog 17 #[.agg #[.slice A cs.length cap, .float .f32 sp], .int .i64 i, .int .i64 k] w fun e w' => Ext w w' ∧ e = .returned (.bool true) := by
  have HA := Lib.hid hA
  have HL := Lib.hid hl
  clear hA hl
  by_cases hbig : (1048576 : Int) - cs.length < 0
  · have HB := Lib.hid hbig
    clear hbig
    go_enter Try.func17, Try.ntmps17
    go_wp2_with fail
    refine (szThread_big _ _ _ _ _ _ (by omega) (by omega) HL.out HB.out).mono ?_
    rintro e w1 ⟨he1, rfl⟩
    go_wp2_with fail
    go_ret
    refine ⟨?_, rfl⟩
    (repeat first | with_reducible exact Ext.rfl' _ | with_reducible refine Ext.drewN ?_ _ | with_reducible refine Ext.drew' ?_ | with_reducible refine Ext.alloc' ?_ _ | with_reducible refine Ext.setCell_at ?_ _ _ _ (by first | exact Nat.le_refl _ | omega) | with_reducible assumption | refine Ext.trans ?_ (by with_reducible assumption))
  · have HB := Lib.hid hbig
    have hle : cs.length ≤ 1048576 := by omega
    have HLE := Lib.hid hle
    clear hbig hle
    go_enter Try.func17, Try.ntmps17
    go_wp2_with fail
    refine (szThread_ok _ _ _ _ _ _ (by omega) (by omega) HL.out (by have := HB.out; omega)).mono ?_
    rintro e w1 ⟨he1, p, rfl, hq, hq2⟩
    have Hhq2 := Lib.hid hq2
    clear hq2
    obtain ⟨hc1, hf1⟩ := bcell he1
    (try simp only [World.heap_drewN, World.cell?_drewN, World.frozen?_drewN] at hc1 hf1)
    have hs1 := he1.size
    (try simp only [World.heap_drewN, World.size_alloc, World.size_setCell, World.size_drew] at hs1)
    have hz1_w : w.heap.size < w1.heap.size := by omega
    go_wp2_with fail
    refine (toThread_any _ _ _ cs _ (HA.out.ext (by (repeat first | with_reducible exact Ext.rfl' _ | with_reducible refine Ext.drewN ?_ _ | with_reducible refine Ext.drew' ?_ | with_reducible refine Ext.alloc' ?_ _ | with_reducible refine Ext.setCell_at ?_ _ _ _ (by first | exact Nat.le_refl _ | omega) | with_reducible assumption | refine Ext.trans ?_ (by with_reducible assumption)))) HLE.out).mono ?_
    rintro e w2 ⟨he2, A2, rfl, hv2⟩
    have HV2 := Lib.hid hv2
    obtain ⟨hc2, hf2⟩ := bcell he2
    have hs2 := he2.size
    have hz2 : w.heap.size < w2.heap.size := by omega
    have f0 : w2.cell? ⟨w.heap.size, 0, none⟩ = some (.slice A cs.length cap) := by go_simp
    have f1 : w2.cell? ⟨w.heap.size, 1, none⟩ = some (.float .f32 sp) := by go_simp
    have HX := Lib.hid (show Ext w w2 by (repeat first | with_reducible exact Ext.rfl' _ | with_reducible refine Ext.drewN ?_ _ | with_reducible refine Ext.drew' ?_ | with_reducible refine Ext.alloc' ?_ _ | with_reducible refine Ext.setCell_at ?_ _ _ _ (by first | exact Nat.le_refl _ | omega) | with_reducible assumption | refine Ext.trans ?_ (by with_reducible assumption)))
    clear hv2 hc2 hf2 he2 he1 hc1 hf1
    go_wp2_with fail
    obtain ⟨Q, hQ⟩ : ∃ Q, splitP i k cs (cn .f32 sp) = Q := ⟨_, rfl⟩
    have hql := splitP_len i k cs (cn .f32 sp)
    rw [hQ] at hql
    obtain ⟨pb, ⟨ds, ps⟩, ⟨es, qs⟩⟩ := Q
    have HQ := Lib.hid hQ
    have HDL := Lib.hid (show ds.length ≤ 1048576 from hql.1)
    have HEL := Lib.hid (show es.length ≤ 1048576 from hql.2)
    clear hQ hql
    refine (specSplit_any A2 cs.length sp i k cs _ HV2.out.vs HLE.out (Nat.le_refl _)).mono ?_
    rintro e w3 ⟨hstep, hrt⟩
    obtain ⟨A3, cap3, s3, B3, dap3, t3, rfl, hva, hvb, hsa, hsb, -⟩ := RTT.open hrt HQ.out
    have HVa := Lib.hid hva
    have HVb := Lib.hid hvb
    have HSa := Lib.hid hsa
    have HSb := Lib.hid hsb
    clear hva hvb hsa hsb hrt
    clear HV2
    have tHX := Lib.hid (Ext.trans HX.out hstep)
    clear HX
    have HX := tHX
    clear tHX
    have c1_0_0 : w3.cell? ⟨w.heap.size, 0, none⟩ = some (.slice A cs.length cap) := (Below.cell hstep (p := ⟨w.heap.size, 0, none⟩) (by omega)).trans f0
    have c1_0_1 : w3.cell? ⟨w.heap.size, 1, none⟩ = some (.float .f32 sp) := (Below.cell hstep (p := ⟨w.heap.size, 1, none⟩) (by omega)).trans f1
    have z1_0 : w.heap.size < w3.heap.size := by have := hstep.size; omega
    clear f0 f1
    clear hstep
    have HW := Lib.hid (Ext.rfl' w3)
    go_wp2_with fail
    have hstep : Ext w3 ((w3.alloc (.cells #[.slice A3 ds.length cap3, .float .f32 s3] 48)).alloc (.cells #[.slice B3 es.length dap3, .float .f32 t3] 48)) := by (repeat first | with_reducible exact Ext.rfl' _ | with_reducible refine Ext.drewN ?_ _ | with_reducible refine Ext.drew' ?_ | with_reducible refine Ext.alloc' ?_ _ | with_reducible refine Ext.setCell_at ?_ _ _ _ (by first | exact Nat.le_refl _ | omega) | with_reducible assumption | refine Ext.trans ?_ (by with_reducible assumption))
    have hblk0 : Blk ((w3.alloc (.cells #[.slice A3 ds.length cap3, .float .f32 s3] 48)).alloc (.cells #[.slice B3 es.length dap3, .float .f32 t3] 48)) (w3.heap.size) 48 #[.slice A3 ds.length cap3, .float .f32 s3] := (Blk.at_ _ _ _ _ (by simp)).alloc _
    have hblk1 : Blk ((w3.alloc (.cells #[.slice A3 ds.length cap3, .float .f32 s3] 48)).alloc (.cells #[.slice B3 es.length dap3, .float .f32 t3] 48)) (w3.heap.size + 1) 48 #[.slice B3 es.length dap3, .float .f32 t3] := Blk.at_ _ _ _ _ (by simp)
    generalize (w3.alloc (.cells #[.slice A3 ds.length cap3, .float .f32 s3] 48)).alloc (.cells #[.slice B3 es.length dap3, .float .f32 t3] 48) = W3 at *
    have tHX := Lib.hid (Ext.trans HX.out hstep)
    clear HX
    have HX := tHX
    clear tHX
    have tHW := Lib.hid (Ext.trans HW.out hstep)
    clear HW
    have HW := tHW
    clear tHW
    have c2_0_0 : W3.cell? ⟨w.heap.size, 0, none⟩ = some (.slice A cs.length cap) := (Below.cell hstep (p := ⟨w.heap.size, 0, none⟩) (by omega)).trans c1_0_0
    have c2_0_1 : W3.cell? ⟨w.heap.size, 1, none⟩ = some (.float .f32 sp) := (Below.cell hstep (p := ⟨w.heap.size, 1, none⟩) (by omega)).trans c1_0_1
    have z2_0 : w.heap.size < W3.heap.size := by have := hstep.size; omega
    clear c1_0_0 c1_0_1
    have d2_0_0 : W3.cell? ⟨w3.heap.size, 0, none⟩ = some (.slice A3 ds.length cap3) := hblk0.cell 0
    have d2_0_1 : W3.cell? ⟨w3.heap.size, 1, none⟩ = some (.float .f32 s3) := hblk0.cell 1
    have zz2_0 : w3.heap.size < W3.heap.size := hblk0.lt
    have d2_1_0 : W3.cell? ⟨w3.heap.size + 1, 0, none⟩ = some (.slice B3 es.length dap3) := hblk1.cell 0
    have d2_1_1 : W3.cell? ⟨w3.heap.size + 1, 1, none⟩ = some (.float .f32 t3) := hblk1.cell 1
    have zz2_1 : w3.heap.size + 1 < W3.heap.size := hblk1.lt
    clear hstep hblk0 hblk1
    refine (toThread_any A cap sp cs _ (HA.out.ext HX.out) HLE.out).mono ?_
    rintro e w4 ⟨hstep, A4, rfl, hv4⟩
    have HV4 := Lib.hid hv4
    have HV04 := Lib.hid hv4
    clear hv4
    have tHX := Lib.hid (Ext.trans HX.out hstep)
    clear HX
    have HX := tHX
    clear tHX
    have tHW := Lib.hid (Ext.trans HW.out hstep)
    clear HW
    have HW := tHW
    clear tHW
    have c3_0_0 : w4.cell? ⟨w.heap.size, 0, none⟩ = some (.slice A cs.length cap) := (Below.cell hstep (p := ⟨w.heap.size, 0, none⟩) (by omega)).trans c2_0_0
    have c3_0_1 : w4.cell? ⟨w.heap.size, 1, none⟩ = some (.float .f32 sp) := (Below.cell hstep (p := ⟨w.heap.size, 1, none⟩) (by omega)).trans c2_0_1
    have z3_0 : w.heap.size < w4.heap.size := by have := hstep.size; omega
    have c3_1_0 : w4.cell? ⟨w3.heap.size, 0, none⟩ = some (.slice A3 ds.length cap3) := (Below.cell hstep (p := ⟨w3.heap.size, 0, none⟩) (by omega)).trans d2_0_0
    have c3_1_1 : w4.cell? ⟨w3.heap.size, 1, none⟩ = some (.float .f32 s3) := (Below.cell hstep (p := ⟨w3.heap.size, 1, none⟩) (by omega)).trans d2_0_1
    have z3_1 : w3.heap.size < w4.heap.size := by have := hstep.size; omega
    have c3_2_0 : w4.cell? ⟨w3.heap.size + 1, 0, none⟩ = some (.slice B3 es.length dap3) := (Below.cell hstep (p := ⟨w3.heap.size + 1, 0, none⟩) (by omega)).trans d2_1_0
    have c3_2_1 : w4.cell? ⟨w3.heap.size + 1, 1, none⟩ = some (.float .f32 t3) := (Below.cell hstep (p := ⟨w3.heap.size + 1, 1, none⟩) (by omega)).trans d2_1_1
    have z3_2 : w3.heap.size + 1 < w4.heap.size := by have := hstep.size; omega
    clear c2_0_0 c2_0_1 d2_0_0 d2_0_1 d2_1_0 d2_1_1
    clear hstep
    go_wp2_with fail
    have hstep : Ext w4 (w4.alloc (.cells #[.slice A4 cs.length cs.length, .float .f32 sp] 48)) := by (repeat first | with_reducible exact Ext.rfl' _ | with_reducible refine Ext.drewN ?_ _ | with_reducible refine Ext.drew' ?_ | with_reducible refine Ext.alloc' ?_ _ | with_reducible refine Ext.setCell_at ?_ _ _ _ (by first | exact Nat.le_refl _ | omega) | with_reducible assumption | refine Ext.trans ?_ (by with_reducible assumption))
    have hblk0 : Blk (w4.alloc (.cells #[.slice A4 cs.length cs.length, .float .f32 sp] 48)) (w4.heap.size) 48 #[.slice A4 cs.length cs.length, .float .f32 sp] := Blk.at_ _ _ _ _ (by simp)
    generalize w4.alloc (.cells #[.slice A4 cs.length cs.length, .float .f32 sp] 48) = W4 at *
    have tHX := Lib.hid (Ext.trans HX.out hstep)
    clear HX
    have HX := tHX
    clear tHX
    have tHW := Lib.hid (Ext.trans HW.out hstep)
    clear HW
    have HW := tHW
    clear tHW
    have tHV4 := Lib.hid (HV4.out.ext hstep)
    clear HV4
    have HV4 := tHV4
    clear tHV4
    have c4_0_0 : W4.cell? ⟨w.heap.size, 0, none⟩ = some (.slice A cs.length cap) := (Below.cell hstep (p := ⟨w.heap.size, 0, none⟩) (by omega)).trans c3_0_0
    have c4_0_1 : W4.cell? ⟨w.heap.size, 1, none⟩ = some (.float .f32 sp) := (Below.cell hstep (p := ⟨w.heap.size, 1, none⟩) (by omega)).trans c3_0_1
    have z4_0 : w.heap.size < W4.heap.size := by have := hstep.size; omega
    have c4_1_0 : W4.cell? ⟨w3.heap.size, 0, none⟩ = some (.slice A3 ds.length cap3) := (Below.cell hstep (p := ⟨w3.heap.size, 0, none⟩) (by omega)).trans c3_1_0
    have c4_1_1 : W4.cell? ⟨w3.heap.size, 1, none⟩ = some (.float .f32 s3) := (Below.cell hstep (p := ⟨w3.heap.size, 1, none⟩) (by omega)).trans c3_1_1
    have z4_1 : w3.heap.size < W4.heap.size := by have := hstep.size; omega
    have c4_2_0 : W4.cell? ⟨w3.heap.size + 1, 0, none⟩ = some (.slice B3 es.length dap3) := (Below.cell hstep (p := ⟨w3.heap.size + 1, 0, none⟩) (by omega)).trans c3_2_0
    have c4_2_1 : W4.cell? ⟨w3.heap.size + 1, 1, none⟩ = some (.float .f32 t3) := (Below.cell hstep (p := ⟨w3.heap.size + 1, 1, none⟩) (by omega)).trans c3_2_1
    have z4_2 : w3.heap.size + 1 < W4.heap.size := by have := hstep.size; omega
    clear c3_0_0 c3_0_1 c3_1_0 c3_1_1 c3_2_0 c3_2_1
    have d4_0_0 : W4.cell? ⟨w4.heap.size, 0, none⟩ = some (.slice A4 cs.length cs.length) := hblk0.cell 0
    have d4_0_1 : W4.cell? ⟨w4.heap.size, 1, none⟩ = some (.float .f32 sp) := hblk0.cell 1
    have zz4_0 : w4.heap.size < W4.heap.size := hblk0.lt
    clear hstep hblk0
    refine (implSplit_any A4 cs.length sp i k cs _ HV4.out.vs HLE.out (Nat.le_refl _)).mono ?_
    rintro e w5 ⟨hstep, hrt⟩
    obtain ⟨A5, cap5, s5, B5, dap5, t5, rfl, hva, hvb, hsa, hsb, hap⟩ := RTT.open hrt HQ.out
    have HVg := Lib.hid hva
    have HVh := Lib.hid hvb
    have HVg0 := Lib.hid hva
    have HVh0 := Lib.hid hvb
    have HSg := Lib.hid hsa
    have HSh := Lib.hid hsb
    have HAP := Lib.hid hap
    clear hva hvb hsa hsb hrt hap
    have tHX := Lib.hid (Ext.trans HX.out hstep)
    clear HX
    have HX := tHX
    clear tHX
    have tHW := Lib.hid (Ext.trans HW.out hstep)
    clear HW
    have HW := tHW
    clear tHW
    have tHV4 := Lib.hid (HV4.out.ext hstep)
    clear HV4
    have HV4 := tHV4
    clear tHV4
    have c5_0_0 : w5.cell? ⟨w.heap.size, 0, none⟩ = some (.slice A cs.length cap) := (Below.cell hstep (p := ⟨w.heap.size, 0, none⟩) (by omega)).trans c4_0_0
    have c5_0_1 : w5.cell? ⟨w.heap.size, 1, none⟩ = some (.float .f32 sp) := (Below.cell hstep (p := ⟨w.heap.size, 1, none⟩) (by omega)).trans c4_0_1
    have z5_0 : w.heap.size < w5.heap.size := by have := hstep.size; omega
    have c5_1_0 : w5.cell? ⟨w3.heap.size, 0, none⟩ = some (.slice A3 ds.length cap3) := (Below.cell hstep (p := ⟨w3.heap.size, 0, none⟩) (by omega)).trans c4_1_0
    have c5_1_1 : w5.cell? ⟨w3.heap.size, 1, none⟩ = some (.float .f32 s3) := (Below.cell hstep (p := ⟨w3.heap.size, 1, none⟩) (by omega)).trans c4_1_1
    have z5_1 : w3.heap.size < w5.heap.size := by have := hstep.size; omega
    have c5_2_0 : w5.cell? ⟨w3.heap.size + 1, 0, none⟩ = some (.slice B3 es.length dap3) := (Below.cell hstep (p := ⟨w3.heap.size + 1, 0, none⟩) (by omega)).trans c4_2_0
    have c5_2_1 : w5.cell? ⟨w3.heap.size + 1, 1, none⟩ = some (.float .f32 t3) := (Below.cell hstep (p := ⟨w3.heap.size + 1, 1, none⟩) (by omega)).trans c4_2_1
    have z5_2 : w3.heap.size + 1 < w5.heap.size := by have := hstep.size; omega
    have c5_3_0 : w5.cell? ⟨w4.heap.size, 0, none⟩ = some (.slice A4 cs.length cs.length) := (Below.cell hstep (p := ⟨w4.heap.size, 0, none⟩) (by omega)).trans d4_0_0
    have c5_3_1 : w5.cell? ⟨w4.heap.size, 1, none⟩ = some (.float .f32 sp) := (Below.cell hstep (p := ⟨w4.heap.size, 1, none⟩) (by omega)).trans d4_0_1
    have z5_3 : w4.heap.size < w5.heap.size := by have := hstep.size; omega
    clear c4_0_0 c4_0_1 c4_1_0 c4_1_1 c4_2_0 c4_2_1 d4_0_0 d4_0_1
    clear hstep
    go_wp2_with fail
    have hstep : Ext w5 ((w5.alloc (.cells #[.slice A5 ds.length cap5, .float .f32 s5] 48)).alloc (.cells #[.slice B5 es.length dap5, .float .f32 t5] 48)) := by (repeat first | with_reducible exact Ext.rfl' _ | with_reducible refine Ext.drewN ?_ _ | with_reducible refine Ext.drew' ?_ | with_reducible refine Ext.alloc' ?_ _ | with_reducible refine Ext.setCell_at ?_ _ _ _ (by first | exact Nat.le_refl _ | omega) | with_reducible assumption | refine Ext.trans ?_ (by with_reducible assumption))
    have hblk0 : Blk ((w5.alloc (.cells #[.slice A5 ds.length cap5, .float .f32 s5] 48)).alloc (.cells #[.slice B5 es.length dap5, .float .f32 t5] 48)) (w5.heap.size) 48 #[.slice A5 ds.length cap5, .float .f32 s5] := (Blk.at_ _ _ _ _ (by simp)).alloc _
    have hblk1 : Blk ((w5.alloc (.cells #[.slice A5 ds.length cap5, .float .f32 s5] 48)).alloc (.cells #[.slice B5 es.length dap5, .float .f32 t5] 48)) (w5.heap.size + 1) 48 #[.slice B5 es.length dap5, .float .f32 t5] := Blk.at_ _ _ _ _ (by simp)
    generalize (w5.alloc (.cells #[.slice A5 ds.length cap5, .float .f32 s5] 48)).alloc (.cells #[.slice B5 es.length dap5, .float .f32 t5] 48) = W5 at *
    have tHX := Lib.hid (Ext.trans HX.out hstep)
    clear HX
    have HX := tHX
    clear tHX
    have tHW := Lib.hid (Ext.trans HW.out hstep)
    clear HW
    have HW := tHW
    clear tHW
    have tHV4 := Lib.hid (HV4.out.ext hstep)
    clear HV4
    have HV4 := tHV4
    clear tHV4
    have tHVg := Lib.hid (HVg.out.ext hstep)
    clear HVg
    have HVg := tHVg
    clear tHVg
    have tHVh := Lib.hid (HVh.out.ext hstep)
    clear HVh
    have HVh := tHVh
    clear tHVh
    have c6_0_0 : W5.cell? ⟨w.heap.size, 0, none⟩ = some (.slice A cs.length cap) := (Below.cell hstep (p := ⟨w.heap.size, 0, none⟩) (by omega)).trans c5_0_0
    have c6_0_1 : W5.cell? ⟨w.heap.size, 1, none⟩ = some (.float .f32 sp) := (Below.cell hstep (p := ⟨w.heap.size, 1, none⟩) (by omega)).trans c5_0_1
    have z6_0 : w.heap.size < W5.heap.size := by have := hstep.size; omega
    have c6_1_0 : W5.cell? ⟨w3.heap.size, 0, none⟩ = some (.slice A3 ds.length cap3) := (Below.cell hstep (p := ⟨w3.heap.size, 0, none⟩) (by omega)).trans c5_1_0
    have c6_1_1 : W5.cell? ⟨w3.heap.size, 1, none⟩ = some (.float .f32 s3) := (Below.cell hstep (p := ⟨w3.heap.size, 1, none⟩) (by omega)).trans c5_1_1
    have z6_1 : w3.heap.size < W5.heap.size := by have := hstep.size; omega
    have c6_2_0 : W5.cell? ⟨w3.heap.size + 1, 0, none⟩ = some (.slice B3 es.length dap3) := (Below.cell hstep (p := ⟨w3.heap.size + 1, 0, none⟩) (by omega)).trans c5_2_0
    have c6_2_1 : W5.cell? ⟨w3.heap.size + 1, 1, none⟩ = some (.float .f32 t3) := (Below.cell hstep (p := ⟨w3.heap.size + 1, 1, none⟩) (by omega)).trans c5_2_1
    have z6_2 : w3.heap.size + 1 < W5.heap.size := by have := hstep.size; omega
    have c6_3_0 : W5.cell? ⟨w4.heap.size, 0, none⟩ = some (.slice A4 cs.length cs.length) := (Below.cell hstep (p := ⟨w4.heap.size, 0, none⟩) (by omega)).trans c5_3_0
    have c6_3_1 : W5.cell? ⟨w4.heap.size, 1, none⟩ = some (.float .f32 sp) := (Below.cell hstep (p := ⟨w4.heap.size, 1, none⟩) (by omega)).trans c5_3_1
    have z6_3 : w4.heap.size < W5.heap.size := by have := hstep.size; omega
    clear c5_0_0 c5_0_1 c5_1_0 c5_1_1 c5_2_0 c5_2_1 c5_3_0 c5_3_1
    have d6_0_0 : W5.cell? ⟨w5.heap.size, 0, none⟩ = some (.slice A5 ds.length cap5) := hblk0.cell 0
    have d6_0_1 : W5.cell? ⟨w5.heap.size, 1, none⟩ = some (.float .f32 s5) := hblk0.cell 1
    have zz6_0 : w5.heap.size < W5.heap.size := hblk0.lt
    have d6_1_0 : W5.cell? ⟨w5.heap.size + 1, 0, none⟩ = some (.slice B5 es.length dap5) := hblk1.cell 0
    have d6_1_1 : W5.cell? ⟨w5.heap.size + 1, 1, none⟩ = some (.float .f32 t5) := hblk1.cell 1
    have zz6_1 : w5.heap.size + 1 < W5.heap.size := hblk1.lt
    clear hstep hblk0 hblk1
    refine (eqThread_any _ _ _ _ _ _ ds _ HVg.out.vs (HVa.out.vs.ext HW.out) (by rw [HSa.out, HSg.out]) HDL.out).mono ?_
    rintro e w6 ⟨hstep, rfl⟩
    have tHX := Lib.hid (Ext.trans HX.out hstep)
    clear HX
    have HX := tHX
    clear tHX
    have tHW := Lib.hid (Ext.trans HW.out hstep)
    clear HW
    have HW := tHW
    clear tHW
    have tHV4 := Lib.hid (HV4.out.ext hstep)
    clear HV4
    have HV4 := tHV4
    clear tHV4
    have tHVg := Lib.hid (HVg.out.ext hstep)
    clear HVg
    have HVg := tHVg
    clear tHVg
    have tHVh := Lib.hid (HVh.out.ext hstep)
    clear HVh
    have HVh := tHVh
    clear tHVh
    have c7_0_0 : w6.cell? ⟨w.heap.size, 0, none⟩ = some (.slice A cs.length cap) := (Below.cell hstep (p := ⟨w.heap.size, 0, none⟩) (by omega)).trans c6_0_0
    have c7_0_1 : w6.cell? ⟨w.heap.size, 1, none⟩ = some (.float .f32 sp) := (Below.cell hstep (p := ⟨w.heap.size, 1, none⟩) (by omega)).trans c6_0_1
    have z7_0 : w.heap.size < w6.heap.size := by have := hstep.size; omega
    have c7_1_0 : w6.cell? ⟨w3.heap.size, 0, none⟩ = some (.slice A3 ds.length cap3) := (Below.cell hstep (p := ⟨w3.heap.size, 0, none⟩) (by omega)).trans c6_1_0
    have c7_1_1 : w6.cell? ⟨w3.heap.size, 1, none⟩ = some (.float .f32 s3) := (Below.cell hstep (p := ⟨w3.heap.size, 1, none⟩) (by omega)).trans c6_1_1
    have z7_1 : w3.heap.size < w6.heap.size := by have := hstep.size; omega
    have c7_2_0 : w6.cell? ⟨w3.heap.size + 1, 0, none⟩ = some (.slice B3 es.length dap3) := (Below.cell hstep (p := ⟨w3.heap.size + 1, 0, none⟩) (by omega)).trans c6_2_0
    have c7_2_1 : w6.cell? ⟨w3.heap.size + 1, 1, none⟩ = some (.float .f32 t3) := (Below.cell hstep (p := ⟨w3.heap.size + 1, 1, none⟩) (by omega)).trans c6_2_1
    have z7_2 : w3.heap.size + 1 < w6.heap.size := by have := hstep.size; omega
    have c7_3_0 : w6.cell? ⟨w4.heap.size, 0, none⟩ = some (.slice A4 cs.length cs.length) := (Below.cell hstep (p := ⟨w4.heap.size, 0, none⟩) (by omega)).trans c6_3_0
    have c7_3_1 : w6.cell? ⟨w4.heap.size, 1, none⟩ = some (.float .f32 sp) := (Below.cell hstep (p := ⟨w4.heap.size, 1, none⟩) (by omega)).trans c6_3_1
    have z7_3 : w4.heap.size < w6.heap.size := by have := hstep.size; omega
    have c7_4_0 : w6.cell? ⟨w5.heap.size, 0, none⟩ = some (.slice A5 ds.length cap5) := (Below.cell hstep (p := ⟨w5.heap.size, 0, none⟩) (by omega)).trans d6_0_0
    have c7_4_1 : w6.cell? ⟨w5.heap.size, 1, none⟩ = some (.float .f32 s5) := (Below.cell hstep (p := ⟨w5.heap.size, 1, none⟩) (by omega)).trans d6_0_1
    have z7_4 : w5.heap.size < w6.heap.size := by have := hstep.size; omega
    have c7_5_0 : w6.cell? ⟨w5.heap.size + 1, 0, none⟩ = some (.slice B5 es.length dap5) := (Below.cell hstep (p := ⟨w5.heap.size + 1, 0, none⟩) (by omega)).trans d6_1_0
    have c7_5_1 : w6.cell? ⟨w5.heap.size + 1, 1, none⟩ = some (.float .f32 t5) := (Below.cell hstep (p := ⟨w5.heap.size + 1, 1, none⟩) (by omega)).trans d6_1_1
    have z7_5 : w5.heap.size + 1 < w6.heap.size := by have := hstep.size; omega
    clear c6_0_0 c6_0_1 c6_1_0 c6_1_1 c6_2_0 c6_2_1 c6_3_0 c6_3_1 d6_0_0 d6_0_1 d6_1_0 d6_1_1
    clear hstep
    go_wp2_with fail
    refine (eqThread_any _ _ _ _ _ _ es _ HVh.out.vs (HVb.out.vs.ext HW.out) (by rw [HSb.out, HSh.out]) HEL.out).mono ?_
    rintro e w7 ⟨hstep, rfl⟩
    have tHX := Lib.hid (Ext.trans HX.out hstep)
    clear HX
    have HX := tHX
    clear tHX
    have tHW := Lib.hid (Ext.trans HW.out hstep)
    clear HW
    have HW := tHW
    clear tHW
    have tHV4 := Lib.hid (HV4.out.ext hstep)
    clear HV4
    have HV4 := tHV4
    clear tHV4
    have tHVg := Lib.hid (HVg.out.ext hstep)
    clear HVg
    have HVg := tHVg
    clear tHVg
    have tHVh := Lib.hid (HVh.out.ext hstep)
    clear HVh
    have HVh := tHVh
    clear tHVh
    have c8_0_0 : w7.cell? ⟨w.heap.size, 0, none⟩ = some (.slice A cs.length cap) := (Below.cell hstep (p := ⟨w.heap.size, 0, none⟩) (by omega)).trans c7_0_0
    have c8_0_1 : w7.cell? ⟨w.heap.size, 1, none⟩ = some (.float .f32 sp) := (Below.cell hstep (p := ⟨w.heap.size, 1, none⟩) (by omega)).trans c7_0_1
    have z8_0 : w.heap.size < w7.heap.size := by have := hstep.size; omega
    have c8_1_0 : w7.cell? ⟨w3.heap.size, 0, none⟩ = some (.slice A3 ds.length cap3) := (Below.cell hstep (p := ⟨w3.heap.size, 0, none⟩) (by omega)).trans c7_1_0
    have c8_1_1 : w7.cell? ⟨w3.heap.size, 1, none⟩ = some (.float .f32 s3) := (Below.cell hstep (p := ⟨w3.heap.size, 1, none⟩) (by omega)).trans c7_1_1
    have z8_1 : w3.heap.size < w7.heap.size := by have := hstep.size; omega
    have c8_2_0 : w7.cell? ⟨w3.heap.size + 1, 0, none⟩ = some (.slice B3 es.length dap3) := (Below.cell hstep (p := ⟨w3.heap.size + 1, 0, none⟩) (by omega)).trans c7_2_0
    have c8_2_1 : w7.cell? ⟨w3.heap.size + 1, 1, none⟩ = some (.float .f32 t3) := (Below.cell hstep (p := ⟨w3.heap.size + 1, 1, none⟩) (by omega)).trans c7_2_1
    have z8_2 : w3.heap.size + 1 < w7.heap.size := by have := hstep.size; omega
    have c8_3_0 : w7.cell? ⟨w4.heap.size, 0, none⟩ = some (.slice A4 cs.length cs.length) := (Below.cell hstep (p := ⟨w4.heap.size, 0, none⟩) (by omega)).trans c7_3_0
    have c8_3_1 : w7.cell? ⟨w4.heap.size, 1, none⟩ = some (.float .f32 sp) := (Below.cell hstep (p := ⟨w4.heap.size, 1, none⟩) (by omega)).trans c7_3_1
    have z8_3 : w4.heap.size < w7.heap.size := by have := hstep.size; omega
    have c8_4_0 : w7.cell? ⟨w5.heap.size, 0, none⟩ = some (.slice A5 ds.length cap5) := (Below.cell hstep (p := ⟨w5.heap.size, 0, none⟩) (by omega)).trans c7_4_0
    have c8_4_1 : w7.cell? ⟨w5.heap.size, 1, none⟩ = some (.float .f32 s5) := (Below.cell hstep (p := ⟨w5.heap.size, 1, none⟩) (by omega)).trans c7_4_1
    have z8_4 : w5.heap.size < w7.heap.size := by have := hstep.size; omega
    have c8_5_0 : w7.cell? ⟨w5.heap.size + 1, 0, none⟩ = some (.slice B5 es.length dap5) := (Below.cell hstep (p := ⟨w5.heap.size + 1, 0, none⟩) (by omega)).trans c7_5_0
    have c8_5_1 : w7.cell? ⟨w5.heap.size + 1, 1, none⟩ = some (.float .f32 t5) := (Below.cell hstep (p := ⟨w5.heap.size + 1, 1, none⟩) (by omega)).trans c7_5_1
    have z8_5 : w5.heap.size + 1 < w7.heap.size := by have := hstep.size; omega
    clear c7_0_0 c7_0_1 c7_1_0 c7_1_1 c7_2_0 c7_2_1 c7_3_0 c7_3_1 c7_4_0 c7_4_1 c7_5_0 c7_5_1
    clear hstep
    go_wp2_with fail
    go_region_held3 (fun W => W.cell? ⟨w.heap.size, 0, none⟩ = some (.slice A cs.length cap) ∧ W.cell? ⟨w.heap.size, 1, none⟩ = some (.float .f32 sp) ∧ W.cell? ⟨w4.heap.size, 0, none⟩ = some (.slice A4 cs.length cs.length) ∧ W.cell? ⟨w4.heap.size, 1, none⟩ = some (.float .f32 sp)) (((try dsimp only); (repeat' apply And.intro) <;> (simp [*, go_sem]; done)))
      (first
        | (go_at_call 37; refine (eqThread_any _ _ _ _ _ _ cs _ (HV4.out.vs.ext (Ext.trans (Ext.drew' (Ext.rfl' _)) hp1)) hpv.vs rfl HLE.out).mono ?_; rintro e w9 ⟨hp2, rfl⟩; obtain ⟨hpc2, hpf2⟩ := bcell hp2; have hps2 := hp2.size; have hpz2 : w.heap.size < w9.heap.size := (by omega); have hpz2' : w4.heap.size < w9.heap.size := (by omega))
        | (go_at_call 35; refine (toThread_any A cap sp cs _ (HA.out.ext (Ext.trans HX.out (Ext.drew' (Ext.rfl' _)))) HLE.out).mono ?_; rintro e w8 ⟨hp1, A8, rfl, hpv⟩; (have hpp := bcellD hp1; obtain ⟨hpc, hpf⟩ := hpp); have hps1 : w7.heap.size ≤ w8.heap.size := hp1.size; have hpz1 : w.heap.size < w8.heap.size := (by omega); have hpz1' : w4.heap.size < w8.heap.size := (by omega)))
    have hstep : Ext w7 w9 := Ext.trans (Ext.trans (Ext.drew' (Ext.rfl' w7)) hp1) hp2
    clear hp2 hpc hpf hpc2 hpf2 hpv
    have tHX := Lib.hid (Ext.trans HX.out hstep)
    clear HX
    have HX := tHX
    clear tHX
    have tHW := Lib.hid (Ext.trans HW.out hstep)
    clear HW
    have HW := tHW
    clear tHW
    have tHV4 := Lib.hid (HV4.out.ext hstep)
    clear HV4
    have HV4 := tHV4
    clear tHV4
    have tHVg := Lib.hid (HVg.out.ext hstep)
    clear HVg
    have HVg := tHVg
    clear tHVg
    have tHVh := Lib.hid (HVh.out.ext hstep)
    clear HVh
    have HVh := tHVh
    clear tHVh
    have c9_0_0 : w9.cell? ⟨w.heap.size, 0, none⟩ = some (.slice A cs.length cap) := (Below.cell hstep (p := ⟨w.heap.size, 0, none⟩) (by omega)).trans c8_0_0
    have c9_0_1 : w9.cell? ⟨w.heap.size, 1, none⟩ = some (.float .f32 sp) := (Below.cell hstep (p := ⟨w.heap.size, 1, none⟩) (by omega)).trans c8_0_1
    have z9_0 : w.heap.size < w9.heap.size := by have := hstep.size; omega
    have c9_1_0 : w9.cell? ⟨w3.heap.size, 0, none⟩ = some (.slice A3 ds.length cap3) := (Below.cell hstep (p := ⟨w3.heap.size, 0, none⟩) (by omega)).trans c8_1_0
    have c9_1_1 : w9.cell? ⟨w3.heap.size, 1, none⟩ = some (.float .f32 s3) := (Below.cell hstep (p := ⟨w3.heap.size, 1, none⟩) (by omega)).trans c8_1_1
    have z9_1 : w3.heap.size < w9.heap.size := by have := hstep.size; omega
    have c9_2_0 : w9.cell? ⟨w3.heap.size + 1, 0, none⟩ = some (.slice B3 es.length dap3) := (Below.cell hstep (p := ⟨w3.heap.size + 1, 0, none⟩) (by omega)).trans c8_2_0
    have c9_2_1 : w9.cell? ⟨w3.heap.size + 1, 1, none⟩ = some (.float .f32 t3) := (Below.cell hstep (p := ⟨w3.heap.size + 1, 1, none⟩) (by omega)).trans c8_2_1
    have z9_2 : w3.heap.size + 1 < w9.heap.size := by have := hstep.size; omega
    have c9_3_0 : w9.cell? ⟨w4.heap.size, 0, none⟩ = some (.slice A4 cs.length cs.length) := (Below.cell hstep (p := ⟨w4.heap.size, 0, none⟩) (by omega)).trans c8_3_0
    have c9_3_1 : w9.cell? ⟨w4.heap.size, 1, none⟩ = some (.float .f32 sp) := (Below.cell hstep (p := ⟨w4.heap.size, 1, none⟩) (by omega)).trans c8_3_1
    have z9_3 : w4.heap.size < w9.heap.size := by have := hstep.size; omega
    have c9_4_0 : w9.cell? ⟨w5.heap.size, 0, none⟩ = some (.slice A5 ds.length cap5) := (Below.cell hstep (p := ⟨w5.heap.size, 0, none⟩) (by omega)).trans c8_4_0
    have c9_4_1 : w9.cell? ⟨w5.heap.size, 1, none⟩ = some (.float .f32 s5) := (Below.cell hstep (p := ⟨w5.heap.size, 1, none⟩) (by omega)).trans c8_4_1
    have z9_4 : w5.heap.size < w9.heap.size := by have := hstep.size; omega
    have c9_5_0 : w9.cell? ⟨w5.heap.size + 1, 0, none⟩ = some (.slice B5 es.length dap5) := (Below.cell hstep (p := ⟨w5.heap.size + 1, 0, none⟩) (by omega)).trans c8_5_0
    have c9_5_1 : w9.cell? ⟨w5.heap.size + 1, 1, none⟩ = some (.float .f32 t5) := (Below.cell hstep (p := ⟨w5.heap.size + 1, 1, none⟩) (by omega)).trans c8_5_1
    have z9_5 : w5.heap.size + 1 < w9.heap.size := by have := hstep.size; omega
    clear c8_0_0 c8_0_1 c8_1_0 c8_1_1 c8_2_0 c8_2_1 c8_3_0 c8_3_1 c8_4_0 c8_4_1 c8_5_0 c8_5_1
    clear hstep hp1
    go_wp2_with fail
    refine (markThread2_any A4 cs.length sp cs 1 _ _ HV4.out (by omega) (by omega) HLE.out).mono ?_
    rintro e wa ⟨rfl, -, row, hg, hr⟩
    have hrow : ∀ g, row = some g → W3.heap.size ≤ g ∧ g < w4.heap.size := fun g hg => by
      obtain ⟨hp, o, hAx, hB, -⟩ := hr g hg
      exact HV04.out.lt hp hAx
    have tHX := Lib.hid (Ext.grown HX.out hg (fun k hk => by have := hrow k hk; omega))
    have tHW := Lib.hid (Ext.grown HW.out hg (fun k hk => by have := hrow k hk; omega))
    have tHVg := Lib.hid (HVg.out.only_lt hg (fun k hk => by have := hrow k hk; omega))
    have tHVh := Lib.hid (HVh.out.only_lt hg (fun k hk => by have := hrow k hk; omega))
    clear HX HW HVg HVh HV4
    have HX := tHX
    have HW := tHW
    have HVg := tHVg
    have HVh := tHVh
    clear tHX tHW tHVg tHVh
    have c10_0_0 : wa.cell? ⟨w.heap.size, 0, none⟩ = some (.slice A cs.length cap) := (marked_cell hg _ _ (by omega) (fun j hj => by have := hrow j hj; omega)).trans c9_0_0
    have c10_0_1 : wa.cell? ⟨w.heap.size, 1, none⟩ = some (.float .f32 sp) := (marked_cell hg _ _ (by omega) (fun j hj => by have := hrow j hj; omega)).trans c9_0_1
    have z10_0 : w.heap.size < wa.heap.size := by have := hg.size; omega
    have c10_1_0 : wa.cell? ⟨w3.heap.size, 0, none⟩ = some (.slice A3 ds.length cap3) := (marked_cell hg _ _ (by omega) (fun j hj => by have := hrow j hj; omega)).trans c9_1_0
    have c10_1_1 : wa.cell? ⟨w3.heap.size, 1, none⟩ = some (.float .f32 s3) := (marked_cell hg _ _ (by omega) (fun j hj => by have := hrow j hj; omega)).trans c9_1_1
    have z10_1 : w3.heap.size < wa.heap.size := by have := hg.size; omega
    have c10_2_0 : wa.cell? ⟨w3.heap.size + 1, 0, none⟩ = some (.slice B3 es.length dap3) := (marked_cell hg _ _ (by omega) (fun j hj => by have := hrow j hj; omega)).trans c9_2_0
    have c10_2_1 : wa.cell? ⟨w3.heap.size + 1, 1, none⟩ = some (.float .f32 t3) := (marked_cell hg _ _ (by omega) (fun j hj => by have := hrow j hj; omega)).trans c9_2_1
    have z10_2 : w3.heap.size + 1 < wa.heap.size := by have := hg.size; omega
    have c10_4_0 : wa.cell? ⟨w5.heap.size, 0, none⟩ = some (.slice A5 ds.length cap5) := (marked_cell hg _ _ (by omega) (fun j hj => by have := hrow j hj; omega)).trans c9_4_0
    have c10_4_1 : wa.cell? ⟨w5.heap.size, 1, none⟩ = some (.float .f32 s5) := (marked_cell hg _ _ (by omega) (fun j hj => by have := hrow j hj; omega)).trans c9_4_1
    have z10_4 : w5.heap.size < wa.heap.size := by have := hg.size; omega
    have c10_5_0 : wa.cell? ⟨w5.heap.size + 1, 0, none⟩ = some (.slice B5 es.length dap5) := (marked_cell hg _ _ (by omega) (fun j hj => by have := hrow j hj; omega)).trans c9_5_0
    have c10_5_1 : wa.cell? ⟨w5.heap.size + 1, 1, none⟩ = some (.float .f32 t5) := (marked_cell hg _ _ (by omega) (fun j hj => by have := hrow j hj; omega)).trans c9_5_1
    have z10_5 : w5.heap.size + 1 < wa.heap.size := by have := hg.size; omega
    clear c9_0_0 c9_0_1 c9_1_0 c9_1_1 c9_2_0 c9_2_1 c9_3_0 c9_3_1 c9_4_0 c9_4_1 c9_5_0 c9_5_1
    clear hg hr hrow row
    have hkx : ¬ (1 + (cs.length : Int) * 3 < 0) := by omega
    go_wp2_with fail
    refine (eqThread_any _ _ _ _ _ _ ds _ HVg.out.vs (HVa.out.vs.ext HW.out) (by rw [HSa.out, HSg.out]) HDL.out).mono ?_
    rintro e wb ⟨hstep, rfl⟩
    have tHX := Lib.hid (Ext.trans HX.out hstep)
    clear HX
    have HX := tHX
    clear tHX
    have tHW := Lib.hid (Ext.trans HW.out hstep)
    clear HW
    have HW := tHW
    clear tHW
    have tHVg := Lib.hid (HVg.out.ext hstep)
    clear HVg
    have HVg := tHVg
    clear tHVg
    have tHVh := Lib.hid (HVh.out.ext hstep)
    clear HVh
    have HVh := tHVh
    clear tHVh
    have c11_0_0 : wb.cell? ⟨w.heap.size, 0, none⟩ = some (.slice A cs.length cap) := (Below.cell hstep (p := ⟨w.heap.size, 0, none⟩) (by omega)).trans c10_0_0
    have c11_0_1 : wb.cell? ⟨w.heap.size, 1, none⟩ = some (.float .f32 sp) := (Below.cell hstep (p := ⟨w.heap.size, 1, none⟩) (by omega)).trans c10_0_1
    have z11_0 : w.heap.size < wb.heap.size := by have := hstep.size; omega
    have c11_1_0 : wb.cell? ⟨w3.heap.size, 0, none⟩ = some (.slice A3 ds.length cap3) := (Below.cell hstep (p := ⟨w3.heap.size, 0, none⟩) (by omega)).trans c10_1_0
    have c11_1_1 : wb.cell? ⟨w3.heap.size, 1, none⟩ = some (.float .f32 s3) := (Below.cell hstep (p := ⟨w3.heap.size, 1, none⟩) (by omega)).trans c10_1_1
    have z11_1 : w3.heap.size < wb.heap.size := by have := hstep.size; omega
    have c11_2_0 : wb.cell? ⟨w3.heap.size + 1, 0, none⟩ = some (.slice B3 es.length dap3) := (Below.cell hstep (p := ⟨w3.heap.size + 1, 0, none⟩) (by omega)).trans c10_2_0
    have c11_2_1 : wb.cell? ⟨w3.heap.size + 1, 1, none⟩ = some (.float .f32 t3) := (Below.cell hstep (p := ⟨w3.heap.size + 1, 1, none⟩) (by omega)).trans c10_2_1
    have z11_2 : w3.heap.size + 1 < wb.heap.size := by have := hstep.size; omega
    have c11_3_0 : wb.cell? ⟨w5.heap.size, 0, none⟩ = some (.slice A5 ds.length cap5) := (Below.cell hstep (p := ⟨w5.heap.size, 0, none⟩) (by omega)).trans c10_4_0
    have c11_3_1 : wb.cell? ⟨w5.heap.size, 1, none⟩ = some (.float .f32 s5) := (Below.cell hstep (p := ⟨w5.heap.size, 1, none⟩) (by omega)).trans c10_4_1
    have z11_3 : w5.heap.size < wb.heap.size := by have := hstep.size; omega
    have c11_4_0 : wb.cell? ⟨w5.heap.size + 1, 0, none⟩ = some (.slice B5 es.length dap5) := (Below.cell hstep (p := ⟨w5.heap.size + 1, 0, none⟩) (by omega)).trans c10_5_0
    have c11_4_1 : wb.cell? ⟨w5.heap.size + 1, 1, none⟩ = some (.float .f32 t5) := (Below.cell hstep (p := ⟨w5.heap.size + 1, 1, none⟩) (by omega)).trans c10_5_1
    have z11_4 : w5.heap.size + 1 < wb.heap.size := by have := hstep.size; omega
    clear c10_0_0 c10_0_1 c10_1_0 c10_1_1 c10_2_0 c10_2_1 c10_4_0 c10_4_1 c10_5_0 c10_5_1
    clear hstep
    go_wp2_with fail
    refine (eqThread_any _ _ _ _ _ _ es _ HVh.out.vs (HVb.out.vs.ext HW.out) (by rw [HSb.out, HSh.out]) HEL.out).mono ?_
    rintro e wc ⟨hstep, rfl⟩
    have tHX := Lib.hid (Ext.trans HX.out hstep)
    clear HX
    have HX := tHX
    clear tHX
    have tHW := Lib.hid (Ext.trans HW.out hstep)
    clear HW
    have HW := tHW
    clear tHW
    have tHVg := Lib.hid (HVg.out.ext hstep)
    clear HVg
    have HVg := tHVg
    clear tHVg
    have tHVh := Lib.hid (HVh.out.ext hstep)
    clear HVh
    have HVh := tHVh
    clear tHVh
    have c12_0_0 : wc.cell? ⟨w.heap.size, 0, none⟩ = some (.slice A cs.length cap) := (Below.cell hstep (p := ⟨w.heap.size, 0, none⟩) (by omega)).trans c11_0_0
    have c12_0_1 : wc.cell? ⟨w.heap.size, 1, none⟩ = some (.float .f32 sp) := (Below.cell hstep (p := ⟨w.heap.size, 1, none⟩) (by omega)).trans c11_0_1
    have z12_0 : w.heap.size < wc.heap.size := by have := hstep.size; omega
    have c12_1_0 : wc.cell? ⟨w3.heap.size, 0, none⟩ = some (.slice A3 ds.length cap3) := (Below.cell hstep (p := ⟨w3.heap.size, 0, none⟩) (by omega)).trans c11_1_0
    have c12_1_1 : wc.cell? ⟨w3.heap.size, 1, none⟩ = some (.float .f32 s3) := (Below.cell hstep (p := ⟨w3.heap.size, 1, none⟩) (by omega)).trans c11_1_1
    have z12_1 : w3.heap.size < wc.heap.size := by have := hstep.size; omega
    have c12_2_0 : wc.cell? ⟨w3.heap.size + 1, 0, none⟩ = some (.slice B3 es.length dap3) := (Below.cell hstep (p := ⟨w3.heap.size + 1, 0, none⟩) (by omega)).trans c11_2_0
    have c12_2_1 : wc.cell? ⟨w3.heap.size + 1, 1, none⟩ = some (.float .f32 t3) := (Below.cell hstep (p := ⟨w3.heap.size + 1, 1, none⟩) (by omega)).trans c11_2_1
    have z12_2 : w3.heap.size + 1 < wc.heap.size := by have := hstep.size; omega
    have c12_3_0 : wc.cell? ⟨w5.heap.size, 0, none⟩ = some (.slice A5 ds.length cap5) := (Below.cell hstep (p := ⟨w5.heap.size, 0, none⟩) (by omega)).trans c11_3_0
    have c12_3_1 : wc.cell? ⟨w5.heap.size, 1, none⟩ = some (.float .f32 s5) := (Below.cell hstep (p := ⟨w5.heap.size, 1, none⟩) (by omega)).trans c11_3_1
    have z12_3 : w5.heap.size < wc.heap.size := by have := hstep.size; omega
    have c12_4_0 : wc.cell? ⟨w5.heap.size + 1, 0, none⟩ = some (.slice B5 es.length dap5) := (Below.cell hstep (p := ⟨w5.heap.size + 1, 0, none⟩) (by omega)).trans c11_4_0
    have c12_4_1 : wc.cell? ⟨w5.heap.size + 1, 1, none⟩ = some (.float .f32 t5) := (Below.cell hstep (p := ⟨w5.heap.size + 1, 1, none⟩) (by omega)).trans c11_4_1
    have z12_4 : w5.heap.size + 1 < wc.heap.size := by have := hstep.size; omega
    clear c11_0_0 c11_0_1 c11_1_0 c11_1_1 c11_2_0 c11_2_1 c11_3_0 c11_3_1 c11_4_0 c11_4_1
    clear hstep
    go_wp2_with fail
    refine (markThread2_any A5 cap5 s5 ds 1 _ _ HVg.out (by omega) (by omega) HDL.out).mono ?_
    rintro e wd ⟨rfl, hmk, row, hg, hr⟩
    have hrow : ∀ g, row = some g → W4.heap.size ≤ g ∧ g < w5.heap.size := fun g hg => by
      obtain ⟨hp, o, hAx, hB, -⟩ := hr g hg
      exact HVg0.out.lt hp hAx
    have HMg := Lib.hid hmk
    have tHX := Lib.hid (Ext.grown HX.out hg (fun k hk => by have := hrow k hk; omega))
    have tHW := Lib.hid (Ext.grown HW.out hg (fun k hk => by have := hrow k hk; omega))
    have tHVh := Lib.hid (HVh.out.only2 hg (fun he b o hAx hj => by
      obtain ⟨hp, o', hAg, -, -⟩ := hr b hj.symm
      exact HAP.out hp he _ _ _ _ hAg hAx rfl))
    clear HX HW HVg HVh hmk
    have HX := tHX
    have HW := tHW
    have HVh := tHVh
    clear tHX tHW tHVh
    have c13_0_0 : wd.cell? ⟨w.heap.size, 0, none⟩ = some (.slice A cs.length cap) := (marked_cell hg _ _ (by omega) (fun j hj => by have := hrow j hj; omega)).trans c12_0_0
    have c13_0_1 : wd.cell? ⟨w.heap.size, 1, none⟩ = some (.float .f32 sp) := (marked_cell hg _ _ (by omega) (fun j hj => by have := hrow j hj; omega)).trans c12_0_1
    have z13_0 : w.heap.size < wd.heap.size := by have := hg.size; omega
    have c13_1_0 : wd.cell? ⟨w3.heap.size, 0, none⟩ = some (.slice A3 ds.length cap3) := (marked_cell hg _ _ (by omega) (fun j hj => by have := hrow j hj; omega)).trans c12_1_0
    have c13_1_1 : wd.cell? ⟨w3.heap.size, 1, none⟩ = some (.float .f32 s3) := (marked_cell hg _ _ (by omega) (fun j hj => by have := hrow j hj; omega)).trans c12_1_1
    have z13_1 : w3.heap.size < wd.heap.size := by have := hg.size; omega
    have c13_2_0 : wd.cell? ⟨w3.heap.size + 1, 0, none⟩ = some (.slice B3 es.length dap3) := (marked_cell hg _ _ (by omega) (fun j hj => by have := hrow j hj; omega)).trans c12_2_0
    have c13_2_1 : wd.cell? ⟨w3.heap.size + 1, 1, none⟩ = some (.float .f32 t3) := (marked_cell hg _ _ (by omega) (fun j hj => by have := hrow j hj; omega)).trans c12_2_1
    have z13_2 : w3.heap.size + 1 < wd.heap.size := by have := hg.size; omega
    have c13_3_0 : wd.cell? ⟨w5.heap.size, 0, none⟩ = some (.slice A5 ds.length cap5) := (marked_cell hg _ _ (by omega) (fun j hj => by have := hrow j hj; omega)).trans c12_3_0
    have c13_3_1 : wd.cell? ⟨w5.heap.size, 1, none⟩ = some (.float .f32 s5) := (marked_cell hg _ _ (by omega) (fun j hj => by have := hrow j hj; omega)).trans c12_3_1
    have z13_3 : w5.heap.size < wd.heap.size := by have := hg.size; omega
    have c13_4_0 : wd.cell? ⟨w5.heap.size + 1, 0, none⟩ = some (.slice B5 es.length dap5) := (marked_cell hg _ _ (by omega) (fun j hj => by have := hrow j hj; omega)).trans c12_4_0
    have c13_4_1 : wd.cell? ⟨w5.heap.size + 1, 1, none⟩ = some (.float .f32 t5) := (marked_cell hg _ _ (by omega) (fun j hj => by have := hrow j hj; omega)).trans c12_4_1
    have z13_4 : w5.heap.size + 1 < wd.heap.size := by have := hg.size; omega
    clear c12_0_0 c12_0_1 c12_1_0 c12_1_1 c12_2_0 c12_2_1 c12_3_0 c12_3_1 c12_4_0 c12_4_1
    clear hg hr hrow row
    go_wp2_with fail
    refine (markThread2_any B5 dap5 t5 es (1 + ds.length * 3) _ _ HVh.out (by have := HDL.out; omega) (by have := HDL.out; omega) HEL.out).mono ?_
    rintro e wf ⟨rfl, hmk, row, hg, hr⟩
    have hrow : ∀ g, row = some g → W4.heap.size ≤ g ∧ g < w5.heap.size := fun g hg => by
      obtain ⟨hp, o, hAx, hB, -⟩ := hr g hg
      exact HVh0.out.lt hp hAx
    have HMh := Lib.hid hmk
    have tHX := Lib.hid (Ext.grown HX.out hg (fun k hk => by have := hrow k hk; omega))
    have tHW := Lib.hid (Ext.grown HW.out hg (fun k hk => by have := hrow k hk; omega))
    have tHMg := Lib.hid (HMg.out.only hg (fun hp b o hAx hj => by
      obtain ⟨he, o', hAh, -, -⟩ := hr b hj.symm
      exact HAP.out hp he _ _ _ _ hAx hAh rfl))
    clear HX HW HVh HMg hmk
    have HX := tHX
    have HW := tHW
    have HMg := tHMg
    clear tHX tHW tHMg
    have c14_0_0 : wf.cell? ⟨w.heap.size, 0, none⟩ = some (.slice A cs.length cap) := (marked_cell hg _ _ (by omega) (fun j hj => by have := hrow j hj; omega)).trans c13_0_0
    have c14_0_1 : wf.cell? ⟨w.heap.size, 1, none⟩ = some (.float .f32 sp) := (marked_cell hg _ _ (by omega) (fun j hj => by have := hrow j hj; omega)).trans c13_0_1
    have z14_0 : w.heap.size < wf.heap.size := by have := hg.size; omega
    have c14_1_0 : wf.cell? ⟨w3.heap.size, 0, none⟩ = some (.slice A3 ds.length cap3) := (marked_cell hg _ _ (by omega) (fun j hj => by have := hrow j hj; omega)).trans c13_1_0
    have c14_1_1 : wf.cell? ⟨w3.heap.size, 1, none⟩ = some (.float .f32 s3) := (marked_cell hg _ _ (by omega) (fun j hj => by have := hrow j hj; omega)).trans c13_1_1
    have z14_1 : w3.heap.size < wf.heap.size := by have := hg.size; omega
    have c14_2_0 : wf.cell? ⟨w3.heap.size + 1, 0, none⟩ = some (.slice B3 es.length dap3) := (marked_cell hg _ _ (by omega) (fun j hj => by have := hrow j hj; omega)).trans c13_2_0
    have c14_2_1 : wf.cell? ⟨w3.heap.size + 1, 1, none⟩ = some (.float .f32 t3) := (marked_cell hg _ _ (by omega) (fun j hj => by have := hrow j hj; omega)).trans c13_2_1
    have z14_2 : w3.heap.size + 1 < wf.heap.size := by have := hg.size; omega
    have c14_3_0 : wf.cell? ⟨w5.heap.size, 0, none⟩ = some (.slice A5 ds.length cap5) := (marked_cell hg _ _ (by omega) (fun j hj => by have := hrow j hj; omega)).trans c13_3_0
    have c14_3_1 : wf.cell? ⟨w5.heap.size, 1, none⟩ = some (.float .f32 s5) := (marked_cell hg _ _ (by omega) (fun j hj => by have := hrow j hj; omega)).trans c13_3_1
    have z14_3 : w5.heap.size < wf.heap.size := by have := hg.size; omega
    have c14_4_0 : wf.cell? ⟨w5.heap.size + 1, 0, none⟩ = some (.slice B5 es.length dap5) := (marked_cell hg _ _ (by omega) (fun j hj => by have := hrow j hj; omega)).trans c13_4_0
    have c14_4_1 : wf.cell? ⟨w5.heap.size + 1, 1, none⟩ = some (.float .f32 t5) := (marked_cell hg _ _ (by omega) (fun j hj => by have := hrow j hj; omega)).trans c13_4_1
    have z14_4 : w5.heap.size + 1 < wf.heap.size := by have := hg.size; omega
    clear c13_0_0 c13_0_1 c13_1_0 c13_1_1 c13_2_0 c13_2_1 c13_3_0 c13_3_1 c13_4_0 c13_4_1
    clear hg hr hrow row
    go_wp2_with fail
    refine (heldThread_any A5 ds.length cap5 s5 1 _ HMg.out (by omega) (by omega) HDL.out).mono ?_
    rintro e wg ⟨hstep, rfl⟩
    have tHX := Lib.hid (Ext.trans HX.out hstep)
    clear HX
    have HX := tHX
    clear tHX
    have tHW := Lib.hid (Ext.trans HW.out hstep)
    clear HW
    have HW := tHW
    clear tHW
    have tHMg := Lib.hid (HMg.out.ext hstep)
    clear HMg
    have HMg := tHMg
    clear tHMg
    have tHMh := Lib.hid (HMh.out.ext hstep)
    clear HMh
    have HMh := tHMh
    clear tHMh
    have c15_0_0 : wg.cell? ⟨w.heap.size, 0, none⟩ = some (.slice A cs.length cap) := (Below.cell hstep (p := ⟨w.heap.size, 0, none⟩) (by omega)).trans c14_0_0
    have c15_0_1 : wg.cell? ⟨w.heap.size, 1, none⟩ = some (.float .f32 sp) := (Below.cell hstep (p := ⟨w.heap.size, 1, none⟩) (by omega)).trans c14_0_1
    have z15_0 : w.heap.size < wg.heap.size := by have := hstep.size; omega
    have c15_1_0 : wg.cell? ⟨w3.heap.size, 0, none⟩ = some (.slice A3 ds.length cap3) := (Below.cell hstep (p := ⟨w3.heap.size, 0, none⟩) (by omega)).trans c14_1_0
    have c15_1_1 : wg.cell? ⟨w3.heap.size, 1, none⟩ = some (.float .f32 s3) := (Below.cell hstep (p := ⟨w3.heap.size, 1, none⟩) (by omega)).trans c14_1_1
    have z15_1 : w3.heap.size < wg.heap.size := by have := hstep.size; omega
    have c15_2_0 : wg.cell? ⟨w3.heap.size + 1, 0, none⟩ = some (.slice B3 es.length dap3) := (Below.cell hstep (p := ⟨w3.heap.size + 1, 0, none⟩) (by omega)).trans c14_2_0
    have c15_2_1 : wg.cell? ⟨w3.heap.size + 1, 1, none⟩ = some (.float .f32 t3) := (Below.cell hstep (p := ⟨w3.heap.size + 1, 1, none⟩) (by omega)).trans c14_2_1
    have z15_2 : w3.heap.size + 1 < wg.heap.size := by have := hstep.size; omega
    have c15_3_0 : wg.cell? ⟨w5.heap.size, 0, none⟩ = some (.slice A5 ds.length cap5) := (Below.cell hstep (p := ⟨w5.heap.size, 0, none⟩) (by omega)).trans c14_3_0
    have c15_3_1 : wg.cell? ⟨w5.heap.size, 1, none⟩ = some (.float .f32 s5) := (Below.cell hstep (p := ⟨w5.heap.size, 1, none⟩) (by omega)).trans c14_3_1
    have z15_3 : w5.heap.size < wg.heap.size := by have := hstep.size; omega
    have c15_4_0 : wg.cell? ⟨w5.heap.size + 1, 0, none⟩ = some (.slice B5 es.length dap5) := (Below.cell hstep (p := ⟨w5.heap.size + 1, 0, none⟩) (by omega)).trans c14_4_0
    have c15_4_1 : wg.cell? ⟨w5.heap.size + 1, 1, none⟩ = some (.float .f32 t5) := (Below.cell hstep (p := ⟨w5.heap.size + 1, 1, none⟩) (by omega)).trans c14_4_1
    have z15_4 : w5.heap.size + 1 < wg.heap.size := by have := hstep.size; omega
    clear c14_0_0 c14_0_1 c14_1_0 c14_1_1 c14_2_0 c14_2_1 c14_3_0 c14_3_1 c14_4_0 c14_4_1
    clear hstep
    have hka_wg : ¬ (1 + (ds.length : Int) * 3 < 0) := by omega
    go_wp2_with fail
    refine (heldThread_any B5 es.length dap5 t5 (1 + ds.length * 3) _ HMh.out (by have := HDL.out; omega) (by have := HDL.out; omega) HEL.out).mono ?_
    rintro e wh ⟨hstep, rfl⟩
    have tHX := Lib.hid (Ext.trans HX.out hstep)
    clear HX
    have HX := tHX
    clear tHX
    have tHW := Lib.hid (Ext.trans HW.out hstep)
    clear HW
    have HW := tHW
    clear tHW
    have tHMg := Lib.hid (HMg.out.ext hstep)
    clear HMg
    have HMg := tHMg
    clear tHMg
    have tHMh := Lib.hid (HMh.out.ext hstep)
    clear HMh
    have HMh := tHMh
    clear tHMh
    have c16_0_0 : wh.cell? ⟨w.heap.size, 0, none⟩ = some (.slice A cs.length cap) := (Below.cell hstep (p := ⟨w.heap.size, 0, none⟩) (by omega)).trans c15_0_0
    have c16_0_1 : wh.cell? ⟨w.heap.size, 1, none⟩ = some (.float .f32 sp) := (Below.cell hstep (p := ⟨w.heap.size, 1, none⟩) (by omega)).trans c15_0_1
    have z16_0 : w.heap.size < wh.heap.size := by have := hstep.size; omega
    have c16_1_0 : wh.cell? ⟨w3.heap.size, 0, none⟩ = some (.slice A3 ds.length cap3) := (Below.cell hstep (p := ⟨w3.heap.size, 0, none⟩) (by omega)).trans c15_1_0
    have c16_1_1 : wh.cell? ⟨w3.heap.size, 1, none⟩ = some (.float .f32 s3) := (Below.cell hstep (p := ⟨w3.heap.size, 1, none⟩) (by omega)).trans c15_1_1
    have z16_1 : w3.heap.size < wh.heap.size := by have := hstep.size; omega
    have c16_2_0 : wh.cell? ⟨w3.heap.size + 1, 0, none⟩ = some (.slice B3 es.length dap3) := (Below.cell hstep (p := ⟨w3.heap.size + 1, 0, none⟩) (by omega)).trans c15_2_0
    have c16_2_1 : wh.cell? ⟨w3.heap.size + 1, 1, none⟩ = some (.float .f32 t3) := (Below.cell hstep (p := ⟨w3.heap.size + 1, 1, none⟩) (by omega)).trans c15_2_1
    have z16_2 : w3.heap.size + 1 < wh.heap.size := by have := hstep.size; omega
    have c16_3_0 : wh.cell? ⟨w5.heap.size, 0, none⟩ = some (.slice A5 ds.length cap5) := (Below.cell hstep (p := ⟨w5.heap.size, 0, none⟩) (by omega)).trans c15_3_0
    have c16_3_1 : wh.cell? ⟨w5.heap.size, 1, none⟩ = some (.float .f32 s5) := (Below.cell hstep (p := ⟨w5.heap.size, 1, none⟩) (by omega)).trans c15_3_1
    have z16_3 : w5.heap.size < wh.heap.size := by have := hstep.size; omega
    have c16_4_0 : wh.cell? ⟨w5.heap.size + 1, 0, none⟩ = some (.slice B5 es.length dap5) := (Below.cell hstep (p := ⟨w5.heap.size + 1, 0, none⟩) (by omega)).trans c15_4_0
    have c16_4_1 : wh.cell? ⟨w5.heap.size + 1, 1, none⟩ = some (.float .f32 t5) := (Below.cell hstep (p := ⟨w5.heap.size + 1, 1, none⟩) (by omega)).trans c15_4_1
    have z16_4 : w5.heap.size + 1 < wh.heap.size := by have := hstep.size; omega
    clear c15_0_0 c15_0_1 c15_1_0 c15_1_1 c15_2_0 c15_2_1 c15_3_0 c15_3_1 c15_4_0 c15_4_1
    clear hstep
    have hkb_wg : ¬ (1 + (ds.length : Int) * 3 + (es.length : Int) * 3 < 0) := by omega
    go_wp2_with fail
    refine (toThread_any A cap sp cs _ (HA.out.ext HX.out) HLE.out).mono ?_
    rintro e wi ⟨hstep, Ai, rfl, hvi⟩
    have HVi := Lib.hid hvi
    clear hvi
    have tHX := Lib.hid (Ext.trans HX.out hstep)
    clear HX
    have HX := tHX
    clear tHX
    have tHW := Lib.hid (Ext.trans HW.out hstep)
    clear HW
    have HW := tHW
    clear tHW
    have tHMg := Lib.hid (HMg.out.ext hstep)
    clear HMg
    have HMg := tHMg
    clear tHMg
    have tHMh := Lib.hid (HMh.out.ext hstep)
    clear HMh
    have HMh := tHMh
    clear tHMh
    have c17_0_0 : wi.cell? ⟨w.heap.size, 0, none⟩ = some (.slice A cs.length cap) := (Below.cell hstep (p := ⟨w.heap.size, 0, none⟩) (by omega)).trans c16_0_0
    have c17_0_1 : wi.cell? ⟨w.heap.size, 1, none⟩ = some (.float .f32 sp) := (Below.cell hstep (p := ⟨w.heap.size, 1, none⟩) (by omega)).trans c16_0_1
    have z17_0 : w.heap.size < wi.heap.size := by have := hstep.size; omega
    have c17_1_0 : wi.cell? ⟨w3.heap.size, 0, none⟩ = some (.slice A3 ds.length cap3) := (Below.cell hstep (p := ⟨w3.heap.size, 0, none⟩) (by omega)).trans c16_1_0
    have c17_1_1 : wi.cell? ⟨w3.heap.size, 1, none⟩ = some (.float .f32 s3) := (Below.cell hstep (p := ⟨w3.heap.size, 1, none⟩) (by omega)).trans c16_1_1
    have z17_1 : w3.heap.size < wi.heap.size := by have := hstep.size; omega
    have c17_2_0 : wi.cell? ⟨w3.heap.size + 1, 0, none⟩ = some (.slice B3 es.length dap3) := (Below.cell hstep (p := ⟨w3.heap.size + 1, 0, none⟩) (by omega)).trans c16_2_0
    have c17_2_1 : wi.cell? ⟨w3.heap.size + 1, 1, none⟩ = some (.float .f32 t3) := (Below.cell hstep (p := ⟨w3.heap.size + 1, 1, none⟩) (by omega)).trans c16_2_1
    have z17_2 : w3.heap.size + 1 < wi.heap.size := by have := hstep.size; omega
    have c17_3_0 : wi.cell? ⟨w5.heap.size, 0, none⟩ = some (.slice A5 ds.length cap5) := (Below.cell hstep (p := ⟨w5.heap.size, 0, none⟩) (by omega)).trans c16_3_0
    have c17_3_1 : wi.cell? ⟨w5.heap.size, 1, none⟩ = some (.float .f32 s5) := (Below.cell hstep (p := ⟨w5.heap.size, 1, none⟩) (by omega)).trans c16_3_1
    have z17_3 : w5.heap.size < wi.heap.size := by have := hstep.size; omega
    have c17_4_0 : wi.cell? ⟨w5.heap.size + 1, 0, none⟩ = some (.slice B5 es.length dap5) := (Below.cell hstep (p := ⟨w5.heap.size + 1, 0, none⟩) (by omega)).trans c16_4_0
    have c17_4_1 : wi.cell? ⟨w5.heap.size + 1, 1, none⟩ = some (.float .f32 t5) := (Below.cell hstep (p := ⟨w5.heap.size + 1, 1, none⟩) (by omega)).trans c16_4_1
    have z17_4 : w5.heap.size + 1 < wi.heap.size := by have := hstep.size; omega
    clear c16_0_0 c16_0_1 c16_1_0 c16_1_1 c16_2_0 c16_2_1 c16_3_0 c16_3_1 c16_4_0 c16_4_1
    clear hstep
    go_wp2_with fail
    refine (implSplit_any Ai cs.length sp i k cs _ HVi.out.vs HLE.out (Nat.le_refl _)).mono ?_
    rintro e wj ⟨hstep, hrt⟩
    obtain ⟨Aj, capj, sj, Bj, dapj, tj, rfl, hva, hvb, hsa, hsb, -⟩ := RTT.open hrt HQ.out
    have HVj := Lib.hid hva
    have HVk := Lib.hid hvb
    have HSj := Lib.hid hsa
    have HSk := Lib.hid hsb
    clear hva hvb hsa hsb hrt HVi
    have tHX := Lib.hid (Ext.trans HX.out hstep)
    clear HX
    have HX := tHX
    clear tHX
    have tHW := Lib.hid (Ext.trans HW.out hstep)
    clear HW
    have HW := tHW
    clear tHW
    have tHMg := Lib.hid (HMg.out.ext hstep)
    clear HMg
    have HMg := tHMg
    clear tHMg
    have tHMh := Lib.hid (HMh.out.ext hstep)
    clear HMh
    have HMh := tHMh
    clear tHMh
    have c18_0_0 : wj.cell? ⟨w.heap.size, 0, none⟩ = some (.slice A cs.length cap) := (Below.cell hstep (p := ⟨w.heap.size, 0, none⟩) (by omega)).trans c17_0_0
    have c18_0_1 : wj.cell? ⟨w.heap.size, 1, none⟩ = some (.float .f32 sp) := (Below.cell hstep (p := ⟨w.heap.size, 1, none⟩) (by omega)).trans c17_0_1
    have z18_0 : w.heap.size < wj.heap.size := by have := hstep.size; omega
    have c18_1_0 : wj.cell? ⟨w3.heap.size, 0, none⟩ = some (.slice A3 ds.length cap3) := (Below.cell hstep (p := ⟨w3.heap.size, 0, none⟩) (by omega)).trans c17_1_0
    have c18_1_1 : wj.cell? ⟨w3.heap.size, 1, none⟩ = some (.float .f32 s3) := (Below.cell hstep (p := ⟨w3.heap.size, 1, none⟩) (by omega)).trans c17_1_1
    have z18_1 : w3.heap.size < wj.heap.size := by have := hstep.size; omega
    have c18_2_0 : wj.cell? ⟨w3.heap.size + 1, 0, none⟩ = some (.slice B3 es.length dap3) := (Below.cell hstep (p := ⟨w3.heap.size + 1, 0, none⟩) (by omega)).trans c17_2_0
    have c18_2_1 : wj.cell? ⟨w3.heap.size + 1, 1, none⟩ = some (.float .f32 t3) := (Below.cell hstep (p := ⟨w3.heap.size + 1, 1, none⟩) (by omega)).trans c17_2_1
    have z18_2 : w3.heap.size + 1 < wj.heap.size := by have := hstep.size; omega
    have c18_3_0 : wj.cell? ⟨w5.heap.size, 0, none⟩ = some (.slice A5 ds.length cap5) := (Below.cell hstep (p := ⟨w5.heap.size, 0, none⟩) (by omega)).trans c17_3_0
    have c18_3_1 : wj.cell? ⟨w5.heap.size, 1, none⟩ = some (.float .f32 s5) := (Below.cell hstep (p := ⟨w5.heap.size, 1, none⟩) (by omega)).trans c17_3_1
    have z18_3 : w5.heap.size < wj.heap.size := by have := hstep.size; omega
    have c18_4_0 : wj.cell? ⟨w5.heap.size + 1, 0, none⟩ = some (.slice B5 es.length dap5) := (Below.cell hstep (p := ⟨w5.heap.size + 1, 0, none⟩) (by omega)).trans c17_4_0
    have c18_4_1 : wj.cell? ⟨w5.heap.size + 1, 1, none⟩ = some (.float .f32 t5) := (Below.cell hstep (p := ⟨w5.heap.size + 1, 1, none⟩) (by omega)).trans c17_4_1
    have z18_4 : w5.heap.size + 1 < wj.heap.size := by have := hstep.size; omega
    clear c17_0_0 c17_0_1 c17_1_0 c17_1_1 c17_2_0 c17_2_1 c17_3_0 c17_3_1 c17_4_0 c17_4_1
    clear hstep
    go_wp2_with fail
    have hstep : Ext wj ((wj.alloc (.cells #[.slice Aj ds.length capj, .float .f32 sj] 48)).alloc (.cells #[.slice Bj es.length dapj, .float .f32 tj] 48)) := by (repeat first | with_reducible exact Ext.rfl' _ | with_reducible refine Ext.drewN ?_ _ | with_reducible refine Ext.drew' ?_ | with_reducible refine Ext.alloc' ?_ _ | with_reducible refine Ext.setCell_at ?_ _ _ _ (by first | exact Nat.le_refl _ | omega) | with_reducible assumption | refine Ext.trans ?_ (by with_reducible assumption))
    have hblk0 : Blk ((wj.alloc (.cells #[.slice Aj ds.length capj, .float .f32 sj] 48)).alloc (.cells #[.slice Bj es.length dapj, .float .f32 tj] 48)) (wj.heap.size) 48 #[.slice Aj ds.length capj, .float .f32 sj] := (Blk.at_ _ _ _ _ (by simp)).alloc _
    have hblk1 : Blk ((wj.alloc (.cells #[.slice Aj ds.length capj, .float .f32 sj] 48)).alloc (.cells #[.slice Bj es.length dapj, .float .f32 tj] 48)) (wj.heap.size + 1) 48 #[.slice Bj es.length dapj, .float .f32 tj] := Blk.at_ _ _ _ _ (by simp)
    generalize (wj.alloc (.cells #[.slice Aj ds.length capj, .float .f32 sj] 48)).alloc (.cells #[.slice Bj es.length dapj, .float .f32 tj] 48) = Wj at *
    have tHX := Lib.hid (Ext.trans HX.out hstep)
    clear HX
    have HX := tHX
    clear tHX
    have tHW := Lib.hid (Ext.trans HW.out hstep)
    clear HW
    have HW := tHW
    clear tHW
    have tHMg := Lib.hid (HMg.out.ext hstep)
    clear HMg
    have HMg := tHMg
    clear tHMg
    have tHMh := Lib.hid (HMh.out.ext hstep)
    clear HMh
    have HMh := tHMh
    clear tHMh
    have tHVj := Lib.hid (HVj.out.ext hstep)
    clear HVj
    have HVj := tHVj
    clear tHVj
    have tHVk := Lib.hid (HVk.out.ext hstep)
    clear HVk
    have HVk := tHVk
    clear tHVk
    have c19_0_0 : Wj.cell? ⟨w.heap.size, 0, none⟩ = some (.slice A cs.length cap) := (Below.cell hstep (p := ⟨w.heap.size, 0, none⟩) (by omega)).trans c18_0_0
    have c19_0_1 : Wj.cell? ⟨w.heap.size, 1, none⟩ = some (.float .f32 sp) := (Below.cell hstep (p := ⟨w.heap.size, 1, none⟩) (by omega)).trans c18_0_1
    have z19_0 : w.heap.size < Wj.heap.size := by have := hstep.size; omega
    have c19_1_0 : Wj.cell? ⟨w3.heap.size, 0, none⟩ = some (.slice A3 ds.length cap3) := (Below.cell hstep (p := ⟨w3.heap.size, 0, none⟩) (by omega)).trans c18_1_0
    have c19_1_1 : Wj.cell? ⟨w3.heap.size, 1, none⟩ = some (.float .f32 s3) := (Below.cell hstep (p := ⟨w3.heap.size, 1, none⟩) (by omega)).trans c18_1_1
    have z19_1 : w3.heap.size < Wj.heap.size := by have := hstep.size; omega
    have c19_2_0 : Wj.cell? ⟨w3.heap.size + 1, 0, none⟩ = some (.slice B3 es.length dap3) := (Below.cell hstep (p := ⟨w3.heap.size + 1, 0, none⟩) (by omega)).trans c18_2_0
    have c19_2_1 : Wj.cell? ⟨w3.heap.size + 1, 1, none⟩ = some (.float .f32 t3) := (Below.cell hstep (p := ⟨w3.heap.size + 1, 1, none⟩) (by omega)).trans c18_2_1
    have z19_2 : w3.heap.size + 1 < Wj.heap.size := by have := hstep.size; omega
    have c19_3_0 : Wj.cell? ⟨w5.heap.size, 0, none⟩ = some (.slice A5 ds.length cap5) := (Below.cell hstep (p := ⟨w5.heap.size, 0, none⟩) (by omega)).trans c18_3_0
    have c19_3_1 : Wj.cell? ⟨w5.heap.size, 1, none⟩ = some (.float .f32 s5) := (Below.cell hstep (p := ⟨w5.heap.size, 1, none⟩) (by omega)).trans c18_3_1
    have z19_3 : w5.heap.size < Wj.heap.size := by have := hstep.size; omega
    have c19_4_0 : Wj.cell? ⟨w5.heap.size + 1, 0, none⟩ = some (.slice B5 es.length dap5) := (Below.cell hstep (p := ⟨w5.heap.size + 1, 0, none⟩) (by omega)).trans c18_4_0
    have c19_4_1 : Wj.cell? ⟨w5.heap.size + 1, 1, none⟩ = some (.float .f32 t5) := (Below.cell hstep (p := ⟨w5.heap.size + 1, 1, none⟩) (by omega)).trans c18_4_1
    have z19_4 : w5.heap.size + 1 < Wj.heap.size := by have := hstep.size; omega
    clear c18_0_0 c18_0_1 c18_1_0 c18_1_1 c18_2_0 c18_2_1 c18_3_0 c18_3_1 c18_4_0 c18_4_1
    have d19_0_0 : Wj.cell? ⟨wj.heap.size, 0, none⟩ = some (.slice Aj ds.length capj) := hblk0.cell 0
    have d19_0_1 : Wj.cell? ⟨wj.heap.size, 1, none⟩ = some (.float .f32 sj) := hblk0.cell 1
    have zz19_0 : wj.heap.size < Wj.heap.size := hblk0.lt
    have d19_1_0 : Wj.cell? ⟨wj.heap.size + 1, 0, none⟩ = some (.slice Bj es.length dapj) := hblk1.cell 0
    have d19_1_1 : Wj.cell? ⟨wj.heap.size + 1, 1, none⟩ = some (.float .f32 tj) := hblk1.cell 1
    have zz19_1 : wj.heap.size + 1 < Wj.heap.size := hblk1.lt
    clear hstep hblk0 hblk1
    refine (eqThread_any _ _ _ _ _ _ ds _ HVj.out.vs (HVa.out.vs.ext HW.out) (by rw [HSa.out, HSj.out]) HDL.out).mono ?_
    rintro e wk ⟨hstep, rfl⟩
    have tHX := Lib.hid (Ext.trans HX.out hstep)
    clear HX
    have HX := tHX
    clear tHX
    have tHW := Lib.hid (Ext.trans HW.out hstep)
    clear HW
    have HW := tHW
    clear tHW
    have tHMg := Lib.hid (HMg.out.ext hstep)
    clear HMg
    have HMg := tHMg
    clear tHMg
    have tHMh := Lib.hid (HMh.out.ext hstep)
    clear HMh
    have HMh := tHMh
    clear tHMh
    have tHVj := Lib.hid (HVj.out.ext hstep)
    clear HVj
    have HVj := tHVj
    clear tHVj
    have tHVk := Lib.hid (HVk.out.ext hstep)
    clear HVk
    have HVk := tHVk
    clear tHVk
    have c20_0_0 : wk.cell? ⟨w.heap.size, 0, none⟩ = some (.slice A cs.length cap) := (Below.cell hstep (p := ⟨w.heap.size, 0, none⟩) (by omega)).trans c19_0_0
    have c20_0_1 : wk.cell? ⟨w.heap.size, 1, none⟩ = some (.float .f32 sp) := (Below.cell hstep (p := ⟨w.heap.size, 1, none⟩) (by omega)).trans c19_0_1
    have z20_0 : w.heap.size < wk.heap.size := by have := hstep.size; omega
    have c20_1_0 : wk.cell? ⟨w3.heap.size, 0, none⟩ = some (.slice A3 ds.length cap3) := (Below.cell hstep (p := ⟨w3.heap.size, 0, none⟩) (by omega)).trans c19_1_0
    have c20_1_1 : wk.cell? ⟨w3.heap.size, 1, none⟩ = some (.float .f32 s3) := (Below.cell hstep (p := ⟨w3.heap.size, 1, none⟩) (by omega)).trans c19_1_1
    have z20_1 : w3.heap.size < wk.heap.size := by have := hstep.size; omega
    have c20_2_0 : wk.cell? ⟨w3.heap.size + 1, 0, none⟩ = some (.slice B3 es.length dap3) := (Below.cell hstep (p := ⟨w3.heap.size + 1, 0, none⟩) (by omega)).trans c19_2_0
    have c20_2_1 : wk.cell? ⟨w3.heap.size + 1, 1, none⟩ = some (.float .f32 t3) := (Below.cell hstep (p := ⟨w3.heap.size + 1, 1, none⟩) (by omega)).trans c19_2_1
    have z20_2 : w3.heap.size + 1 < wk.heap.size := by have := hstep.size; omega
    have c20_3_0 : wk.cell? ⟨w5.heap.size, 0, none⟩ = some (.slice A5 ds.length cap5) := (Below.cell hstep (p := ⟨w5.heap.size, 0, none⟩) (by omega)).trans c19_3_0
    have c20_3_1 : wk.cell? ⟨w5.heap.size, 1, none⟩ = some (.float .f32 s5) := (Below.cell hstep (p := ⟨w5.heap.size, 1, none⟩) (by omega)).trans c19_3_1
    have z20_3 : w5.heap.size < wk.heap.size := by have := hstep.size; omega
    have c20_4_0 : wk.cell? ⟨w5.heap.size + 1, 0, none⟩ = some (.slice B5 es.length dap5) := (Below.cell hstep (p := ⟨w5.heap.size + 1, 0, none⟩) (by omega)).trans c19_4_0
    have c20_4_1 : wk.cell? ⟨w5.heap.size + 1, 1, none⟩ = some (.float .f32 t5) := (Below.cell hstep (p := ⟨w5.heap.size + 1, 1, none⟩) (by omega)).trans c19_4_1
    have z20_4 : w5.heap.size + 1 < wk.heap.size := by have := hstep.size; omega
    have c20_5_0 : wk.cell? ⟨wj.heap.size, 0, none⟩ = some (.slice Aj ds.length capj) := (Below.cell hstep (p := ⟨wj.heap.size, 0, none⟩) (by omega)).trans d19_0_0
    have c20_5_1 : wk.cell? ⟨wj.heap.size, 1, none⟩ = some (.float .f32 sj) := (Below.cell hstep (p := ⟨wj.heap.size, 1, none⟩) (by omega)).trans d19_0_1
    have z20_5 : wj.heap.size < wk.heap.size := by have := hstep.size; omega
    have c20_6_0 : wk.cell? ⟨wj.heap.size + 1, 0, none⟩ = some (.slice Bj es.length dapj) := (Below.cell hstep (p := ⟨wj.heap.size + 1, 0, none⟩) (by omega)).trans d19_1_0
    have c20_6_1 : wk.cell? ⟨wj.heap.size + 1, 1, none⟩ = some (.float .f32 tj) := (Below.cell hstep (p := ⟨wj.heap.size + 1, 1, none⟩) (by omega)).trans d19_1_1
    have z20_6 : wj.heap.size + 1 < wk.heap.size := by have := hstep.size; omega
    clear c19_0_0 c19_0_1 c19_1_0 c19_1_1 c19_2_0 c19_2_1 c19_3_0 c19_3_1 c19_4_0 c19_4_1 d19_0_0 d19_0_1 d19_1_0 d19_1_1
    clear hstep
    go_wp2_with fail
    refine (eqThread_any _ _ _ _ _ _ es _ HVk.out.vs (HVb.out.vs.ext HW.out) (by rw [HSb.out, HSk.out]) HEL.out).mono ?_
    rintro e wl ⟨hstep, rfl⟩
    have tHX := Lib.hid (Ext.trans HX.out hstep)
    clear HX
    have HX := tHX
    clear tHX
    have tHW := Lib.hid (Ext.trans HW.out hstep)
    clear HW
    have HW := tHW
    clear tHW
    have tHMg := Lib.hid (HMg.out.ext hstep)
    clear HMg
    have HMg := tHMg
    clear tHMg
    have tHMh := Lib.hid (HMh.out.ext hstep)
    clear HMh
    have HMh := tHMh
    clear tHMh
    have tHVj := Lib.hid (HVj.out.ext hstep)
    clear HVj
    have HVj := tHVj
    clear tHVj
    have tHVk := Lib.hid (HVk.out.ext hstep)
    clear HVk
    have HVk := tHVk
    clear tHVk
    have c21_0_0 : wl.cell? ⟨w.heap.size, 0, none⟩ = some (.slice A cs.length cap) := (Below.cell hstep (p := ⟨w.heap.size, 0, none⟩) (by omega)).trans c20_0_0
    have c21_0_1 : wl.cell? ⟨w.heap.size, 1, none⟩ = some (.float .f32 sp) := (Below.cell hstep (p := ⟨w.heap.size, 1, none⟩) (by omega)).trans c20_0_1
    have z21_0 : w.heap.size < wl.heap.size := by have := hstep.size; omega
    have c21_1_0 : wl.cell? ⟨w3.heap.size, 0, none⟩ = some (.slice A3 ds.length cap3) := (Below.cell hstep (p := ⟨w3.heap.size, 0, none⟩) (by omega)).trans c20_1_0
    have c21_1_1 : wl.cell? ⟨w3.heap.size, 1, none⟩ = some (.float .f32 s3) := (Below.cell hstep (p := ⟨w3.heap.size, 1, none⟩) (by omega)).trans c20_1_1
    have z21_1 : w3.heap.size < wl.heap.size := by have := hstep.size; omega
    have c21_2_0 : wl.cell? ⟨w3.heap.size + 1, 0, none⟩ = some (.slice B3 es.length dap3) := (Below.cell hstep (p := ⟨w3.heap.size + 1, 0, none⟩) (by omega)).trans c20_2_0
    have c21_2_1 : wl.cell? ⟨w3.heap.size + 1, 1, none⟩ = some (.float .f32 t3) := (Below.cell hstep (p := ⟨w3.heap.size + 1, 1, none⟩) (by omega)).trans c20_2_1
    have z21_2 : w3.heap.size + 1 < wl.heap.size := by have := hstep.size; omega
    have c21_3_0 : wl.cell? ⟨w5.heap.size, 0, none⟩ = some (.slice A5 ds.length cap5) := (Below.cell hstep (p := ⟨w5.heap.size, 0, none⟩) (by omega)).trans c20_3_0
    have c21_3_1 : wl.cell? ⟨w5.heap.size, 1, none⟩ = some (.float .f32 s5) := (Below.cell hstep (p := ⟨w5.heap.size, 1, none⟩) (by omega)).trans c20_3_1
    have z21_3 : w5.heap.size < wl.heap.size := by have := hstep.size; omega
    have c21_4_0 : wl.cell? ⟨w5.heap.size + 1, 0, none⟩ = some (.slice B5 es.length dap5) := (Below.cell hstep (p := ⟨w5.heap.size + 1, 0, none⟩) (by omega)).trans c20_4_0
    have c21_4_1 : wl.cell? ⟨w5.heap.size + 1, 1, none⟩ = some (.float .f32 t5) := (Below.cell hstep (p := ⟨w5.heap.size + 1, 1, none⟩) (by omega)).trans c20_4_1
    have z21_4 : w5.heap.size + 1 < wl.heap.size := by have := hstep.size; omega
    have c21_5_0 : wl.cell? ⟨wj.heap.size, 0, none⟩ = some (.slice Aj ds.length capj) := (Below.cell hstep (p := ⟨wj.heap.size, 0, none⟩) (by omega)).trans c20_5_0
    have c21_5_1 : wl.cell? ⟨wj.heap.size, 1, none⟩ = some (.float .f32 sj) := (Below.cell hstep (p := ⟨wj.heap.size, 1, none⟩) (by omega)).trans c20_5_1
    have z21_5 : wj.heap.size < wl.heap.size := by have := hstep.size; omega
    have c21_6_0 : wl.cell? ⟨wj.heap.size + 1, 0, none⟩ = some (.slice Bj es.length dapj) := (Below.cell hstep (p := ⟨wj.heap.size + 1, 0, none⟩) (by omega)).trans c20_6_0
    have c21_6_1 : wl.cell? ⟨wj.heap.size + 1, 1, none⟩ = some (.float .f32 tj) := (Below.cell hstep (p := ⟨wj.heap.size + 1, 1, none⟩) (by omega)).trans c20_6_1
    have z21_6 : wj.heap.size + 1 < wl.heap.size := by have := hstep.size; omega
    clear c20_0_0 c20_0_1 c20_1_0 c20_1_1 c20_2_0 c20_2_1 c20_3_0 c20_3_1 c20_4_0 c20_4_1 c20_5_0 c20_5_1 c20_6_0 c20_6_1
    clear hstep
    clear hka_wg hkb_wg
    go_wp2_with fail
    refine (heldThread_any A5 ds.length cap5 s5 1 _ HMg.out (by omega) (by omega) HDL.out).mono ?_
    rintro e wm ⟨hstep, rfl⟩
    have tHX := Lib.hid (Ext.trans HX.out hstep)
    clear HX
    have HX := tHX
    clear tHX
    have tHW := Lib.hid (Ext.trans HW.out hstep)
    clear HW
    have HW := tHW
    clear tHW
    have tHMg := Lib.hid (HMg.out.ext hstep)
    clear HMg
    have HMg := tHMg
    clear tHMg
    have tHMh := Lib.hid (HMh.out.ext hstep)
    clear HMh
    have HMh := tHMh
    clear tHMh
    have tHVj := Lib.hid (HVj.out.ext hstep)
    clear HVj
    have HVj := tHVj
    clear tHVj
    have tHVk := Lib.hid (HVk.out.ext hstep)
    clear HVk
    have HVk := tHVk
    clear tHVk
    have c22_0_0 : wm.cell? ⟨w.heap.size, 0, none⟩ = some (.slice A cs.length cap) := (Below.cell hstep (p := ⟨w.heap.size, 0, none⟩) (by omega)).trans c21_0_0
    have c22_0_1 : wm.cell? ⟨w.heap.size, 1, none⟩ = some (.float .f32 sp) := (Below.cell hstep (p := ⟨w.heap.size, 1, none⟩) (by omega)).trans c21_0_1
    have z22_0 : w.heap.size < wm.heap.size := by have := hstep.size; omega
    have c22_1_0 : wm.cell? ⟨w3.heap.size, 0, none⟩ = some (.slice A3 ds.length cap3) := (Below.cell hstep (p := ⟨w3.heap.size, 0, none⟩) (by omega)).trans c21_1_0
    have c22_1_1 : wm.cell? ⟨w3.heap.size, 1, none⟩ = some (.float .f32 s3) := (Below.cell hstep (p := ⟨w3.heap.size, 1, none⟩) (by omega)).trans c21_1_1
    have z22_1 : w3.heap.size < wm.heap.size := by have := hstep.size; omega
    have c22_2_0 : wm.cell? ⟨w3.heap.size + 1, 0, none⟩ = some (.slice B3 es.length dap3) := (Below.cell hstep (p := ⟨w3.heap.size + 1, 0, none⟩) (by omega)).trans c21_2_0
    have c22_2_1 : wm.cell? ⟨w3.heap.size + 1, 1, none⟩ = some (.float .f32 t3) := (Below.cell hstep (p := ⟨w3.heap.size + 1, 1, none⟩) (by omega)).trans c21_2_1
    have z22_2 : w3.heap.size + 1 < wm.heap.size := by have := hstep.size; omega
    have c22_3_0 : wm.cell? ⟨w5.heap.size, 0, none⟩ = some (.slice A5 ds.length cap5) := (Below.cell hstep (p := ⟨w5.heap.size, 0, none⟩) (by omega)).trans c21_3_0
    have c22_3_1 : wm.cell? ⟨w5.heap.size, 1, none⟩ = some (.float .f32 s5) := (Below.cell hstep (p := ⟨w5.heap.size, 1, none⟩) (by omega)).trans c21_3_1
    have z22_3 : w5.heap.size < wm.heap.size := by have := hstep.size; omega
    have c22_4_0 : wm.cell? ⟨w5.heap.size + 1, 0, none⟩ = some (.slice B5 es.length dap5) := (Below.cell hstep (p := ⟨w5.heap.size + 1, 0, none⟩) (by omega)).trans c21_4_0
    have c22_4_1 : wm.cell? ⟨w5.heap.size + 1, 1, none⟩ = some (.float .f32 t5) := (Below.cell hstep (p := ⟨w5.heap.size + 1, 1, none⟩) (by omega)).trans c21_4_1
    have z22_4 : w5.heap.size + 1 < wm.heap.size := by have := hstep.size; omega
    have c22_5_0 : wm.cell? ⟨wj.heap.size, 0, none⟩ = some (.slice Aj ds.length capj) := (Below.cell hstep (p := ⟨wj.heap.size, 0, none⟩) (by omega)).trans c21_5_0
    have c22_5_1 : wm.cell? ⟨wj.heap.size, 1, none⟩ = some (.float .f32 sj) := (Below.cell hstep (p := ⟨wj.heap.size, 1, none⟩) (by omega)).trans c21_5_1
    have z22_5 : wj.heap.size < wm.heap.size := by have := hstep.size; omega
    have c22_6_0 : wm.cell? ⟨wj.heap.size + 1, 0, none⟩ = some (.slice Bj es.length dapj) := (Below.cell hstep (p := ⟨wj.heap.size + 1, 0, none⟩) (by omega)).trans c21_6_0
    have c22_6_1 : wm.cell? ⟨wj.heap.size + 1, 1, none⟩ = some (.float .f32 tj) := (Below.cell hstep (p := ⟨wj.heap.size + 1, 1, none⟩) (by omega)).trans c21_6_1
    have z22_6 : wj.heap.size + 1 < wm.heap.size := by have := hstep.size; omega
    clear c21_0_0 c21_0_1 c21_1_0 c21_1_1 c21_2_0 c21_2_1 c21_3_0 c21_3_1 c21_4_0 c21_4_1 c21_5_0 c21_5_1 c21_6_0 c21_6_1
    clear hstep
    have hka_wm : ¬ (1 + (ds.length : Int) * 3 < 0) := by omega
    go_wp2_with fail
    refine (heldThread_any B5 es.length dap5 t5 (1 + ds.length * 3) _ HMh.out (by have := HDL.out; omega) (by have := HDL.out; omega) HEL.out).mono ?_
    rintro e wn ⟨hstep, rfl⟩
    have tHX := Lib.hid (Ext.trans HX.out hstep)
    clear HX
    have HX := tHX
    clear tHX
    have tHW := Lib.hid (Ext.trans HW.out hstep)
    clear HW
    have HW := tHW
    clear tHW
    have tHMg := Lib.hid (HMg.out.ext hstep)
    clear HMg
    have HMg := tHMg
    clear tHMg
    have tHMh := Lib.hid (HMh.out.ext hstep)
    clear HMh
    have HMh := tHMh
    clear tHMh
    have tHVj := Lib.hid (HVj.out.ext hstep)
    clear HVj
    have HVj := tHVj
    clear tHVj
    have tHVk := Lib.hid (HVk.out.ext hstep)
    clear HVk
    have HVk := tHVk
    clear tHVk
    have c23_0_0 : wn.cell? ⟨w.heap.size, 0, none⟩ = some (.slice A cs.length cap) := (Below.cell hstep (p := ⟨w.heap.size, 0, none⟩) (by omega)).trans c22_0_0
    have c23_0_1 : wn.cell? ⟨w.heap.size, 1, none⟩ = some (.float .f32 sp) := (Below.cell hstep (p := ⟨w.heap.size, 1, none⟩) (by omega)).trans c22_0_1
    have z23_0 : w.heap.size < wn.heap.size := by have := hstep.size; omega
    have c23_1_0 : wn.cell? ⟨w3.heap.size, 0, none⟩ = some (.slice A3 ds.length cap3) := (Below.cell hstep (p := ⟨w3.heap.size, 0, none⟩) (by omega)).trans c22_1_0
    have c23_1_1 : wn.cell? ⟨w3.heap.size, 1, none⟩ = some (.float .f32 s3) := (Below.cell hstep (p := ⟨w3.heap.size, 1, none⟩) (by omega)).trans c22_1_1
    have z23_1 : w3.heap.size < wn.heap.size := by have := hstep.size; omega
    have c23_2_0 : wn.cell? ⟨w3.heap.size + 1, 0, none⟩ = some (.slice B3 es.length dap3) := (Below.cell hstep (p := ⟨w3.heap.size + 1, 0, none⟩) (by omega)).trans c22_2_0
    have c23_2_1 : wn.cell? ⟨w3.heap.size + 1, 1, none⟩ = some (.float .f32 t3) := (Below.cell hstep (p := ⟨w3.heap.size + 1, 1, none⟩) (by omega)).trans c22_2_1
    have z23_2 : w3.heap.size + 1 < wn.heap.size := by have := hstep.size; omega
    have c23_3_0 : wn.cell? ⟨w5.heap.size, 0, none⟩ = some (.slice A5 ds.length cap5) := (Below.cell hstep (p := ⟨w5.heap.size, 0, none⟩) (by omega)).trans c22_3_0
    have c23_3_1 : wn.cell? ⟨w5.heap.size, 1, none⟩ = some (.float .f32 s5) := (Below.cell hstep (p := ⟨w5.heap.size, 1, none⟩) (by omega)).trans c22_3_1
    have z23_3 : w5.heap.size < wn.heap.size := by have := hstep.size; omega
    have c23_4_0 : wn.cell? ⟨w5.heap.size + 1, 0, none⟩ = some (.slice B5 es.length dap5) := (Below.cell hstep (p := ⟨w5.heap.size + 1, 0, none⟩) (by omega)).trans c22_4_0
    have c23_4_1 : wn.cell? ⟨w5.heap.size + 1, 1, none⟩ = some (.float .f32 t5) := (Below.cell hstep (p := ⟨w5.heap.size + 1, 1, none⟩) (by omega)).trans c22_4_1
    have z23_4 : w5.heap.size + 1 < wn.heap.size := by have := hstep.size; omega
    have c23_5_0 : wn.cell? ⟨wj.heap.size, 0, none⟩ = some (.slice Aj ds.length capj) := (Below.cell hstep (p := ⟨wj.heap.size, 0, none⟩) (by omega)).trans c22_5_0
    have c23_5_1 : wn.cell? ⟨wj.heap.size, 1, none⟩ = some (.float .f32 sj) := (Below.cell hstep (p := ⟨wj.heap.size, 1, none⟩) (by omega)).trans c22_5_1
    have z23_5 : wj.heap.size < wn.heap.size := by have := hstep.size; omega
    have c23_6_0 : wn.cell? ⟨wj.heap.size + 1, 0, none⟩ = some (.slice Bj es.length dapj) := (Below.cell hstep (p := ⟨wj.heap.size + 1, 0, none⟩) (by omega)).trans c22_6_0
    have c23_6_1 : wn.cell? ⟨wj.heap.size + 1, 1, none⟩ = some (.float .f32 tj) := (Below.cell hstep (p := ⟨wj.heap.size + 1, 1, none⟩) (by omega)).trans c22_6_1
    have z23_6 : wj.heap.size + 1 < wn.heap.size := by have := hstep.size; omega
    clear c22_0_0 c22_0_1 c22_1_0 c22_1_1 c22_2_0 c22_2_1 c22_3_0 c22_3_1 c22_4_0 c22_4_1 c22_5_0 c22_5_1 c22_6_0 c22_6_1
    clear hstep
    have hkb_wm : ¬ (1 + (ds.length : Int) * 3 + (es.length : Int) * 3 < 0) := by omega
    go_wp2_with fail
    go_ret
    exact ⟨HX.out, rfl⟩
end Go.Proofs.Ytbaohbpfnlicpaa
