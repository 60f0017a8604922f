/- The law FnExactSpinAt: for every basin and place it answers true, and changes nothing that was there. -/
import Derived.Test.YtbaohbpfnlicpaaF3
import Derived.Deep.RegionHeld3
namespace Go.Proofs.Ytbaohbpfnlicpaa
open Go Go.RowKit
set_option linter.unusedVariables false
set_option linter.unusedSimpArgs false
attribute [local go_sem] run_store_float

set_option maxRecDepth 100000 in
set_option maxHeartbeats 800000 in
theorem lawSpin (a h : Int) (A : Option Addr) (cap : Nat) (xs : List Nat) (x y : Int) (w : World) (hA : FS w A xs) (hl : xs.length ≤ 9223372036854775807) (hx : -9223372036854775808 ≤ x ∧ x ≤ 9223372036854775807) (hy : -9223372036854775808 ≤ y ∧ y ≤ 9223372036854775807) :
    Calls Try.prog 4 #[.agg #[.int .i64 a, .int .i64 h, .slice A xs.length cap], .int .i64 x, .int .i64 y] w fun e w' => Ext w w' ∧ e = .returned (.bool true) := by
  have HA := Lib.hid hA
  have HL := Lib.hid hl
  clear hA hl hx hy
  by_cases hbig : (1048576 : Int) - xs.length < 0
  · have HB := Lib.hid hbig
    clear hbig
    go_enter Try.func4, Try.ntmps4
    go_wp2_with fail
    refine (szBasin_big _ _ _ _ _ _ _ (by omega) (by omega) HL.out HB.out).mono ?_
    rintro e w1 ⟨he1, rfl⟩
    go_wp2_with fail
    go_ret
    refine ⟨?_, rfl⟩
    (repeat first | with_reducible exact Ext.rfl' _ | with_reducible refine Ext.drewN ?_ _ | with_reducible refine Ext.drew' ?_ | with_reducible refine Ext.alloc' ?_ _ | with_reducible refine Ext.setCell_at ?_ _ _ _ (by first | exact Nat.le_refl _ | omega) | with_reducible assumption | refine Ext.trans ?_ (by with_reducible assumption))
  · have HB := Lib.hid hbig
    have HLE := Lib.hid (show xs.length ≤ 1048576 by omega)
    clear hbig
    go_enter Try.func4, Try.ntmps4
    go_wp2_with fail
    refine (szBasin_ok _ _ _ _ _ _ _ (by omega) (by omega) HL.out (by have := HB.out; omega)).mono ?_
    rintro e w1 ⟨he1, p, rfl, hq, hq2⟩
    have Hhq2 := Lib.hid hq2
    clear hq2
    obtain ⟨hc1, hf1⟩ := bcell he1
    (try simp only [World.heap_drewN, World.cell?_drewN, World.frozen?_drewN] at hc1 hf1)
    have hs1 := he1.size
    (try simp only [World.heap_drewN, World.size_alloc, World.size_setCell, World.size_drew] at hs1)
    have hz1_w : w.heap.size < w1.heap.size := by omega
    have HE1 := Lib.hid (show Ext w w1 by (repeat first | with_reducible exact Ext.rfl' _ | with_reducible refine Ext.drewN ?_ _ | with_reducible refine Ext.drew' ?_ | with_reducible refine Ext.alloc' ?_ _ | with_reducible refine Ext.setCell_at ?_ _ _ _ (by first | exact Nat.le_refl _ | omega) | with_reducible assumption | refine Ext.trans ?_ (by with_reducible assumption)))
    have c0 : w1.cell? ⟨w.heap.size, 0, none⟩ = some (.int .i64 a) := by go_simp
    have c1 : w1.cell? ⟨w.heap.size, 1, none⟩ = some (.int .i64 h) := by go_simp
    have c2 : w1.cell? ⟨w.heap.size, 2, none⟩ = some (.slice A xs.length cap) := by go_simp
    clear he1 hc1 hf1
    go_wp2_with fail
    refine (toBasin_any _ _ _ _ xs _ (HA.out.ext HE1.out) HLE.out).mono ?_
    rintro e w2 ⟨he2, A2, rfl, hv2⟩
    have hc2 := (bcell he2).1
    have d0 := (hc2 _ 0 hz1_w).trans c0
    have d1 := (hc2 _ 1 hz1_w).trans c1
    have d2 := (hc2 _ 2 hz1_w).trans c2
    have hz2 : w.heap.size < w2.heap.size := Nat.lt_of_lt_of_le hz1_w he2.size
    have HE2 := Lib.hid (Ext.trans HE1.out he2)
    have HV2 := Lib.hid hv2
    clear he2 hc2 hv2 c0 c1 c2
    go_wp2_with fail
    refine (specSpin_any _ _ _ _ xs _ _ _ HV2.out.fs HLE.out).mono ?_
    rintro e w3 ⟨he3, r3, b3, rfl, hr3⟩
    have hc3 := (bcell he3).1
    have c0 := (hc3 _ 0 hz2).trans d0
    have c1 := (hc3 _ 1 hz2).trans d1
    have c2 := (hc3 _ 2 hz2).trans d2
    have hz3 : w.heap.size < w3.heap.size := Nat.lt_of_lt_of_le hz2 he3.size
    have HE3 := Lib.hid (Ext.trans HE2.out he3)
    have HR3 := Lib.hid hr3
    clear he3 hc3 hr3 d0 d1 d2
    go_wp2_with fail
    refine (toBasin_any _ _ _ _ xs _ (HA.out.ext HE3.out) HLE.out).mono ?_
    rintro e w4 ⟨he4, A4, rfl, hv4⟩
    have hc4 := (bcell he4).1
    have d0 := (hc4 _ 0 hz3).trans c0
    have d1 := (hc4 _ 1 hz3).trans c1
    have d2 := (hc4 _ 2 hz3).trans c2
    have hz4 : w.heap.size < w4.heap.size := Nat.lt_of_lt_of_le hz3 he4.size
    have HE4 := Lib.hid (Ext.trans HE3.out he4)
    have HV4 := Lib.hid hv4
    clear he4 hc4 hv4 c0 c1 c2
    go_wp2_with fail
    refine (implSpin_any _ _ _ _ xs _ _ _ (HV4.out.fs.ext (by (repeat first | with_reducible exact Ext.rfl' _ | with_reducible refine Ext.drewN ?_ _ | with_reducible refine Ext.drew' ?_ | with_reducible refine Ext.alloc' ?_ _ | with_reducible refine Ext.setCell_at ?_ _ _ _ (by first | exact Nat.le_refl _ | omega) | with_reducible assumption | refine Ext.trans ?_ (by with_reducible assumption)))) HLE.out).mono ?_
    rintro e w5 ⟨he5, r5, b5, rfl, hr5⟩
    have hb4 := Blk.ext (Blk.at_ w4 35 #[.int .i64 a, .int .i64 h, .slice A4 xs.length xs.length] _ rfl) he5
    have E45 : Ext w4 w5 := by (repeat first | with_reducible exact Ext.rfl' _ | with_reducible refine Ext.drewN ?_ _ | with_reducible refine Ext.drew' ?_ | with_reducible refine Ext.alloc' ?_ _ | with_reducible refine Ext.setCell_at ?_ _ _ _ (by first | exact Nat.le_refl _ | omega) | with_reducible assumption | refine Ext.trans ?_ (by with_reducible assumption))
    have hc5 := (bcell E45).1
    have c0 := (hc5 _ 0 hz4).trans d0
    have c1 := (hc5 _ 1 hz4).trans d1
    have c2 := (hc5 _ 2 hz4).trans d2
    have x0 : w5.cell? ⟨w4.heap.size, 0, none⟩ = some (.int .i64 a) := hb4.cell 0
    have x1 : w5.cell? ⟨w4.heap.size, 1, none⟩ = some (.int .i64 h) := hb4.cell 1
    have x2 : w5.cell? ⟨w4.heap.size, 2, none⟩ = some (.slice A4 xs.length xs.length) := hb4.cell 2
    have hz5 : w.heap.size < w5.heap.size := Nat.lt_of_lt_of_le hz4 E45.size
    have hz5' : w4.heap.size < w5.heap.size := hb4.lt
    have HE5 := Lib.hid (Ext.trans HE4.out E45)
    have HV5 := Lib.hid (HV4.out.ext E45)
    have hbb : (b5, cn .f32 r5) = (b3, cn .f32 r3) := hr5.trans HR3.out.symm
    simp only [Prod.mk.injEq] at hbb
    obtain ⟨rfl, hrr⟩ := hbb
    have HRR := Lib.hid hrr
    clear he5 hc5 hr5 d0 d1 d2 hb4 E45 hrr
    go_wp2_with (first
      | (refine wpList_fconv rfl 22 38 _ rfl .f32 .f64 isF32 Try.underlying38 _ rfl (fun _ => ovf_widen _) ?_; intro r1 n1 q1)
      | (go_at_call 31; refine (sameFloat_any _ _ (by unfold FR at *; simp only [*, HRR.out]) _).mono ?_; rintro e w6 ⟨he6, rfl⟩))
    have E56 : Ext w5 w6 := by (repeat first | with_reducible exact Ext.rfl' _ | with_reducible refine Ext.drewN ?_ _ | with_reducible refine Ext.drew' ?_ | with_reducible refine Ext.alloc' ?_ _ | with_reducible refine Ext.setCell_at ?_ _ _ _ (by first | exact Nat.le_refl _ | omega) | with_reducible assumption | refine Ext.trans ?_ (by with_reducible assumption))
    have hc6 := (bcell E56).1
    have d0 := (hc6 _ 0 hz5).trans c0
    have d1 := (hc6 _ 1 hz5).trans c1
    have d2 := (hc6 _ 2 hz5).trans c2
    have u0 := (hc6 _ 0 hz5').trans x0
    have u1 := (hc6 _ 1 hz5').trans x1
    have u2 := (hc6 _ 2 hz5').trans x2
    have hz6 : w.heap.size < w6.heap.size := Nat.lt_of_lt_of_le hz5 E56.size
    have hz6' : w4.heap.size < w6.heap.size := Nat.lt_of_lt_of_le hz5' E56.size
    have HE6 := Lib.hid (Ext.trans HE5.out E56)
    have HV6 := Lib.hid (HV5.out.ext E56)
    clear he6 hc6 c0 c1 c2 x0 x1 x2 E56
    go_region_held3 (fun W => W.cell? ⟨w.heap.size, 0, none⟩ = some (.int .i64 a) ∧ W.cell? ⟨w.heap.size, 1, none⟩ = some (.int .i64 h) ∧ W.cell? ⟨w.heap.size, 2, none⟩ = some (.slice A xs.length cap) ∧ W.cell? ⟨w4.heap.size, 0, none⟩ = some (.int .i64 a) ∧ W.cell? ⟨w4.heap.size, 1, none⟩ = some (.int .i64 h) ∧ W.cell? ⟨w4.heap.size, 2, none⟩ = some (.slice A4 xs.length xs.length)) (((try dsimp only); (repeat' apply And.intro) <;> (simp [*, go_sem]; done)))
      (first
        | (go_at_call 32; refine (eqBasin_any _ _ _ _ _ _ xs _ (HV6.out.fs.ext (Ext.trans (Ext.drew' (Ext.rfl' _)) he7)) hv7.fs HLE.out).mono ?_; rintro e w8 ⟨he8, rfl⟩; obtain ⟨hc8, hf8⟩ := bcell he8; have hs8 : w7.heap.size ≤ w8.heap.size := he8.size; have hz8 : w.heap.size < w8.heap.size := (by omega); have hz8' : w4.heap.size < w8.heap.size := (by omega))
        | (go_at_call 29; refine (toBasin_any _ _ _ _ xs _ (HA.out.ext (Ext.trans HE6.out (Ext.drew' (Ext.rfl' _)))) HLE.out).mono ?_; rintro e w7 ⟨he7, A7, rfl, hv7⟩; (have h7 := bcellD he7; obtain ⟨hc7, hf7⟩ := h7); have hs7 : w6.heap.size ≤ w7.heap.size := he7.size; have hz7 : w.heap.size < w7.heap.size := (by omega); have hz7' : w4.heap.size < w7.heap.size := (by omega)))
    go_wp2_with fail
    go_ret
    exact ⟨Ext.trans HE6.out (Ext.trans (Ext.trans (Ext.drew' (Ext.rfl' w6)) he7) he8), rfl⟩
end Go.Proofs.Ytbaohbpfnlicpaa
