/- The law FnExactImpulseOfThread: for every thread it answers true, and changes nothing that was there. -/
import Derived.Test.YtbaohbpfnlicpaaW10
import Derived.Test.YtbaohbpfnlicpaaW1
import Derived.Deep.RegionHeld3
namespace Go.Proofs.Ytbaohbpfnlicpaa
open Go Go.RowKit
set_option linter.unusedVariables false
set_option linter.unusedSimpArgs false
attribute [local go_sem] run_store_float

theorem szThread_bigImp (A : Option Addr) (n cap sp : Nat) (l : Int) (w : World) (h1 : 0 ≤ l) (h2 : l ≤ 1048576) (hn : n ≤ 9223372036854775807) (h : l - n < 0) :
    Calls Try.prog 33 #[.agg #[.slice A n cap, .float .f32 sp], .int .i64 l] w fun e w' => Ext w w' ∧ e = .returned (.int .i64 (-1)) :=
  (szThread_any A n cap sp l w h1 h2 hn).mono fun e w' ⟨x, y⟩ => ⟨x, by rw [y, if_pos h]⟩
theorem szThread_okImp (A : Option Addr) (n cap sp : Nat) (l : Int) (w : World) (h1 : 0 ≤ l) (h2 : l ≤ 1048576) (hn : n ≤ 9223372036854775807) (h : ¬ l - n < 0) :
    Calls Try.prog 33 #[.agg #[.slice A n cap, .float .f32 sp], .int .i64 l] w fun e w' => Ext w w' ∧ ∃ q : Int, e = .returned (.int .i64 q) ∧ 0 ≤ q ∧ q = l - n :=
  (szThread_any A n cap sp l w h1 h2 hn).mono fun e w' ⟨x, y⟩ => ⟨x, _, by rw [y, if_neg h], by omega, rfl⟩

theorem lawImp (A : Option Addr) (cap sp : Nat) (cs : List V3) (w : World) (hA : VS w A cs) (hl : cs.length ≤ 9223372036854775807) :
    Calls Try.prog 11 #[.agg #[.slice A cs.length cap, .float .f32 sp]] w fun e w' => Ext w w' ∧ e = .returned (.bool true) := by
  have HA := Lib.hid hA
  have HL := Lib.hid hl
  clear hA hl
  by_cases hbig : (1048576 : Int) - cs.length < 0
  · have HB := Lib.hid hbig
    clear hbig
    go_enter Try.func11, Try.ntmps11
    go_wp2_with fail
    refine (szThread_bigImp _ _ _ _ _ _ (by omega) (by omega) HL.out HB.out).mono ?_
    rintro e w1 ⟨he1, rfl⟩
    go_wp2_with fail
    go_ret
    refine ⟨?_, rfl⟩
    (repeat first | with_reducible exact Ext.rfl' _ | with_reducible refine Ext.drewN ?_ _ | with_reducible refine Ext.drew' ?_ | with_reducible refine Ext.alloc' ?_ _ | with_reducible refine Ext.setCell_at ?_ _ _ _ (by first | exact Nat.le_refl _ | omega) | with_reducible assumption | refine Ext.trans ?_ (by with_reducible assumption))
  · have HB := Lib.hid hbig
    have hle : cs.length ≤ 1048576 := by omega
    have HLE := Lib.hid hle
    clear hbig hle
    go_enter Try.func11, Try.ntmps11
    go_wp2_with fail
    refine (szThread_okImp _ _ _ _ _ _ (by omega) (by omega) HL.out (by have := HB.out; omega)).mono ?_
    rintro e w1 ⟨he1, q, rfl, hq, hq2⟩
    have Hhq2 := Lib.hid hq2
    clear hq2
    obtain ⟨hc1, hf1⟩ := bcell he1
    (try simp only [World.heap_drewN, World.cell?_drewN, World.frozen?_drewN] at hc1 hf1)
    have hs1 := he1.size
    (try simp only [World.heap_drewN, World.size_alloc, World.size_setCell, World.size_drew] at hs1)
    have hz1_w : w.heap.size < w1.heap.size := by omega
    go_wp2_with fail
    refine (toThread_any _ _ _ cs _ (HA.out.ext (by (repeat first | with_reducible exact Ext.rfl' _ | with_reducible refine Ext.drewN ?_ _ | with_reducible refine Ext.drew' ?_ | with_reducible refine Ext.alloc' ?_ _ | with_reducible refine Ext.setCell_at ?_ _ _ _ (by first | exact Nat.le_refl _ | omega) | with_reducible assumption | refine Ext.trans ?_ (by with_reducible assumption)))) HLE.out).mono ?_
    rintro e w2 ⟨he2, A2, rfl, hv2⟩
    have Hhv2 := Lib.hid hv2
    clear hv2
    obtain ⟨hc2, hf2⟩ := bcell he2
    (try simp only [World.heap_drewN, World.cell?_drewN, World.frozen?_drewN] at hc2 hf2)
    have hs2 := he2.size
    (try simp only [World.heap_drewN, World.size_alloc, World.size_setCell, World.size_drew] at hs2)
    have hz2_w : w.heap.size < w2.heap.size := by omega
    go_wp2_with fail
    refine (specImp_any _ _ _ cs _ Hhv2.out.vs HLE.out).mono ?_
    rintro e w3 ⟨he3, r3, s3, t3, b3, rfl, hm3⟩
    have Hhm3 := Lib.hid hm3
    clear hm3
    obtain ⟨hc3, hf3⟩ := bcell he3
    (try simp only [World.heap_drewN, World.cell?_drewN, World.frozen?_drewN] at hc3 hf3)
    have hs3 := he3.size
    (try simp only [World.heap_drewN, World.size_alloc, World.size_setCell, World.size_drew] at hs3)
    have hz3_w : w.heap.size < w3.heap.size := by omega
    go_wp2_with fail
    refine (toThread_any _ _ _ cs _ (HA.out.ext (by (repeat first | with_reducible exact Ext.rfl' _ | with_reducible refine Ext.drewN ?_ _ | with_reducible refine Ext.drew' ?_ | with_reducible refine Ext.alloc' ?_ _ | with_reducible refine Ext.setCell_at ?_ _ _ _ (by first | exact Nat.le_refl _ | omega) | with_reducible assumption | refine Ext.trans ?_ (by with_reducible assumption)))) HLE.out).mono ?_
    rintro e w4 ⟨he4, A4, rfl, hv4⟩
    have Hhv4 := Lib.hid hv4
    clear hv4
    obtain ⟨hc4, hf4⟩ := bcell he4
    (try simp only [World.heap_drewN, World.cell?_drewN, World.frozen?_drewN] at hc4 hf4)
    have hs4 := he4.size
    (try simp only [World.heap_drewN, World.size_alloc, World.size_setCell, World.size_drew] at hs4)
    have hz4_w : w.heap.size < w4.heap.size := by omega
    have hz4_w3 : w3.heap.size < w4.heap.size := by omega
    go_wp2_with fail
    refine (implImp_any _ _ _ cs _ (Hhv4.out.vs.ext (by (repeat first | with_reducible exact Ext.rfl' _ | with_reducible refine Ext.drewN ?_ _ | with_reducible refine Ext.drew' ?_ | with_reducible refine Ext.alloc' ?_ _ | with_reducible refine Ext.setCell_at ?_ _ _ _ (by first | exact Nat.le_refl _ | omega) | with_reducible assumption | refine Ext.trans ?_ (by with_reducible assumption)))) HLE.out).mono ?_
    rintro e w5 ⟨he5, r5, s5, t5, b5, rfl, hm5⟩
    have Hhm5 := Lib.hid hm5
    clear hm5
    obtain ⟨hc5, hf5⟩ := bcell he5
    (try simp only [World.heap_drewN, World.cell?_drewN, World.frozen?_drewN] at hc5 hf5)
    have hs5 := he5.size
    (try simp only [World.heap_drewN, World.size_alloc, World.size_setCell, World.size_drew] at hs5)
    have hz5_w : w.heap.size < w5.heap.size := by omega
    have hz5_w3 : w3.heap.size < w5.heap.size := by omega
    have hz5_w4 : w4.heap.size < w5.heap.size := by omega
    have hbb : b5 = b3 ∧ cv r3 s3 t3 = cv r5 s5 t5 := by
      have h := Hhm5.out.trans Hhm3.out.symm
      simp only [Prod.mk.injEq] at h
      exact ⟨h.1, by rw [← h.2]⟩
    obtain ⟨rfl, hcv⟩ := hbb
    have HCV := Lib.hid hcv
    clear hcv
    go_wp2_with fail
    refine (eqVector_any _ _ _ _ _ _ HCV.out _).mono ?_
    rintro e w6 ⟨he6, rfl⟩
    obtain ⟨hc6, hf6⟩ := bcell he6
    (try simp only [World.heap_drewN, World.cell?_drewN, World.frozen?_drewN] at hc6 hf6)
    have hs6 := he6.size
    (try simp only [World.heap_drewN, World.size_alloc, World.size_setCell, World.size_drew] at hs6)
    have hz6_w : w.heap.size < w6.heap.size := by omega
    have hz6_w3 : w3.heap.size < w6.heap.size := by omega
    have hz6_w4 : w4.heap.size < w6.heap.size := by omega
    have hz6_w5 : w5.heap.size < w6.heap.size := by omega
    go_wp2_with fail
    -- the thread that was handed over is still what it was
    have u0 : w6.cell? ⟨w4.heap.size, 0, none⟩ = some (.slice A4 cs.length cs.length) := by go_simp
    have u1 : w6.cell? ⟨w4.heap.size, 1, none⟩ = some (.float .f32 sp) := by go_simp
    have u2 : w6.cell? ⟨w.heap.size, 0, none⟩ = some (.slice A cs.length cap) := by go_simp
    have u3 : w6.cell? ⟨w.heap.size, 1, none⟩ = some (.float .f32 sp) := by go_simp
    have e46 : Ext w4 w6 := by (repeat first | with_reducible exact Ext.rfl' _ | with_reducible refine Ext.drewN ?_ _ | with_reducible refine Ext.drew' ?_ | with_reducible refine Ext.alloc' ?_ _ | with_reducible refine Ext.setCell_at ?_ _ _ _ (by first | exact Nat.le_refl _ | omega) | with_reducible assumption | refine Ext.trans ?_ (by with_reducible assumption))
    have e06 : Ext w w6 := by (repeat first | with_reducible exact Ext.rfl' _ | with_reducible refine Ext.drewN ?_ _ | with_reducible refine Ext.drew' ?_ | with_reducible refine Ext.alloc' ?_ _ | with_reducible refine Ext.setCell_at ?_ _ _ _ (by first | exact Nat.le_refl _ | omega) | with_reducible assumption | refine Ext.trans ?_ (by with_reducible assumption))
    have HA6 := Lib.hid (HA.out.ext e06)
    have HV6 := Lib.hid (Hhv4.out.vs.ext e46)
    have hz6a : w4.heap.size < w6.heap.size := by omega
    have hz6b : w.heap.size < w6.heap.size := by omega
    have HE6 := Lib.hid e06
    clear hc1 hf1 hc2 hf2 hc3 hf3 hc4 hf4 hc5 hf5 hc6 hf6 he1 he2 he3 he4 he5 he6 e06 e46
    go_region_held3 (fun W => W.cell? ⟨w4.heap.size, 0, none⟩ = some (.slice A4 cs.length cs.length) ∧ W.cell? ⟨w4.heap.size, 1, none⟩ = some (.float .f32 sp) ∧ W.cell? ⟨w.heap.size, 0, none⟩ = some (.slice A cs.length cap) ∧ W.cell? ⟨w.heap.size, 1, none⟩ = some (.float .f32 sp)) (((try dsimp only); (repeat' apply And.intro) <;> (simp [*, go_sem]; done)))
      (first
        | (go_at_call 35; refine (toThread_any _ _ _ cs _ (HA6.out.ext (by (repeat first | with_reducible exact Ext.rfl' _ | with_reducible refine Ext.drewN ?_ _ | with_reducible refine Ext.drew' ?_ | with_reducible refine Ext.alloc' ?_ _ | with_reducible refine Ext.setCell_at ?_ _ _ _ (by first | exact Nat.le_refl _ | omega) | with_reducible assumption | refine Ext.trans ?_ (by with_reducible assumption)))) HLE.out).mono ?_; rintro e w7 ⟨he7, A7, rfl, hv7⟩; (first | (have h7 := bcellD he7; obtain ⟨hc7, hf7⟩ := h7)); have hs7 : w6.heap.size ≤ w7.heap.size := he7.size; have hz7a : w4.heap.size < w7.heap.size := (by omega); have hz7b : w.heap.size < w7.heap.size := (by omega))
        | (go_at_call 37; refine (eqThread_any _ _ _ _ _ _ cs _ (HV6.out.ext (by (repeat first | with_reducible exact Ext.rfl' _ | with_reducible refine Ext.drewN ?_ _ | with_reducible refine Ext.drew' ?_ | with_reducible refine Ext.alloc' ?_ _ | with_reducible refine Ext.setCell_at ?_ _ _ _ (by first | exact Nat.le_refl _ | omega) | with_reducible assumption | refine Ext.trans ?_ (by with_reducible assumption)))) hv7.vs rfl HLE.out).mono ?_; rintro e w8 ⟨he8, rfl⟩; obtain ⟨hc8, hf8⟩ := bcell he8; have hs8 := he8.size))
    go_wp2_with fail
    go_ret
    refine ⟨?_, rfl⟩
    have h1 := HE6.out
    (repeat first | with_reducible exact Ext.rfl' _ | with_reducible refine Ext.drewN ?_ _ | with_reducible refine Ext.drew' ?_ | with_reducible refine Ext.alloc' ?_ _ | with_reducible refine Ext.setCell_at ?_ _ _ _ (by first | exact Nat.le_refl _ | omega) | with_reducible assumption | refine Ext.trans ?_ (by with_reducible assumption))
end Go.Proofs.Ytbaohbpfnlicpaa
