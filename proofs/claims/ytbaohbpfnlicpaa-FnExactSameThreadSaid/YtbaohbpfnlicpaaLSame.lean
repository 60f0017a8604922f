/- The law FnExactSameThread: for all threads it answers true, and changes nothing that was there. -/
import Derived.Test.YtbaohbpfnlicpaaS3
import Derived.Test.YtbaohbpfnlicpaaW1
import Derived.Deep.RegionHeld3
namespace Go.Proofs.Ytbaohbpfnlicpaa
open Go Go.RowKit
set_option linter.unusedVariables false
set_option linter.unusedSimpArgs false
attribute [local go_sem] run_store_float

theorem szThread_bigS (A : Option Addr) (n cap sp : Nat) (l : Int) (w : World) (h1 : 0 ≤ l) (h2 : l ≤ 1048576) (hn : n ≤ 9223372036854775807) (h : l - n < 0) :
    Calls Try.prog 33 #[.agg #[.slice A n cap, .float .f32 sp], .int .i64 l] w fun e w' => Ext w w' ∧ e = .returned (.int .i64 (-1)) :=
  (szThread_any A n cap sp l w h1 h2 hn).mono fun e w' ⟨x, y⟩ => ⟨x, by rw [y, if_pos h]⟩
theorem szThread_okS (A : Option Addr) (n cap sp : Nat) (l : Int) (w : World) (h1 : 0 ≤ l) (h2 : l ≤ 1048576) (hn : n ≤ 9223372036854775807) (h : ¬ l - n < 0) :
    Calls Try.prog 33 #[.agg #[.slice A n cap, .float .f32 sp], .int .i64 l] w fun e w' => Ext w w' ∧ ∃ q : Int, e = .returned (.int .i64 q) ∧ 0 ≤ q ∧ q = l - n :=
  (szThread_any A n cap sp l w h1 h2 hn).mono fun e w' ⟨x, y⟩ => ⟨x, _, by rw [y, if_neg h], by omega, rfl⟩

set_option maxRecDepth 100000 in
theorem lawSame (A : Option Addr) (cap sp : Nat) (cs : List V3) (B : Option Addr) (cap' sp' : Nat) (ds : List V3) (w : World) (hA : VS w A cs) (hl : cs.length ≤ 9223372036854775807) (hi : InS cs) (hs : In32 (cn .f32 sp))
    (hB : VS w B ds) (hl' : ds.length ≤ 9223372036854775807) (hi' : InS ds) (hs' : In32 (cn .f32 sp')) :
    Calls Try.prog 5 #[.agg #[.slice A cs.length cap, .float .f32 sp], .agg #[.slice B ds.length cap', .float .f32 sp']] w fun e w' => Ext w w' ∧ e = .returned (.bool true) := by
  have HA := Lib.hid hA
  have HL := Lib.hid hl
  have HI := Lib.hid hi
  have HS := Lib.hid hs
  have HB := Lib.hid hB
  have HL' := Lib.hid hl'
  have HI' := Lib.hid hi'
  have HS' := Lib.hid hs'
  clear hA hl hi hs hB hl' hi' hs'
  by_cases hbig : (1048576 : Int) - cs.length < 0
  · have HG := Lib.hid hbig
    clear hbig
    go_enter Try.func5, Try.ntmps5
    go_wp2_with fail
    refine (szThread_bigS _ _ _ _ _ _ (by omega) (by omega) HL.out HG.out).mono ?_
    rintro e w1 ⟨he1, rfl⟩
    go_wp2_with fail
    go_ret
    refine ⟨?_, rfl⟩
    (repeat first | with_reducible exact Ext.rfl' _ | with_reducible refine Ext.drewN ?_ _ | with_reducible refine Ext.drew' ?_ | with_reducible refine Ext.alloc' ?_ _ | with_reducible refine Ext.setCell_at ?_ _ _ _ (by first | exact Nat.le_refl _ | omega) | with_reducible assumption | refine Ext.trans ?_ (by with_reducible assumption))
  · have HG := Lib.hid hbig
    have HLE := Lib.hid (show cs.length ≤ 1048576 by omega)
    clear hbig
    by_cases hbig : (1048576 : Int) - cs.length - ds.length < 0
    · have HG' := Lib.hid hbig
      clear hbig
      go_enter Try.func5, Try.ntmps5
      go_wp2_with fail
      refine (szThread_okS _ _ _ _ _ _ (by omega) (by omega) HL.out (by have := HG.out; omega)).mono ?_
      rintro e w1 ⟨he1, q, rfl, hq, hq2⟩
      have Hhq2 := Lib.hid hq2
      clear hq2
      obtain ⟨hc1, hf1⟩ := bcell he1
      (try simp only [World.heap_drewN, World.cell?_drewN, World.frozen?_drewN] at hc1 hf1)
      have hs1 := he1.size
      (try simp only [World.heap_drewN, World.size_alloc, World.size_setCell, World.size_drew] at hs1)
      have hz1_w : w.heap.size < w1.heap.size := by omega
      have hz1 : w.heap.size + 1 < w1.heap.size := by omega
      go_wp2_with fail
      refine (szThread_bigS _ _ _ _ _ _ (by omega) (by have := Hhq2.out; omega) HL'.out (by rw [Hhq2.out]; exact HG'.out)).mono ?_
      rintro e w2 ⟨he2, rfl⟩
      go_wp2_with fail
      go_ret
      refine ⟨?_, rfl⟩
      (repeat first | with_reducible exact Ext.rfl' _ | with_reducible refine Ext.drewN ?_ _ | with_reducible refine Ext.drew' ?_ | with_reducible refine Ext.alloc' ?_ _ | with_reducible refine Ext.setCell_at ?_ _ _ _ (by first | exact Nat.le_refl _ | omega) | with_reducible assumption | refine Ext.trans ?_ (by with_reducible assumption))
    · have HG' := Lib.hid hbig
      have HLE' := Lib.hid (show ds.length ≤ 1048576 by omega)
      clear hbig
      go_enter Try.func5, Try.ntmps5
      go_wp2_with fail
      refine (szThread_okS _ _ _ _ _ _ (by omega) (by omega) HL.out (by have := HG.out; omega)).mono ?_
      rintro e w1 ⟨he1, q, rfl, hq, hq2⟩
      have Hhq2 := Lib.hid hq2
      clear hq2
      obtain ⟨hc1, hf1⟩ := bcell he1
      (try simp only [World.heap_drewN, World.cell?_drewN, World.frozen?_drewN] at hc1 hf1)
      have hs1 := he1.size
      (try simp only [World.heap_drewN, World.size_alloc, World.size_setCell, World.size_drew] at hs1)
      have hz1_w : w.heap.size < w1.heap.size := by omega
      have hz1 : w.heap.size + 1 < w1.heap.size := by omega
      go_wp2_with fail
      refine (szThread_okS _ _ _ _ _ _ (by omega) (by have := Hhq2.out; omega) HL'.out (by have := HG'.out; have := Hhq2.out; omega)).mono ?_
      rintro e w2 ⟨he2, q2, rfl, hr, hr2⟩
      have Hhr2 := Lib.hid hr2
      clear hr2
      obtain ⟨hc2, hf2⟩ := bcell he2
      (try simp only [World.heap_drewN, World.cell?_drewN, World.frozen?_drewN] at hc2 hf2)
      have hs2 := he2.size
      (try simp only [World.heap_drewN, World.size_alloc, World.size_setCell, World.size_drew] at hs2)
      have hz2_w : w.heap.size < w2.heap.size := by omega
      have hz2 : w.heap.size + 1 < w2.heap.size := by omega
      go_wp2_with fail
      have u0 : w2.cell? ⟨w.heap.size, 0, none⟩ = some (.slice A cs.length cap) := by go_simp
      have u1 : w2.cell? ⟨w.heap.size, 1, none⟩ = some (.float .f32 sp) := by go_simp
      have u2 : w2.cell? ⟨w.heap.size + 1, 0, none⟩ = some (.slice B ds.length cap') := by go_simp
      have u3 : w2.cell? ⟨w.heap.size + 1, 1, none⟩ = some (.float .f32 sp') := by go_simp
      have e02 : Ext w w2 := by (repeat first | with_reducible exact Ext.rfl' _ | with_reducible refine Ext.drewN ?_ _ | with_reducible refine Ext.drew' ?_ | with_reducible refine Ext.alloc' ?_ _ | with_reducible refine Ext.setCell_at ?_ _ _ _ (by first | exact Nat.le_refl _ | omega) | with_reducible assumption | refine Ext.trans ?_ (by with_reducible assumption))
      have HE2 := Lib.hid e02
      have hz0 : w.heap.size < w2.heap.size := by omega
      clear hc1 hf1 hc2 hf2 he1 he2 e02
      obtain ⟨r, hr⟩ : ∃ r, sameTh cs ds sp sp' = r := ⟨_, rfl⟩
      have HR := Lib.hid hr
      clear hr
      go_region_held3 (fun W => W.cell? ⟨w.heap.size, 0, none⟩ = some (.slice A cs.length cap) ∧ W.cell? ⟨w.heap.size, 1, none⟩ = some (.float .f32 sp) ∧ W.cell? ⟨w.heap.size + 1, 0, none⟩ = some (.slice B ds.length cap') ∧ W.cell? ⟨w.heap.size + 1, 1, none⟩ = some (.float .f32 sp')) (((try dsimp only); (repeat' apply And.intro) <;> (simp [*, go_sem]; done)))
        (first
          | (go_at_call 34; refine (specSame_any _ _ _ _ _ _ cs ds _ (hv3.vs.ext he4) hv4.vs HLE.out HI.out HI'.out HS.out HS'.out r HR.out).mono ?_; rintro e w5 ⟨he5, rfl⟩; obtain ⟨hc5, hf5⟩ := bcell he5; have hs5 := he5.size; have hz50 : w.heap.size < w5.heap.size := (by omega); have hz51 : w.heap.size + 1 < w5.heap.size := (by omega))
          | (go_at_call 35; have hh := hv3; refine (toThread_any B cap' sp' ds _ (HB.out.ext (Ext.trans HE2.out (Ext.trans (Ext.drew' (Ext.rfl' _)) he3))) HLE'.out).mono ?_; rintro e w4 ⟨he4, A4, rfl, hv4⟩; obtain ⟨hc4, hf4⟩ := bcell he4; have hs4 : w3.heap.size ≤ w4.heap.size := he4.size; have hz40 : w.heap.size < w4.heap.size := (by omega); have hz41 : w.heap.size + 1 < w4.heap.size := (by omega))
          | (go_at_call 35; refine (toThread_any A cap sp cs _ (HA.out.ext (Ext.trans HE2.out (Ext.drew' (Ext.rfl' _)))) HLE.out).mono ?_; rintro e w3 ⟨he3, A3, rfl, hv3⟩; (have h3 := bcellD he3; obtain ⟨hc3, hf3⟩ := h3); have hs3 : w2.heap.size ≤ w3.heap.size := he3.size; have hz30 : w.heap.size < w3.heap.size := (by omega); have hz31 : w.heap.size + 1 < w3.heap.size := (by omega)))
      have v0 : w5.cell? ⟨w.heap.size, 0, none⟩ = some (.slice A cs.length cap) := by go_simp
      have v1 : w5.cell? ⟨w.heap.size, 1, none⟩ = some (.float .f32 sp) := by go_simp
      have v2 : w5.cell? ⟨w.heap.size + 1, 0, none⟩ = some (.slice B ds.length cap') := by go_simp
      have v3 : w5.cell? ⟨w.heap.size + 1, 1, none⟩ = some (.float .f32 sp') := by go_simp
      have HE5 := Lib.hid (Ext.trans HE2.out (Ext.trans (Ext.trans (Ext.drew' (Ext.rfl' w2)) he3) (Ext.trans he4 he5)))
      clear hc3 hf3 hc4 hf4 hc5 hf5 he3 he4 he5 hv3 hv4 u0 u1 u2 u3
      go_wp2_with fail
      refine (toThread_any A cap sp cs _ (HA.out.ext HE5.out) HLE.out).mono ?_
      rintro e w6 ⟨he6, A6, rfl, hv6⟩
      have HV6 := Lib.hid hv6
      clear hv6
      obtain ⟨hc6, hf6⟩ := bcell he6
      have hs6 := he6.size
      have hz6a : w.heap.size < w6.heap.size := by omega
      have hz6b : w.heap.size + 1 < w6.heap.size := by omega
      have HE6 := Lib.hid (Ext.trans HE5.out he6)
      go_wp2_with fail
      refine (toThread_any B cap' sp' ds _ (HB.out.ext (Ext.trans HE6.out (by (repeat first | with_reducible exact Ext.rfl' _ | with_reducible refine Ext.drewN ?_ _ | with_reducible refine Ext.drew' ?_ | with_reducible refine Ext.alloc' ?_ _ | with_reducible refine Ext.setCell_at ?_ _ _ _ (by first | exact Nat.le_refl _ | omega) | with_reducible assumption | refine Ext.trans ?_ (by with_reducible assumption))))) HLE'.out).mono ?_
      rintro e w7 ⟨he7, A7, rfl, hv7⟩
      have HV7 := Lib.hid hv7
      clear hv7
      obtain ⟨hc7, hf7⟩ := bcell he7
      have hs7 := he7.size
      (try simp only [World.size_alloc] at hs7)
      have hz7a : w.heap.size < w7.heap.size := by omega
      have hz7b : w.heap.size + 1 < w7.heap.size := by omega
      have hz7c : w6.heap.size < w7.heap.size := by omega
      have HE67 := Lib.hid (show Ext w6 w7 by (repeat first | with_reducible exact Ext.rfl' _ | with_reducible refine Ext.drewN ?_ _ | with_reducible refine Ext.drew' ?_ | with_reducible refine Ext.alloc' ?_ _ | with_reducible refine Ext.setCell_at ?_ _ _ _ (by first | exact Nat.le_refl _ | omega) | with_reducible assumption | refine Ext.trans ?_ (by with_reducible assumption)))
      go_wp2_with fail
      refine (implSame_any _ _ _ _ _ _ cs ds _ (HV6.out.vs.ext (Ext.trans HE67.out (by (repeat first | with_reducible exact Ext.rfl' _ | with_reducible refine Ext.drewN ?_ _ | with_reducible refine Ext.drew' ?_ | with_reducible refine Ext.alloc' ?_ _ | with_reducible refine Ext.setCell_at ?_ _ _ _ (by first | exact Nat.le_refl _ | omega) | with_reducible assumption | refine Ext.trans ?_ (by with_reducible assumption))))) (HV7.out.vs.ext (by (repeat first | with_reducible exact Ext.rfl' _ | with_reducible refine Ext.drewN ?_ _ | with_reducible refine Ext.drew' ?_ | with_reducible refine Ext.alloc' ?_ _ | with_reducible refine Ext.setCell_at ?_ _ _ _ (by first | exact Nat.le_refl _ | omega) | with_reducible assumption | refine Ext.trans ?_ (by with_reducible assumption)))) HLE.out r HR.out).mono ?_
      rintro e w8 ⟨he8, rfl⟩
      obtain ⟨hc8, hf8⟩ := bcell he8
      have hs8 := he8.size
      (try simp only [World.size_alloc] at hs8)
      have hz8a : w.heap.size < w8.heap.size := by omega
      have hz8b : w.heap.size + 1 < w8.heap.size := by omega
      have hz8c : w6.heap.size < w8.heap.size := by omega
      have hz8d : w7.heap.size < w8.heap.size := by omega
      have HE78 := Lib.hid (show Ext w7 w8 by (repeat first | with_reducible exact Ext.rfl' _ | with_reducible refine Ext.drewN ?_ _ | with_reducible refine Ext.drew' ?_ | with_reducible refine Ext.alloc' ?_ _ | with_reducible refine Ext.setCell_at ?_ _ _ _ (by first | exact Nat.le_refl _ | omega) | with_reducible assumption | refine Ext.trans ?_ (by with_reducible assumption)))
      have HE8 := Lib.hid (Ext.trans HE6.out (Ext.trans HE67.out HE78.out))
      have HV68 := Lib.hid (HV6.out.vs.ext (Ext.trans HE67.out HE78.out))
      have HV78 := Lib.hid (HV7.out.vs.ext HE78.out)
      have b0 : w8.cell? ⟨w.heap.size, 0, none⟩ = some (.slice A cs.length cap) := by go_simp
      have b1 : w8.cell? ⟨w.heap.size, 1, none⟩ = some (.float .f32 sp) := by go_simp
      have b2 : w8.cell? ⟨w.heap.size + 1, 0, none⟩ = some (.slice B ds.length cap') := by go_simp
      have b3 : w8.cell? ⟨w.heap.size + 1, 1, none⟩ = some (.float .f32 sp') := by go_simp
      have b4 : w8.cell? ⟨w6.heap.size, 0, none⟩ = some (.slice A6 cs.length cs.length) := by go_simp
      have b5 : w8.cell? ⟨w6.heap.size, 1, none⟩ = some (.float .f32 sp) := by go_simp
      have b6 : w8.cell? ⟨w7.heap.size, 0, none⟩ = some (.slice A7 ds.length ds.length) := by go_simp
      have b7 : w8.cell? ⟨w7.heap.size, 1, none⟩ = some (.float .f32 sp') := by go_simp
      clear hc6 hf6 hc7 hf7 hc8 hf8 he6 he7 he8 v0 v1 v2 v3
      go_wp2_with fail
      go_region_held3 (fun W => W.cell? ⟨w.heap.size, 0, none⟩ = some (.slice A cs.length cap) ∧ W.cell? ⟨w.heap.size, 1, none⟩ = some (.float .f32 sp) ∧ W.cell? ⟨w.heap.size + 1, 0, none⟩ = some (.slice B ds.length cap') ∧ W.cell? ⟨w.heap.size + 1, 1, none⟩ = some (.float .f32 sp') ∧ W.cell? ⟨w6.heap.size, 0, none⟩ = some (.slice A6 cs.length cs.length) ∧ W.cell? ⟨w6.heap.size, 1, none⟩ = some (.float .f32 sp) ∧ W.cell? ⟨w7.heap.size, 0, none⟩ = some (.slice A7 ds.length ds.length) ∧ W.cell? ⟨w7.heap.size, 1, none⟩ = some (.float .f32 sp')) (((try dsimp only); (repeat' apply And.intro) <;> (simp [*, go_sem]; done)))
        (first
          | (go_at_call 35; refine (toThread_any A cap sp cs _ (HA.out.ext (Ext.trans HE8.out (Ext.drew' (Ext.rfl' _)))) HLE.out).mono ?_; rintro e w9 ⟨he9, A9, rfl, hv9⟩; (have h9 := bcellD he9; obtain ⟨hc9, hf9⟩ := h9); have hs9 : w8.heap.size ≤ w9.heap.size := he9.size; have hz9_0 : w.heap.size < w9.heap.size := (by omega); have hz9_1 : w.heap.size + 1 < w9.heap.size := (by omega); have hz9_2 : w6.heap.size < w9.heap.size := (by omega); have hz9_3 : w7.heap.size < w9.heap.size := (by omega))
          | (go_at_call 37; refine (eqThread_any _ _ _ _ _ _ cs _ (HV68.out.ext (Ext.trans (Ext.drew' (Ext.rfl' _)) he9)) hv9.vs rfl HLE.out).mono ?_; rintro e w10 ⟨he10, rfl⟩; obtain ⟨hc10, hf10⟩ := bcell he10; have hs10 := he10.size; have hz10_0 : w.heap.size < w10.heap.size := (by omega); have hz10_1 : w.heap.size + 1 < w10.heap.size := (by omega); have hz10_2 : w6.heap.size < w10.heap.size := (by omega); have hz10_3 : w7.heap.size < w10.heap.size := (by omega)))
      go_wp2_with fail
      have d0 : w10.cell? ⟨w.heap.size, 0, none⟩ = some (.slice A cs.length cap) := by go_simp
      have d1 : w10.cell? ⟨w.heap.size, 1, none⟩ = some (.float .f32 sp) := by go_simp
      have d2 : w10.cell? ⟨w.heap.size + 1, 0, none⟩ = some (.slice B ds.length cap') := by go_simp
      have d3 : w10.cell? ⟨w.heap.size + 1, 1, none⟩ = some (.float .f32 sp') := by go_simp
      have d4 : w10.cell? ⟨w6.heap.size, 0, none⟩ = some (.slice A6 cs.length cs.length) := by go_simp
      have d5 : w10.cell? ⟨w6.heap.size, 1, none⟩ = some (.float .f32 sp) := by go_simp
      have d6 : w10.cell? ⟨w7.heap.size, 0, none⟩ = some (.slice A7 ds.length ds.length) := by go_simp
      have d7 : w10.cell? ⟨w7.heap.size, 1, none⟩ = some (.float .f32 sp') := by go_simp
      have HE10 := Lib.hid (Ext.trans HE8.out (Ext.trans (Ext.trans (Ext.drew' (Ext.rfl' w8)) he9) he10))
      have HV710 := Lib.hid (HV78.out.ext (Ext.trans (Ext.trans (Ext.drew' (Ext.rfl' w8)) he9) he10))
      clear hc9 hf9 hc10 hf10 he9 he10 b0 b1 b2 b3 b4 b5 b6 b7
      go_region_held3 (fun W => W.cell? ⟨w.heap.size, 0, none⟩ = some (.slice A cs.length cap) ∧ W.cell? ⟨w.heap.size, 1, none⟩ = some (.float .f32 sp) ∧ W.cell? ⟨w.heap.size + 1, 0, none⟩ = some (.slice B ds.length cap') ∧ W.cell? ⟨w.heap.size + 1, 1, none⟩ = some (.float .f32 sp') ∧ W.cell? ⟨w6.heap.size, 0, none⟩ = some (.slice A6 cs.length cs.length) ∧ W.cell? ⟨w6.heap.size, 1, none⟩ = some (.float .f32 sp) ∧ W.cell? ⟨w7.heap.size, 0, none⟩ = some (.slice A7 ds.length ds.length) ∧ W.cell? ⟨w7.heap.size, 1, none⟩ = some (.float .f32 sp')) (((try dsimp only); (repeat' apply And.intro) <;> (simp [*, go_sem]; done)))
        (first
          | (go_at_call 35; refine (toThread_any B cap' sp' ds _ (HB.out.ext (Ext.trans HE10.out (Ext.drew' (Ext.rfl' _)))) HLE'.out).mono ?_; rintro e w11 ⟨he11, A11, rfl, hv11⟩; (have h11 := bcellD he11; obtain ⟨hc11, hf11⟩ := h11); have hs11 : w10.heap.size ≤ w11.heap.size := he11.size; have hz11_0 : w.heap.size < w11.heap.size := (by omega); have hz11_1 : w.heap.size + 1 < w11.heap.size := (by omega); have hz11_2 : w6.heap.size < w11.heap.size := (by omega); have hz11_3 : w7.heap.size < w11.heap.size := (by omega))
          | (go_at_call 37; refine (eqThread_any _ _ _ _ _ _ ds _ (HV710.out.ext (Ext.trans (Ext.drew' (Ext.rfl' _)) he11)) hv11.vs rfl HLE'.out).mono ?_; rintro e w12 ⟨he12, rfl⟩; obtain ⟨hc12, hf12⟩ := bcell he12; have hs12 := he12.size; have hz12_0 : w.heap.size < w12.heap.size := (by omega); have hz12_1 : w.heap.size + 1 < w12.heap.size := (by omega); have hz12_2 : w6.heap.size < w12.heap.size := (by omega); have hz12_3 : w7.heap.size < w12.heap.size := (by omega)))
      go_wp2_with fail
      go_ret
      exact ⟨Ext.trans HE10.out (Ext.trans (Ext.trans (Ext.drew' (Ext.rfl' w10)) he11) he12), rfl⟩
end Go.Proofs.Ytbaohbpfnlicpaa
