/- Walks: the area of a thread (the program's own). -/
import Derived.Test.YtbaohbpfnlicpaaW7
import Derived.Deep.RegionLaw
namespace Go.Proofs.Ytbaohbpfnlicpaa
open Go Go.RowKit
set_option linter.unusedVariables false
set_option linter.unusedSimpArgs false
attribute [local go_sem] run_store_float

set_option maxRecDepth 100000 in
set_option maxHeartbeats 1000000 in
theorem implArea_any (A : Option Addr) (cap sp : Nat) (cs : List V3) (w : World) (hA : VS w A cs) (hl : cs.length ≤ 1048576) :
    Calls Try.prog 49 #[.agg #[.slice A cs.length cap, .float .f32 sp]] w fun e w' => Ext w w' ∧ ∃ r s t b, e = .returned (.tuple #[.agg #[.float .f32 r, .float .f32 s, .float .f32 t], .bool b]) ∧ (b, cv r s t) = areaP cs (cn .f32 sp) := by
  have HA := Lib.hid hA
  have HL := Lib.hid hl
  clear hA hl
  cases hi : isTh cs (cn .f32 sp) with
  | false =>
    have HI := Lib.hid hi
    clear hi
    go_enter Try.func49, Try.ntmps49
    go_wp2_with (go_at_call 112; refine (IsThread_any A cap sp cs _ (HA.out.ext (by (repeat first | with_reducible exact Ext.rfl' _ | with_reducible refine Ext.drewN ?_ _ | with_reducible refine Ext.drew' ?_ | with_reducible refine Ext.alloc' ?_ _ | with_reducible refine Ext.setCell_at ?_ _ _ _ (by first | exact Nat.le_refl _ | omega) | with_reducible assumption | refine Ext.trans ?_ (by with_reducible assumption)))) HL.out false HI.out).mono ?_; rintro e w1 ⟨he1, rfl⟩; obtain ⟨hc1, hf1⟩ := bcell he1; (try simp only [World.heap_drewN, World.cell?_drewN, World.frozen?_drewN] at hc1 hf1); (have hz0 : w.heap.size < w1.heap.size := (by have := he1.size; (try simp only [World.heap_drewN, World.size_alloc] at this); omega)); (have hz1 : w.heap.size + 1 < w1.heap.size := (by have := he1.size; (try simp only [World.heap_drewN, World.size_alloc] at this); omega)))
    exact bodyPost_ret (v := .tuple #[.agg #[.float .f32 0, .float .f32 0, .float .f32 0], .bool false]) (by simp [results, Try.results49, go_sem, hc1, hz0, hz1]) rfl ⟨by (repeat first | with_reducible exact Ext.rfl' _ | with_reducible refine Ext.drewN ?_ _ | with_reducible refine Ext.drew' ?_ | with_reducible refine Ext.alloc' ?_ _ | with_reducible refine Ext.setCell_at ?_ _ _ _ (by first | exact Nat.le_refl _ | omega) | with_reducible assumption | refine Ext.trans ?_ (by with_reducible assumption)), _, _, _, _, rfl, by unfold areaP; rw [if_neg (by rw [HI.out]; decide), cv_zero]⟩
  | true =>
    have HI := Lib.hid hi
    clear hi
    go_enter Try.func49, Try.ntmps49
    go_wp2_with (go_at_call 112; refine (IsThread_any A cap sp cs _ (HA.out.ext (by (repeat first | with_reducible exact Ext.rfl' _ | with_reducible refine Ext.drewN ?_ _ | with_reducible refine Ext.drew' ?_ | with_reducible refine Ext.alloc' ?_ _ | with_reducible refine Ext.setCell_at ?_ _ _ _ (by first | exact Nat.le_refl _ | omega) | with_reducible assumption | refine Ext.trans ?_ (by with_reducible assumption)))) HL.out true HI.out).mono ?_; rintro e w1 ⟨he1, rfl⟩; obtain ⟨hc1, hf1⟩ := bcell he1; (try simp only [World.heap_drewN, World.cell?_drewN, World.frozen?_drewN] at hc1 hf1); (have hz0 : w.heap.size < w1.heap.size := (by have := he1.size; (try simp only [World.heap_drewN, World.size_alloc] at this); omega)); (have hz1 : w.heap.size + 1 < w1.heap.size := (by have := he1.size; (try simp only [World.heap_drewN, World.size_alloc] at this); omega)))
    have HE1 := Lib.hid he1
    have HT := Lib.hid (TAt.ext (w := (w.alloc (.cells #[.slice A cs.length cap, .float .f32 sp] 48)).alloc (.cells #[.float .f32 0, .float .f32 0, .float .f32 0] 54)) (g := w.heap.size) (o := 0) (A := A) (n := cs.length) (cap := cap) (sp := sp) ⟨by simp <;> omega, by go_simp, by go_simp⟩ he1)
    have HR := Lib.hid (Blk.ext (Blk.at_ (w.alloc (.cells #[.slice A cs.length cap, .float .f32 sp] 48)) 54 #[.float .f32 0, .float .f32 0, .float .f32 0] (w.heap.size + 1) (by simp)) he1)
    have HA1 := Lib.hid ((HA.out.ext (w' := (w.alloc (.cells #[.slice A cs.length cap, .float .f32 sp] 48)).alloc (.cells #[.float .f32 0, .float .f32 0, .float .f32 0] 54)) (by (repeat first | with_reducible exact Ext.rfl' _ | with_reducible refine Ext.drewN ?_ _ | with_reducible refine Ext.drew' ?_ | with_reducible refine Ext.alloc' ?_ _ | with_reducible refine Ext.setCell_at ?_ _ _ _ (by first | exact Nat.le_refl _ | omega) | with_reducible assumption | refine Ext.trans ?_ (by with_reducible assumption)))).ext he1)
    go_wp2_with fail
    clear he1 hc1 hf1
    go_loopw [15] (fun i wr => ∃ (k r s t : Nat), k ≤ cs.length ∧ i = .int .i64 k ∧ Blk wr w1.heap.size 54 #[.float .f32 r, .float .f32 s, .float .f32 t] ∧ cv r s t = areaTo cs k ∧ Below w1.heap.size w1 wr) (fun i _ => cs.length - (intOf i).toNat)
    case atStart => exact ⟨0, 0, 0, 0, Nat.zero_le _, rfl, Blk.new _ _ _, by simp [areaTo, cv_zero], Ext.alloc' (Ext.rfl' _) _⟩
    case round =>
      obtain ⟨k, r, s, t, hk, rfl, hB, hv, hbel⟩ := hrel
      have HB := Lib.hid hB
      have HV := Lib.hid hv
      have HE := Lib.hid hbel
      have hw1 := hB.lt
      have HTr := Lib.hid (HT.out.ext hbel)
      have HAr := Lib.hid (HA1.out.ext hbel)
      clear hB hv hbel
      have hk9 : k < 9223372036854775807 := by have := HL.out; omega
      have hw0 : w.heap.size < wr.heap.size := by omega
      by_cases hlt : k < cs.length
      · obtain ⟨b', o', hbo, hbw, hcc⟩ := HAr.out (by omega)
        subst hbo
        obtain ⟨x, y, z, d0, d1, d2, hcv⟩ := hcc k hlt
        have HC := Lib.hid hcv
        clear hcc hcv
        go_wp2_with fail
        have HE2 := Lib.hid (show Ext wr (wr.alloc (.cells #[.float .f32 x, .float .f32 y, .float .f32 z] 54)) by (repeat first | with_reducible exact Ext.rfl' _ | with_reducible refine Ext.drewN ?_ _ | with_reducible refine Ext.drew' ?_ | with_reducible refine Ext.alloc' ?_ _ | with_reducible refine Ext.setCell_at ?_ _ _ _ (by first | exact Nat.le_refl _ | omega) | with_reducible assumption | refine Ext.trans ?_ (by with_reducible assumption)))
        have HP := Lib.hid (Blk.new wr 54 #[.float .f32 x, .float .f32 y, .float .f32 z])
        generalize wr.alloc (.cells #[.float .f32 x, .float .f32 y, .float .f32 z] 54) = W3 at *
        clear d0 d1 d2
        have HB3 := Lib.hid (HB.out.ext HE2.out)
        have HT3 := Lib.hid (HTr.out.ext HE2.out)
        have HA3 := Lib.hid (HAr.out.ext HE2.out)
        have m0 : W3.cell? ⟨w1.heap.size, 0, none⟩ = some (.float .f32 r) := HB3.out.cell 0
        have m1 : W3.cell? ⟨w1.heap.size, 1, none⟩ = some (.float .f32 s) := HB3.out.cell 1
        have m2 : W3.cell? ⟨w1.heap.size, 2, none⟩ = some (.float .f32 t) := HB3.out.cell 2
        have p0 : W3.cell? ⟨wr.heap.size, 0, none⟩ = some (.float .f32 x) := HP.out.cell 0
        have p1 : W3.cell? ⟨wr.heap.size, 1, none⟩ = some (.float .f32 y) := HP.out.cell 1
        have p2 : W3.cell? ⟨wr.heap.size, 2, none⟩ = some (.float .f32 z) := HP.out.cell 2
        go_region_law (first
          | (go_simp; go_at_call 121; refine (next_any _ _ _ cap sp cs k _ (HT3.out.ext (Ext.drew' (Ext.rfl' _))) (HA3.out.ext (Ext.drew' (Ext.rfl' _))) HL.out hlt).mono ?_; rintro e w3 ⟨he3, x', y', z', rfl, hq3⟩; have HC' := Lib.hid hq3; clear hq3; (have he3' : Ext W3 w3 := Ext.trans (Ext.drew' (Ext.rfl' _)) he3); (have HB33 := Lib.hid (HB3.out.ext he3')); (have HP33 := Lib.hid (HP.out.ext he3')); (have j0 : w3.cell? ⟨w1.heap.size, 0, none⟩ = some (.float .f32 r) := HB33.out.cell 0); (have j1 : w3.cell? ⟨w1.heap.size, 1, none⟩ = some (.float .f32 s) := HB33.out.cell 1); (have j2 : w3.cell? ⟨w1.heap.size, 2, none⟩ = some (.float .f32 t) := HB33.out.cell 2); (have i0 : w3.cell? ⟨wr.heap.size, 0, none⟩ = some (.float .f32 x) := HP33.out.cell 0); (have i1 : w3.cell? ⟨wr.heap.size, 1, none⟩ = some (.float .f32 y) := HP33.out.cell 1); (have i2 : w3.cell? ⟨wr.heap.size, 2, none⟩ = some (.float .f32 z) := HP33.out.cell 2); have hs3 := he3'.size; clear he3)
          | (go_simp; go_at_call 120; refine (CrossOf_any _ _ _ _ _ _ _).mono ?_; rintro e w4 ⟨he4, r4, s4, t4, rfl, hq4⟩; have HQ4 := Lib.hid hq4; clear hq4; have HB4 := Lib.hid (HB33.out.ext he4); (have k0 : w4.cell? ⟨w1.heap.size, 0, none⟩ = some (.float .f32 r) := HB4.out.cell 0); (have k1 : w4.cell? ⟨w1.heap.size, 1, none⟩ = some (.float .f32 s) := HB4.out.cell 1); (have k2 : w4.cell? ⟨w1.heap.size, 2, none⟩ = some (.float .f32 t) := HB4.out.cell 2); have hs4 := he4.size)
          | (go_simp; go_at_call 113; refine (AddVectors_any _ _ _ _ _ _ _).mono ?_; rintro e w5 ⟨he5, r5, s5, t5, rfl, hq5⟩; have HQ5 := Lib.hid hq5; clear hq5; have heW : Ext W3 w5 := Ext.trans (Ext.trans he3' he4) he5; have HE5 := Lib.hid heW; have HB5 := Lib.hid (HB3.out.ext heW); (have n0 : w5.cell? ⟨w1.heap.size, 0, none⟩ = some (.float .f32 r) := HB5.out.cell 0); (have n1 : w5.cell? ⟨w1.heap.size, 1, none⟩ = some (.float .f32 s) := HB5.out.cell 1); (have n2 : w5.cell? ⟨w1.heap.size, 2, none⟩ = some (.float .f32 t) := HB5.out.cell 2); have f0 := HB5.out.frozen 0; have f1 := HB5.out.frozen 1; have f2 := HB5.out.frozen 2; clear heW he5 he4 he3'))
        all_goals
          go_wp2_with fail
          have hx5 : Ext w1 w5 := Ext.trans HE.out (Ext.trans HE2.out HE5.out)
          refine ⟨⟨k + 1, r5, s5, t5, by omega, by go_num, HB5.out.set3v _ _ _, by rw [HQ5.out, HV.out, HQ4.out, HC.out, HC'.out, areaTo], ?_⟩, by simp [intOf]; omega⟩
          exact Ext.setCell_at (Ext.setCell_at (Ext.setCell_at hx5 _ _ _ (Nat.le_refl _)) _ _ _ (Nat.le_refl _)) _ _ _ (Nat.le_refl _)
      · have hkl : k = cs.length := by omega
        subst hkl
        have m0 : wr.cell? ⟨w1.heap.size, 0, none⟩ = some (.float .f32 r) := HB.out.cell 0
        have m1 : wr.cell? ⟨w1.heap.size, 1, none⟩ = some (.float .f32 s) := HB.out.cell 1
        have m2 : wr.cell? ⟨w1.heap.size, 2, none⟩ = some (.float .f32 t) := HB.out.cell 2
        go_wp2_with (first
          | (go_at_call 115; refine (ScaleVector_any _ _ _ _ _).mono ?_; rintro e w2 ⟨he2, r', s', t', rfl, hq⟩; have HQ := Lib.hid hq; clear hq))
        have HR2 := Lib.hid ((HR.out.below HE.out (by omega)).ext (w' := w2) he2)
        have HX2 := Lib.hid he2
        clear he2 m0 m1 m2
        cases hv : vfin (cv r' s' t')
        all_goals
          have HVF := Lib.hid hv
          clear hv
          refine (toldVector_any _ _ _ _ HVF.out _).mono ?_
          rintro e w3 ⟨he3, rfl⟩
          have HR3 := Lib.hid (HR2.out.ext he3)
          have HX3 := Lib.hid he3
          clear he3
          have m0 := HR3.out.cell 0
          have m1 := HR3.out.cell 1
          have m2 := HR3.out.cell 2
          have f0 := HR3.out.frozen 0
          have f1 := HR3.out.frozen 1
          have f2 := HR3.out.frozen 2
          go_wp2_with fail
          have h1 := HE1.out
          have h2 : Ext w1 wr := HE.out
          have h3 := HX2.out
          have h4 := HX3.out
          have hm := areaP_of cs (cn .f32 sp) r s t r' s' t' HI.out HV.out HQ.out
          unfold toldV at hm
          rw [HVF.out] at hm
          first
            | exact bodyPost_ret (v := .tuple #[.agg #[.float .f32 0, .float .f32 0, .float .f32 0], .bool false]) (by simp [results, Try.results49, go_sem, m0, m1, m2]) rfl ⟨by (repeat first | with_reducible exact Ext.rfl' _ | with_reducible refine Ext.drewN ?_ _ | with_reducible refine Ext.drew' ?_ | with_reducible refine Ext.alloc' ?_ _ | with_reducible refine Ext.setCell_at ?_ _ _ _ (by first | exact Nat.le_refl _ | omega) | with_reducible assumption | refine Ext.trans ?_ (by with_reducible assumption)), _, _, _, _, rfl, by rw [hm, cv_zero]; rfl⟩
            | exact bodyPost_ret (v := .tuple #[.agg #[.float .f32 r', .float .f32 s', .float .f32 t'], .bool true]) (by simp [results, Try.results49, go_sem, m0, m1, m2]) rfl ⟨by (repeat first | with_reducible exact Ext.rfl' _ | with_reducible refine Ext.drewN ?_ _ | with_reducible refine Ext.drew' ?_ | with_reducible refine Ext.alloc' ?_ _ | with_reducible refine Ext.setCell_at ?_ _ _ _ (by first | exact Nat.le_refl _ | omega) | with_reducible assumption | refine Ext.trans ?_ (by with_reducible assumption)), _, _, _, _, rfl, by rw [hm]; rfl⟩
end Go.Proofs.Ytbaohbpfnlicpaa
