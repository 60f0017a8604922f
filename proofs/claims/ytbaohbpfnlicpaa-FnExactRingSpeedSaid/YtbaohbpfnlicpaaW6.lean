/- Walks: the middle of a thread. -/
import Derived.Test.YtbaohbpfnlicpaaW4
import Derived.StillTailTactics
namespace Go.Proofs.Ytbaohbpfnlicpaa
open Go Go.RowKit
set_option linter.unusedVariables false
set_option linter.unusedSimpArgs false
attribute [local go_sem] run_store_float

set_option maxRecDepth 100000 in
theorem specMiddle_any (A : Option Addr) (cap sp : Nat) (cs : List V3) (w : World) (hA : VS w A cs) (hl : cs.length ≤ 1048576) :
    Calls Try.prog 40 #[.agg #[.slice A cs.length cap, .float .f32 sp]] w fun e w' => Ext w w' ∧ ∃ r s t b, e = .returned (.tuple #[.agg #[.float .f32 r, .float .f32 s, .float .f32 t], .bool b]) ∧ (b, cv r s t) = midP cs (cn .f32 sp) := by
  have HA := Lib.hid hA
  have HL := Lib.hid hl
  clear hA hl
  cases hi : isTh cs (cn .f32 sp) with
  | false =>
    have HI := Lib.hid hi
    clear hi
    go_enter Try.func40, Try.ntmps40
    go_wp2_with (go_at_call 108; refine (l06Is_any w.heap.size 0 A cap sp cs _ ⟨by simp <;> omega, by go_simp, by go_simp⟩ (HA.out.ext (by (repeat first | with_reducible exact Ext.rfl' _ | with_reducible refine Ext.drewN ?_ _ | with_reducible refine Ext.drew' ?_ | with_reducible refine Ext.alloc' ?_ _ | with_reducible refine Ext.setCell_at ?_ _ _ _ (by first | exact Nat.le_refl _ | omega) | with_reducible assumption | refine Ext.trans ?_ (by with_reducible assumption)))) HL.out false HI.out).mono ?_; rintro e w1 ⟨he1, rfl⟩; obtain ⟨hc1, hf1⟩ := bcell he1; (try simp only [World.heap_drewN, World.cell?_drewN, World.frozen?_drewN] at hc1 hf1); (have hz0 : w.heap.size < w1.heap.size := (by have := he1.size; (try simp only [World.heap_drewN, World.size_alloc] at this); omega)); (have hz1 : w.heap.size + 1 < w1.heap.size := (by have := he1.size; (try simp only [World.heap_drewN, World.size_alloc] at this); omega)))
    exact bodyPost_ret (v := .tuple #[.agg #[.float .f32 0, .float .f32 0, .float .f32 0], .bool false]) (by simp [results, Try.results40, go_sem, hc1, hz0, hz1]) rfl ⟨by (repeat first | with_reducible exact Ext.rfl' _ | with_reducible refine Ext.drewN ?_ _ | with_reducible refine Ext.drew' ?_ | with_reducible refine Ext.alloc' ?_ _ | with_reducible refine Ext.setCell_at ?_ _ _ _ (by first | exact Nat.le_refl _ | omega) | with_reducible assumption | refine Ext.trans ?_ (by with_reducible assumption)), _, _, _, _, rfl, by unfold midP; rw [if_neg (by rw [HI.out]; decide), cv_zero]⟩
  | true =>
    have HI := Lib.hid hi
    clear hi
    go_enter Try.func40, Try.ntmps40
    go_wp2_with (go_at_call 108; refine (l06Is_any w.heap.size 0 A cap sp cs _ ⟨by simp <;> omega, by go_simp, by go_simp⟩ (HA.out.ext (by (repeat first | with_reducible exact Ext.rfl' _ | with_reducible refine Ext.drewN ?_ _ | with_reducible refine Ext.drew' ?_ | with_reducible refine Ext.alloc' ?_ _ | with_reducible refine Ext.setCell_at ?_ _ _ _ (by first | exact Nat.le_refl _ | omega) | with_reducible assumption | refine Ext.trans ?_ (by with_reducible assumption)))) HL.out true HI.out).mono ?_; rintro e w1 ⟨he1, rfl⟩; obtain ⟨hc1, hf1⟩ := bcell he1; (try simp only [World.heap_drewN, World.cell?_drewN, World.frozen?_drewN] at hc1 hf1); (have hz0 : w.heap.size < w1.heap.size := (by have := he1.size; (try simp only [World.heap_drewN, World.size_alloc] at this); omega)); (have hz1 : w.heap.size + 1 < w1.heap.size := (by have := he1.size; (try simp only [World.heap_drewN, World.size_alloc] at this); omega)))
    have HE1 := Lib.hid he1
    have HT := Lib.hid (TAt.ext (w := (w.alloc (.cells #[.slice A cs.length cap, .float .f32 sp] 48)).alloc (.cells #[.float .f32 0, .float .f32 0, .float .f32 0] 54)) (g := w.heap.size) (o := 0) (A := A) (n := cs.length) (cap := cap) (sp := sp) ⟨by simp <;> omega, by go_simp, by go_simp⟩ he1)
    have HR := Lib.hid (Blk.ext (Blk.at_ (w.alloc (.cells #[.slice A cs.length cap, .float .f32 sp] 48)) 54 #[.float .f32 0, .float .f32 0, .float .f32 0] (w.heap.size + 1) (by simp)) he1)
    have HA1 := Lib.hid ((HA.out.ext (w' := (w.alloc (.cells #[.slice A cs.length cap, .float .f32 sp] 48)).alloc (.cells #[.float .f32 0, .float .f32 0, .float .f32 0] 54)) (by (repeat first | with_reducible exact Ext.rfl' _ | with_reducible refine Ext.drewN ?_ _ | with_reducible refine Ext.drew' ?_ | with_reducible refine Ext.alloc' ?_ _ | with_reducible refine Ext.setCell_at ?_ _ _ _ (by first | exact Nat.le_refl _ | omega) | with_reducible assumption | refine Ext.trans ?_ (by with_reducible assumption)))).ext he1)
    clear he1 hc1 hf1
    go_loopw [5] (fun i wr => ∃ (k r s t : Nat), k ≤ cs.length ∧ i = .int .i64 k ∧ Blk wr w1.heap.size 54 #[.float .f32 r, .float .f32 s, .float .f32 t] ∧ cv r s t = vsum (cs.take k) ∧ Below w1.heap.size w1 wr) (fun i _ => cs.length - (intOf i).toNat)
    case atStart => exact ⟨0, 0, 0, 0, Nat.zero_le _, rfl, Blk.new _ _ _, by simp [vsum, cv_zero], Ext.alloc' (Ext.rfl' _) _⟩
    case round =>
      obtain ⟨k, r, s, t, hk, rfl, hB, hv, hbel⟩ := hrel
      have HB := Lib.hid hB
      have HV := Lib.hid hv
      have HE := Lib.hid hbel
      clear hB hv hbel
      have hk9 : k < 9223372036854775807 := by have := HL.out; omega
      obtain ⟨_, s0, s1⟩ := HT.out.ext HE.out
      by_cases hlt : k < cs.length
      · obtain ⟨b', o', rfl, hbw, hcc⟩ := HA1.out (by omega)
        obtain ⟨x, y, z, c0, c1, c2, hcv⟩ := hcc k hlt
        have d0 := (HE.out.cell (p := ⟨b', o' + k * 3, none⟩) hbw).trans c0
        have d1 := (HE.out.cell (p := ⟨b', o' + k * 3 + 1, none⟩) hbw).trans c1
        have d2 := (HE.out.cell (p := ⟨b', o' + k * 3 + 2, none⟩) hbw).trans c2
        have HC := Lib.hid hcv
        clear c0 c1 c2 hcc hcv
        have m0 : wr.cell? ⟨w1.heap.size, 0, none⟩ = some (.float .f32 r) := HB.out.cell 0
        have m1 : wr.cell? ⟨w1.heap.size, 1, none⟩ = some (.float .f32 s) := HB.out.cell 1
        have m2 : wr.cell? ⟨w1.heap.size, 2, none⟩ = some (.float .f32 t) := HB.out.cell 2
        go_wp2_with fail
        go_still_tail 6, (by kernel_rfl)
        go_wp2_with fail
        refine (l01VAdd_any _ _ _ _ _ _ _).mono ?_
        rintro e w2 ⟨he2, r', s', t', rfl, hq⟩
        have hee : Ext wr w2 := Ext.trans (Ext.rfl' _).drew' he2
        have HQ := Lib.hid hq
        have HEE := Lib.hid hee
        have HB2 := Lib.hid (HB.out.ext hee)
        clear he2 hq hee m0 m1 m2 d0 d1 d2 s0 s1
        have m0 : w2.cell? ⟨w1.heap.size, 0, none⟩ = some (.float .f32 r) := HB2.out.cell 0
        have m1 : w2.cell? ⟨w1.heap.size, 1, none⟩ = some (.float .f32 s) := HB2.out.cell 1
        have m2 : w2.cell? ⟨w1.heap.size, 2, none⟩ = some (.float .f32 t) := HB2.out.cell 2
        have f0 := HB2.out.frozen 0
        have f1 := HB2.out.frozen 1
        have f2 := HB2.out.frozen 2
        go_wp2_with fail
        refine ⟨⟨k + 1, r', s', t', by omega, by go_num, HB2.out.set3v _ _ _, by rw [HQ.out, HV.out, HC.out, vsum_succ _ _ hlt], ?_⟩, by simp [intOf]; omega⟩
        have h1 := HE.out
        have h2 := HEE.out
        (repeat first | with_reducible exact Ext.rfl' _ | with_reducible refine Ext.drewN ?_ _ | with_reducible refine Ext.drew' ?_ | with_reducible refine Ext.alloc' ?_ _ | with_reducible refine Ext.setCell_at ?_ _ _ _ (by first | exact Nat.le_refl _ | omega) | with_reducible assumption | refine Ext.trans ?_ (by with_reducible assumption))
      · have hkl : k = cs.length := by omega
        subst hkl
        have m0 : wr.cell? ⟨w1.heap.size, 0, none⟩ = some (.float .f32 r) := HB.out.cell 0
        have m1 : wr.cell? ⟨w1.heap.size, 1, none⟩ = some (.float .f32 s) := HB.out.cell 1
        have m2 : wr.cell? ⟨w1.heap.size, 2, none⟩ = some (.float .f32 t) := HB.out.cell 2
        go_wp2_with (first
          | (refine wpList_float rfl _ _ _ _ _ rfl (by decide) _ _ _ rfl rfl ?_; intro r1 n1 q1) | (refine wpList_fcmp rfl _ _ _ _ _ rfl rfl _ _ _ rfl rfl _ (by first | with_reducible assumption | rfl) ?_) | (refine wpList_fneg rfl _ _ rfl _ _ rfl ?_; intro r1 q1)
          | (go_at_call 111; refine (l01VScale_any _ _ _ _ _).mono ?_; rintro e w2 ⟨he2, r', s', t', rfl, hq⟩; have HQ := Lib.hid hq; clear hq))
        have HR2 := Lib.hid ((HR.out.below HE.out (by omega)).ext (w' := w2) (Ext.trans (Ext.drewN (Ext.rfl' _) _) he2))
        have HQ1 := Lib.hid q1
        have HX2 := Lib.hid he2
        clear q1 he2 m0 m1 m2 s0 s1
        cases hv : vfin (cv r' s' t')
        all_goals
          have HVF := Lib.hid hv
          clear hv
          refine (l06Vector_any _ _ _ _ HVF.out _).mono ?_
          rintro e w3 ⟨he3, rfl⟩
          have HR3 := Lib.hid (HR2.out.ext he3)
          have HX3 := Lib.hid he3
          clear he3
          have m0 := HR3.out.cell 0
          have m1 := HR3.out.cell 1
          have m2 := HR3.out.cell 2
          have f0 := HR3.out.frozen 0
          have f1 := HR3.out.frozen 1
          have f2 := HR3.out.frozen 2
          go_wp2_with fail
          have h1 := HE1.out
          have h2 : Ext w1 wr := HE.out
          have h3 := HX2.out
          have h4 := HX3.out
          have hm := midP_of cs (cn .f32 sp) r1 r s t r' s' t' HI.out HV.out HQ1.out HQ.out
          unfold toldV at hm
          rw [HVF.out] at hm
          first
            | exact bodyPost_ret (v := .tuple #[.agg #[.float .f32 0, .float .f32 0, .float .f32 0], .bool false]) (by simp [results, Try.results40, go_sem, m0, m1, m2]) rfl ⟨by (repeat first | with_reducible exact Ext.rfl' _ | with_reducible refine Ext.drewN ?_ _ | with_reducible refine Ext.drew' ?_ | with_reducible refine Ext.alloc' ?_ _ | with_reducible refine Ext.setCell_at ?_ _ _ _ (by first | exact Nat.le_refl _ | omega) | with_reducible assumption | refine Ext.trans ?_ (by with_reducible assumption)), _, _, _, _, rfl, by rw [hm, cv_zero]; rfl⟩
            | exact bodyPost_ret (v := .tuple #[.agg #[.float .f32 r', .float .f32 s', .float .f32 t'], .bool true]) (by simp [results, Try.results40, go_sem, m0, m1, m2]) rfl ⟨by (repeat first | with_reducible exact Ext.rfl' _ | with_reducible refine Ext.drewN ?_ _ | with_reducible refine Ext.drew' ?_ | with_reducible refine Ext.alloc' ?_ _ | with_reducible refine Ext.setCell_at ?_ _ _ _ (by first | exact Nat.le_refl _ | omega) | with_reducible assumption | refine Ext.trans ?_ (by with_reducible assumption)), _, _, _, _, rfl, by rw [hm]; rfl⟩
set_option maxRecDepth 100000 in
theorem implMiddle_any (A : Option Addr) (cap sp : Nat) (cs : List V3) (w : World) (hA : VS w A cs) (hl : cs.length ≤ 1048576) :
    Calls Try.prog 41 #[.agg #[.slice A cs.length cap, .float .f32 sp]] w fun e w' => Ext w w' ∧ ∃ r s t b, e = .returned (.tuple #[.agg #[.float .f32 r, .float .f32 s, .float .f32 t], .bool b]) ∧ (b, cv r s t) = midP cs (cn .f32 sp) := by
  have HA := Lib.hid hA
  have HL := Lib.hid hl
  clear hA hl
  cases hi : isTh cs (cn .f32 sp) with
  | false =>
    have HI := Lib.hid hi
    clear hi
    go_enter Try.func41, Try.ntmps41
    go_wp2_with (go_at_call 112; refine (IsThread_any A cap sp cs _ (HA.out.ext (by (repeat first | with_reducible exact Ext.rfl' _ | with_reducible refine Ext.drewN ?_ _ | with_reducible refine Ext.drew' ?_ | with_reducible refine Ext.alloc' ?_ _ | with_reducible refine Ext.setCell_at ?_ _ _ _ (by first | exact Nat.le_refl _ | omega) | with_reducible assumption | refine Ext.trans ?_ (by with_reducible assumption)))) HL.out false HI.out).mono ?_; rintro e w1 ⟨he1, rfl⟩; obtain ⟨hc1, hf1⟩ := bcell he1; (try simp only [World.heap_drewN, World.cell?_drewN, World.frozen?_drewN] at hc1 hf1); (have hz0 : w.heap.size < w1.heap.size := (by have := he1.size; (try simp only [World.heap_drewN, World.size_alloc] at this); omega)); (have hz1 : w.heap.size + 1 < w1.heap.size := (by have := he1.size; (try simp only [World.heap_drewN, World.size_alloc] at this); omega)))
    exact bodyPost_ret (v := .tuple #[.agg #[.float .f32 0, .float .f32 0, .float .f32 0], .bool false]) (by simp [results, Try.results41, go_sem, hc1, hz0, hz1]) rfl ⟨by (repeat first | with_reducible exact Ext.rfl' _ | with_reducible refine Ext.drewN ?_ _ | with_reducible refine Ext.drew' ?_ | with_reducible refine Ext.alloc' ?_ _ | with_reducible refine Ext.setCell_at ?_ _ _ _ (by first | exact Nat.le_refl _ | omega) | with_reducible assumption | refine Ext.trans ?_ (by with_reducible assumption)), _, _, _, _, rfl, by unfold midP; rw [if_neg (by rw [HI.out]; decide), cv_zero]⟩
  | true =>
    have HI := Lib.hid hi
    clear hi
    go_enter Try.func41, Try.ntmps41
    go_wp2_with (go_at_call 112; refine (IsThread_any A cap sp cs _ (HA.out.ext (by (repeat first | with_reducible exact Ext.rfl' _ | with_reducible refine Ext.drewN ?_ _ | with_reducible refine Ext.drew' ?_ | with_reducible refine Ext.alloc' ?_ _ | with_reducible refine Ext.setCell_at ?_ _ _ _ (by first | exact Nat.le_refl _ | omega) | with_reducible assumption | refine Ext.trans ?_ (by with_reducible assumption)))) HL.out true HI.out).mono ?_; rintro e w1 ⟨he1, rfl⟩; obtain ⟨hc1, hf1⟩ := bcell he1; (try simp only [World.heap_drewN, World.cell?_drewN, World.frozen?_drewN] at hc1 hf1); (have hz0 : w.heap.size < w1.heap.size := (by have := he1.size; (try simp only [World.heap_drewN, World.size_alloc] at this); omega)); (have hz1 : w.heap.size + 1 < w1.heap.size := (by have := he1.size; (try simp only [World.heap_drewN, World.size_alloc] at this); omega)))
    have HE1 := Lib.hid he1
    have HT := Lib.hid (TAt.ext (w := (w.alloc (.cells #[.slice A cs.length cap, .float .f32 sp] 48)).alloc (.cells #[.float .f32 0, .float .f32 0, .float .f32 0] 54)) (g := w.heap.size) (o := 0) (A := A) (n := cs.length) (cap := cap) (sp := sp) ⟨by simp <;> omega, by go_simp, by go_simp⟩ he1)
    have HR := Lib.hid (Blk.ext (Blk.at_ (w.alloc (.cells #[.slice A cs.length cap, .float .f32 sp] 48)) 54 #[.float .f32 0, .float .f32 0, .float .f32 0] (w.heap.size + 1) (by simp)) he1)
    have HA1 := Lib.hid ((HA.out.ext (w' := (w.alloc (.cells #[.slice A cs.length cap, .float .f32 sp] 48)).alloc (.cells #[.float .f32 0, .float .f32 0, .float .f32 0] 54)) (by (repeat first | with_reducible exact Ext.rfl' _ | with_reducible refine Ext.drewN ?_ _ | with_reducible refine Ext.drew' ?_ | with_reducible refine Ext.alloc' ?_ _ | with_reducible refine Ext.setCell_at ?_ _ _ _ (by first | exact Nat.le_refl _ | omega) | with_reducible assumption | refine Ext.trans ?_ (by with_reducible assumption)))).ext he1)
    go_wp2_with fail
    clear he1 hc1 hf1
    go_loopw [15] (fun i wr => ∃ (k r s t : Nat), k ≤ cs.length ∧ i = .int .i64 k ∧ Blk wr w1.heap.size 54 #[.float .f32 r, .float .f32 s, .float .f32 t] ∧ cv r s t = vsum (cs.take k) ∧ Below w1.heap.size w1 wr) (fun i _ => cs.length - (intOf i).toNat)
    case atStart => exact ⟨0, 0, 0, 0, Nat.zero_le _, rfl, Blk.new _ _ _, by simp [vsum, cv_zero], Ext.alloc' (Ext.rfl' _) _⟩
    case round =>
      obtain ⟨k, r, s, t, hk, rfl, hB, hv, hbel⟩ := hrel
      have HB := Lib.hid hB
      have HV := Lib.hid hv
      have HE := Lib.hid hbel
      clear hB hv hbel
      have hk9 : k < 9223372036854775807 := by have := HL.out; omega
      obtain ⟨_, s0, s1⟩ := HT.out.ext HE.out
      by_cases hlt : k < cs.length
      · obtain ⟨b', o', rfl, hbw, hcc⟩ := HA1.out (by omega)
        obtain ⟨x, y, z, c0, c1, c2, hcv⟩ := hcc k hlt
        have d0 := (HE.out.cell (p := ⟨b', o' + k * 3, none⟩) hbw).trans c0
        have d1 := (HE.out.cell (p := ⟨b', o' + k * 3 + 1, none⟩) hbw).trans c1
        have d2 := (HE.out.cell (p := ⟨b', o' + k * 3 + 2, none⟩) hbw).trans c2
        have HC := Lib.hid hcv
        clear c0 c1 c2 hcc hcv
        have m0 : wr.cell? ⟨w1.heap.size, 0, none⟩ = some (.float .f32 r) := HB.out.cell 0
        have m1 : wr.cell? ⟨w1.heap.size, 1, none⟩ = some (.float .f32 s) := HB.out.cell 1
        have m2 : wr.cell? ⟨w1.heap.size, 2, none⟩ = some (.float .f32 t) := HB.out.cell 2
        have hw1 := HB.out.lt
        have hw0 : w.heap.size < wr.heap.size := by omega
        go_wp2_with fail
        refine (AddVectors_any _ _ _ _ _ _ _).mono ?_
        rintro e w2 ⟨he2, r', s', t', rfl, hq⟩
        have hee : Ext wr w2 := Ext.trans (Ext.alloc' (Ext.rfl' _) _) he2
        have HQ := Lib.hid hq
        have HEE := Lib.hid hee
        have HB2 := Lib.hid (HB.out.ext hee)
        clear he2 hq hee m0 m1 m2 d0 d1 d2 s0 s1
        have m0 : w2.cell? ⟨w1.heap.size, 0, none⟩ = some (.float .f32 r) := HB2.out.cell 0
        have m1 : w2.cell? ⟨w1.heap.size, 1, none⟩ = some (.float .f32 s) := HB2.out.cell 1
        have m2 : w2.cell? ⟨w1.heap.size, 2, none⟩ = some (.float .f32 t) := HB2.out.cell 2
        have f0 := HB2.out.frozen 0
        have f1 := HB2.out.frozen 1
        have f2 := HB2.out.frozen 2
        go_wp2_with fail
        refine ⟨⟨k + 1, r', s', t', by omega, by go_num, HB2.out.set3v _ _ _, by rw [HQ.out, HV.out, HC.out, vsum_succ _ _ hlt], ?_⟩, by simp [intOf]; omega⟩
        have h1 := HE.out
        have h2 := HEE.out
        (repeat first | with_reducible exact Ext.rfl' _ | with_reducible refine Ext.drewN ?_ _ | with_reducible refine Ext.drew' ?_ | with_reducible refine Ext.alloc' ?_ _ | with_reducible refine Ext.setCell_at ?_ _ _ _ (by first | exact Nat.le_refl _ | omega) | with_reducible assumption | refine Ext.trans ?_ (by with_reducible assumption))
      · have hkl : k = cs.length := by omega
        subst hkl
        have m0 : wr.cell? ⟨w1.heap.size, 0, none⟩ = some (.float .f32 r) := HB.out.cell 0
        have m1 : wr.cell? ⟨w1.heap.size, 1, none⟩ = some (.float .f32 s) := HB.out.cell 1
        have m2 : wr.cell? ⟨w1.heap.size, 2, none⟩ = some (.float .f32 t) := HB.out.cell 2
        go_wp2_with (first
          | (refine wpList_float rfl _ _ _ _ _ rfl (by decide) _ _ _ rfl rfl ?_; intro r1 n1 q1) | (refine wpList_fcmp rfl _ _ _ _ _ rfl rfl _ _ _ rfl rfl _ (by first | with_reducible assumption | rfl) ?_) | (refine wpList_fneg rfl _ _ rfl _ _ rfl ?_; intro r1 q1)
          | (go_at_call 115; refine (ScaleVector_any _ _ _ _ _).mono ?_; rintro e w2 ⟨he2, r', s', t', rfl, hq⟩; have HQ := Lib.hid hq; clear hq))
        have HR2 := Lib.hid ((HR.out.below HE.out (by omega)).ext (w' := w2) (Ext.trans (Ext.drewN (Ext.rfl' _) _) he2))
        have HQ1 := Lib.hid q1
        have HX2 := Lib.hid he2
        clear q1 he2 m0 m1 m2 s0 s1
        cases hv : vfin (cv r' s' t')
        all_goals
          have HVF := Lib.hid hv
          clear hv
          refine (toldVector_any _ _ _ _ HVF.out _).mono ?_
          rintro e w3 ⟨he3, rfl⟩
          have HR3 := Lib.hid (HR2.out.ext he3)
          have HX3 := Lib.hid he3
          clear he3
          have m0 := HR3.out.cell 0
          have m1 := HR3.out.cell 1
          have m2 := HR3.out.cell 2
          have f0 := HR3.out.frozen 0
          have f1 := HR3.out.frozen 1
          have f2 := HR3.out.frozen 2
          go_wp2_with fail
          have h1 := HE1.out
          have h2 : Ext w1 wr := HE.out
          have h3 := HX2.out
          have h4 := HX3.out
          have hm := midP_of cs (cn .f32 sp) r1 r s t r' s' t' HI.out HV.out HQ1.out HQ.out
          unfold toldV at hm
          rw [HVF.out] at hm
          first
            | exact bodyPost_ret (v := .tuple #[.agg #[.float .f32 0, .float .f32 0, .float .f32 0], .bool false]) (by simp [results, Try.results41, go_sem, m0, m1, m2]) rfl ⟨by (repeat first | with_reducible exact Ext.rfl' _ | with_reducible refine Ext.drewN ?_ _ | with_reducible refine Ext.drew' ?_ | with_reducible refine Ext.alloc' ?_ _ | with_reducible refine Ext.setCell_at ?_ _ _ _ (by first | exact Nat.le_refl _ | omega) | with_reducible assumption | refine Ext.trans ?_ (by with_reducible assumption)), _, _, _, _, rfl, by rw [hm, cv_zero]; rfl⟩
            | exact bodyPost_ret (v := .tuple #[.agg #[.float .f32 r', .float .f32 s', .float .f32 t'], .bool true]) (by simp [results, Try.results41, go_sem, m0, m1, m2]) rfl ⟨by (repeat first | with_reducible exact Ext.rfl' _ | with_reducible refine Ext.drewN ?_ _ | with_reducible refine Ext.drew' ?_ | with_reducible refine Ext.alloc' ?_ _ | with_reducible refine Ext.setCell_at ?_ _ _ _ (by first | exact Nat.le_refl _ | omega) | with_reducible assumption | refine Ext.trans ?_ (by with_reducible assumption)), _, _, _, _, rfl, by rw [hm]; rfl⟩
end Go.Proofs.Ytbaohbpfnlicpaa
