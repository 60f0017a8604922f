/- Walks: the area of a thread by the reference, and the impulse by both. -/
import Derived.Test.YtbaohbpfnlicpaaW8
import Derived.Test.YtbaohbpfnlicpaaW9
namespace Go.Proofs.Ytbaohbpfnlicpaa
open Go Go.RowKit
set_option linter.unusedVariables false
set_option linter.unusedSimpArgs false
attribute [local go_sem] run_store_float

set_option maxRecDepth 100000 in
theorem specArea_any (A : Option Addr) (cap sp : Nat) (cs : List V3) (w : World) (hA : VS w A cs) (hl : cs.length ≤ 1048576) :
    Calls Try.prog 48 #[.agg #[.slice A cs.length cap, .float .f32 sp]] w fun e w' => Ext w w' ∧ ∃ r s t b, e = .returned (.tuple #[.agg #[.float .f32 r, .float .f32 s, .float .f32 t], .bool b]) ∧ (b, cv r s t) = areaP cs (cn .f32 sp) := by
  have HA := Lib.hid hA
  have HL := Lib.hid hl
  clear hA hl
  cases hi : isTh cs (cn .f32 sp) with
  | false =>
    have HI := Lib.hid hi
    clear hi
    go_enter Try.func48, Try.ntmps48
    go_wp2_with (go_at_call 108; refine (l06Is_any w.heap.size 0 A cap sp cs _ ⟨by simp <;> omega, by go_simp, by go_simp⟩ (HA.out.ext (by (repeat first | with_reducible exact Ext.rfl' _ | with_reducible refine Ext.drewN ?_ _ | with_reducible refine Ext.drew' ?_ | with_reducible refine Ext.alloc' ?_ _ | with_reducible refine Ext.setCell_at ?_ _ _ _ (by first | exact Nat.le_refl _ | omega) | with_reducible assumption | refine Ext.trans ?_ (by with_reducible assumption)))) HL.out false HI.out).mono ?_; rintro e w1 ⟨he1, rfl⟩; obtain ⟨hc1, hf1⟩ := bcell he1; (try simp only [World.heap_drewN, World.cell?_drewN, World.frozen?_drewN] at hc1 hf1); (have hz0 : w.heap.size < w1.heap.size := (by have := he1.size; (try simp only [World.heap_drewN, World.size_alloc] at this); omega)); (have hz1 : w.heap.size + 1 < w1.heap.size := (by have := he1.size; (try simp only [World.heap_drewN, World.size_alloc] at this); omega)))
    exact bodyPost_ret (v := .tuple #[.agg #[.float .f32 0, .float .f32 0, .float .f32 0], .bool false]) (by simp [results, Try.results48, go_sem, hc1, hz0, hz1]) rfl ⟨by (repeat first | with_reducible exact Ext.rfl' _ | with_reducible refine Ext.drewN ?_ _ | with_reducible refine Ext.drew' ?_ | with_reducible refine Ext.alloc' ?_ _ | with_reducible refine Ext.setCell_at ?_ _ _ _ (by first | exact Nat.le_refl _ | omega) | with_reducible assumption | refine Ext.trans ?_ (by with_reducible assumption)), _, _, _, _, rfl, by unfold areaP; rw [if_neg (by rw [HI.out]; decide), cv_zero]⟩
  | true =>
    have HI := Lib.hid hi
    clear hi
    go_enter Try.func48, Try.ntmps48
    go_wp2_with (go_at_call 108; refine (l06Is_any w.heap.size 0 A cap sp cs _ ⟨by simp <;> omega, by go_simp, by go_simp⟩ (HA.out.ext (by (repeat first | with_reducible exact Ext.rfl' _ | with_reducible refine Ext.drewN ?_ _ | with_reducible refine Ext.drew' ?_ | with_reducible refine Ext.alloc' ?_ _ | with_reducible refine Ext.setCell_at ?_ _ _ _ (by first | exact Nat.le_refl _ | omega) | with_reducible assumption | refine Ext.trans ?_ (by with_reducible assumption)))) HL.out true HI.out).mono ?_; rintro e w1 ⟨he1, rfl⟩; obtain ⟨hc1, hf1⟩ := bcell he1; (try simp only [World.heap_drewN, World.cell?_drewN, World.frozen?_drewN] at hc1 hf1); (have hz0 : w.heap.size < w1.heap.size := (by have := he1.size; (try simp only [World.heap_drewN, World.size_alloc] at this); omega)); (have hz1 : w.heap.size + 1 < w1.heap.size := (by have := he1.size; (try simp only [World.heap_drewN, World.size_alloc] at this); omega)))
    have HE1 := Lib.hid he1
    have HT := Lib.hid (TAt.ext (w := (w.alloc (.cells #[.slice A cs.length cap, .float .f32 sp] 48)).alloc (.cells #[.float .f32 0, .float .f32 0, .float .f32 0] 54)) (g := w.heap.size) (o := 0) (A := A) (n := cs.length) (cap := cap) (sp := sp) ⟨by simp <;> omega, by go_simp, by go_simp⟩ he1)
    have HR := Lib.hid (Blk.ext (Blk.at_ (w.alloc (.cells #[.slice A cs.length cap, .float .f32 sp] 48)) 54 #[.float .f32 0, .float .f32 0, .float .f32 0] (w.heap.size + 1) (by simp)) he1)
    have HA1 := Lib.hid ((HA.out.ext (w' := (w.alloc (.cells #[.slice A cs.length cap, .float .f32 sp] 48)).alloc (.cells #[.float .f32 0, .float .f32 0, .float .f32 0] 54)) (by (repeat first | with_reducible exact Ext.rfl' _ | with_reducible refine Ext.drewN ?_ _ | with_reducible refine Ext.drew' ?_ | with_reducible refine Ext.alloc' ?_ _ | with_reducible refine Ext.setCell_at ?_ _ _ _ (by first | exact Nat.le_refl _ | omega) | with_reducible assumption | refine Ext.trans ?_ (by with_reducible assumption)))).ext he1)
    clear he1 hc1 hf1
    go_wp2_with fail
    refine (l06Area_any _ _ _ cap sp cs _ (HT.out.ext (by (repeat first | with_reducible exact Ext.rfl' _ | with_reducible refine Ext.drewN ?_ _ | with_reducible refine Ext.drew' ?_ | with_reducible refine Ext.alloc' ?_ _ | with_reducible refine Ext.setCell_at ?_ _ _ _ (by first | exact Nat.le_refl _ | omega) | with_reducible assumption | refine Ext.trans ?_ (by with_reducible assumption)))) (HA1.out.ext (by (repeat first | with_reducible exact Ext.rfl' _ | with_reducible refine Ext.drewN ?_ _ | with_reducible refine Ext.drew' ?_ | with_reducible refine Ext.alloc' ?_ _ | with_reducible refine Ext.setCell_at ?_ _ _ _ (by first | exact Nat.le_refl _ | omega) | with_reducible assumption | refine Ext.trans ?_ (by with_reducible assumption)))) HL.out).mono ?_
    rintro e w2 ⟨he2, r', s', t', rfl, hq⟩
    have HQ := Lib.hid hq
    have HR2 := Lib.hid (HR.out.ext (w' := w2) he2)
    have HX2 := Lib.hid he2
    clear he2 hq
    go_wp2_with fail
    cases hv : vfin (cv r' s' t')
    all_goals
      have HVF := Lib.hid hv
      clear hv
      refine (l06Vector_any _ _ _ _ HVF.out _).mono ?_
      rintro e w3 ⟨he3, rfl⟩
      have HR3 := Lib.hid (HR2.out.ext he3)
      have HX3 := Lib.hid he3
      clear he3
      have m0 := HR3.out.cell 0
      have m1 := HR3.out.cell 1
      have m2 := HR3.out.cell 2
      have f0 := HR3.out.frozen 0
      have f1 := HR3.out.frozen 1
      have f2 := HR3.out.frozen 2
      go_wp2_with fail
      have h1 := HE1.out
      have h3 := HX2.out
      have h4 := HX3.out
      have hm : areaP cs (cn .f32 sp) = toldV (cv r' s' t') := by unfold areaP; rw [if_pos HI.out, HQ.out]
      unfold toldV at hm
      rw [HVF.out] at hm
      first
        | exact bodyPost_ret (v := .tuple #[.agg #[.float .f32 0, .float .f32 0, .float .f32 0], .bool false]) (by simp [results, Try.results48, go_sem, m0, m1, m2]) rfl ⟨by (repeat first | with_reducible exact Ext.rfl' _ | with_reducible refine Ext.drewN ?_ _ | with_reducible refine Ext.drew' ?_ | with_reducible refine Ext.alloc' ?_ _ | with_reducible refine Ext.setCell_at ?_ _ _ _ (by first | exact Nat.le_refl _ | omega) | with_reducible assumption | refine Ext.trans ?_ (by with_reducible assumption)), _, _, _, _, rfl, by rw [hm, cv_zero]; rfl⟩
        | exact bodyPost_ret (v := .tuple #[.agg #[.float .f32 r', .float .f32 s', .float .f32 t'], .bool true]) (by simp [results, Try.results48, go_sem, m0, m1, m2]) rfl ⟨by (repeat first | with_reducible exact Ext.rfl' _ | with_reducible refine Ext.drewN ?_ _ | with_reducible refine Ext.drew' ?_ | with_reducible refine Ext.alloc' ?_ _ | with_reducible refine Ext.setCell_at ?_ _ _ _ (by first | exact Nat.le_refl _ | omega) | with_reducible assumption | refine Ext.trans ?_ (by with_reducible assumption)), _, _, _, _, rfl, by rw [hm]; rfl⟩

set_option maxRecDepth 100000 in
theorem specImp_any (A : Option Addr) (cap sp : Nat) (cs : List V3) (w : World) (hA : VS w A cs) (hl : cs.length ≤ 1048576) :
    Calls Try.prog 54 #[.agg #[.slice A cs.length cap, .float .f32 sp]] w fun e w' => Ext w w' ∧ ∃ r s t b, e = .returned (.tuple #[.agg #[.float .f32 r, .float .f32 s, .float .f32 t], .bool b]) ∧ (b, cv r s t) = impP cs (cn .f32 sp) := by
  have HA := Lib.hid hA
  have HL := Lib.hid hl
  clear hA hl
  go_enter Try.func54, Try.ntmps54
  go_wp2_with fail
  have HT := Lib.hid (show TAt ((w.alloc (.cells #[.slice A cs.length cap, .float .f32 sp] 48)).alloc (.cells #[.float .f32 0, .float .f32 0, .float .f32 0] 54)) w.heap.size 0 A cs.length cap sp from ⟨by simp <;> omega, by go_simp, by go_simp⟩)
  have HR := Lib.hid (Blk.at_ (w.alloc (.cells #[.slice A cs.length cap, .float .f32 sp] 48)) 54 #[.float .f32 0, .float .f32 0, .float .f32 0] (w.heap.size + 1) (by simp))
  have HX := Lib.hid (show Ext w ((w.alloc (.cells #[.slice A cs.length cap, .float .f32 sp] 48)).alloc (.cells #[.float .f32 0, .float .f32 0, .float .f32 0] 54)) by (repeat first | with_reducible exact Ext.rfl' _ | with_reducible refine Ext.drewN ?_ _ | with_reducible refine Ext.drew' ?_ | with_reducible refine Ext.alloc' ?_ _ | with_reducible refine Ext.setCell_at ?_ _ _ _ (by first | exact Nat.le_refl _ | omega) | with_reducible assumption | refine Ext.trans ?_ (by with_reducible assumption)))
  generalize ((w.alloc (.cells #[.slice A cs.length cap, .float .f32 sp] 48)).alloc (.cells #[.float .f32 0, .float .f32 0, .float .f32 0] 54)) = W1 at *
  refine (specArea_any A cap sp cs _ (HA.out.ext HX.out) HL.out).mono ?_
  rintro e w1 ⟨he1, x, y, z, b, rfl, hb⟩
  have HT1 := Lib.hid (HT.out.ext he1)
  have HR1 := Lib.hid (HR.out.ext he1)
  have HX1 := Lib.hid (Ext.trans HX.out he1)
  have hzz := HR1.out.lt
  clear he1
  cases b with
  | false =>
    have HB := Lib.hid hb
    clear hb
    have m0 := HR1.out.cell 0
    have m1 := HR1.out.cell 1
    have m2 := HR1.out.cell 2
    have f0 := HR1.out.frozen 0
    have f1 := HR1.out.frozen 1
    have f2 := HR1.out.frozen 2
    go_wp2_with fail
    have HB2 := (HR1.out.set3v (.float .f32 0) (.float .f32 0) (.float .f32 0)).alloc (.cells #[.float .f32 x, .float .f32 y, .float .f32 z] 54)
    have e2 : Ext w ((((w1.setCell ⟨w.heap.size + 1, 0, none⟩ (.float .f32 0)).setCell ⟨w.heap.size + 1, 1, none⟩ (.float .f32 0)).setCell ⟨w.heap.size + 1, 2, none⟩ (.float .f32 0)).alloc (.cells #[.float .f32 x, .float .f32 y, .float .f32 z] 54)) := by
      have := HX1.out
      (repeat first | with_reducible exact Ext.rfl' _ | with_reducible refine Ext.drewN ?_ _ | with_reducible refine Ext.drew' ?_ | with_reducible refine Ext.alloc' ?_ _ | with_reducible refine Ext.setCell_at ?_ _ _ _ (by first | exact Nat.le_refl _ | omega) | with_reducible assumption | refine Ext.trans ?_ (by with_reducible assumption))
    generalize (((w1.setCell ⟨w.heap.size + 1, 0, none⟩ (.float .f32 0)).setCell ⟨w.heap.size + 1, 1, none⟩ (.float .f32 0)).setCell ⟨w.heap.size + 1, 2, none⟩ (.float .f32 0)).alloc (.cells #[.float .f32 x, .float .f32 y, .float .f32 z] 54) = W4 at *
    have q0 : W4.cell? ⟨w.heap.size + 1, 0, none⟩ = some (.float .f32 0) := HB2.cell 0
    have q1 : W4.cell? ⟨w.heap.size + 1, 1, none⟩ = some (.float .f32 0) := HB2.cell 1
    have q2 : W4.cell? ⟨w.heap.size + 1, 2, none⟩ = some (.float .f32 0) := HB2.cell 2
    exact bodyPost_ret (v := .tuple #[.agg #[.float .f32 0, .float .f32 0, .float .f32 0], .bool false]) (by simp [results, Try.results54, go_sem, q0, q1, q2]) rfl ⟨e2, _, _, _, _, rfl, by unfold impP; rw [← HB.out, cv_zero]; rfl⟩
  | true =>
    have HB := Lib.hid hb
    clear hb
    obtain ⟨tlt, t0, t1⟩ := HT1.out
    go_wp2_with fail
    refine (l01VScale_any _ _ _ _ _).mono ?_
    rintro e w2 ⟨he2, r', s', t', rfl, hq⟩
    have hee : Ext w1 w2 := Ext.trans (by (repeat first | with_reducible exact Ext.rfl' _ | with_reducible refine Ext.drewN ?_ _ | with_reducible refine Ext.drew' ?_ | with_reducible refine Ext.alloc' ?_ _ | with_reducible refine Ext.setCell_at ?_ _ _ _ (by first | exact Nat.le_refl _ | omega) | with_reducible assumption | refine Ext.trans ?_ (by with_reducible assumption))) he2
    have HR2 := Lib.hid (HR1.out.ext hee)
    have HX2 := Lib.hid hee
    have HQ := Lib.hid hq
    clear he2 hq hee t0 t1
    go_wp2_with fail
    cases hv : vfin (cv r' s' t')
    all_goals
      have HVF := Lib.hid hv
      clear hv
      refine (l06Vector_any _ _ _ _ HVF.out _).mono ?_
      rintro e w3 ⟨he3, rfl⟩
      have HR3 := Lib.hid (HR2.out.ext he3)
      have HX3 := Lib.hid he3
      clear he3
      have m0 := HR3.out.cell 0
      have m1 := HR3.out.cell 1
      have m2 := HR3.out.cell 2
      have f0 := HR3.out.frozen 0
      have f1 := HR3.out.frozen 1
      have f2 := HR3.out.frozen 2
      go_wp2_with fail
      have h1 := HX1.out
      have h3 := HX2.out
      have h4 := HX3.out
      have hm : impP cs (cn .f32 sp) = toldV (cv r' s' t') := by unfold impP; rw [← HB.out, HQ.out]; rfl
      unfold toldV at hm
      rw [HVF.out] at hm
      first
        | exact bodyPost_ret (v := .tuple #[.agg #[.float .f32 0, .float .f32 0, .float .f32 0], .bool false]) (by simp [results, Try.results54, go_sem, m0, m1, m2]) rfl ⟨by (repeat first | with_reducible exact Ext.rfl' _ | with_reducible refine Ext.drewN ?_ _ | with_reducible refine Ext.drew' ?_ | with_reducible refine Ext.alloc' ?_ _ | with_reducible refine Ext.setCell_at ?_ _ _ _ (by first | exact Nat.le_refl _ | omega) | with_reducible assumption | refine Ext.trans ?_ (by with_reducible assumption)), _, _, _, _, rfl, by rw [hm, cv_zero]; rfl⟩
        | exact bodyPost_ret (v := .tuple #[.agg #[.float .f32 r', .float .f32 s', .float .f32 t'], .bool true]) (by simp [results, Try.results54, go_sem, m0, m1, m2]) rfl ⟨by (repeat first | with_reducible exact Ext.rfl' _ | with_reducible refine Ext.drewN ?_ _ | with_reducible refine Ext.drew' ?_ | with_reducible refine Ext.alloc' ?_ _ | with_reducible refine Ext.setCell_at ?_ _ _ _ (by first | exact Nat.le_refl _ | omega) | with_reducible assumption | refine Ext.trans ?_ (by with_reducible assumption)), _, _, _, _, rfl, by rw [hm]; rfl⟩
set_option maxRecDepth 100000 in
theorem implImp_any (A : Option Addr) (cap sp : Nat) (cs : List V3) (w : World) (hA : VS w A cs) (hl : cs.length ≤ 1048576) :
    Calls Try.prog 55 #[.agg #[.slice A cs.length cap, .float .f32 sp]] w fun e w' => Ext w w' ∧ ∃ r s t b, e = .returned (.tuple #[.agg #[.float .f32 r, .float .f32 s, .float .f32 t], .bool b]) ∧ (b, cv r s t) = impP cs (cn .f32 sp) := by
  have HA := Lib.hid hA
  have HL := Lib.hid hl
  clear hA hl
  go_enter Try.func55, Try.ntmps55
  go_wp2_with fail
  have HT := Lib.hid (show TAt ((w.alloc (.cells #[.slice A cs.length cap, .float .f32 sp] 48)).alloc (.cells #[.float .f32 0, .float .f32 0, .float .f32 0] 54)) w.heap.size 0 A cs.length cap sp from ⟨by simp <;> omega, by go_simp, by go_simp⟩)
  have HR := Lib.hid (Blk.at_ (w.alloc (.cells #[.slice A cs.length cap, .float .f32 sp] 48)) 54 #[.float .f32 0, .float .f32 0, .float .f32 0] (w.heap.size + 1) (by simp))
  have HX := Lib.hid (show Ext w ((w.alloc (.cells #[.slice A cs.length cap, .float .f32 sp] 48)).alloc (.cells #[.float .f32 0, .float .f32 0, .float .f32 0] 54)) by (repeat first | with_reducible exact Ext.rfl' _ | with_reducible refine Ext.drewN ?_ _ | with_reducible refine Ext.drew' ?_ | with_reducible refine Ext.alloc' ?_ _ | with_reducible refine Ext.setCell_at ?_ _ _ _ (by first | exact Nat.le_refl _ | omega) | with_reducible assumption | refine Ext.trans ?_ (by with_reducible assumption)))
  generalize ((w.alloc (.cells #[.slice A cs.length cap, .float .f32 sp] 48)).alloc (.cells #[.float .f32 0, .float .f32 0, .float .f32 0] 54)) = W1 at *
  refine (implArea_any A cap sp cs _ (HA.out.ext HX.out) HL.out).mono ?_
  rintro e w1 ⟨he1, x, y, z, b, rfl, hb⟩
  have HT1 := Lib.hid (HT.out.ext he1)
  have HR1 := Lib.hid (HR.out.ext he1)
  have HX1 := Lib.hid (Ext.trans HX.out he1)
  have hzz := HR1.out.lt
  clear he1
  cases b with
  | false =>
    have HB := Lib.hid hb
    clear hb
    have m0 := HR1.out.cell 0
    have m1 := HR1.out.cell 1
    have m2 := HR1.out.cell 2
    have f0 := HR1.out.frozen 0
    have f1 := HR1.out.frozen 1
    have f2 := HR1.out.frozen 2
    go_wp2_with fail
    have HB2 := (HR1.out.set3v (.float .f32 0) (.float .f32 0) (.float .f32 0)).alloc (.cells #[.float .f32 x, .float .f32 y, .float .f32 z] 54)
    have e2 : Ext w ((((w1.setCell ⟨w.heap.size + 1, 0, none⟩ (.float .f32 0)).setCell ⟨w.heap.size + 1, 1, none⟩ (.float .f32 0)).setCell ⟨w.heap.size + 1, 2, none⟩ (.float .f32 0)).alloc (.cells #[.float .f32 x, .float .f32 y, .float .f32 z] 54)) := by
      have := HX1.out
      (repeat first | with_reducible exact Ext.rfl' _ | with_reducible refine Ext.drewN ?_ _ | with_reducible refine Ext.drew' ?_ | with_reducible refine Ext.alloc' ?_ _ | with_reducible refine Ext.setCell_at ?_ _ _ _ (by first | exact Nat.le_refl _ | omega) | with_reducible assumption | refine Ext.trans ?_ (by with_reducible assumption))
    generalize (((w1.setCell ⟨w.heap.size + 1, 0, none⟩ (.float .f32 0)).setCell ⟨w.heap.size + 1, 1, none⟩ (.float .f32 0)).setCell ⟨w.heap.size + 1, 2, none⟩ (.float .f32 0)).alloc (.cells #[.float .f32 x, .float .f32 y, .float .f32 z] 54) = W4 at *
    have q0 : W4.cell? ⟨w.heap.size + 1, 0, none⟩ = some (.float .f32 0) := HB2.cell 0
    have q1 : W4.cell? ⟨w.heap.size + 1, 1, none⟩ = some (.float .f32 0) := HB2.cell 1
    have q2 : W4.cell? ⟨w.heap.size + 1, 2, none⟩ = some (.float .f32 0) := HB2.cell 2
    exact bodyPost_ret (v := .tuple #[.agg #[.float .f32 0, .float .f32 0, .float .f32 0], .bool false]) (by simp [results, Try.results55, go_sem, q0, q1, q2]) rfl ⟨e2, _, _, _, _, rfl, by unfold impP; rw [← HB.out, cv_zero]; rfl⟩
  | true =>
    have HB := Lib.hid hb
    clear hb
    obtain ⟨tlt, t0, t1⟩ := HT1.out
    go_wp2_with fail
    refine (ScaleVector_any _ _ _ _ _).mono ?_
    rintro e w2 ⟨he2, r', s', t', rfl, hq⟩
    have hee : Ext w1 w2 := Ext.trans (by (repeat first | with_reducible exact Ext.rfl' _ | with_reducible refine Ext.drewN ?_ _ | with_reducible refine Ext.drew' ?_ | with_reducible refine Ext.alloc' ?_ _ | with_reducible refine Ext.setCell_at ?_ _ _ _ (by first | exact Nat.le_refl _ | omega) | with_reducible assumption | refine Ext.trans ?_ (by with_reducible assumption))) he2
    have HR2 := Lib.hid (HR1.out.ext hee)
    have HX2 := Lib.hid hee
    have HQ := Lib.hid hq
    clear he2 hq hee t0 t1
    go_wp2_with fail
    cases hv : vfin (cv r' s' t')
    all_goals
      have HVF := Lib.hid hv
      clear hv
      refine (toldVector_any _ _ _ _ HVF.out _).mono ?_
      rintro e w3 ⟨he3, rfl⟩
      have HR3 := Lib.hid (HR2.out.ext he3)
      have HX3 := Lib.hid he3
      clear he3
      have m0 := HR3.out.cell 0
      have m1 := HR3.out.cell 1
      have m2 := HR3.out.cell 2
      have f0 := HR3.out.frozen 0
      have f1 := HR3.out.frozen 1
      have f2 := HR3.out.frozen 2
      go_wp2_with fail
      have h1 := HX1.out
      have h3 := HX2.out
      have h4 := HX3.out
      have hm : impP cs (cn .f32 sp) = toldV (cv r' s' t') := by unfold impP; rw [← HB.out, HQ.out]; rfl
      unfold toldV at hm
      rw [HVF.out] at hm
      first
        | exact bodyPost_ret (v := .tuple #[.agg #[.float .f32 0, .float .f32 0, .float .f32 0], .bool false]) (by simp [results, Try.results55, go_sem, m0, m1, m2]) rfl ⟨by (repeat first | with_reducible exact Ext.rfl' _ | with_reducible refine Ext.drewN ?_ _ | with_reducible refine Ext.drew' ?_ | with_reducible refine Ext.alloc' ?_ _ | with_reducible refine Ext.setCell_at ?_ _ _ _ (by first | exact Nat.le_refl _ | omega) | with_reducible assumption | refine Ext.trans ?_ (by with_reducible assumption)), _, _, _, _, rfl, by rw [hm, cv_zero]; rfl⟩
        | exact bodyPost_ret (v := .tuple #[.agg #[.float .f32 r', .float .f32 s', .float .f32 t'], .bool true]) (by simp [results, Try.results55, go_sem, m0, m1, m2]) rfl ⟨by (repeat first | with_reducible exact Ext.rfl' _ | with_reducible refine Ext.drewN ?_ _ | with_reducible refine Ext.drew' ?_ | with_reducible refine Ext.alloc' ?_ _ | with_reducible refine Ext.setCell_at ?_ _ _ _ (by first | exact Nat.le_refl _ | omega) | with_reducible assumption | refine Ext.trans ?_ (by with_reducible assumption)), _, _, _, _, rfl, by rw [hm]; rfl⟩
end Go.Proofs.Ytbaohbpfnlicpaa
