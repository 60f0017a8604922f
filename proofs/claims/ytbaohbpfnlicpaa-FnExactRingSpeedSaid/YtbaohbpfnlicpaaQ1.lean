/- Walks: a ring's points: what is computed, and whether a number is a length. -/
import Derived.Test.YtbaohbpfnlicpaaZ1
import Derived.Test.YtbaohbpfnlicpaaK1
namespace Go.Proofs.Ytbaohbpfnlicpaa
open Go Go.RowKit
set_option linter.unusedVariables false
set_option linter.unusedSimpArgs false
attribute [local go_sem] run_store_float

/-- a finite number above 0 -/
def aboveP (x : Nat) : Bool := finF x && !fcmp .leq .f32 x 0
theorem aboveP_gtr (x : Nat) : (finF x && fcmp .gtr .f32 x 0) = aboveP x := by
  unfold aboveP
  cases h : finF x with
  | false => rfl
  | true =>
    obtain ⟨o, ho⟩ := order_num .f32 x 0 (finF_num h) (by decide)
    unfold fcmp
    simp only [ho]
    cases o <;> rfl
theorem l02Above_any (x : Nat) (b : Bool) (hb : aboveP (cn .f32 x) = b) (w : World) : Calls Try.prog 100 #[.float .f32 x] w fun e w' => Ext w w' ∧ e = .returned (.bool b) := by
  rw [← aboveP_gtr] at hb
  cases h0 : finF (cn .f32 x) with
  | false =>
    have HB := Lib.hid hb
    clear hb
    go_enter Try.func100, Try.ntmps100
    go_wp2_with fail
    refine (l01Finite_any _ false h0 _).mono ?_
    rintro e w1 ⟨he1, rfl⟩
    go_wp2_with fail
    go_ret
    exact ⟨he1, ret_bool (by rw [← HB.out, h0]; rfl)⟩
  | true =>
    have HB := Lib.hid hb
    clear hb
    go_enter Try.func100, Try.ntmps100
    go_wp2_with fail
    refine (l01Finite_any _ true h0 _).mono ?_
    rintro e w1 ⟨he1, rfl⟩
    have hcm : fcmp .gtr .f32 (cn .f32 x) (cn .f32 0) = b := by rw [← HB.out, h0, cn_zero32]; rfl
    go_wp2_with (first | (refine wpList_float rfl _ _ _ _ _ rfl (by decide) _ _ _ rfl rfl ?_; intro r1 n1 q1) | (refine wpList_fcmp rfl _ _ _ _ _ rfl rfl _ _ _ rfl rfl _ (by first | with_reducible assumption | rfl) ?_) | (refine wpList_fneg rfl _ _ rfl _ _ rfl ?_; intro r1 q1))
    go_ret
    exact ⟨he1, rfl⟩
theorem lengthOk1_any (X : Nat) (b : Bool) (hb : fcmp .leq .f32 (cn .f32 X) 0 = b) (w : World) : Calls Try.prog 171 #[.float .f32 X] w fun e w' => Ext w w' ∧ e = .returned (.bool b) := by
  have hcm : fcmp .leq .f32 (cn .f32 X) (cn .f32 0) = b := by rw [cn_zero32]; exact hb
  clear hb
  go_enter Try.func171, Try.ntmps171
  go_wp2_with (first | (refine wpList_float rfl _ _ _ _ _ rfl (by decide) _ _ _ rfl rfl ?_; intro r1 n1 q1) | (refine wpList_fcmp rfl _ _ _ _ _ rfl rfl _ _ _ rfl rfl _ (by first | with_reducible assumption | rfl) ?_) | (refine wpList_fneg rfl _ _ rfl _ _ rfl ?_; intro r1 q1))
  go_ret
  exact ⟨Ext.rfl' _, rfl⟩
theorem asks_lengthOk1 : Asks1 171 fun x => fcmp .leq .f32 x 0 :=
  ⟨fun args w => by go_simp, fun X b hb w => lengthOk1_any X b hb w⟩
theorem lengthOk_any (A : Option Addr) (cap : Nat) (x : Nat) (w : World) (hA : FS w A [cn .f32 x]) (b : Bool) (hb : aboveP (cn .f32 x) = b) :
    Calls Try.prog 104 #[.slice A 1 cap] w fun e w' => Ext w w' ∧ e = .returned (.bool b) := by
  have HA := Lib.hid hA
  have HB := Lib.hid hb
  clear hA hb
  cases h0 : finF (cn .f32 x) with
  | false =>
    go_enter Try.func104, Try.ntmps104
    go_wp2_with fail
    refine (finite_any A cap [cn .f32 x] _ HA.out (by simp) false (by simp [h0])).mono ?_
    rintro e w1 ⟨he1, rfl⟩
    go_wp2_with fail
    go_ret
    exact ⟨he1, ret_bool (by rw [← HB.out]; unfold aboveP; rw [h0]; rfl)⟩
  | true =>
    go_enter Try.func104, Try.ntmps104
    go_wp2_with fail
    refine (finite_any A cap [cn .f32 x] _ HA.out (by simp) true (by simp [h0])).mono ?_
    rintro e w1 ⟨he1, rfl⟩
    have HE1 := Lib.hid he1
    clear he1
    go_wp2_with fail
    refine (ContainsFuncF_any _ _ asks_lengthOk1 A cap [cn .f32 x] _ (HA.out.ext HE1.out) (by simp) (!b) (by rw [← HB.out]; unfold aboveP; simp [h0])).mono ?_
    rintro e w2 ⟨he2, rfl⟩
    go_wp2_with fail
    go_ret
    exact ⟨Ext.trans HE1.out he2, ret_bool (by simp)⟩

/-- a thread, if it is right -/
def giveV (cs : List V3) (sp : Nat) : Bool × List V3 × Nat := if isTh cs sp then (true, cs, sp) else (false, [], 0)
theorem giveV_len (cs : List V3) (sp : Nat) (h : cs.length ≤ 1048576) : (giveV cs sp).2.1.length ≤ 1048576 := by
  unfold giveV
  split
  · exact h
  · simp
theorem toldV_own (A : Option Addr) (cap sp : Nat) (cs : List V3) (n B : Nat) (hn : cs.length = n) (w : World) (hA : VO w B A cs) (hl : n ≤ 1048576) (pb : Bool) (ds : List V3) (ps : Nat) (hP : giveV cs (cn .f32 sp) = (pb, ds, ps)) :
    Calls Try.prog 144 #[.slice A n cap, .float .f32 sp] w fun e w' => Ext w w' ∧ ∃ A0 cap0 s0, e = .returned (.tuple #[.agg #[.slice A0 ds.length cap0, .float .f32 s0], .bool pb]) ∧ VO w' B A0 ds ∧ cn .f32 s0 = ps := by
  unfold giveV at hP
  subst hn
  cases hb : isTh cs (cn .f32 sp) with
  | true =>
    rw [hb, if_pos rfl] at hP
    simp only [Prod.mk.injEq] at hP
    obtain ⟨rfl, rfl, rfl⟩ := hP
    refine (toldThread_any A cap sp cs w hA.vs hl true hb).mono ?_
    rintro e w' ⟨he, rfl⟩
    exact ⟨he, A, cap, sp, rfl, hA.ext he, rfl⟩
  | false =>
    rw [hb, if_neg (by decide)] at hP
    simp only [Prod.mk.injEq] at hP
    obtain ⟨rfl, rfl, rfl⟩ := hP
    refine (toldThread_any A cap sp cs w hA.vs hl false hb).mono ?_
    rintro e w' ⟨he, rfl⟩
    exact ⟨he, none, 0, 0, rfl, fun h => absurd h (Nat.lt_irrefl 0), cn_zero32⟩
theorem giveV_own (A : Option Addr) (cap sp : Nat) (cs : List V3) (n B : Nat) (hn : cs.length = n) (w : World) (hA : VO w B A cs) (hl : n ≤ 1048576) (pb : Bool) (ds : List V3) (ps : Nat) (hP : giveV cs (cn .f32 sp) = (pb, ds, ps)) :
    Calls Try.prog 135 #[.agg #[.slice A n cap, .float .f32 sp]] w fun e w' => Ext w w' ∧ ∃ A0 cap0 s0, e = .returned (.tuple #[.agg #[.slice A0 ds.length cap0, .float .f32 s0], .bool pb]) ∧ VO w' B A0 ds ∧ cn .f32 s0 = ps := by
  unfold giveV at hP
  subst hn
  cases hb : isTh cs (cn .f32 sp) with
  | true =>
    rw [hb, if_pos rfl] at hP
    simp only [Prod.mk.injEq] at hP
    obtain ⟨rfl, rfl, rfl⟩ := hP
    refine (l06Give_any A cap sp cs w hA.vs hl true hb).mono ?_
    rintro e w' ⟨he, rfl⟩
    exact ⟨he, A, cap, sp, rfl, hA.ext he, rfl⟩
  | false =>
    rw [hb, if_neg (by decide)] at hP
    simp only [Prod.mk.injEq] at hP
    obtain ⟨rfl, rfl, rfl⟩ := hP
    refine (l06Give_any A cap sp cs w hA.vs hl false hb).mono ?_
    rintro e w' ⟨he, rfl⟩
    exact ⟨he, none, 0, 0, rfl, fun h => absurd h (Nat.lt_irrefl 0), cn_zero32⟩
/-- a point of a ring at a share of a turn -/
def roundV (q radius z : Nat) : V3 := (fop .mul .f32 radius (cosP q), fop .mul .f32 radius (sineP q), z)
/-- a share of a turn -/
def shareP (k n : Int) : Nat := fop .quo .f32 (floatOfInt .f32 k) (floatOfInt .f32 n)
def ringV (n radius : Nat) (hf : Nat → Nat) (k : Nat) : V3 := roundV (shareP k n) radius (hf k)
def ringL (n radius : Nat) (hf : Nat → Nat) (k : Nat) : List V3 := (List.range k).map (ringV n radius hf)
theorem ringL_len (n radius : Nat) (hf : Nat → Nat) (k : Nat) : (ringL n radius hf k).length = k := by simp [ringL]
theorem ringL_succ (n radius : Nat) (hf : Nat → Nat) (k : Nat) : ringL n radius hf (k + 1) = ringL n radius hf k ++ [ringV n radius hf k] := by
  unfold ringL; rw [List.range_succ, List.map_append]; rfl
def ringOk (n : Int) (radius : Nat) : Bool := (decide (3 ≤ n) && decide (n ≤ 32)) && aboveP radius
def ringP (n : Int) (radius : Nat) (hf : Nat → Nat) (sp : Nat) : Bool × List V3 × Nat := if ringOk n radius then giveV (ringL n.toNat radius hf n.toNat) sp else (false, [], 0)
theorem ringP_len (n : Int) (radius : Nat) (hf : Nat → Nat) (sp : Nat) : (ringP n radius hf sp).2.1.length ≤ 1048576 := by
  unfold ringP
  split
  · rename_i h
    unfold ringOk at h
    simp only [Bool.and_eq_true, decide_eq_true_eq] at h
    exact giveV_len _ _ (by rw [ringL_len]; omega)
  · simp

set_option maxRecDepth 100000 in
theorem l06Round_any (q radius z : Nat) (w : World) : Calls Try.prog 150 #[.float .f32 q, .float .f32 radius, .float .f32 z] w fun e w' => Ext w w' ∧ ∃ r s t, e = .returned (.agg #[.float .f32 r, .float .f32 s, .float .f32 t]) ∧ cv r s t = roundV (cn .f32 q) (cn .f32 radius) (cn .f32 z) := by
  go_enter Try.func150, Try.ntmps150
  go_wp2_with (first
    | (refine wpList_float rfl .add _ _ _ _ rfl (by decide) _ _ _ rfl rfl ?_; intro r0 n0 q0; have HQ0 := Lib.hid (show cosP (cn .f32 q) = sineP (cn .f32 r0) by unfold cosP; rw [show cn .f32 r0 = _ from q0, cn_quart32]); clear q0))
  have HB0 := Lib.hid (Blk.ext (Blk.new w 54 #[.float .f32 0, .float .f32 0, .float .f32 0]) (show Ext (w.alloc (.cells #[.float .f32 0, .float .f32 0, .float .f32 0] 54)) ((w.alloc (.cells #[.float .f32 0, .float .f32 0, .float .f32 0] 54)).drewN n0) by (repeat first | with_reducible exact Ext.rfl' _ | with_reducible refine Ext.drewN ?_ _ | with_reducible refine Ext.drew' ?_ | with_reducible refine Ext.alloc' ?_ _ | with_reducible refine Ext.setCell_at ?_ _ _ _ (by first | exact Nat.le_refl _ | omega) | with_reducible assumption | refine Ext.trans ?_ (by with_reducible assumption))))
  have HX0 := Lib.hid (show Ext w ((w.alloc (.cells #[.float .f32 0, .float .f32 0, .float .f32 0] 54)).drewN n0) by (repeat first | with_reducible exact Ext.rfl' _ | with_reducible refine Ext.drewN ?_ _ | with_reducible refine Ext.drew' ?_ | with_reducible refine Ext.alloc' ?_ _ | with_reducible refine Ext.setCell_at ?_ _ _ _ (by first | exact Nat.le_refl _ | omega) | with_reducible assumption | refine Ext.trans ?_ (by with_reducible assumption)))
  generalize (w.alloc (.cells #[.float .f32 0, .float .f32 0, .float .f32 0] 54)).drewN n0 = W0 at *
  refine (l01Sine_any _ _).mono ?_
  rintro e w1 ⟨he1, rc, rfl, hrc⟩
  have HRC := Lib.hid (show cn .f32 rc = cosP (cn .f32 q) by rw [hrc, ← HQ0.out])
  have HB1 := Lib.hid (HB0.out.ext he1)
  have HX1 := Lib.hid (Ext.trans HX0.out he1)
  clear he1 hrc HQ0 HB0 HX0
  go_wp2_with (first
    | (refine wpList_float rfl _ _ _ _ _ rfl (by decide) _ _ _ rfl rfl ?_; intro r1 n1 q1; have HQ1 := Lib.hid q1; clear q1))
  refine (l01Sine_any _ _).mono ?_
  rintro e w2 ⟨he2, rs, rfl, hrs⟩
  have HRS := Lib.hid hrs
  have HX2 := Lib.hid (show Ext w w2 from Ext.trans (HX1.out.drewN _) he2)
  have HB2 := Lib.hid (HB1.out.ext (Ext.trans ((Ext.rfl' _).drewN _) he2))
  clear he2 hrs HB1 HX1
  have m0 : w2.cell? ⟨w.heap.size, 0, none⟩ = some (.float .f32 0) := HB2.out.cell 0
  have m1 : w2.cell? ⟨w.heap.size, 1, none⟩ = some (.float .f32 0) := HB2.out.cell 1
  have m2 : w2.cell? ⟨w.heap.size, 2, none⟩ = some (.float .f32 0) := HB2.out.cell 2
  have f0 := HB2.out.frozen 0
  have f1 := HB2.out.frozen 1
  have f2 := HB2.out.frozen 2
  go_wp2_with (first
    | (refine wpList_float rfl _ _ _ _ _ rfl (by decide) _ _ _ rfl rfl ?_; intro r2 n2 q2; have HQ2 := Lib.hid q2; clear q2))
  have HB3 := (HB2.out.ext (w' := w2.drewN n2) (by (repeat first | with_reducible exact Ext.rfl' _ | with_reducible refine Ext.drewN ?_ _ | with_reducible refine Ext.drew' ?_ | with_reducible refine Ext.alloc' ?_ _ | with_reducible refine Ext.setCell_at ?_ _ _ _ (by first | exact Nat.le_refl _ | omega) | with_reducible assumption | refine Ext.trans ?_ (by with_reducible assumption)))).set3v (.float .f32 r1) (.float .f32 r2) (.float .f32 z)
  have e2 : Ext w ((((w2.drewN n2).setCell ⟨w.heap.size, 0, none⟩ (.float .f32 r1)).setCell ⟨w.heap.size, 1, none⟩ (.float .f32 r2)).setCell ⟨w.heap.size, 2, none⟩ (.float .f32 z)) := by
    have := HX2.out
    (repeat first | with_reducible exact Ext.rfl' _ | with_reducible refine Ext.drewN ?_ _ | with_reducible refine Ext.drew' ?_ | with_reducible refine Ext.alloc' ?_ _ | with_reducible refine Ext.setCell_at ?_ _ _ _ (by first | exact Nat.le_refl _ | omega) | with_reducible assumption | refine Ext.trans ?_ (by with_reducible assumption))
  generalize (((w2.drewN n2).setCell ⟨w.heap.size, 0, none⟩ (.float .f32 r1)).setCell ⟨w.heap.size, 1, none⟩ (.float .f32 r2)).setCell ⟨w.heap.size, 2, none⟩ (.float .f32 z) = W2 at *
  have q0 : W2.cell? ⟨w.heap.size, 0, none⟩ = some (.float .f32 r1) := HB3.cell 0
  have q1 : W2.cell? ⟨w.heap.size, 1, none⟩ = some (.float .f32 r2) := HB3.cell 1
  have q2 : W2.cell? ⟨w.heap.size, 2, none⟩ = some (.float .f32 z) := HB3.cell 2
  refine bodyPost_ret (v := .agg #[.float .f32 r1, .float .f32 r2, .float .f32 z]) (by simp [results, Try.results150, go_sem, q0, q1, q2]) rfl ⟨e2, _, _, _, rfl, ?_⟩
  unfold cv roundV
  rw [show cn .f32 r1 = _ from HQ1.out, show cn .f32 r2 = _ from HQ2.out, HRC.out, HRS.out]
end Go.Proofs.Ytbaohbpfnlicpaa
