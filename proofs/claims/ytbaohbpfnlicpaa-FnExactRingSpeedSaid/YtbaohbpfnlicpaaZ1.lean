/- Walks: one draw of noise, by the reference and by the program; and whether a number is a level. -/
import Derived.Test.YtbaohbpfnlicpaaW3
import Derived.Test.YtbaohbpfnlicpaaFb
namespace Go.Proofs.Ytbaohbpfnlicpaa
open Go Go.RowKit
set_option linter.unusedVariables false
set_option linter.unusedSimpArgs false
attribute [local go_sem] run_store_float

/-- the seed that follows -/
def seedP (s : Int) : Int := (1103515245 * s + 12345) % 2147483648
/-- the number that is drawn with a seed -/
def noiseP (size : Nat) (s : Int) : Nat := fop .mul .f32 size (fop .quo .f32 (cn .f32 (floatOfInt .f32 (s / 65536 - 16384))) (cn .f32 1182793728))
theorem seedP_in {s : Int} (h0 : 0 ≤ s) (h1 : s ≤ 2147483647) : 0 ≤ seedP s ∧ seedP s ≤ 2147483647 := by unfold seedP; omega
theorem seed_wrap {s : Int} (h0 : 0 ≤ s) (h1 : s ≤ 2147483647) : IntKind.i64.wrap (1103515245 * s) = 1103515245 * s ∧ IntKind.i64.wrap (1103515245 * s + 12345) = 1103515245 * s + 12345 ∧ (1103515245 * s + 12345).tmod 2147483648 = seedP s ∧ IntKind.i64.wrap (seedP s) = seedP s := by
  have hs := seedP_in h0 h1
  refine ⟨IntWalk.i64_in _ (by omega), IntWalk.i64_in _ (by omega), ?_, IntWalk.i64_in _ (by omega)⟩
  rw [Int.tmod_eq_emod_of_nonneg (by omega)]
  rfl
theorem part_wrap {s : Int} (h0 : 0 ≤ s) (h1 : s ≤ 2147483647) : s.tdiv 65536 = s / 65536 ∧ IntKind.i64.wrap (s / 65536) = s / 65536 ∧ IntKind.i64.wrap (s / 65536 - 16384) = s / 65536 - 16384 := by
  refine ⟨Int.tdiv_eq_ediv_of_nonneg h0, IntWalk.i64_in _ (by omega), IntWalk.i64_in _ (by omega)⟩

set_option maxRecDepth 100000 in
theorem l07Draw_any (size : Nat) (s : Int) (h0 : 0 ≤ s) (h1 : s ≤ 2147483647) (w : World) :
    Calls Try.prog 81 #[.float .f32 size, .int .i64 s] w fun e w' => Ext w w' ∧ ∃ r, e = .returned (.tuple #[.float .f32 r, .int .i64 (seedP s)]) ∧ cn .f32 r = noiseP (cn .f32 size) (seedP s) := by
  obtain ⟨a1, a2, a3, a4⟩ := seed_wrap h0 h1
  obtain ⟨b0, b1⟩ := seedP_in h0 h1
  obtain ⟨c1, c2, c3⟩ := part_wrap b0 b1
  have e1 : (2147483648 : Int) ≠ 0 := by decide
  clear h0 h1 b0 b1
  go_enter Try.func81, Try.ntmps81
  go_wp2_with (first
    | (refine wpList_float rfl _ _ _ _ _ rfl (by decide) _ _ _ rfl rfl ?_; intro r1 n1 q1; have HQ := Lib.hid q1; clear q1))
  go_ret2
  refine ⟨by (repeat first | with_reducible exact Ext.rfl' _ | with_reducible refine Ext.drewN ?_ _ | with_reducible refine Ext.drew' ?_ | with_reducible refine Ext.alloc' ?_ _ | with_reducible refine Ext.setCell_at ?_ _ _ _ (by first | exact Nat.le_refl _ | omega) | with_reducible assumption | refine Ext.trans ?_ (by with_reducible assumption)), _, rfl, ?_⟩
  rename_i r0 n0 HQ0
  rw [show cn .f32 r1 = _ from HQ.out, show cn .f32 r0 = _ from HQ0.out]
  rfl

set_option maxRecDepth 100000 in
/-- the program's draw: a closure over the seed and the size -/
theorem draw_any (gs gz size : Nat) (s : Int) (h0 : 0 ≤ s) (h1 : s ≤ 2147483647) (w : World) (hs : w.cell? ⟨gs, 0, none⟩ = some (.int .i64 s)) (hf : w.frozen? ⟨gs, 0, none⟩ = false) (hz : w.cell? ⟨gz, 0, none⟩ = some (.float .f32 size)) (hne : ¬ gs = gz) :
    Calls Try.prog 84 #[.pointer (some ⟨gs, 0, none⟩), .pointer (some ⟨gz, 0, none⟩)] w fun e w' => ∃ n r, w' = (w.setCell ⟨gs, 0, none⟩ (.int .i64 (seedP s))).drewN n ∧ e = .returned (.float .f32 r) ∧ cn .f32 r = noiseP (cn .f32 size) (seedP s) := by
  obtain ⟨a1, a2, a3, a4⟩ := seed_wrap h0 h1
  obtain ⟨b0, b1⟩ := seedP_in h0 h1
  obtain ⟨c1, c2, c3⟩ := part_wrap b0 b1
  have e1 : (2147483648 : Int) ≠ 0 := by decide
  have hne' : ¬ gz = gs := fun h => hne h.symm
  clear h0 h1 b0 b1
  go_enter Try.func84, Try.ntmps84
  go_wp2_with (first
    | (refine wpList_float rfl _ _ _ _ _ rfl (by decide) _ _ _ rfl rfl ?_; intro r1 n1 q1; have HQ := Lib.hid q1; clear q1))
  go_ret
  rename_i r0 n0 HQ0
  refine ⟨_, r1, rfl, rfl, ?_⟩
  rw [show cn .f32 r1 = _ from HQ.out, show cn .f32 r0 = _ from HQ0.out]
  rfl

/-! ## levels -/
theorem finF_num {x : Nat} (h : finF x = true) : isN .f32 x = false := by
  cases hn : isN .f32 x with
  | false => rfl
  | true =>
    exfalso
    unfold finF fop at h
    rw [floatBits_nan_left hn] at h
    have : fcmp .eql .f32 (qn .f32) 0 = false := by
      unfold fcmp
      rw [order_nan .f32 _ _ (isN_qn .f32)]
      rfl
    rw [show ((none : Option Nat).getD (qn .f32)) = qn .f32 from rfl, this] at h
    cases h
theorem order_num (k : FloatKind) (x y : Nat) (hx : isN k x = false) (hy : isN k y = false) : ∃ o, k.format.order x y = some o := by
  unfold Ieee.Format.order
  cases e : k.format.read x with
  | nan s t => have : isN k x = true := isNaN_iff.2 ⟨s, t, e⟩; rw [hx] at this; cases this
  | infinity s =>
    cases e' : k.format.read y with
    | nan s' t' => have : isN k y = true := isNaN_iff.2 ⟨s', t', e'⟩; rw [hy] at this; cases this
    | infinity s' => exact ⟨_, rfl⟩
    | number s' m' p' => exact ⟨_, rfl⟩
  | number s m p =>
    cases e' : k.format.read y with
    | nan s' t' => have : isN k y = true := isNaN_iff.2 ⟨s', t', e'⟩; rw [hy] at this; cases this
    | infinity s' => exact ⟨_, rfl⟩
    | number s' m' p' => exact ⟨_, rfl⟩
/-- a number that is at least 0, and finite -/
def levelP (x : Nat) : Bool := finF x && !fcmp .lss .f32 x 0
theorem levelP_geq (x : Nat) : (finF x && fcmp .geq .f32 x 0) = levelP x := by
  unfold levelP
  cases h : finF x with
  | false => rfl
  | true =>
    obtain ⟨o, ho⟩ := order_num .f32 x 0 (finF_num h) (by decide)
    unfold fcmp
    simp only [ho]
    cases o <;> rfl
theorem l02Least_any (x : Nat) (b : Bool) (hb : levelP (cn .f32 x) = b) (w : World) : Calls Try.prog 80 #[.float .f32 x] w fun e w' => Ext w w' ∧ e = .returned (.bool b) := by
  rw [← levelP_geq] at hb
  cases h0 : finF (cn .f32 x) with
  | false =>
    have HB := Lib.hid hb
    clear hb
    go_enter Try.func80, Try.ntmps80
    go_wp2_with fail
    refine (l01Finite_any _ false h0 _).mono ?_
    rintro e w1 ⟨he1, rfl⟩
    go_wp2_with fail
    go_ret
    exact ⟨he1, ret_bool (by rw [← HB.out, h0]; rfl)⟩
  | true =>
    have HB := Lib.hid hb
    clear hb
    go_enter Try.func80, Try.ntmps80
    go_wp2_with fail
    refine (l01Finite_any _ true h0 _).mono ?_
    rintro e w1 ⟨he1, rfl⟩
    have hcm : fcmp .geq .f32 (cn .f32 x) (cn .f32 0) = b := by rw [← HB.out, h0, cn_zero32]; rfl
    go_wp2_with (first | (refine wpList_float rfl _ _ _ _ _ rfl (by decide) _ _ _ rfl rfl ?_; intro r1 n1 q1) | (refine wpList_fcmp rfl _ _ _ _ _ rfl rfl _ _ _ rfl rfl _ (by first | with_reducible assumption | rfl) ?_) | (refine wpList_fneg rfl _ _ rfl _ _ rfl ?_; intro r1 q1))
    go_ret
    exact ⟨he1, rfl⟩
theorem levelOk1_any (X : Nat) (b : Bool) (hb : fcmp .lss .f32 (cn .f32 X) 0 = b) (w : World) : Calls Try.prog 159 #[.float .f32 X] w fun e w' => Ext w w' ∧ e = .returned (.bool b) := by
  have hcm : fcmp .lss .f32 (cn .f32 X) (cn .f32 0) = b := by rw [cn_zero32]; exact hb
  clear hb
  go_enter Try.func159, Try.ntmps159
  go_wp2_with (first | (refine wpList_float rfl _ _ _ _ _ rfl (by decide) _ _ _ rfl rfl ?_; intro r1 n1 q1) | (refine wpList_fcmp rfl _ _ _ _ _ rfl rfl _ _ _ rfl rfl _ (by first | with_reducible assumption | rfl) ?_) | (refine wpList_fneg rfl _ _ rfl _ _ rfl ?_; intro r1 q1))
  go_ret
  exact ⟨Ext.rfl' _, rfl⟩
theorem asks_levelOk1 : Asks1 159 fun x => fcmp .lss .f32 x 0 :=
  ⟨fun args w => by go_simp, fun X b hb w => levelOk1_any X b hb w⟩
theorem levelOk_any (A : Option Addr) (cap : Nat) (x : Nat) (w : World) (hA : FS w A [cn .f32 x]) (b : Bool) (hb : levelP (cn .f32 x) = b) :
    Calls Try.prog 83 #[.slice A 1 cap] w fun e w' => Ext w w' ∧ e = .returned (.bool b) := by
  have HA := Lib.hid hA
  have HB := Lib.hid hb
  clear hA hb
  cases h0 : finF (cn .f32 x) with
  | false =>
    go_enter Try.func83, Try.ntmps83
    go_wp2_with fail
    refine (finite_any A cap [cn .f32 x] _ HA.out (by simp) false (by simp [h0])).mono ?_
    rintro e w1 ⟨he1, rfl⟩
    go_wp2_with fail
    go_ret
    exact ⟨he1, ret_bool (by rw [← HB.out]; unfold levelP; rw [h0]; rfl)⟩
  | true =>
    go_enter Try.func83, Try.ntmps83
    go_wp2_with fail
    refine (finite_any A cap [cn .f32 x] _ HA.out (by simp) true (by simp [h0])).mono ?_
    rintro e w1 ⟨he1, rfl⟩
    have HE1 := Lib.hid he1
    clear he1
    go_wp2_with fail
    refine (ContainsFuncF_any _ _ asks_levelOk1 A cap [cn .f32 x] _ (HA.out.ext HE1.out) (by simp) (!b) (by rw [← HB.out]; unfold levelP; simp [h0])).mono ?_
    rintro e w2 ⟨he2, rfl⟩
    go_wp2_with fail
    go_ret
    exact ⟨Ext.trans HE1.out he2, ret_bool (by simp)⟩
end Go.Proofs.Ytbaohbpfnlicpaa
