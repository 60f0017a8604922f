/- Walks: the logarithm of a float32, by the reference and by the program. -/
import Derived.Test.YtbaohbpfnlicpaaE5
import Derived.Test.YtbaohbpfnlicpaaV4
import Derived.Test.YtbaohbpfnlicpaaS1
namespace Go.Proofs.Ytbaohbpfnlicpaa
open Go Go.RowKit
set_option linter.unusedVariables false
set_option linter.unusedSimpArgs false
attribute [local go_sem] run_store_float

theorem l01LogWide_any (x X : Nat) (hX : cn .f64 X = wid x) (w : World) : Calls Try.prog 170 #[.float .f64 X] w fun e w' => Ext w w' ∧ ∃ r, e = .returned (.float .f64 r) ∧ cn .f64 r = wlogP x := by
  cases hn : isNeg x with
  | true => exact wlogNeg_any x X hX hn w
  | false =>
    cases hz : fcmp .eql .f32 x 0 with
    | true => exact wlogZero_any x X hX hn hz w
    | false =>
      rcases pos_cases hn hz with ⟨m, p, e, h0⟩ | hi
      · obtain ⟨M, P, hM, a, b, hw⟩ := wid_norm e h0
        have hXY : X = Yp M P := eq_Yp hM (by omega) (by omega) (hX.trans hw)
        subst hXY
        have hP : wlogP x = logN M P := by unfold wlogP; rw [hn, hz, finF_of e, hw, logY_eq hM (by omega) (by omega)]; rfl
        obtain ⟨hN, hL⟩ := notneg hn
        rw [hP]
        exact wlogNum_any hM a b (by rw [fcmp_neq_self, hX, wid_isN, hN]) (by rw [hX, cn_zero64, wid_cmp0 _ hN, hL]) (by rw [hX, cn_zero64, wid_cmp0 _ hN, hz]) w
      · exact wlogInf_any x X hX hn hz hi w
theorem l01Log_any (x : Nat) (w : World) : Calls Try.prog 103 #[.float .f32 x] w fun e w' => Ext w w' ∧ ∃ r, e = .returned (.float .f32 r) ∧ cn .f32 r = logP (cn .f32 x) := by
  go_enter Try.func103, Try.ntmps103
  go_wp2_with (first
    | (refine wpList_fconv rfl 22 38 _ rfl .f32 .f64 isF32 Try.underlying38 _ rfl (fun _ => ovf_widen _) ?_; intro r1 n1 q1; have HQ1 := Lib.hid (show cn .f64 r1 = wid (cn .f32 x) from q1); clear q1)
    | (go_at_call 170; refine (l01LogWide_any _ _ HQ1.out _).mono ?_; rintro e w1 ⟨he1, r2, rfl, hr2⟩; have HR2 := Lib.hid hr2; clear hr2)
    | (go_at_call 169; refine (l01Narrow_any _ (by rw [HR2.out]; exact wlog_ovf _) _).mono ?_; rintro e w2 ⟨he2, r3, rfl, hr3⟩; have HR3 := Lib.hid hr3; clear hr3))
  go_ret
  refine ⟨by (repeat first | with_reducible exact Ext.rfl' _ | with_reducible refine Ext.drewN ?_ _ | with_reducible refine Ext.drew' ?_ | with_reducible refine Ext.alloc' ?_ _ | with_reducible refine Ext.setCell_at ?_ _ _ _ (by first | exact Nat.le_refl _ | omega) | with_reducible assumption | refine Ext.trans ?_ (by with_reducible assumption)), _, rfl, ?_⟩
  rw [HR3.out, HR2.out, wlog_conv]
theorem inf_bits {x : Nat} (hx : x < 4294967296) (h : FloatKind.f32.decode x = .infinity false) : x = 2139095040 := by
  have h' : Ieee.single.read x = .infinity false := h
  unfold Ieee.Format.read at h'
  dsimp only at h'
  have e1 : Ieee.single.signWeight = 2147483648 := by decide
  have e2 : Ieee.single.infRung = 2139095040 := by decide
  have e3 : Ieee.single.binade = 8388608 := by decide
  rw [e1, e2, e3] at h'
  by_cases a1 : x % 2147483648 < 8388608
  · rw [if_pos a1] at h'; cases h'
  · rw [if_neg a1] at h'
    by_cases a2 : x % 2147483648 < 2139095040
    · rw [if_pos a2] at h'; cases h'
    · rw [if_neg a2] at h'
      by_cases a3 : x % 2147483648 = 2139095040
      · rw [if_pos a3] at h'
        injection h' with h'
        have : x / 2147483648 % 2 ≠ 1 := by simpa using h'
        omega
      · rw [if_neg a3] at h'; cases h'
set_option maxRecDepth 100000 in
theorem LogNumber_any (x : Nat) (hx : cn .f32 x < 4294967296) (w : World) : Calls Try.prog 107 #[.float .f32 x] w fun e w' => Ext w w' ∧ ∃ r, e = .returned (.float .f32 r) ∧ cn .f32 r = logP (cn .f32 x) := by
  cases hn : isNeg (cn .f32 x) with
  | true =>
    have HP := Lib.hid (show logP (cn .f32 x) = qn .f32 by unfold logP; rw [hn]; rfl)
    cases hN : isN .f32 x with
    | true =>
      have HN := Lib.hid hN
      clear hn hN hx
      go_enter Try.func107, Try.ntmps107
      go_wp2_with (first
        | (go_at_call 167; refine (isNaN_any _ true HN.out _).mono ?_; rintro e w1 ⟨he1, rfl⟩)
        | (go_at_call 172; refine (nan_any _).mono ?_; rintro e w2 ⟨he2, r, rfl, hr⟩; have HR := Lib.hid hr; clear hr))
      go_ret
      exact ⟨by (repeat first | with_reducible exact Ext.rfl' _ | with_reducible refine Ext.drewN ?_ _ | with_reducible refine Ext.drew' ?_ | with_reducible refine Ext.alloc' ?_ _ | with_reducible refine Ext.setCell_at ?_ _ _ _ (by first | exact Nat.le_refl _ | omega) | with_reducible assumption | refine Ext.trans ?_ (by with_reducible assumption)), _, rfl, by rw [HR.out, HP.out]⟩
    | false =>
      have hk2 : fcmp .lss .f32 (cn .f32 x) (cn .f32 0) = true := by
        rw [cn_zero32]
        unfold isNeg at hn
        rw [isN_cn, hN, Bool.false_or] at hn
        exact hn
      have HN := Lib.hid hN
      clear hn hN hx
      go_enter Try.func107, Try.ntmps107
      go_wp2_with (first
        | (refine wpList_fcmp rfl .lss _ _ _ _ rfl rfl _ _ _ rfl rfl _ hk2 ?_)
        | (go_at_call 167; refine (isNaN_any _ false HN.out _).mono ?_; rintro e w1 ⟨he1, rfl⟩)
        | (go_at_call 172; refine (nan_any _).mono ?_; rintro e w2 ⟨he2, r, rfl, hr⟩; have HR := Lib.hid hr; clear hr))
      go_ret
      exact ⟨by (repeat first | with_reducible exact Ext.rfl' _ | with_reducible refine Ext.drewN ?_ _ | with_reducible refine Ext.drew' ?_ | with_reducible refine Ext.alloc' ?_ _ | with_reducible refine Ext.setCell_at ?_ _ _ _ (by first | exact Nat.le_refl _ | omega) | with_reducible assumption | refine Ext.trans ?_ (by with_reducible assumption)), _, rfl, by rw [HR.out, HP.out]⟩
  | false =>
    obtain ⟨hN0, hL⟩ := notneg hn
    have HN := Lib.hid (show isN .f32 x = false by rw [← isN_cn]; exact hN0)
    have hk2 : fcmp .lss .f32 (cn .f32 x) (cn .f32 0) = false := by rw [cn_zero32]; exact hL
    cases hz : fcmp .eql .f32 (cn .f32 x) 0 with
    | true =>
      have HP := Lib.hid (show logP (cn .f32 x) = 4286578688 by unfold logP; rw [hn, hz]; rfl)
      have hk3 : fcmp .eql .f32 (cn .f32 x) (cn .f32 0) = true := by rw [cn_zero32]; exact hz
      clear hn hz hL hN0 hx
      go_enter Try.func107, Try.ntmps107
      go_wp2_with (first
        | (refine wpList_fcmp rfl .lss _ _ _ _ rfl rfl _ _ _ rfl rfl _ hk2 ?_)
        | (refine wpList_fcmp rfl .eql _ _ _ _ rfl rfl _ _ _ rfl rfl _ hk3 ?_)
        | (refine wpList_fconv rfl 38 22 _ rfl .f64 .f32 isF64 Try.underlying22 _ rfl (fun _ => by decide) ?_; intro r1 n1 q1; have HQ1 := Lib.hid q1; clear q1)
        | (go_at_call 173; refine (InfNeg_any _).mono ?_; rintro e w2 ⟨he2, rfl⟩)
        | (go_at_call 167; refine (isNaN_any _ false HN.out _).mono ?_; rintro e w1 ⟨he1, rfl⟩))
      go_ret
      refine ⟨by (repeat first | with_reducible exact Ext.rfl' _ | with_reducible refine Ext.drewN ?_ _ | with_reducible refine Ext.drew' ?_ | with_reducible refine Ext.alloc' ?_ _ | with_reducible refine Ext.setCell_at ?_ _ _ _ (by first | exact Nat.le_refl _ | omega) | with_reducible assumption | refine Ext.trans ?_ (by with_reducible assumption)), _, rfl, ?_⟩
      rw [show cn .f32 r1 = _ from HQ1.out, HP.out]
      decide
    | false =>
      have hk3 : fcmp .eql .f32 (cn .f32 x) (cn .f32 0) = false := by rw [cn_zero32]; exact hz
      rcases pos_cases hn hz with ⟨m, p, e, h0⟩ | hi
      · obtain ⟨M, P, hM, a, b, hw⟩ := wid_norm e h0
        have HF := Lib.hid (finF_of e)
        have HP := Lib.hid (show logP (cn .f32 x) = fconv .f64 (logN M P) .f32 by unfold logP; rw [hn, hz, finF_of e, hw, logY_eq hM (by omega) (by omega)]; rfl)
        have HM := Lib.hid hM
        have HB := Lib.hid (show -201 ≤ P ∧ P ≤ 76 from ⟨a, b⟩)
        have HW := Lib.hid hw
        clear hn hz hL hN0 hx e h0 hM a b hw
        go_enter Try.func107, Try.ntmps107
        go_wp2_with (first
          | (refine wpList_fcmp rfl .lss _ _ _ _ rfl rfl _ _ _ rfl rfl _ hk2 ?_)
          | (refine wpList_fcmp rfl .eql _ _ _ _ rfl rfl _ _ _ rfl rfl _ hk3 ?_)
          | (refine wpList_fconv rfl 22 38 _ rfl .f32 .f64 isF32 Try.underlying38 _ rfl (fun _ => ovf_widen _) ?_; intro r1 n1 q1; obtain rfl := eq_Yp HM.out (by have := HB.out; omega) (by have := HB.out; omega) ((show cn .f64 r1 = wid (cn .f32 x) from q1).trans HW.out); clear q1)
          | (go_at_call 174; refine (logOf_any HM.out HB.out.1 HB.out.2 _).mono ?_; rintro e w2 ⟨he2, r4, rfl, hr4⟩; have HR4 := Lib.hid hr4; clear hr4)
          | (refine wpList_fconv rfl 38 22 _ rfl .f64 .f32 isF64 Try.underlying22 _ rfl (fun _ => by rw [HR4.out]; exact ovf_bnd (bnd_logN HM.out HB.out.1 HB.out.2) (by decide)) ?_; intro r5 n5 q5; have HQ5 := Lib.hid q5; clear q5)
          | (go_at_call 105; refine (IsFinite_any _ true HF.out _).mono ?_; rintro e w3 ⟨he3, rfl⟩)
          | (go_at_call 167; refine (isNaN_any _ false HN.out _).mono ?_; rintro e w1 ⟨he1, rfl⟩))
        go_ret
        refine ⟨by (repeat first | with_reducible exact Ext.rfl' _ | with_reducible refine Ext.drewN ?_ _ | with_reducible refine Ext.drew' ?_ | with_reducible refine Ext.alloc' ?_ _ | with_reducible refine Ext.setCell_at ?_ _ _ _ (by first | exact Nat.le_refl _ | omega) | with_reducible assumption | refine Ext.trans ?_ (by with_reducible assumption)), _, rfl, ?_⟩
        rw [show cn .f32 r5 = _ from HQ5.out, HR4.out, HP.out]
      · have HF := Lib.hid (finF_inf hi)
        have HP := Lib.hid (show cn .f32 x = logP (cn .f32 x) by unfold logP; rw [hn, hz, finF_inf hi]; exact inf_bits hx hi)
        clear hn hz hL hN0 hx hi
        go_enter Try.func107, Try.ntmps107
        go_wp2_with (first
          | (refine wpList_fcmp rfl .lss _ _ _ _ rfl rfl _ _ _ rfl rfl _ hk2 ?_)
          | (refine wpList_fcmp rfl .eql _ _ _ _ rfl rfl _ _ _ rfl rfl _ hk3 ?_)
          | (go_at_call 105; refine (IsFinite_any _ false HF.out _).mono ?_; rintro e w3 ⟨he3, rfl⟩)
          | (go_at_call 167; refine (isNaN_any _ false HN.out _).mono ?_; rintro e w1 ⟨he1, rfl⟩))
        go_ret
        exact ⟨by (repeat first | with_reducible exact Ext.rfl' _ | with_reducible refine Ext.drewN ?_ _ | with_reducible refine Ext.drew' ?_ | with_reducible refine Ext.alloc' ?_ _ | with_reducible refine Ext.setCell_at ?_ _ _ _ (by first | exact Nat.le_refl _ | omega) | with_reducible assumption | refine Ext.trans ?_ (by with_reducible assumption)), _, rfl, HP.out⟩
end Go.Proofs.Ytbaohbpfnlicpaa
