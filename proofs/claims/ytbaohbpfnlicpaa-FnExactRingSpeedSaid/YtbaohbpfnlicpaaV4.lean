/- Walks: the sine of a float32 number of turns, by the reference and by the program. -/
import Derived.Test.YtbaohbpfnlicpaaV3
import Derived.Test.YtbaohbpfnlicpaaN2
import Derived.Laws.BitsAllLaws
namespace Go.Proofs.Ytbaohbpfnlicpaa
open Go Go.RowKit
set_option linter.unusedVariables false
set_option linter.unusedSimpArgs false
attribute [local go_sem] run_store_float

theorem l01Sine_any (x : Nat) (w : World) : Calls Try.prog 153 #[.float .f32 x] w fun e w' => Ext w w' ∧ ∃ r, e = .returned (.float .f32 r) ∧ cn .f32 r = sineP (cn .f32 x) := by
  go_enter Try.func153, Try.ntmps153
  go_wp2_with (first
    | (refine wpList_fconv rfl 22 38 _ rfl .f32 .f64 isF32 Try.underlying38 _ rfl (fun _ => ovf_widen _) ?_; intro r1 n1 q1; have HQ1 := Lib.hid (show cn .f64 r1 = wid (cn .f32 x) from q1); clear q1)
    | (go_at_call 187; refine (l01SineWide_any _ (by rw [HQ1.out]; exact wid_lt _) _).mono ?_; rintro e w1 ⟨he1, r2, rfl, hr2⟩; rw [HQ1.out] at hr2; have HR2 := Lib.hid hr2; clear hr2)
    | (go_at_call 169; refine (l01Narrow_any _ (by rw [HR2.out]; exact ovf_wide _) _).mono ?_; rintro e w2 ⟨he2, r3, rfl, hr3⟩; have HR3 := Lib.hid hr3; clear hr3))
  go_ret
  refine ⟨by (repeat first | with_reducible exact Ext.rfl' _ | with_reducible refine Ext.drewN ?_ _ | with_reducible refine Ext.drew' ?_ | with_reducible refine Ext.alloc' ?_ _ | with_reducible refine Ext.setCell_at ?_ _ _ _ (by first | exact Nat.le_refl _ | omega) | with_reducible assumption | refine Ext.trans ?_ (by with_reducible assumption)), _, rfl, ?_⟩
  rw [HR3.out, HR2.out]
  rfl

theorem run_bits64 (x : Nat) (w : World) : (callFunc 201 #[.float .f64 x]).run Try.prog w = .ok (.value (.int .u64 x)) w := by
  rw [run_callFunc_extern Try.func201 (by kernel_rfl) (by kernel_rfl) (by kernel_rfl) (e := Extern.MathFloatBits.float64bits) (by kernel_rfl)]
  rfl
theorem abs_bits (X : Nat) (hX : X < 18446744073709551616) : bits .andNot .u64 (X : Int) 9223372036854775808 = ((X % 9223372036854775808 : Nat) : Int) := by
  rw [u64_andNot _ _ (by omega) (by omega) (by decide) (by decide)]
  congr 1
  exact Nat.and_two_pow_sub_one_eq_mod X 63
theorem Abs_any (X : Nat) (hX : X < 18446744073709551616) (w : World) : Calls Try.prog 188 #[.float .f64 X] w fun e w' => Ext w w' ∧ e = .returned (.float .f64 (X % 9223372036854775808)) := by
  have h1 := fun w => run_bits64 X w
  have h2 := abs_bits X hX
  have h3 := fun w => run_from64 (X % 9223372036854775808) w
  clear hX
  generalize X % 9223372036854775808 = M at *
  go_enter Try.func188, Try.ntmps188
  go_wp2_with fail
  go_ret
  exact ⟨by (repeat first | with_reducible exact Ext.rfl' _ | with_reducible refine Ext.drewN ?_ _ | with_reducible refine Ext.drew' ?_ | with_reducible refine Ext.alloc' ?_ _ | with_reducible refine Ext.setCell_at ?_ _ _ _ (by first | exact Nat.le_refl _ | omega) | with_reducible assumption | refine Ext.trans ?_ (by with_reducible assumption)), rfl⟩
theorem cn_abs {y : Nat} {s : Bool} {m : Nat} {p : Int} (h : FloatKind.f64.decode y = .number s m p) : cn .f64 (y % 9223372036854775808) = y % 9223372036854775808 := by
  have hm : y % 9223372036854775808 % Ieee.double.signWeight = y % Ieee.double.signWeight := Nat.mod_mod _ _
  exact cn_num (k := .f64) (read_sign Ieee.double hm h)
theorem nan_any (w : World) : Calls Try.prog 172 #[] w fun e w' => Ext w w' ∧ ∃ r, e = .returned (.float .f32 r) ∧ cn .f32 r = qn .f32 := by
  go_enter Try.func172, Try.ntmps172
  go_wp2_with (first
    | (go_at_call 196; refine (NaN_any _).mono ?_; rintro e w1 ⟨he1, rfl⟩)
    | (refine wpList_fconv rfl 38 22 _ rfl .f64 .f32 isF64 Try.underlying22 _ rfl (fun _ => by decide) ?_; intro r1 n1 q1; have HQ1 := Lib.hid q1; clear q1))
  go_ret
  refine ⟨by (repeat first | with_reducible exact Ext.rfl' _ | with_reducible refine Ext.drewN ?_ _ | with_reducible refine Ext.drew' ?_ | with_reducible refine Ext.alloc' ?_ _ | with_reducible refine Ext.setCell_at ?_ _ _ _ (by first | exact Nat.le_refl _ | omega) | with_reducible assumption | refine Ext.trans ?_ (by with_reducible assumption)), _, rfl, ?_⟩
  rw [show cn .f32 r1 = _ from HQ1.out]
  decide
set_option maxRecDepth 100000 in
theorem SineTurns_any (x : Nat) (w : World) : Calls Try.prog 155 #[.float .f32 x] w fun e w' => Ext w w' ∧ ∃ r, e = .returned (.float .f32 r) ∧ cn .f32 r = sineP (cn .f32 x) := by
  cases hf : finF (cn .f32 x) with
  | false =>
    have HP := Lib.hid (sineP_nan hf)
    have HF := Lib.hid hf
    clear hf
    go_enter Try.func155, Try.ntmps155
    go_wp2_with (first
      | (go_at_call 105; refine (IsFinite_any _ _ HF.out _).mono ?_; rintro e w1 ⟨he1, rfl⟩)
      | (go_at_call 172; refine (nan_any _).mono ?_; rintro e w2 ⟨he2, r, rfl, hr⟩; have HR := Lib.hid hr; clear hr))
    go_ret
    exact ⟨by (repeat first | with_reducible exact Ext.rfl' _ | with_reducible refine Ext.drewN ?_ _ | with_reducible refine Ext.drew' ?_ | with_reducible refine Ext.alloc' ?_ _ | with_reducible refine Ext.setCell_at ?_ _ _ _ (by first | exact Nat.le_refl _ | omega) | with_reducible assumption | refine Ext.trans ?_ (by with_reducible assumption)), _, rfl, by rw [HR.out, HP.out]⟩
  | true =>
    obtain ⟨s, m, p, e32⟩ := num32 hf
    obtain ⟨m', p', e64⟩ := wid_num e32
    have HF := Lib.hid hf
    have HD := Lib.hid e64
    have hr1 : ∀ r1, cn .f64 r1 = wid (cn .f32 x) → r1 = wid (cn .f32 x) := fun r1 h => by
      rw [← h]; symm; refine cn_of_not ?_
      rw [← isN_cn, h]; unfold isN; rw [e64]; rfl
    have HR1 := Lib.hid hr1
    cases hb : isBig (wid (cn .f32 x)) with
    | true =>
      have HP := Lib.hid (sineP_big hf hb)
      have HG := Lib.hid ((abs_big e64).trans hb)
      clear hf e32 e64 hr1 hb
      go_enter Try.func155, Try.ntmps155
      go_wp2_with (first
        | (go_at_call 105; refine (IsFinite_any _ _ HF.out _).mono ?_; rintro e w1 ⟨he1, rfl⟩)
        | (refine wpList_fconv rfl 22 38 _ rfl .f32 .f64 isF32 Try.underlying38 _ rfl (fun _ => ovf_widen _) ?_; intro r1 n1 q1; obtain rfl := HR1.out r1 q1; clear q1)
        | (go_at_call 188; refine (Abs_any _ (wid_lt _) _).mono ?_; rintro e w2 ⟨he2, rfl⟩)
        | (have hk1 : fcmp .geq .f64 (cn .f64 (wid (cn .f32 x) % 9223372036854775808)) (cn .f64 4841369599423283200) = true := (by rw [cn_big64, cn_abs HD.out]; exact HG.out); refine wpList_fcmp rfl _ _ _ _ _ rfl rfl _ _ _ rfl rfl _ hk1 ?_))
      go_ret
      exact ⟨by (repeat first | with_reducible exact Ext.rfl' _ | with_reducible refine Ext.drewN ?_ _ | with_reducible refine Ext.drew' ?_ | with_reducible refine Ext.alloc' ?_ _ | with_reducible refine Ext.setCell_at ?_ _ _ _ (by first | exact Nat.le_refl _ | omega) | with_reducible assumption | refine Ext.trans ?_ (by with_reducible assumption)), _, rfl, by rw [HP.out]; exact cn_zero32⟩
    | false =>
      have HP := Lib.hid (sineP_sin hf hb)
      have HG := Lib.hid ((abs_big e64).trans hb)
      have HB := Lib.hid hb
      clear hf e32 e64 hr1 hb
      go_enter Try.func155, Try.ntmps155
      go_wp2_with (first
        | (go_at_call 105; refine (IsFinite_any _ _ HF.out _).mono ?_; rintro e w1 ⟨he1, rfl⟩)
        | (refine wpList_fconv rfl 22 38 _ rfl .f32 .f64 isF32 Try.underlying38 _ rfl (fun _ => ovf_widen _) ?_; intro r1 n1 q1; obtain rfl := HR1.out r1 q1; clear q1)
        | (go_at_call 188; refine (Abs_any _ (wid_lt _) _).mono ?_; rintro e w2 ⟨he2, rfl⟩)
        | (go_at_call 189; refine (sine_any HD.out HB.out _).mono ?_; rintro e w3 ⟨he3, r4, rfl, hr4⟩; have HR4 := Lib.hid hr4; clear hr4)
        | (refine wpList_fconv rfl 38 22 _ rfl .f64 .f32 isF64 Try.underlying22 _ rfl (fun _ => by rw [HR4.out]; exact ovf_bnd (bnd_sinW HD.out HB.out) (by decide)) ?_; intro r5 n5 q5; have HQ5 := Lib.hid q5; clear q5)
        | (have hk1 : fcmp .geq .f64 (cn .f64 (wid (cn .f32 x) % 9223372036854775808)) (cn .f64 4841369599423283200) = false := (by rw [cn_big64, cn_abs HD.out]; exact HG.out); refine wpList_fcmp rfl _ _ _ _ _ rfl rfl _ _ _ rfl rfl _ hk1 ?_))
      go_ret
      refine ⟨by (repeat first | with_reducible exact Ext.rfl' _ | with_reducible refine Ext.drewN ?_ _ | with_reducible refine Ext.drew' ?_ | with_reducible refine Ext.alloc' ?_ _ | with_reducible refine Ext.setCell_at ?_ _ _ _ (by first | exact Nat.le_refl _ | omega) | with_reducible assumption | refine Ext.trans ?_ (by with_reducible assumption)), _, rfl, ?_⟩
      rw [show cn .f32 r5 = _ from HQ5.out, HR4.out, HP.out]
end Go.Proofs.Ytbaohbpfnlicpaa
