/- Walks: what is left of a number of turns. -/
import Derived.Test.YtbaohbpfnlicpaaU7
import Derived.Laws.Externs
namespace Go.Proofs.Ytbaohbpfnlicpaa
open Go Go.RowKit
set_option linter.unusedVariables false
set_option linter.unusedSimpArgs false
attribute [local go_sem] run_store_float

theorem trunc_fun {X : Nat} {s : Bool} {m : Nat} {p : Int} (h : FloatKind.f64.decode X = .number s m p) (w : World) : (callFunc 205 #[.float .f64 X]).run Try.prog w = .ok (.value (.float .f64 (FloatKind.f64.format.write (.number s (wholeM m p) 0)))) w := by
  rw [run_callFunc_extern Try.func205 (by kernel_rfl) (by kernel_rfl) (by kernel_rfl) (e := Extern.MathFloor.toIntegral "math.archTrunc" .zero) (by kernel_rfl)]
  have hun : Extern.MathFloor.toIntegral "math.archTrunc" .zero #[.float .f64 X] = pure (.float .f64 (FloatKind.f64.encode ((Ieee.Datum.number s m p).integral .zero))) := by
    delta Extern.MathFloor.toIntegral
    generalize hd : FloatKind.decode .f64 = D at *
    change (fun (x : Nat) => _) X = _
    rw [h]
  rw [hun, integral_zero]
  rfl
theorem Trunc_any {X : Nat} {s : Bool} {m : Nat} {p : Int} (h : FloatKind.f64.decode X = .number s m p) (w : World) : Calls Try.prog 204 #[.float .f64 X] w fun e w' => Ext w w' ∧ e = .returned (.float .f64 (FloatKind.f64.format.write (.number s (wholeM m p) 0))) := by
  have hf := fun W => trunc_fun h W
  clear h
  go_enter Try.func204, Try.ntmps204
  go_wp2_with fail
  go_ret
  exact ⟨by (repeat first | with_reducible exact Ext.rfl' _ | with_reducible refine Ext.drewN ?_ _ | with_reducible refine Ext.drew' ?_ | with_reducible refine Ext.alloc' ?_ _ | with_reducible refine Ext.setCell_at ?_ _ _ _ (by first | exact Nat.le_refl _ | omega) | with_reducible assumption | refine Ext.trans ?_ (by with_reducible assumption)), rfl⟩
theorem cn_one64 : cn .f64 4607182418800017408 = one64 := by decide
theorem cn_half64 : cn .f64 4602678819172646912 = half64 := by decide
theorem cn_quart64 : cn .f64 4598175219545276416 = quart64 := by decide
theorem cn_turn64 : cn .f64 4618760256179416344 = turn64 := by decide
theorem cn_big64 : cn .f64 4841369599423283200 = big64 := by decide
theorem cn_nbig64 : cn .f64 14064741636278059008 = nbig64 := by decide
theorem cn_num {k : FloatKind} {y : Nat} {s : Bool} {m : Nat} {p : Int} (h : k.decode y = .number s m p) : cn k y = y := cn_of_not (by unfold isN; rw [h]; rfl)

set_option maxRecDepth 100000 in
theorem partOf_any {y : Nat} {s : Bool} {m : Nat} {p : Int} (h : FloatKind.f64.decode y = .number s m p) (hb : isBig y = false) (w : World) : Calls Try.prog 202 #[.float .f64 y] w fun e w' => Ext w w' ∧ ∃ r, e = .returned (.float .f64 r) ∧ cn .f64 r = upP (fracP y) := by
  have hw := whole_lt h hb
  have hcy := cn_num h
  obtain ⟨Wb, hWb⟩ : ∃ Wb, FloatKind.f64.format.write (.number s (wholeM m p) 0) = Wb := ⟨_, rfl⟩
  have hcw : cn .f64 Wb = Wb := by rw [← hWb]; exact cn_of_not (read_write_nearest Ieee.double _ _ _)
  have hneq : fcmp .neq .f64 (cn .f64 Wb) (cn .f64 0) = decide (wholeM m p ≠ 0) := by
    rw [hcw, cn_zero64, ← hWb]; exact whole_neq (Nat.lt_trans hw (by decide))
  have HT : ∀ w, Calls Try.prog 204 #[.float .f64 y] w fun e w' => Ext w w' ∧ e = .returned (.float .f64 Wb) := fun w => by rw [← hWb]; exact Trunc_any h w
  have HTr := Lib.hid HT
  clear HT
  by_cases hT : wholeM m p = 0
  · rw [decide_eq_false (by simpa using hT)] at hneq
    have hf := impl_frac0 h hT
    cases hl : fcmp .lss .f64 (fracP y) 0 with
    | false =>
      have HR := Lib.hid (show cn .f64 y = upP (fracP y) by unfold upP; rw [hl, hcy, ← hf]; rfl)
      have hlc : fcmp .lss .f64 (cn .f64 y) (cn .f64 0) = false := by rw [hcy, cn_zero64, hf]; exact hl
      clear hl hf hT hcw hcy hWb hw hb h
      go_enter Try.func202, Try.ntmps202
      go_wp2_with (first
        | (go_at_call 204; refine (HTr.out _).mono ?_; rintro e w1 ⟨he1, rfl⟩)
        | (refine wpList_float rfl _ _ _ _ _ rfl (by decide) _ _ _ rfl rfl ?_; intro r1 n1 q1) | (refine wpList_fcmp rfl _ _ _ _ _ rfl rfl _ _ _ rfl rfl _ (by first | with_reducible assumption | rfl) ?_) | (refine wpList_fneg rfl _ _ rfl _ _ rfl ?_; intro r1 q1))
      go_ret
      exact ⟨by (repeat first | with_reducible exact Ext.rfl' _ | with_reducible refine Ext.drewN ?_ _ | with_reducible refine Ext.drew' ?_ | with_reducible refine Ext.alloc' ?_ _ | with_reducible refine Ext.setCell_at ?_ _ _ _ (by first | exact Nat.le_refl _ | omega) | with_reducible assumption | refine Ext.trans ?_ (by with_reducible assumption)), _, rfl, HR.out⟩
    | true =>
      have HR := Lib.hid (show fop .add .f64 (cn .f64 y) one64 = upP (fracP y) by unfold upP; rw [hl, hcy, ← hf]; rfl)
      have hlc : fcmp .lss .f64 (cn .f64 y) (cn .f64 0) = true := by rw [hcy, cn_zero64, hf]; exact hl
      clear hl hf hT hcw hcy hWb hw hb h
      go_enter Try.func202, Try.ntmps202
      go_wp2_with (first
        | (go_at_call 204; refine (HTr.out _).mono ?_; rintro e w1 ⟨he1, rfl⟩)
        | (refine wpList_float rfl _ _ _ _ _ rfl (by decide) _ _ _ rfl rfl ?_; intro r1 n1 q1) | (refine wpList_fcmp rfl _ _ _ _ _ rfl rfl _ _ _ rfl rfl _ (by first | with_reducible assumption | rfl) ?_) | (refine wpList_fneg rfl _ _ rfl _ _ rfl ?_; intro r1 q1))
      go_ret
      refine ⟨by (repeat first | with_reducible exact Ext.rfl' _ | with_reducible refine Ext.drewN ?_ _ | with_reducible refine Ext.drew' ?_ | with_reducible refine Ext.alloc' ?_ _ | with_reducible refine Ext.setCell_at ?_ _ _ _ (by first | exact Nat.le_refl _ | omega) | with_reducible assumption | refine Ext.trans ?_ (by with_reducible assumption)), _, rfl, ?_⟩
      rw [← HR.out, ← cn_one64]
      exact q1
  · rw [decide_eq_true (by simpa using hT)] at hneq
    have hf := impl_frac h hT
    rw [hWb] at hf
    have HF := Lib.hid (show fop .sub .f64 (cn .f64 y) (cn .f64 Wb) = fracP y by rw [hcy, hcw]; exact hf)
    cases hl : fcmp .lss .f64 (fracP y) 0 with
    | false =>
      have HL := Lib.hid hl
      clear hl hf hT hcw hcy hWb hw hb h
      go_enter Try.func202, Try.ntmps202
      go_wp2_with (first
        | (go_at_call 204; refine (HTr.out _).mono ?_; rintro e w1 ⟨he1, rfl⟩)
        | (refine wpList_float rfl _ _ _ _ _ rfl (by decide) _ _ _ rfl rfl ?_; intro r1 n1 q1; have HQ1 := Lib.hid (show cn .f64 r1 = fracP y from (show cn .f64 r1 = _ from q1).trans HF.out); clear q1)
        | (refine wpList_fcmp rfl _ _ _ _ _ rfl rfl _ _ _ rfl rfl _ hneq ?_)
        | (have hk1 : fcmp .lss .f64 (cn .f64 r1) (cn .f64 0) = false := (by rw [HQ1.out, cn_zero64]; exact HL.out); refine wpList_fcmp rfl _ _ _ _ _ rfl rfl _ _ _ rfl rfl _ hk1 ?_))
      go_ret
      refine ⟨by (repeat first | with_reducible exact Ext.rfl' _ | with_reducible refine Ext.drewN ?_ _ | with_reducible refine Ext.drew' ?_ | with_reducible refine Ext.alloc' ?_ _ | with_reducible refine Ext.setCell_at ?_ _ _ _ (by first | exact Nat.le_refl _ | omega) | with_reducible assumption | refine Ext.trans ?_ (by with_reducible assumption)), _, rfl, ?_⟩
      rw [HQ1.out]; unfold upP; rw [HL.out]; rfl
    | true =>
      have HL := Lib.hid hl
      clear hl hf hT hcw hcy hWb hw hb h
      go_enter Try.func202, Try.ntmps202
      go_wp2_with (first
        | (go_at_call 204; refine (HTr.out _).mono ?_; rintro e w1 ⟨he1, rfl⟩)
        | (refine wpList_float rfl _ _ _ _ _ rfl (by decide) _ _ _ rfl rfl ?_; intro r1 n1 q1; have HQ1 := Lib.hid (show cn .f64 r1 = fracP y from (show cn .f64 r1 = _ from q1).trans HF.out); clear q1)
        | (refine wpList_float rfl _ _ _ _ _ rfl (by decide) _ _ _ rfl rfl ?_; intro r2 n2 q2; have HQ2 := Lib.hid q2; clear q2)
        | (refine wpList_fcmp rfl _ _ _ _ _ rfl rfl _ _ _ rfl rfl _ hneq ?_)
        | (have hk1 : fcmp .lss .f64 (cn .f64 r1) (cn .f64 0) = true := (by rw [HQ1.out, cn_zero64]; exact HL.out); refine wpList_fcmp rfl _ _ _ _ _ rfl rfl _ _ _ rfl rfl _ hk1 ?_))
      go_ret
      refine ⟨by (repeat first | with_reducible exact Ext.rfl' _ | with_reducible refine Ext.drewN ?_ _ | with_reducible refine Ext.drew' ?_ | with_reducible refine Ext.alloc' ?_ _ | with_reducible refine Ext.setCell_at ?_ _ _ _ (by first | exact Nat.le_refl _ | omega) | with_reducible assumption | refine Ext.trans ?_ (by with_reducible assumption)), _, rfl, ?_⟩
      rw [show cn .f64 r2 = _ from HQ2.out, HQ1.out]; unfold upP; rw [HL.out, if_pos rfl, cn_one64]
end Go.Proofs.Ytbaohbpfnlicpaa
