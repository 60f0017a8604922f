/- Walks: the speed of a ring: all cases. -/
import Derived.Test.YtbaohbpfnlicpaaE7
namespace Go.Proofs.Ytbaohbpfnlicpaa
open Go Go.RowKit
set_option linter.unusedVariables false
set_option linter.unusedSimpArgs false
attribute [local go_sem] run_store_float

theorem fop_lt32 (op : BinOp) (x y : Nat) : fop op .f32 x y < 4294967296 := by
  unfold fop
  have hw : ∀ d : Ieee.Datum, FloatKind.f32.format.write d < 4294967296 := fun d => by
    have h : (Lit.float .f32 (FloatKind.f32.encode d)).wf = true := encode_wf .f32 d
    have h2 : FloatKind.f32.encode d < 4294967296 := by simpa [Lit.wf] using h
    exact h2
  have hm : ∀ o : Option Ieee.Datum, (o.map FloatKind.f32.format.write).getD (qn .f32) < 4294967296 := fun o => by
    cases o with
    | none => decide
    | some d => exact hw d
  unfold floatBits
  split
  · exact hm _
  · exact hm _
  · exact hm _
  · exact hm _
  · decide
set_option maxRecDepth 100000 in
theorem specSpeedNo_any (radius core spin : Nat) (w : World) (hno : speedOk (cn .f32 radius) (cn .f32 core) (cn .f32 spin) = false) :
    Calls Try.prog 38 #[.float .f32 radius, .float .f32 core, .float .f32 spin] w fun e w' => Ext w w' ∧ RN2 e (false, 0) := by
  unfold speedOk at hno
  cases h1 : aboveP (cn .f32 radius) with
  | false =>
    have H1 := Lib.hid h1
    clear h1 hno
    go_enter Try.func38, Try.ntmps38
    go_wp2_with fail
    refine (l02Above_any _ false H1.out _).mono ?_
    rintro e w1 ⟨he1, rfl⟩
    go_wp2_with fail
    go_ret2
    exact ⟨he1, RN2.no⟩
  | true =>
    rw [h1, Bool.true_and] at hno
    have H1 := Lib.hid h1
    clear h1
    cases h2 : aboveP (cn .f32 core) with
    | false =>
      have H2 := Lib.hid h2
      clear h2 hno
      go_enter Try.func38, Try.ntmps38
      go_wp2_with fail
      refine (l02Above_any _ true H1.out _).mono ?_
      rintro e w1 ⟨he1, rfl⟩
      have HE1 := Lib.hid he1
      clear he1
      go_wp2_with fail
      refine (l02Above_any _ false H2.out _).mono ?_
      rintro e w2 ⟨he2, rfl⟩
      go_wp2_with fail
      go_ret2
      exact ⟨Ext.trans HE1.out he2, RN2.no⟩
    | true =>
      rw [h2, Bool.true_and] at hno
      have H2 := Lib.hid h2
      have H3 := Lib.hid hno
      clear h2 hno
      go_enter Try.func38, Try.ntmps38
      go_wp2_with fail
      refine (l02Above_any _ true H1.out _).mono ?_
      rintro e w1 ⟨he1, rfl⟩
      have HE1 := Lib.hid he1
      clear he1
      go_wp2_with fail
      refine (l02Above_any _ true H2.out _).mono ?_
      rintro e w2 ⟨he2, rfl⟩
      have HE2 := Lib.hid (Ext.trans HE1.out he2)
      clear he2 HE1
      go_wp2_with fail
      refine (l01Finite_any _ false H3.out _).mono ?_
      rintro e w3 ⟨he3, rfl⟩
      go_wp2_with fail
      go_ret2
      exact ⟨Ext.trans HE2.out he3, RN2.no⟩
set_option maxRecDepth 100000 in
theorem specSpeedYes_any (radius core spin : Nat) (w : World) (hok : speedOk (cn .f32 radius) (cn .f32 core) (cn .f32 spin) = true) :
    Calls Try.prog 38 #[.float .f32 radius, .float .f32 core, .float .f32 spin] w fun e w' => Ext w w' ∧ RN2 e (tellP (speedV (cn .f32 radius) (cn .f32 core) (cn .f32 spin))) := by
  unfold speedOk at hok
  simp only [Bool.and_eq_true] at hok
  have H1 := Lib.hid hok.1
  have H2 := Lib.hid hok.2.1
  have H3 := Lib.hid hok.2.2
  clear hok
  go_enter Try.func38, Try.ntmps38
  go_wp2_with fail
  refine (l02Above_any _ true H1.out _).mono ?_
  rintro e w1 ⟨he1, rfl⟩
  have HE1 := Lib.hid he1
  clear he1
  go_wp2_with fail
  refine (l02Above_any _ true H2.out _).mono ?_
  rintro e w2 ⟨he2, rfl⟩
  have HE2 := Lib.hid (Ext.trans HE1.out he2)
  clear he2 HE1
  go_wp2_with fail
  refine (l01Finite_any _ true H3.out _).mono ?_
  rintro e w3 ⟨he3, rfl⟩
  have HE3 := Lib.hid (Ext.trans HE2.out he3)
  clear he3 HE2
  go_wp2_with (first | (refine wpList_float rfl _ _ _ _ _ rfl (by decide) _ _ _ rfl rfl ?_; intro r1 n1 q1; have HQ := Lib.hid q1; clear q1))
  rename_i a1 k1 Q1 a2 k2 Q2 KA hKA a3 k3 Q3 KB hKB
  have HV1 := Lib.hid (show cn .f32 a2 = fop .quo .f32 (cn .f32 spin) (fop .mul .f32 c4pi (cn .f32 radius)) by rw [show cn .f32 a2 = _ from Q2.out, show cn .f32 a1 = _ from Q1.out, cn_c4pi])
  have HV2 := Lib.hid (show cn .f32 r1 = fop .quo .f32 (fop .mul .f32 c8 (cn .f32 radius)) (cn .f32 core) by rw [show cn .f32 r1 = _ from HQ.out, show cn .f32 a3 = _ from Q3.out, cn_c8])
  refine (l01Log_any _ _).mono ?_
  rintro e w4 ⟨he4, rl, rfl, hrl⟩
  have HRL := Lib.hid (show cn .f32 rl = logP (fop .quo .f32 (fop .mul .f32 c8 (cn .f32 radius)) (cn .f32 core)) by rw [hrl, HV2.out])
  have HE4 := Lib.hid (show Ext w w4 by have := HE3.out; (repeat first | with_reducible exact Ext.rfl' _ | with_reducible refine Ext.drewN ?_ _ | with_reducible refine Ext.drew' ?_ | with_reducible refine Ext.alloc' ?_ _ | with_reducible refine Ext.setCell_at ?_ _ _ _ (by first | exact Nat.le_refl _ | omega) | with_reducible assumption | refine Ext.trans ?_ (by with_reducible assumption)))
  clear he4 hrl Q1 Q2 Q3 HQ HV2 HE3
  go_wp2_with (first | (refine wpList_float rfl _ _ _ _ _ rfl (by decide) _ _ _ rfl rfl ?_; intro r1 n1 q1; have HQ := Lib.hid q1; clear q1))
  rename_i b1 m1 QB KC hKC
  have HV := Lib.hid (show cn .f32 r1 = speedV (cn .f32 radius) (cn .f32 core) (cn .f32 spin) by
    unfold speedV
    rw [show cn .f32 r1 = _ from HQ.out, show cn .f32 b1 = _ from QB.out, HV1.out, HRL.out, cn_quart32])
  refine (l02Number_any _ _).mono ?_
  rintro e w5 ⟨he5, r, rfl, hr⟩
  have HR := Lib.hid hr
  have HE5 := Lib.hid (show Ext w w5 by have := HE4.out; (repeat first | with_reducible exact Ext.rfl' _ | with_reducible refine Ext.drewN ?_ _ | with_reducible refine Ext.drew' ?_ | with_reducible refine Ext.alloc' ?_ _ | with_reducible refine Ext.setCell_at ?_ _ _ _ (by first | exact Nat.le_refl _ | omega) | with_reducible assumption | refine Ext.trans ?_ (by with_reducible assumption)))
  clear he5 hr HE4
  go_wp2_with fail
  go_ret2
  refine ⟨HE5.out, r, ?_, ?_⟩
  · rw [HV.out]; rfl
  · rw [HR.out, HV.out]
set_option maxRecDepth 100000 in
theorem implSpeedNo_any (radius core spin : Nat) (w : World) (hno : speedOk (cn .f32 radius) (cn .f32 core) (cn .f32 spin) = false) :
    Calls Try.prog 39 #[.float .f32 radius, .float .f32 core, .float .f32 spin] w fun e w' => Ext w w' ∧ RN2 e (false, 0) := by
  have HF := Lib.hid (FS.two w 22 radius core w.heap.size rfl)
  have HE0 := Lib.hid (show Ext w (w.alloc (.cells #[.float .f32 radius, .float .f32 core] 22)) by (repeat first | with_reducible exact Ext.rfl' _ | with_reducible refine Ext.drewN ?_ _ | with_reducible refine Ext.drew' ?_ | with_reducible refine Ext.alloc' ?_ _ | with_reducible refine Ext.setCell_at ?_ _ _ _ (by first | exact Nat.le_refl _ | omega) | with_reducible assumption | refine Ext.trans ?_ (by with_reducible assumption)))
  unfold speedOk at hno
  rw [← Bool.and_assoc] at hno
  cases h1 : aboveP (cn .f32 radius) && aboveP (cn .f32 core) with
  | false =>
    have H1 := Lib.hid h1
    clear h1 hno
    go_enter Try.func39, Try.ntmps39
    go_wp2_with fail
    generalize w.alloc (.cells #[.float .f32 radius, .float .f32 core] 22) = W1 at *
    refine (lengthOk2_any (some ⟨w.heap.size, 0, none⟩) 2 radius core _ HF.out false H1.out).mono ?_
    rintro e w1 ⟨he1, rfl⟩
    go_wp2_with fail
    go_ret2
    exact ⟨Ext.trans HE0.out he1, RN2.no⟩
  | true =>
    rw [h1, Bool.true_and] at hno
    have H1 := Lib.hid h1
    have H3 := Lib.hid hno
    clear h1 hno
    go_enter Try.func39, Try.ntmps39
    go_wp2_with fail
    generalize w.alloc (.cells #[.float .f32 radius, .float .f32 core] 22) = W1 at *
    refine (lengthOk2_any (some ⟨w.heap.size, 0, none⟩) 2 radius core _ HF.out true H1.out).mono ?_
    rintro e w1 ⟨he1, rfl⟩
    have HE1 := Lib.hid (Ext.trans HE0.out he1)
    clear he1 HE0
    go_wp2_with fail
    refine (IsFinite_any _ false H3.out _).mono ?_
    rintro e w3 ⟨he3, rfl⟩
    go_wp2_with fail
    go_ret2
    exact ⟨Ext.trans HE1.out he3, RN2.no⟩
set_option maxRecDepth 100000 in
theorem implSpeedYes_any (radius core spin : Nat) (w : World) (hok : speedOk (cn .f32 radius) (cn .f32 core) (cn .f32 spin) = true) :
    Calls Try.prog 39 #[.float .f32 radius, .float .f32 core, .float .f32 spin] w fun e w' => Ext w w' ∧ RN2 e (tellP (speedV (cn .f32 radius) (cn .f32 core) (cn .f32 spin))) := by
  have HF := Lib.hid (FS.two w 22 radius core w.heap.size rfl)
  have HE0 := Lib.hid (show Ext w (w.alloc (.cells #[.float .f32 radius, .float .f32 core] 22)) by (repeat first | with_reducible exact Ext.rfl' _ | with_reducible refine Ext.drewN ?_ _ | with_reducible refine Ext.drew' ?_ | with_reducible refine Ext.alloc' ?_ _ | with_reducible refine Ext.setCell_at ?_ _ _ _ (by first | exact Nat.le_refl _ | omega) | with_reducible assumption | refine Ext.trans ?_ (by with_reducible assumption)))
  unfold speedOk at hok
  simp only [Bool.and_eq_true] at hok
  have H1 := Lib.hid (show (aboveP (cn .f32 radius) && aboveP (cn .f32 core)) = true by rw [hok.1, hok.2.1]; rfl)
  have H3 := Lib.hid hok.2.2
  clear hok
  go_enter Try.func39, Try.ntmps39
  go_wp2_with fail
  generalize w.alloc (.cells #[.float .f32 radius, .float .f32 core] 22) = W1 at *
  refine (lengthOk2_any (some ⟨w.heap.size, 0, none⟩) 2 radius core _ HF.out true H1.out).mono ?_
  rintro e w1 ⟨he1, rfl⟩
  have HE1 := Lib.hid (Ext.trans HE0.out he1)
  clear he1 HE0
  go_wp2_with fail
  refine (IsFinite_any _ true H3.out _).mono ?_
  rintro e w3 ⟨he3, rfl⟩
  have HE3 := Lib.hid (Ext.trans HE1.out he3)
  clear he3 HE1
  go_wp2_with (first | (refine wpList_float rfl _ _ _ _ _ rfl (by decide) _ _ _ rfl rfl ?_; intro r1 n1 q1; have HQ := Lib.hid q1; clear q1))
  rename_i a1 k1 Q1 a2 k2 Q2 a3 k3 Q3 KB hKB
  have HV1 := Lib.hid (show cn .f32 a2 = fop .quo .f32 (cn .f32 spin) (fop .mul .f32 c4pi (cn .f32 radius)) by rw [show cn .f32 a2 = _ from Q2.out, show cn .f32 a1 = _ from Q1.out, cn_c4pi])
  have HV2 := Lib.hid (show cn .f32 r1 = fop .quo .f32 (fop .mul .f32 c8 (cn .f32 radius)) (cn .f32 core) by rw [show cn .f32 r1 = _ from HQ.out, show cn .f32 a3 = _ from Q3.out, cn_c8])
  refine (LogNumber_any _ (by rw [HV2.out]; exact fop_lt32 _ _ _) _).mono ?_
  rintro e w4 ⟨he4, rl, rfl, hrl⟩
  have HRL := Lib.hid (show cn .f32 rl = logP (fop .quo .f32 (fop .mul .f32 c8 (cn .f32 radius)) (cn .f32 core)) by rw [hrl, HV2.out])
  have HE4 := Lib.hid (show Ext w w4 by have := HE3.out; (repeat first | with_reducible exact Ext.rfl' _ | with_reducible refine Ext.drewN ?_ _ | with_reducible refine Ext.drew' ?_ | with_reducible refine Ext.alloc' ?_ _ | with_reducible refine Ext.setCell_at ?_ _ _ _ (by first | exact Nat.le_refl _ | omega) | with_reducible assumption | refine Ext.trans ?_ (by with_reducible assumption)))
  clear he4 hrl Q1 Q2 Q3 HQ HV2 HE3
  go_wp2_with (first | (refine wpList_float rfl _ _ _ _ _ rfl (by decide) _ _ _ rfl rfl ?_; intro r1 n1 q1; have HQ := Lib.hid q1; clear q1))
  rename_i b1 m1 QB KC hKC
  have HV := Lib.hid (show cn .f32 r1 = speedV (cn .f32 radius) (cn .f32 core) (cn .f32 spin) by
    unfold speedV
    rw [show cn .f32 r1 = _ from HQ.out, show cn .f32 b1 = _ from QB.out, HV1.out, HRL.out, cn_quart32])
  refine (toldNumber_any _ _).mono ?_
  rintro e w5 ⟨he5, r, rfl, hr⟩
  have HR := Lib.hid hr
  have HE5 := Lib.hid (show Ext w w5 by have := HE4.out; (repeat first | with_reducible exact Ext.rfl' _ | with_reducible refine Ext.drewN ?_ _ | with_reducible refine Ext.drew' ?_ | with_reducible refine Ext.alloc' ?_ _ | with_reducible refine Ext.setCell_at ?_ _ _ _ (by first | exact Nat.le_refl _ | omega) | with_reducible assumption | refine Ext.trans ?_ (by with_reducible assumption)))
  clear he5 hr HE4
  go_wp2_with fail
  go_ret2
  refine ⟨HE5.out, r, ?_, ?_⟩
  · rw [HV.out]; rfl
  · rw [HR.out, HV.out]
theorem specSpeed_any (radius core spin : Nat) (w : World) :
    Calls Try.prog 38 #[.float .f32 radius, .float .f32 core, .float .f32 spin] w fun e w' => Ext w w' ∧ RN2 e (speedP (cn .f32 radius) (cn .f32 core) (cn .f32 spin)) := by
  unfold speedP
  cases h : speedOk (cn .f32 radius) (cn .f32 core) (cn .f32 spin) with
  | false => exact specSpeedNo_any radius core spin w h
  | true => exact specSpeedYes_any radius core spin w h
theorem implSpeed_any (radius core spin : Nat) (w : World) :
    Calls Try.prog 39 #[.float .f32 radius, .float .f32 core, .float .f32 spin] w fun e w' => Ext w w' ∧ RN2 e (speedP (cn .f32 radius) (cn .f32 core) (cn .f32 spin)) := by
  unfold speedP
  cases h : speedOk (cn .f32 radius) (cn .f32 core) (cn .f32 spin) with
  | false => exact implSpeedNo_any radius core spin w h
  | true => exact implSpeedYes_any radius core spin w h
end Go.Proofs.Ytbaohbpfnlicpaa
