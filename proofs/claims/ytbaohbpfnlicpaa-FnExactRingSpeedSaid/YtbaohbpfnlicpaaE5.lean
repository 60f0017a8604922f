/- Walks: the reference's logarithm. -/
import Derived.Test.YtbaohbpfnlicpaaE4
import Derived.Test.YtbaohbpfnlicpaaV3
namespace Go.Proofs.Ytbaohbpfnlicpaa
open Go Go.RowKit
set_option linter.unusedVariables false
set_option linter.unusedSimpArgs false
attribute [local go_sem] run_store_float

theorem InfNeg_any (w : World) : Calls Try.prog 173 #[.int .i64 (-1)] w fun e w' => Ext w w' ∧ e = .returned (.float .f64 18442240474082181120) := by
  have hf : ∀ w, (callFunc 198 #[.int .u64 18442240474082181120]).run Try.prog w = .ok (.value (.float .f64 18442240474082181120)) w := fun W => run_from64 18442240474082181120 W
  go_enter Try.func173, Try.ntmps173
  go_wp2_with fail
  go_ret
  exact ⟨by (repeat first | with_reducible exact Ext.rfl' _ | with_reducible refine Ext.drewN ?_ _ | with_reducible refine Ext.drew' ?_ | with_reducible refine Ext.alloc' ?_ _ | with_reducible refine Ext.setCell_at ?_ _ _ _ (by first | exact Nat.le_refl _ | omega) | with_reducible assumption | refine Ext.trans ?_ (by with_reducible assumption)), rfl⟩
theorem IsInf_any (X : Nat) (b : Bool) (hb : fcmp .gtr .f64 (cn .f64 X) (cn .f64 9218868437227405311) = b) (w : World) : Calls Try.prog 197 #[.float .f64 X, .int .i64 1] w fun e w' => Ext w w' ∧ e = .returned (.bool b) := by
  go_enter Try.func197, Try.ntmps197
  go_wp2_with (first
    | (refine wpList_fcmp rfl .gtr _ _ _ _ rfl rfl _ _ _ rfl rfl _ hb ?_))
  go_ret
  exact ⟨by (repeat first | with_reducible exact Ext.rfl' _ | with_reducible refine Ext.drewN ?_ _ | with_reducible refine Ext.drew' ?_ | with_reducible refine Ext.alloc' ?_ _ | with_reducible refine Ext.setCell_at ?_ _ _ _ (by first | exact Nat.le_refl _ | omega) | with_reducible assumption | refine Ext.trans ?_ (by with_reducible assumption)), rfl⟩
theorem gtr_max {M : Nat} {P : Int} (h : Norm M) (h1 : -1074 ≤ P) (h2 : P ≤ 970) : fcmp .gtr .f64 (Yp M P) (cn .f64 9218868437227405311) = false := by
  unfold fcmp Ieee.Format.order
  rw [show FloatKind.f64.format.read (Yp M P) = _ from Yp_read h h1 (by omega), show FloatKind.f64.format.read (cn .f64 9218868437227405311) = .number false 9007199254740991 971 from by decide, norm_order h ⟨by decide, by decide⟩, if_neg (by omega), if_pos (by omega)]
  rfl
theorem gtr_inf : fcmp .gtr .f64 9218868437227405312 (cn .f64 9218868437227405311) = true := by decide

/-- the logarithm in 64 bits -/
def wlogP (x : Nat) : Nat :=
  if isNeg x then qn .f64
  else if fcmp .eql .f32 x 0 then 18442240474082181120
  else if finF x then logY (wid x)
  else 9218868437227405312
theorem wid_inf {x : Nat} (h : FloatKind.f32.decode x = .infinity false) : wid x = 9218868437227405312 := by
  unfold wid fconv; rw [if_neg (by decide), h]; decide
theorem finF_inf {x : Nat} (h : FloatKind.f32.decode x = .infinity false) : finF x = false := by
  cases hf : finF x with
  | false => rfl
  | true =>
    obtain ⟨s, m, p, e⟩ := num32 hf
    rw [h] at e; cases e
theorem finF_of {x : Nat} {s : Bool} {m : Nat} {p : Int} (h : FloatKind.f32.decode x = .number s m p) : finF x = true := by
  cases hf : finF x with
  | true => rfl
  | false => exact absurd h (notnum32 hf _ _ _)
theorem wlog_conv (x : Nat) : fconv .f64 (wlogP x) .f32 = logP x := by
  unfold wlogP logP
  split
  · decide
  · split
    · decide
    · split
      · rfl
      · decide
theorem wlog_ovf (x : Nat) : ovf .f64 (wlogP x) .f32 = false := by
  unfold wlogP
  split
  · decide
  · rename_i h1
    split
    · decide
    · rename_i h2
      split
      · rename_i h3
        rcases pos_cases (by simpa using h1) (by simpa using h2) with ⟨m, p, e, h0⟩ | e
        · obtain ⟨M, P, hM, a, b, hw⟩ := wid_norm e h0
          rw [hw, logY_eq hM (by omega) (by omega)]
          exact ovf_bnd (bnd_logN hM a b) (by decide)
        · rw [finF_inf e] at h3; cases h3
      · decide
theorem cn_ninf : cn .f64 18442240474082181120 = 18442240474082181120 := by decide

set_option maxRecDepth 100000 in
theorem wlogNeg_any (x X : Nat) (hX : cn .f64 X = wid x) (hn : isNeg x = true) (w : World) : Calls Try.prog 170 #[.float .f64 X] w fun e w' => Ext w w' ∧ ∃ r, e = .returned (.float .f64 r) ∧ cn .f64 r = wlogP x := by
  have HP := Lib.hid (show wlogP x = qn .f64 by unfold wlogP; rw [hn]; rfl)
  cases hN : isN .f32 x with
  | true =>
    have hk1 : fcmp .neq .f64 (cn .f64 X) (cn .f64 X) = true := by rw [fcmp_neq_self, hX, wid_isN, hN]
    clear hX hn hN
    go_enter Try.func170, Try.ntmps170
    go_wp2_with (first
    | (refine wpList_fcmp rfl .neq _ _ _ _ rfl rfl _ _ _ rfl rfl _ hk1 ?_)
    | (refine wpList_fcmp rfl .lss _ _ _ _ rfl rfl _ _ _ rfl rfl _ hk2 ?_)
    | (refine wpList_fcmp rfl .eql _ _ _ _ rfl rfl _ _ _ rfl rfl _ hk3 ?_)
    | (go_at_call 196; refine (NaN_any _).mono ?_; rintro e w1 ⟨he1, rfl⟩)
    | (go_at_call 173; refine (InfNeg_any _).mono ?_; rintro e w1 ⟨he1, rfl⟩)
    | (go_at_call 197; refine (IsInf_any _ true hk4 _).mono ?_; rintro e w1 ⟨he1, rfl⟩))
    go_ret
    exact ⟨by (repeat first | with_reducible exact Ext.rfl' _ | with_reducible refine Ext.drewN ?_ _ | with_reducible refine Ext.drew' ?_ | with_reducible refine Ext.alloc' ?_ _ | with_reducible refine Ext.setCell_at ?_ _ _ _ (by first | exact Nat.le_refl _ | omega) | with_reducible assumption | refine Ext.trans ?_ (by with_reducible assumption)), _, rfl, by rw [HP.out]; exact cn_NaN⟩
  | false =>
    have hk1 : fcmp .neq .f64 (cn .f64 X) (cn .f64 X) = false := by rw [fcmp_neq_self, hX, wid_isN, hN]
    have hk2 : fcmp .lss .f64 (cn .f64 X) (cn .f64 0) = true := by
      rw [hX, cn_zero64, wid_cmp0 _ hN]
      unfold isNeg at hn
      rw [hN, Bool.false_or] at hn
      exact hn
    clear hX hn hN
    go_enter Try.func170, Try.ntmps170
    go_wp2_with (first
    | (refine wpList_fcmp rfl .neq _ _ _ _ rfl rfl _ _ _ rfl rfl _ hk1 ?_)
    | (refine wpList_fcmp rfl .lss _ _ _ _ rfl rfl _ _ _ rfl rfl _ hk2 ?_)
    | (refine wpList_fcmp rfl .eql _ _ _ _ rfl rfl _ _ _ rfl rfl _ hk3 ?_)
    | (go_at_call 196; refine (NaN_any _).mono ?_; rintro e w1 ⟨he1, rfl⟩)
    | (go_at_call 173; refine (InfNeg_any _).mono ?_; rintro e w1 ⟨he1, rfl⟩)
    | (go_at_call 197; refine (IsInf_any _ true hk4 _).mono ?_; rintro e w1 ⟨he1, rfl⟩))
    go_ret
    exact ⟨by (repeat first | with_reducible exact Ext.rfl' _ | with_reducible refine Ext.drewN ?_ _ | with_reducible refine Ext.drew' ?_ | with_reducible refine Ext.alloc' ?_ _ | with_reducible refine Ext.setCell_at ?_ _ _ _ (by first | exact Nat.le_refl _ | omega) | with_reducible assumption | refine Ext.trans ?_ (by with_reducible assumption)), _, rfl, by rw [HP.out]; exact cn_NaN⟩
theorem notneg {x : Nat} (hn : isNeg x = false) : isN .f32 x = false ∧ fcmp .lss .f32 x 0 = false := by
  unfold isNeg at hn
  rw [Bool.or_eq_false_iff] at hn
  exact hn
set_option maxRecDepth 100000 in
theorem wlogZero_any (x X : Nat) (hX : cn .f64 X = wid x) (hn : isNeg x = false) (hz : fcmp .eql .f32 x 0 = true) (w : World) : Calls Try.prog 170 #[.float .f64 X] w fun e w' => Ext w w' ∧ ∃ r, e = .returned (.float .f64 r) ∧ cn .f64 r = wlogP x := by
  have HP := Lib.hid (show wlogP x = 18442240474082181120 by unfold wlogP; rw [hn, hz]; rfl)
  obtain ⟨hN, hL⟩ := notneg hn
  have hk1 : fcmp .neq .f64 (cn .f64 X) (cn .f64 X) = false := by rw [fcmp_neq_self, hX, wid_isN, hN]
  have hk2 : fcmp .lss .f64 (cn .f64 X) (cn .f64 0) = false := by rw [hX, cn_zero64, wid_cmp0 _ hN, hL]
  have hk3 : fcmp .eql .f64 (cn .f64 X) (cn .f64 0) = true := by rw [hX, cn_zero64, wid_cmp0 _ hN, hz]
  clear hX hn hN hz hL
  go_enter Try.func170, Try.ntmps170
  go_wp2_with (first
    | (refine wpList_fcmp rfl .neq _ _ _ _ rfl rfl _ _ _ rfl rfl _ hk1 ?_)
    | (refine wpList_fcmp rfl .lss _ _ _ _ rfl rfl _ _ _ rfl rfl _ hk2 ?_)
    | (refine wpList_fcmp rfl .eql _ _ _ _ rfl rfl _ _ _ rfl rfl _ hk3 ?_)
    | (go_at_call 196; refine (NaN_any _).mono ?_; rintro e w1 ⟨he1, rfl⟩)
    | (go_at_call 173; refine (InfNeg_any _).mono ?_; rintro e w1 ⟨he1, rfl⟩)
    | (go_at_call 197; refine (IsInf_any _ true hk4 _).mono ?_; rintro e w1 ⟨he1, rfl⟩))
  go_ret
  exact ⟨by (repeat first | with_reducible exact Ext.rfl' _ | with_reducible refine Ext.drewN ?_ _ | with_reducible refine Ext.drew' ?_ | with_reducible refine Ext.alloc' ?_ _ | with_reducible refine Ext.setCell_at ?_ _ _ _ (by first | exact Nat.le_refl _ | omega) | with_reducible assumption | refine Ext.trans ?_ (by with_reducible assumption)), _, rfl, by rw [HP.out]; exact cn_ninf⟩
set_option maxRecDepth 100000 in
theorem wlogInf_any (x X : Nat) (hX : cn .f64 X = wid x) (hn : isNeg x = false) (hz : fcmp .eql .f32 x 0 = false) (hi : FloatKind.f32.decode x = .infinity false) (w : World) : Calls Try.prog 170 #[.float .f64 X] w fun e w' => Ext w w' ∧ ∃ r, e = .returned (.float .f64 r) ∧ cn .f64 r = wlogP x := by
  have HP := Lib.hid (show cn .f64 X = wlogP x by unfold wlogP; rw [hn, hz, finF_inf hi, hX, wid_inf hi]; rfl)
  obtain ⟨hN, hL⟩ := notneg hn
  have hk1 : fcmp .neq .f64 (cn .f64 X) (cn .f64 X) = false := by rw [fcmp_neq_self, hX, wid_isN, hN]
  have hk2 : fcmp .lss .f64 (cn .f64 X) (cn .f64 0) = false := by rw [hX, cn_zero64, wid_cmp0 _ hN, hL]
  have hk3 : fcmp .eql .f64 (cn .f64 X) (cn .f64 0) = false := by rw [hX, cn_zero64, wid_cmp0 _ hN, hz]
  have hk4 : fcmp .gtr .f64 (cn .f64 X) (cn .f64 9218868437227405311) = true := by rw [hX, wid_inf hi]; exact gtr_inf
  clear hX hn hN hz hL hi
  go_enter Try.func170, Try.ntmps170
  go_wp2_with (first
    | (refine wpList_fcmp rfl .neq _ _ _ _ rfl rfl _ _ _ rfl rfl _ hk1 ?_)
    | (refine wpList_fcmp rfl .lss _ _ _ _ rfl rfl _ _ _ rfl rfl _ hk2 ?_)
    | (refine wpList_fcmp rfl .eql _ _ _ _ rfl rfl _ _ _ rfl rfl _ hk3 ?_)
    | (go_at_call 196; refine (NaN_any _).mono ?_; rintro e w1 ⟨he1, rfl⟩)
    | (go_at_call 173; refine (InfNeg_any _).mono ?_; rintro e w1 ⟨he1, rfl⟩)
    | (go_at_call 197; refine (IsInf_any _ true hk4 _).mono ?_; rintro e w1 ⟨he1, rfl⟩))
  go_ret
  exact ⟨by (repeat first | with_reducible exact Ext.rfl' _ | with_reducible refine Ext.drewN ?_ _ | with_reducible refine Ext.drew' ?_ | with_reducible refine Ext.alloc' ?_ _ | with_reducible refine Ext.setCell_at ?_ _ _ _ (by first | exact Nat.le_refl _ | omega) | with_reducible assumption | refine Ext.trans ?_ (by with_reducible assumption)), _, rfl, HP.out⟩
set_option maxRecDepth 100000 in
set_option maxHeartbeats 1600000 in
theorem wlogNum_any {M : Nat} {P0 : Int} (h : Norm M) (h1 : -201 ≤ P0) (h2 : P0 ≤ 76) (hk1 : fcmp .neq .f64 (cn .f64 (Yp M P0)) (cn .f64 (Yp M P0)) = false) (hk2 : fcmp .lss .f64 (cn .f64 (Yp M P0)) (cn .f64 0) = false) (hk3 : fcmp .eql .f64 (cn .f64 (Yp M P0)) (cn .f64 0) = false) (w : World) : Calls Try.prog 170 #[.float .f64 (Yp M P0)] w fun e w' => Ext w w' ∧ ∃ r, e = .returned (.float .f64 r) ∧ cn .f64 r = logN M P0 := by
  have hk4 : fcmp .gtr .f64 (cn .f64 (Yp M P0)) (cn .f64 9218868437227405311) = false := by rw [cn_Yp h (by omega) (by omega)]; exact gtr_max h (by omega) (by omega)
  have HM := Lib.hid h
  have HB := Lib.hid (show -201 ≤ P0 ∧ P0 ≤ 76 from ⟨h1, h2⟩)
  have HPL := Lib.hid (show -53 ≤ placeOf M ∧ placeOf M ≤ -52 by have := place_in M; omega)
  have K1 := Lib.hid hk1
  have K2 := Lib.hid hk2
  have K3 := Lib.hid hk3
  have K4 := Lib.hid hk4
  clear h h1 h2 hk1 hk2 hk3 hk4
  go_enter Try.func170, Try.ntmps170
  go_wp2_with (first
    | (refine wpList_fcmp rfl .neq _ _ _ _ rfl rfl _ _ _ rfl rfl _ K1.out ?_)
    | (refine wpList_fcmp rfl .lss _ _ _ _ rfl rfl _ _ _ rfl rfl _ K2.out ?_)
    | (refine wpList_fcmp rfl .eql _ _ _ _ rfl rfl _ _ _ rfl rfl _ K3.out ?_)
    | (go_at_call 197; refine (IsInf_any _ false K4.out _).mono ?_; rintro e w1 ⟨he1, rfl⟩))
  clear K1 K2 K3 K4
  have HE0 := Lib.hid (show Ext w w1 by (repeat first | with_reducible exact Ext.rfl' _ | with_reducible refine Ext.drewN ?_ _ | with_reducible refine Ext.drew' ?_ | with_reducible refine Ext.alloc' ?_ _ | with_reducible refine Ext.setCell_at ?_ _ _ _ (by first | exact Nat.le_refl _ | omega) | with_reducible assumption | refine Ext.trans ?_ (by with_reducible assumption)))
  clear he1
  go_loopw [0, 3] (fun v e wr => ∃ (P : Int), v = .float .f64 (Yp M P) ∧ e = .int .i64 (P0 - P) ∧ P ≤ P0 ∧ (placeOf M ≤ P ∨ P = P0) ∧ Ext w wr) (fun v _ _ => (plc v - placeOf M).toNat)
  case atStart => exact ⟨P0, rfl, by rw [show P0 - P0 = 0 by omega], Int.le_refl _, .inr rfl, HE0.out⟩
  case round =>
    clear HE0
    obtain ⟨P, rfl, rfl, hp1, hp2, he⟩ := hrel
    have HP := Lib.hid (show P ≤ P0 ∧ (placeOf M ≤ P ∨ P = P0) from ⟨hp1, hp2⟩)
    have HPB := Lib.hid (show -201 ≤ P ∧ P ≤ 76 by have := HB.out; have := HPL.out; omega)
    have HE := Lib.hid he
    clear hp1 hp2 he
    by_cases hlt : placeOf M < P
    · have HC := Lib.hid (show fcmp .geq .f64 (cn .f64 (Yp M P)) (cn .f64 4609434218613702656) = true by
        rw [cn_c15, cn_Yp HM.out (by have := HPB.out; omega) (by have := HPB.out; omega), geq15 HM.out (by have := HPB.out; omega) (by have := HPB.out; omega), decide_eq_true hlt])
      have HLT := Lib.hid hlt
      have x1 : IntKind.i64.wrap (P0 - P + 1) = P0 - (P - 1) := by have := HB.out; have := HPB.out; rw [IntWalk.i64_in _ (by omega)]; omega
      clear hlt
      go_wp2_with (first
        | (refine wpList_fcmp rfl .geq _ _ _ _ rfl rfl _ _ _ rfl rfl _ HC.out ?_)
        | (refine wpList_float rfl .quo _ _ _ _ rfl (by decide) _ _ _ rfl rfl ?_; intro r1 n1 q1; obtain rfl := eq_Yp (P := P - 1) HM.out (by have := HPB.out; omega) (by have := HPB.out; omega) (by rw [show cn .f64 r1 = _ from q1, cn_two64, cn_Yp HM.out (by have := HPB.out; omega) (by have := HPB.out; omega)]; exact Yp_half HM.out (by have := HPB.out; omega) (by have := HPB.out; omega)); clear q1))
      generalize hzz : P0 - (P - 1) = zz at *
      go_roundw
      case rel => exact ⟨P - 1, rfl, by rw [hzz], by have := HP.out; omega, .inl (by have := HLT.out; omega), by have := HE.out; (repeat first | with_reducible exact Ext.rfl' _ | with_reducible refine Ext.drewN ?_ _ | with_reducible refine Ext.drew' ?_ | with_reducible refine Ext.alloc' ?_ _ | with_reducible refine Ext.setCell_at ?_ _ _ _ (by first | exact Nat.le_refl _ | omega) | with_reducible assumption | refine Ext.trans ?_ (by with_reducible assumption))⟩
      case measure =>
        rw [plc_Yp HM.out (by have := HPB.out; omega) (by have := HPB.out; omega), plc_Yp HM.out (by have := HPB.out; omega) (by have := HPB.out; omega)]
        have := HLT.out
        omega
    · have HC := Lib.hid (show fcmp .geq .f64 (cn .f64 (Yp M P)) (cn .f64 4609434218613702656) = false by
        rw [cn_c15, cn_Yp HM.out (by have := HPB.out; omega) (by have := HPB.out; omega), geq15 HM.out (by have := HPB.out; omega) (by have := HPB.out; omega), decide_eq_false hlt])
      have HGE := Lib.hid (show P ≤ placeOf M by omega)
      clear hlt
      rename World => w2
      go_wp2_with (first
        | (refine wpList_fcmp rfl .geq _ _ _ _ rfl rfl _ _ _ rfl rfl _ HC.out ?_))
      clear HC
      go_simp
      go_loopw [0, 3] (fun v e wr => ∃ (P : Int), v = .float .f64 (Yp M P) ∧ e = .int .i64 (P0 - P) ∧ P ≤ placeOf M ∧ -201 ≤ P ∧ (P0 ≤ P ∨ P = placeOf M) ∧ Ext w wr) (fun v _ _ => (placeOf M - plc v).toNat)
      case atStart => exact ⟨P, rfl, rfl, HGE.out, HPB.out.1, by have := HP.out; have := HGE.out; omega, HE.out⟩
      case round =>
        clear HP HPB HE HGE
        obtain ⟨P, rfl, rfl, hp1, hp2, hp3, he⟩ := hrel
        have HP := Lib.hid (show P ≤ placeOf M ∧ -201 ≤ P ∧ (P0 ≤ P ∨ P = placeOf M) from ⟨hp1, hp2, hp3⟩)
        have HPB := Lib.hid (show -201 ≤ P ∧ P ≤ 76 by have := HPL.out; omega)
        have HE := Lib.hid he
        clear hp1 hp2 hp3 he
        by_cases hlt : P < placeOf M
        · have HC := Lib.hid (show fcmp .lss .f64 (cn .f64 (Yp M P)) (cn .f64 4604930618986332160) = true by
            rw [cn_c075, cn_Yp HM.out (by have := HPB.out; omega) (by have := HPB.out; omega), lss075 HM.out (by have := HPB.out; omega) (by have := HPB.out; omega), decide_eq_true hlt])
          have HLT := Lib.hid hlt
          have x1 : IntKind.i64.wrap (P0 - P - 1) = P0 - (P + 1) := by have := HB.out; have := HPB.out; rw [IntWalk.i64_in _ (by omega)]; omega
          clear hlt
          go_wp2_with (first
            | (refine wpList_fcmp rfl .lss _ _ _ _ rfl rfl _ _ _ rfl rfl _ HC.out ?_)
            | (refine wpList_float rfl .mul _ _ _ _ rfl (by decide) _ _ _ rfl rfl ?_; intro r1 n1 q1; obtain rfl := eq_Yp (P := P + 1) HM.out (by have := HPB.out; omega) (by have := HPB.out; omega) (by rw [show cn .f64 r1 = _ from q1, cn_two64, cn_Yp HM.out (by have := HPB.out; omega) (by have := HPB.out; omega)]; exact Yp_double HM.out (by have := HPB.out; omega) (by have := HPB.out; omega)); clear q1))
          generalize hzz : P0 - (P + 1) = zz at *
          go_roundw
          case rel => exact ⟨P + 1, rfl, by rw [hzz], by have := HLT.out; omega, by have := HP.out; omega, by have := HP.out; have := HLT.out; omega, by have := HE.out; (repeat first | with_reducible exact Ext.rfl' _ | with_reducible refine Ext.drewN ?_ _ | with_reducible refine Ext.drew' ?_ | with_reducible refine Ext.alloc' ?_ _ | with_reducible refine Ext.setCell_at ?_ _ _ _ (by first | exact Nat.le_refl _ | omega) | with_reducible assumption | refine Ext.trans ?_ (by with_reducible assumption))⟩
          case measure =>
            rw [plc_Yp HM.out (by have := HPB.out; omega) (by have := HPB.out; omega), plc_Yp HM.out (by have := HPB.out; omega) (by have := HPB.out; omega)]
            have := HLT.out
            omega
        · have HC := Lib.hid (show fcmp .lss .f64 (cn .f64 (Yp M P)) (cn .f64 4604930618986332160) = false by
            rw [cn_c075, cn_Yp HM.out (by have := HPB.out; omega) (by have := HPB.out; omega), lss075 HM.out (by have := HPB.out; omega) (by have := HPB.out; omega), decide_eq_false hlt])
          obtain rfl : P = placeOf M := by have := HP.out; omega
          clear hlt HP HPB
          rename World => w3
          go_upto_region 14 with (first
            | (refine wpList_fcmp rfl .lss _ _ _ _ rfl rfl _ _ _ rfl rfl _ HC.out ?_))
          clear HC
          have HY := Lib.hid (cn_Yp HM.out (P := placeOf M) (by have := HPL.out; omega) (by have := HPL.out; omega))
          go_wp2_with (first | (refine wpList_float rfl _ _ _ _ _ rfl (by decide) _ _ _ rfl rfl ?_; intro r4 n4 q4; have HQ := Lib.hid q4; clear q4))
          rename_i ra na HA rb nb HB2 rs ns HS KK hKK
          have HSS := Lib.hid (show cn .f64 rs = logS (Yp M (placeOf M)) by unfold logS; rw [show cn .f64 rs = _ from HS.out, show cn .f64 ra = _ from HA.out, show cn .f64 rb = _ from HB2.out, HY.out, cn_one64])
          have HU := Lib.hid (show cn .f64 r4 = logU (Yp M (placeOf M)) by unfold logU; rw [← HSS.out]; exact HQ.out)
          have HX3 := Lib.hid (show Ext w (w3.drewN (na + nb + ns + n4)) by have := HE.out; (repeat first | with_reducible exact Ext.rfl' _ | with_reducible refine Ext.drewN ?_ _ | with_reducible refine Ext.drew' ?_ | with_reducible refine Ext.alloc' ?_ _ | with_reducible refine Ext.setCell_at ?_ _ _ _ (by first | exact Nat.le_refl _ | omega) | with_reducible assumption | refine Ext.trans ?_ (by with_reducible assumption)))
          clear HA HB2 HS HQ HY
          go_loopw [6, 7] (fun q i wr => ∃ (n r : Nat), n ≤ 13 ∧ i = .int .i64 (25 - 2 * n) ∧ q = .float .f64 r ∧ cn .f64 r = logQ (logU (Yp M (placeOf M))) n ∧ Ext w wr) (fun _ i _ => (intOf i + 1).toNat)
          case atStart => exact ⟨0, _, by omega, rfl, rfl, cn_zero64, HX3.out⟩
          case round =>
            obtain ⟨n, r5, hn, rfl, rfl, hr5, he5⟩ := hrel
            rename World => w5
            have HR5 := Lib.hid hr5
            have HE5 := Lib.hid he5
            clear hr5 he5
            by_cases hk : (1 : Int) ≤ 25 - 2 * (n : Int)
            · have x1 : IntKind.i64.wrap (25 - 2 * (n : Int) - 2) = 25 - 2 * ((n + 1 : Nat) : Int) := by rw [IntWalk.i64_in _ (by omega)]; omega
              go_wp2_with (first | (refine wpList_float rfl _ _ _ _ _ rfl (by decide) _ _ _ rfl rfl ?_; intro r6 n6 q6; have HQ := Lib.hid q6; clear q6))
              rename_i a1 k1 HA1 a2 k2 HA2
              have HFIN := Lib.hid (show cn .f64 r6 = logQ (logU (Yp M (placeOf M))) (n + 1) by
                unfold logQ
                rw [show cn .f64 r6 = _ from HQ.out, show cn .f64 a1 = _ from HA1.out, show cn .f64 a2 = _ from HA2.out, HU.out, HR5.out, cn_one64, cn_int64, show ((25 - 2 * n : Nat) : Int) = 25 - 2 * (n : Int) by omega])
              clear HA1 HA2 HQ
              generalize hzz : (25 : Int) - 2 * ((n + 1 : Nat) : Int) = zz at *
              go_roundw
              case rel => exact ⟨n + 1, r6, by omega, by simp, rfl, HFIN.out, by have := HE5.out; (repeat first | with_reducible exact Ext.rfl' _ | with_reducible refine Ext.drewN ?_ _ | with_reducible refine Ext.drew' ?_ | with_reducible refine Ext.alloc' ?_ _ | with_reducible refine Ext.setCell_at ?_ _ _ _ (by first | exact Nat.le_refl _ | omega) | with_reducible assumption | refine Ext.trans ?_ (by with_reducible assumption))⟩
              case measure => simp only [intOf]; omega
            · have hn13 : n = 13 := by omega
              subst hn13
              go_wp2_with (first | (refine wpList_float rfl _ _ _ _ _ rfl (by decide) _ _ _ rfl rfl ?_; intro r6 n6 q6; have HQ := Lib.hid q6; clear q6))
              rename_i b1 k1 HB1 b2 k2 HB3 b3 k3 HB4
              go_ret
              refine ⟨by have := HE5.out; (repeat first | with_reducible exact Ext.rfl' _ | with_reducible refine Ext.drewN ?_ _ | with_reducible refine Ext.drew' ?_ | with_reducible refine Ext.alloc' ?_ _ | with_reducible refine Ext.setCell_at ?_ _ _ _ (by first | exact Nat.le_refl _ | omega) | with_reducible assumption | refine Ext.trans ?_ (by with_reducible assumption)), _, rfl, ?_⟩
              unfold logN logR
              rw [show cn .f64 r6 = _ from HQ.out, show cn .f64 b2 = _ from HB3.out, show cn .f64 b1 = _ from HB1.out, show cn .f64 b3 = _ from HB4.out, HSS.out, HR5.out, cn_int64, cn_two64, cn_ln2]

end Go.Proofs.Ytbaohbpfnlicpaa
