/- Walks: the program's logarithm. -/
import Derived.Test.YtbaohbpfnlicpaaE3
import Derived.Test.YtbaohbpfnlicpaaV1
import Derived.Deep.DeepCutAuto
namespace Go.Proofs.Ytbaohbpfnlicpaa
open Go Go.RowKit
set_option linter.unusedVariables false
set_option linter.unusedSimpArgs false
attribute [local go_sem] run_store_float

theorem cn_two64 : cn .f64 4611686018427387904 = two64 := by decide
theorem cn_c15 : cn .f64 4609434218613702656 = c15 := by decide
theorem cn_c075 : cn .f64 4604930618986332160 = c075 := by decide
theorem cn_ln2 : cn .f64 4604418534313441775 = ln2 := by decide
theorem cn_int64 (n : Int) : cn .f64 (floatOfInt .f64 n) = floatOfInt .f64 n := cn_of_not (read_write_nearest Ieee.double _ _ _)
theorem cn_Yp {M : Nat} {P : Int} (h : Norm M) (h1 : -1074 ≤ P) (h2 : P ≤ 971) : cn .f64 (Yp M P) = Yp M P := cn_num (Yp_read h h1 h2)
theorem eq_Yp {M r : Nat} {P : Int} (h : Norm M) (h1 : -1074 ≤ P) (h2 : P ≤ 971) (hr : cn .f64 r = Yp M P) : r = Yp M P := by
  rw [← hr]; symm; refine cn_of_not ?_
  rw [← isN_cn, hr]; unfold isN; rw [Yp_read h h1 h2]; rfl
/-- the place of a float's significand -/
def plc (v : Value) : Int := match v with
  | .float _ b => (match FloatKind.f64.decode b with | .number _ _ p => p | _ => 0)
  | _ => 0
theorem plc_Yp {M : Nat} {P : Int} (h : Norm M) (h1 : -1074 ≤ P) (h2 : P ≤ 971) : plc (.float .f64 (Yp M P)) = P := by
  unfold plc; dsimp only; rw [Yp_read h h1 h2]

set_option maxRecDepth 100000 in
set_option maxHeartbeats 1600000 in
theorem logOf_any {M : Nat} {P0 : Int} (h : Norm M) (h1 : -201 ≤ P0) (h2 : P0 ≤ 76) (w : World) : Calls Try.prog 174 #[.float .f64 (Yp M P0)] w fun e w' => Ext w w' ∧ ∃ r, e = .returned (.float .f64 r) ∧ cn .f64 r = logN M P0 := by
  have HM := Lib.hid h
  have HB := Lib.hid (show -201 ≤ P0 ∧ P0 ≤ 76 from ⟨h1, h2⟩)
  have HPL := Lib.hid (show -53 ≤ placeOf M ∧ placeOf M ≤ -52 by have := place_in M; omega)
  clear h h1 h2
  go_enter Try.func174, Try.ntmps174
  go_wp2_with fail
  go_loopw [0, 3] (fun v e wr => ∃ (P : Int) (r : Nat), v = .float .f64 (Yp M P) ∧ e = .float .f64 r ∧ cn .f64 r = floatOfInt .f64 (P0 - P) ∧ P0 ≤ P ∧ (P ≤ placeOf M ∨ P = P0) ∧ Ext w wr) (fun v _ _ => (placeOf M - plc v).toNat)
  case atStart => exact ⟨P0, 0, rfl, rfl, by rw [cn_zero64, show P0 - P0 = 0 by omega]; decide, Int.le_refl _, .inr rfl, Ext.rfl' _⟩
  case round =>
    obtain ⟨P, r, rfl, rfl, hr, hp1, hp2, he⟩ := hrel
    have HR := Lib.hid hr
    have HP := Lib.hid (show P0 ≤ P ∧ (P ≤ placeOf M ∨ P = P0) from ⟨hp1, hp2⟩)
    have HPB := Lib.hid (show -201 ≤ P ∧ P ≤ 76 by have := HB.out; have := HPL.out; omega)
    have HE := Lib.hid he
    clear hr hp1 hp2 he
    by_cases hlt : P < placeOf M
    · have HC := Lib.hid (show fcmp .lss .f64 (cn .f64 (Yp M P)) (cn .f64 4604930618986332160) = true by
        rw [cn_c075, cn_Yp HM.out (by have := HPB.out; omega) (by have := HPB.out; omega), lss075 HM.out (by have := HPB.out; omega) (by have := HPB.out; omega), decide_eq_true hlt])
      have HLT := Lib.hid hlt
      clear hlt
      go_wp2_with (first
        | (refine wpList_fcmp rfl .lss _ _ _ _ rfl rfl _ _ _ rfl rfl _ HC.out ?_)
        | (refine wpList_float rfl .mul _ _ _ _ rfl (by decide) _ _ _ rfl rfl ?_; intro r1 n1 q1; obtain rfl := eq_Yp (P := P + 1) HM.out (by have := HPB.out; omega) (by have := HPB.out; omega) (by rw [show cn .f64 r1 = _ from q1, cn_two64, cn_Yp HM.out (by have := HPB.out; omega) (by have := HPB.out; omega)]; exact Yp_double HM.out (by have := HPB.out; omega) (by have := HPB.out; omega)); clear q1)
        | (refine wpList_float rfl .sub _ _ _ _ rfl (by decide) _ _ _ rfl rfl ?_; intro r2 n2 q2; have HQ2 := Lib.hid q2; clear q2))
      have hd := float_dec (P0 - P) (by have := HPB.out; have := HB.out; have := HLT.out; have := HPL.out; omega) (by have := HPB.out; have := HP.out; omega)
      rw [← HR.out, ← cn_one64, show P0 - P - 1 = P0 - (P + 1) by omega] at hd
      refine ⟨⟨P + 1, r2, rfl, rfl, (show cn .f64 r2 = _ from HQ2.out).trans hd, by have := HP.out; omega, .inl (by have := HLT.out; omega), by have := HE.out; (repeat first | with_reducible exact Ext.rfl' _ | with_reducible refine Ext.drewN ?_ _ | with_reducible refine Ext.drew' ?_ | with_reducible refine Ext.alloc' ?_ _ | with_reducible refine Ext.setCell_at ?_ _ _ _ (by first | exact Nat.le_refl _ | omega) | with_reducible assumption | refine Ext.trans ?_ (by with_reducible assumption))⟩, ?_⟩
      rw [plc_Yp HM.out (by have := HPB.out; omega) (by have := HPB.out; omega), plc_Yp HM.out (by have := HPB.out; omega) (by have := HPB.out; omega)]
      have := HLT.out
      omega
    · have HC := Lib.hid (show fcmp .lss .f64 (cn .f64 (Yp M P)) (cn .f64 4604930618986332160) = false by
        rw [cn_c075, cn_Yp HM.out (by have := HPB.out; omega) (by have := HPB.out; omega), lss075 HM.out (by have := HPB.out; omega) (by have := HPB.out; omega), decide_eq_false hlt])
      have HGE := Lib.hid (show placeOf M ≤ P by omega)
      clear hlt
      rename World => w1
      go_wp2_with (first
        | (refine wpList_fcmp rfl .lss _ _ _ _ rfl rfl _ _ _ rfl rfl _ HC.out ?_))
      clear HC
      go_simp
      go_loopw [0, 3] (fun v e wr => ∃ (P : Int) (r : Nat), v = .float .f64 (Yp M P) ∧ e = .float .f64 r ∧ cn .f64 r = floatOfInt .f64 (P0 - P) ∧ placeOf M ≤ P ∧ P ≤ 76 ∧ (P ≤ P0 ∨ P = placeOf M) ∧ Ext w wr) (fun v _ _ => (plc v - placeOf M).toNat)
      case atStart => exact ⟨P, r, rfl, rfl, HR.out, HGE.out, HPB.out.2, by have := HP.out; have := HGE.out; omega, HE.out⟩
      case round =>
        clear HR HP HPB HE HGE
        obtain ⟨P, r, rfl, rfl, hr, hp1, hp2, hp3, he⟩ := hrel
        have HR := Lib.hid hr
        have HP := Lib.hid (show placeOf M ≤ P ∧ P ≤ 76 ∧ (P ≤ P0 ∨ P = placeOf M) from ⟨hp1, hp2, hp3⟩)
        have HPB := Lib.hid (show -201 ≤ P ∧ P ≤ 76 by have := HPL.out; omega)
        have HE := Lib.hid he
        clear hr hp1 hp2 hp3 he
        by_cases hlt : placeOf M < P
        · have HC := Lib.hid (show fcmp .geq .f64 (cn .f64 (Yp M P)) (cn .f64 4609434218613702656) = true by
            rw [cn_c15, cn_Yp HM.out (by have := HPB.out; omega) (by have := HPB.out; omega), geq15 HM.out (by have := HPB.out; omega) (by have := HPB.out; omega), decide_eq_true hlt])
          have HLT := Lib.hid hlt
          clear hlt
          go_wp2_with (first
            | (refine wpList_fcmp rfl .geq _ _ _ _ rfl rfl _ _ _ rfl rfl _ HC.out ?_)
            | (refine wpList_float rfl .quo _ _ _ _ rfl (by decide) _ _ _ rfl rfl ?_; intro r1 n1 q1; obtain rfl := eq_Yp (P := P - 1) HM.out (by have := HPB.out; omega) (by have := HPB.out; omega) (by rw [show cn .f64 r1 = _ from q1, cn_two64, cn_Yp HM.out (by have := HPB.out; omega) (by have := HPB.out; omega)]; exact Yp_half HM.out (by have := HPB.out; omega) (by have := HPB.out; omega)); clear q1)
            | (refine wpList_float rfl .add _ _ _ _ rfl (by decide) _ _ _ rfl rfl ?_; intro r2 n2 q2; have HQ2 := Lib.hid q2; clear q2))
          have hd := float_inc (P0 - P) (by have := HPB.out; have := HB.out; have := HP.out; have := HPL.out; have := HLT.out; omega) (by have := HPL.out; have := HP.out; have := HB.out; omega)
          rw [← HR.out, ← cn_one64, show P0 - P + 1 = P0 - (P - 1) by omega] at hd
          refine ⟨⟨P - 1, r2, rfl, rfl, (show cn .f64 r2 = _ from HQ2.out).trans hd, by have := HLT.out; omega, by have := HP.out; omega, by have := HP.out; have := HLT.out; omega, by have := HE.out; (repeat first | with_reducible exact Ext.rfl' _ | with_reducible refine Ext.drewN ?_ _ | with_reducible refine Ext.drew' ?_ | with_reducible refine Ext.alloc' ?_ _ | with_reducible refine Ext.setCell_at ?_ _ _ _ (by first | exact Nat.le_refl _ | omega) | with_reducible assumption | refine Ext.trans ?_ (by with_reducible assumption))⟩, ?_⟩
          rw [plc_Yp HM.out (by have := HPB.out; omega) (by have := HPB.out; omega), plc_Yp HM.out (by have := HPB.out; omega) (by have := HPB.out; omega)]
          have := HLT.out
          omega
        · have HC := Lib.hid (show fcmp .geq .f64 (cn .f64 (Yp M P)) (cn .f64 4609434218613702656) = false by
            rw [cn_c15, cn_Yp HM.out (by have := HPB.out; omega) (by have := HPB.out; omega), geq15 HM.out (by have := HPB.out; omega) (by have := HPB.out; omega), decide_eq_false hlt])
          obtain rfl : P = placeOf M := by have := HP.out; omega
          clear hlt HP HPB
          rename World => w2
          go_upto_region 8 with (first
            | (refine wpList_fcmp rfl .geq _ _ _ _ rfl rfl _ _ _ rfl rfl _ HC.out ?_))
          clear HC
          have HY := Lib.hid (cn_Yp HM.out (P := placeOf M) (by have := HPL.out; omega) (by have := HPL.out; omega))
          go_wp2_with (first | (refine wpList_float rfl _ _ _ _ _ rfl (by decide) _ _ _ rfl rfl ?_; intro r4 n4 q4; have HQ := Lib.hid q4; clear q4))
          rename_i ra na HA rb nb HB2 rs ns HS KK hKK
          have HSS := Lib.hid (show cn .f64 rs = logS (Yp M (placeOf M)) by unfold logS; rw [show cn .f64 rs = _ from HS.out, show cn .f64 ra = _ from HA.out, show cn .f64 rb = _ from HB2.out, HY.out, cn_one64])
          have HU := Lib.hid (show cn .f64 r4 = logU (Yp M (placeOf M)) by unfold logU; rw [← HSS.out]; exact HQ.out)
          have HX3 := Lib.hid (show Ext w (w2.drewN (na + nb + ns + n4)) by have := HE.out; (repeat first | with_reducible exact Ext.rfl' _ | with_reducible refine Ext.drewN ?_ _ | with_reducible refine Ext.drew' ?_ | with_reducible refine Ext.alloc' ?_ _ | with_reducible refine Ext.setCell_at ?_ _ _ _ (by first | exact Nat.le_refl _ | omega) | with_reducible assumption | refine Ext.trans ?_ (by with_reducible assumption)))
          clear HA HB2 HS HQ HY
          go_loopw [6, 7] (fun q i wr => ∃ (n r : Nat), n ≤ 13 ∧ i = .int .i64 (25 - 2 * n) ∧ q = .float .f64 r ∧ cn .f64 r = logQ (logU (Yp M (placeOf M))) n ∧ Ext w wr) (fun _ i _ => (intOf i + 1).toNat)
          case atStart => exact ⟨0, _, by omega, rfl, rfl, cn_zero64, HX3.out⟩
          case round =>
            obtain ⟨n, r5, hn, rfl, rfl, hr5, he5⟩ := hrel
            rename World => w5
            have HR5 := Lib.hid hr5
            have HE5 := Lib.hid he5
            clear hr5 he5
            by_cases hk : (1 : Int) ≤ 25 - 2 * (n : Int)
            · have x1 : IntKind.i64.wrap (25 - 2 * (n : Int) - 2) = 25 - 2 * ((n + 1 : Nat) : Int) := by rw [IntWalk.i64_in _ (by omega)]; omega
              go_wp2_with (first | (refine wpList_float rfl _ _ _ _ _ rfl (by decide) _ _ _ rfl rfl ?_; intro r6 n6 q6; have HQ := Lib.hid q6; clear q6))
              rename_i a1 k1 HA1 a2 k2 HA2
              have HFIN := Lib.hid (show cn .f64 r6 = logQ (logU (Yp M (placeOf M))) (n + 1) by
                unfold logQ
                rw [show cn .f64 r6 = _ from HQ.out, show cn .f64 a1 = _ from HA1.out, show cn .f64 a2 = _ from HA2.out, HU.out, HR5.out, cn_one64, cn_int64, show ((25 - 2 * n : Nat) : Int) = 25 - 2 * (n : Int) by omega])
              clear HA1 HA2 HQ
              generalize hzz : (25 : Int) - 2 * ((n + 1 : Nat) : Int) = zz at *
              go_roundw
              case rel => exact ⟨n + 1, r6, by omega, by simp, rfl, HFIN.out, by have := HE5.out; (repeat first | with_reducible exact Ext.rfl' _ | with_reducible refine Ext.drewN ?_ _ | with_reducible refine Ext.drew' ?_ | with_reducible refine Ext.alloc' ?_ _ | with_reducible refine Ext.setCell_at ?_ _ _ _ (by first | exact Nat.le_refl _ | omega) | with_reducible assumption | refine Ext.trans ?_ (by with_reducible assumption))⟩
              case measure => simp only [intOf]; omega
            · have hn13 : n = 13 := by omega
              subst hn13
              go_wp2_with (first | (refine wpList_float rfl _ _ _ _ _ rfl (by decide) _ _ _ rfl rfl ?_; intro r6 n6 q6; have HQ := Lib.hid q6; clear q6))
              rename_i b1 k1 HB1 b2 k2 HB3 b3 k3 HB4
              go_ret
              refine ⟨by have := HE5.out; (repeat first | with_reducible exact Ext.rfl' _ | with_reducible refine Ext.drewN ?_ _ | with_reducible refine Ext.drew' ?_ | with_reducible refine Ext.alloc' ?_ _ | with_reducible refine Ext.setCell_at ?_ _ _ _ (by first | exact Nat.le_refl _ | omega) | with_reducible assumption | refine Ext.trans ?_ (by with_reducible assumption)), _, rfl, ?_⟩
              unfold logN logR
              rw [show cn .f64 r6 = _ from HQ.out, show cn .f64 b2 = _ from HB3.out, show cn .f64 b1 = _ from HB1.out, show cn .f64 b3 = _ from HB4.out, HSS.out, HR5.out, HR.out, cn_two64, cn_ln2]

end Go.Proofs.Ytbaohbpfnlicpaa
