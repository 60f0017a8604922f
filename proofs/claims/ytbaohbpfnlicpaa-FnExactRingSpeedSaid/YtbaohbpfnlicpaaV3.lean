/- Walks: the reference's sine. -/
import Derived.Test.YtbaohbpfnlicpaaV2
namespace Go.Proofs.Ytbaohbpfnlicpaa
open Go Go.RowKit
set_option linter.unusedVariables false
set_option linter.unusedSimpArgs false
attribute [local go_sem] run_store_float

theorem run_from64 (x : Nat) (w : World) : (callFunc 198 #[.int .u64 x]).run Try.prog w = .ok (.value (.float .f64 x)) w := by
  rw [run_callFunc_extern Try.func198 (by kernel_rfl) (by kernel_rfl) (by kernel_rfl) (e := Extern.MathFloatBits.float64frombits) (by kernel_rfl)]
  rfl
theorem NaN_any (w : World) : Calls Try.prog 196 #[] w fun e w' => Ext w w' ∧ e = .returned (.float .f64 9221120237041090561) := by
  have hf : ∀ w, (callFunc 198 #[.int .u64 9221120237041090561]).run Try.prog w = .ok (.value (.float .f64 9221120237041090561)) w := fun W => run_from64 9221120237041090561 W
  go_enter Try.func196, Try.ntmps196
  go_wp2_with fail
  go_ret
  exact ⟨by (repeat first | with_reducible exact Ext.rfl' _ | with_reducible refine Ext.drewN ?_ _ | with_reducible refine Ext.drew' ?_ | with_reducible refine Ext.alloc' ?_ _ | with_reducible refine Ext.setCell_at ?_ _ _ _ (by first | exact Nat.le_refl _ | omega) | with_reducible assumption | refine Ext.trans ?_ (by with_reducible assumption)), rfl⟩
theorem cn_NaN : cn .f64 9221120237041090561 = qn .f64 := by decide

set_option maxRecDepth 100000 in
theorem wideNaN_any (Y : Nat) (hn : noFin (cn .f64 Y) = true) (w : World) : Calls Try.prog 187 #[.float .f64 Y] w fun e w' => Ext w w' ∧ ∃ r, e = .returned (.float .f64 r) ∧ cn .f64 r = wideP (cn .f64 Y) := by
  have HP := Lib.hid (show wideP (cn .f64 Y) = qn .f64 by unfold wideP; rw [hn]; rfl)
  have HN := Lib.hid hn
  clear hn
  go_enter Try.func187, Try.ntmps187
  go_wp2_with (first
    | (go_at_call 196; refine (NaN_any _).mono ?_; rintro e w1 ⟨he1, rfl⟩)
    | (refine wpList_float rfl _ _ _ _ _ rfl (by decide) _ _ _ rfl rfl ?_; intro r1 n1 q1; have HQ1 := Lib.hid q1; clear q1)
    | (have hk1 : fcmp .neq .f64 (cn .f64 r1) (cn .f64 0) = true := (by rw [show cn .f64 r1 = _ from HQ1.out, cn_zero64]; exact HN.out); refine wpList_fcmp rfl _ _ _ _ _ rfl rfl _ _ _ rfl rfl _ hk1 ?_))
  go_ret
  exact ⟨by (repeat first | with_reducible exact Ext.rfl' _ | with_reducible refine Ext.drewN ?_ _ | with_reducible refine Ext.drew' ?_ | with_reducible refine Ext.alloc' ?_ _ | with_reducible refine Ext.setCell_at ?_ _ _ _ (by first | exact Nat.le_refl _ | omega) | with_reducible assumption | refine Ext.trans ?_ (by with_reducible assumption)), _, rfl, by rw [HP.out]; exact cn_NaN⟩
set_option maxRecDepth 100000 in
theorem wideBig_any (Y : Nat) (hn : noFin (cn .f64 Y) = false) (hb : isBig (cn .f64 Y) = true) (w : World) : Calls Try.prog 187 #[.float .f64 Y] w fun e w' => Ext w w' ∧ ∃ r, e = .returned (.float .f64 r) ∧ cn .f64 r = wideP (cn .f64 Y) := by
  have HP := Lib.hid (show wideP (cn .f64 Y) = 0 by unfold wideP; rw [hn, hb]; rfl)
  have HN := Lib.hid hn
  unfold isBig at hb
  cases hg : fcmp .geq .f64 (cn .f64 Y) big64 with
  | true =>
    have HG := Lib.hid hg
    clear hn hb hg
    go_enter Try.func187, Try.ntmps187
    go_wp2_with (first
      | (refine wpList_float rfl _ _ _ _ _ rfl (by decide) _ _ _ rfl rfl ?_; intro r1 n1 q1; have HQ1 := Lib.hid q1; clear q1)
      | (have hk2 : fcmp .geq .f64 (cn .f64 Y) (cn .f64 4841369599423283200) = true := (by rw [cn_big64]; exact HG.out); refine wpList_fcmp rfl _ _ _ _ _ rfl rfl _ _ _ rfl rfl _ hk2 ?_)
      | (have hk1 : fcmp .neq .f64 (cn .f64 r1) (cn .f64 0) = false := (by rw [show cn .f64 r1 = _ from HQ1.out, cn_zero64]; exact HN.out); refine wpList_fcmp rfl _ _ _ _ _ rfl rfl _ _ _ rfl rfl _ hk1 ?_))
    go_ret
    exact ⟨by (repeat first | with_reducible exact Ext.rfl' _ | with_reducible refine Ext.drewN ?_ _ | with_reducible refine Ext.drew' ?_ | with_reducible refine Ext.alloc' ?_ _ | with_reducible refine Ext.setCell_at ?_ _ _ _ (by first | exact Nat.le_refl _ | omega) | with_reducible assumption | refine Ext.trans ?_ (by with_reducible assumption)), _, rfl, by rw [HP.out]; exact cn_zero64⟩
  | false =>
    rw [hg, Bool.false_or] at hb
    have HG := Lib.hid hg
    have HL := Lib.hid hb
    clear hn hb hg
    go_enter Try.func187, Try.ntmps187
    go_wp2_with (first
      | (refine wpList_float rfl _ _ _ _ _ rfl (by decide) _ _ _ rfl rfl ?_; intro r1 n1 q1; have HQ1 := Lib.hid q1; clear q1)
      | (have hk2 : fcmp .geq .f64 (cn .f64 Y) (cn .f64 4841369599423283200) = false := (by rw [cn_big64]; exact HG.out); refine wpList_fcmp rfl _ _ _ _ _ rfl rfl _ _ _ rfl rfl _ hk2 ?_)
      | (have hk3 : fcmp .leq .f64 (cn .f64 Y) (cn .f64 14064741636278059008) = true := (by rw [cn_nbig64]; exact HL.out); refine wpList_fcmp rfl _ _ _ _ _ rfl rfl _ _ _ rfl rfl _ hk3 ?_)
      | (have hk1 : fcmp .neq .f64 (cn .f64 r1) (cn .f64 0) = false := (by rw [show cn .f64 r1 = _ from HQ1.out, cn_zero64]; exact HN.out); refine wpList_fcmp rfl _ _ _ _ _ rfl rfl _ _ _ rfl rfl _ hk1 ?_))
    go_ret
    exact ⟨by (repeat first | with_reducible exact Ext.rfl' _ | with_reducible refine Ext.drewN ?_ _ | with_reducible refine Ext.drew' ?_ | with_reducible refine Ext.alloc' ?_ _ | with_reducible refine Ext.setCell_at ?_ _ _ _ (by first | exact Nat.le_refl _ | omega) | with_reducible assumption | refine Ext.trans ?_ (by with_reducible assumption)), _, rfl, by rw [HP.out]; exact cn_zero64⟩
set_option maxRecDepth 100000 in
theorem wideSin_any {y : Nat} (hy : y < 18446744073709551616) {s : Bool} {m : Nat} {p : Int} (h : FloatKind.f64.decode y = .number s m p) (hb : isBig y = false) (w : World) : Calls Try.prog 187 #[.float .f64 y] w fun e w' => Ext w w' ∧ ∃ r, e = .returned (.float .f64 r) ∧ cn .f64 r = sinW y := by
  have hcy := cn_num h
  have hnf : noFin y = false := by
    unfold noFin
    rcases self_sub .f64 y with ⟨_, h2⟩ | ⟨h1, _⟩
    · rw [h2]; decide
    · exact absurd h (h1 _ _ _)
  have hb2 := hb
  unfold isBig at hb2
  rw [Bool.or_eq_false_iff] at hb2
  have HN := Lib.hid (show fcmp .neq .f64 (fop .sub .f64 (cn .f64 y) (cn .f64 y)) 0 = false by rw [hcy]; exact hnf)
  have hk2 : fcmp .geq .f64 (cn .f64 y) (cn .f64 4841369599423283200) = false := by rw [hcy, cn_big64]; exact hb2.1
  have hk3 : fcmp .leq .f64 (cn .f64 y) (cn .f64 14064741636278059008) = false := by rw [hcy, cn_nbig64]; exact hb2.2
  obtain ⟨T, hT⟩ : ∃ T, Ieee.signed s (wholeM m p) 0 = T := ⟨_, rfl⟩
  have hcv : ∀ w, (convert 38 2 (.float .f64 y)).run Try.prog w = .ok (.int .i64 T) w := fun w => run_convert_float_int w 38 2 .f64 .i64 y T (by rw [Try.underlying38]; rfl) Try.underlying2 (by rw [← hT]; exact toInt_whole h hb)
  have HSF := Lib.hid (show fop .sub .f64 (cn .f64 y) (cn .f64 (floatOfInt .f64 T)) = fracP y by
    rw [hcy, show cn .f64 (floatOfInt .f64 T) = floatOfInt .f64 T from cn_of_not (read_write_nearest Ieee.double _ _ _), ← hT]
    exact spec_frac hy h)
  obtain ⟨F, hF⟩ : ∃ F, upP (fracP y) = F := ⟨_, rfl⟩
  obtain ⟨B, hB⟩ : ∃ B, isBelow F = B := ⟨_, rfl⟩
  obtain ⟨D, hD⟩ : ∃ D, fcmp .lss .f64 (fracP y) 0 = D := ⟨_, rfl⟩
  have HF := Lib.hid hF
  have HBW := Lib.hid hB
  have HD := Lib.hid hD
  clear hcy hnf hb2 h hb hy hT hF hB hD
  go_enter Try.func187, Try.ntmps187
  go_upto_if 26 with (first
    | (refine wpList_float rfl _ _ _ _ _ rfl (by decide) _ _ _ rfl rfl ?_; intro r1 n1 q1; have HQ1 := Lib.hid q1; clear q1)
    | (refine wpList_fcmp rfl _ _ _ _ _ rfl rfl _ _ _ rfl rfl _ hk2 ?_)
    | (refine wpList_fcmp rfl _ _ _ _ _ rfl rfl _ _ _ rfl rfl _ hk3 ?_)
    | (have hk1 : fcmp .lss .f64 (cn .f64 r1) (cn .f64 0) = D := (by rw [show cn .f64 r1 = fracP y from (show cn .f64 r1 = _ from HQ1.out).trans HSF.out, cn_zero64]; exact HD.out); refine wpList_fcmp rfl _ _ _ _ _ rfl rfl _ _ _ rfl rfl _ hk1 ?_; clear hk1)
    | (have hk1 : fcmp .neq .f64 (cn .f64 r1) (cn .f64 0) = false := (by rw [show cn .f64 r1 = _ from HQ1.out]; exact HN.out); refine wpList_fcmp rfl _ _ _ _ _ rfl rfl _ _ _ rfl rfl _ hk1 ?_; clear hk1))
  go_simp
  have HRF := Lib.hid (show cn .f64 r1 = fracP y from (show cn .f64 r1 = _ from HQ1.out).trans HSF.out)
  go_cut [3] (fun v wx => ∃ r, v = .float .f64 r ∧ cn .f64 r = F ∧ Ext w wx)
  case first =>
    cases D with
    | true =>
      go_wp2_with (first | (refine wpList_float rfl _ _ _ _ _ rfl (by decide) _ _ _ rfl rfl ?_; intro r2 n2 q2; have HQ2 := Lib.hid q2; clear q2))
      go_meet
      case rel => exact ⟨_, rfl, by rw [← HF.out]; unfold upP; rw [HD.out, if_pos rfl, show cn .f64 r2 = _ from HQ2.out, HRF.out, cn_one64], by (repeat first | with_reducible exact Ext.rfl' _ | with_reducible refine Ext.drewN ?_ _ | with_reducible refine Ext.drew' ?_ | with_reducible refine Ext.alloc' ?_ _ | with_reducible refine Ext.setCell_at ?_ _ _ _ (by first | exact Nat.le_refl _ | omega) | with_reducible assumption | refine Ext.trans ?_ (by with_reducible assumption))⟩
    | false =>
      go_wp2_with fail
      go_meet
      case rel => exact ⟨_, rfl, by rw [← HF.out]; unfold upP; rw [HD.out]; exact HRF.out, by (repeat first | with_reducible exact Ext.rfl' _ | with_reducible refine Ext.drewN ?_ _ | with_reducible refine Ext.drew' ?_ | with_reducible refine Ext.alloc' ?_ _ | with_reducible refine Ext.setCell_at ?_ _ _ _ (by first | exact Nat.le_refl _ | omega) | with_reducible assumption | refine Ext.trans ?_ (by with_reducible assumption))⟩
  case rest =>
  obtain ⟨r0, rfl, hr0, he0⟩ := hcut
  have HR0 := Lib.hid hr0
  have HE1 := Lib.hid he0
  clear hr0 he0 HQ1 HRF
  go_upto_if 31 with (first
    | (have hk1 : fcmp .geq .f64 (cn .f64 r0) (cn .f64 4602678819172646912) = B := (by rw [HR0.out, cn_half64]; exact HBW.out); refine wpList_fcmp rfl _ _ _ _ _ rfl rfl _ _ _ rfl rfl _ hk1 ?_; clear hk1))
  go_cut [3, 4] (fun v b wx => ∃ r, v = .float .f64 r ∧ cn .f64 r = downP F ∧ b = .bool B ∧ Ext w wx)
  case first =>
    cases B with
    | true =>
      go_wp2_with (first | (refine wpList_float rfl _ _ _ _ _ rfl (by decide) _ _ _ rfl rfl ?_; intro r1 n1 q1) | (refine wpList_fcmp rfl _ _ _ _ _ rfl rfl _ _ _ rfl rfl _ (by first | with_reducible assumption | rfl) ?_) | (refine wpList_fneg rfl _ _ rfl _ _ rfl ?_; intro r1 q1))
      go_meet
      case rel => exact ⟨_, rfl, by unfold downP; rw [HBW.out, if_pos rfl, show cn .f64 r1 = _ from q1, HR0.out, cn_half64], rfl, by have := HE1.out; (repeat first | with_reducible exact Ext.rfl' _ | with_reducible refine Ext.drewN ?_ _ | with_reducible refine Ext.drew' ?_ | with_reducible refine Ext.alloc' ?_ _ | with_reducible refine Ext.setCell_at ?_ _ _ _ (by first | exact Nat.le_refl _ | omega) | with_reducible assumption | refine Ext.trans ?_ (by with_reducible assumption))⟩
    | false =>
      go_wp2_with (first | (refine wpList_float rfl _ _ _ _ _ rfl (by decide) _ _ _ rfl rfl ?_; intro r1 n1 q1) | (refine wpList_fcmp rfl _ _ _ _ _ rfl rfl _ _ _ rfl rfl _ (by first | with_reducible assumption | rfl) ?_) | (refine wpList_fneg rfl _ _ rfl _ _ rfl ?_; intro r1 q1))
      go_meet
      case rel => exact ⟨_, rfl, by unfold downP; rw [HBW.out]; exact HR0.out, rfl, HE1.out⟩
  case rest =>
    obtain ⟨r2, rfl, hr2, rfl, he2⟩ := hcut
    have HR2 := Lib.hid hr2
    have HE2 := Lib.hid he2
    obtain ⟨C, hC⟩ : ∃ C, fcmp .gtr .f64 (downP F) quart64 = C := ⟨_, rfl⟩
    have HC := Lib.hid hC
    clear hr2 he2 HE1 hC
    go_upto_if 35 with (first
      | (have hk1 : fcmp .gtr .f64 (cn .f64 r2) (cn .f64 4598175219545276416) = C := (by rw [HR2.out, cn_quart64]; exact HC.out); refine wpList_fcmp rfl _ _ _ _ _ rfl rfl _ _ _ rfl rfl _ hk1 ?_; clear hk1))
    go_simp
    go_cut [3] (fun v wx => ∃ r, v = .float .f64 r ∧ cn .f64 r = foldP (downP F) ∧ Ext w wx)
    case first =>
      cases C with
      | true =>
        go_wp2_with (first | (refine wpList_float rfl _ _ _ _ _ rfl (by decide) _ _ _ rfl rfl ?_; intro r1 n1 q1) | (refine wpList_fcmp rfl _ _ _ _ _ rfl rfl _ _ _ rfl rfl _ (by first | with_reducible assumption | rfl) ?_) | (refine wpList_fneg rfl _ _ rfl _ _ rfl ?_; intro r1 q1))
        go_meet
        case rel => exact ⟨_, rfl, by unfold foldP; rw [HC.out, if_pos rfl, show cn .f64 r1 = _ from q1, HR2.out, cn_half64], by have := HE2.out; (repeat first | with_reducible exact Ext.rfl' _ | with_reducible refine Ext.drewN ?_ _ | with_reducible refine Ext.drew' ?_ | with_reducible refine Ext.alloc' ?_ _ | with_reducible refine Ext.setCell_at ?_ _ _ _ (by first | exact Nat.le_refl _ | omega) | with_reducible assumption | refine Ext.trans ?_ (by with_reducible assumption))⟩
      | false =>
        go_wp2_with (first | (refine wpList_float rfl _ _ _ _ _ rfl (by decide) _ _ _ rfl rfl ?_; intro r1 n1 q1) | (refine wpList_fcmp rfl _ _ _ _ _ rfl rfl _ _ _ rfl rfl _ (by first | with_reducible assumption | rfl) ?_) | (refine wpList_fneg rfl _ _ rfl _ _ rfl ?_; intro r1 q1))
        go_meet
        case rel => exact ⟨_, rfl, by unfold foldP; rw [HC.out]; exact HR2.out, HE2.out⟩
    case rest =>
      obtain ⟨r3, rfl, hr3, he3⟩ := hcut
      have HR3 := Lib.hid hr3
      have HE3 := Lib.hid he3
      clear hr3 he3 HE2 HR2 HC
      go_wp2_with (first | (refine wpList_float rfl _ _ _ _ _ rfl (by decide) _ _ _ rfl rfl ?_; intro r4 n4 q4; have HQ := Lib.hid q4; clear q4))
      rename_i z5 n5 HZ KK hKK
      have HZ2 := Lib.hid (show cn .f64 z5 = tailZ F by unfold tailZ; rw [← HR3.out, ← cn_turn64]; exact HZ.out)
      have HU := Lib.hid (show cn .f64 r4 = fop .mul .f64 (tailZ F) (tailZ F) by rw [← HZ2.out]; exact HQ.out)
      have HX := Lib.hid (show Ext w (wc.drewN (n5 + n4)) by have := HE3.out; (repeat first | with_reducible exact Ext.rfl' _ | with_reducible refine Ext.drewN ?_ _ | with_reducible refine Ext.drew' ?_ | with_reducible refine Ext.alloc' ?_ _ | with_reducible refine Ext.setCell_at ?_ _ _ _ (by first | exact Nat.le_refl _ | omega) | with_reducible assumption | refine Ext.trans ?_ (by with_reducible assumption)))
      clear HZ HQ
      go_loopw [7, 8] (fun q i wr => ∃ (K : Nat) (r : Nat), K ≤ 8 ∧ i = .int .i64 K ∧ q = .float .f64 r ∧ cn .f64 r = polyP (fop .mul .f64 (tailZ F) (tailZ F)) (8 - K) ∧ Ext w wr) (fun _ i _ => (intOf i).toNat)
      case atStart => exact ⟨8, _, by omega, rfl, rfl, cn_one64, HX.out⟩
      case round =>
        obtain ⟨K, r5, hK, rfl, rfl, hr5, he5⟩ := hrel
        have HR5 := Lib.hid hr5
        have HE5 := Lib.hid he5
        clear hr5 he5
        by_cases hk : (1 : Int) ≤ K
        · obtain ⟨m0, m1⟩ := mul_bnd hK
          have x1 : IntKind.i64.wrap (2 * (K : Int)) = 2 * (K : Int) := IntWalk.i64_in _ (by omega)
          have x2 : IntKind.i64.wrap (2 * (K : Int) + 1) = 2 * (K : Int) + 1 := IntWalk.i64_in _ (by omega)
          have x3 : IntKind.i64.wrap (2 * (K : Int) * (2 * (K : Int) + 1)) = 2 * (K : Int) * (2 * (K : Int) + 1) := IntWalk.i64_in _ (by omega)
          have x4 : IntKind.i64.wrap ((K : Int) - 1) = ((K - 1 : Nat) : Int) := by rw [IntWalk.i64_in _ (by omega)]; omega
          clear m0 m1
          go_wp2_with (first | (refine wpList_float rfl _ _ _ _ _ rfl (by decide) _ _ _ rfl rfl ?_; intro r6 n6 q6; have HQ := Lib.hid q6; clear q6))
          rename_i a1 k1 HA1 a2 k2 HA2
          have hfin := roundP_int (fop .mul .f64 (tailZ F) (tailZ F)) r6 K (by omega) hK a1 a2 (by rw [← HR5.out, ← HU.out]; exact HA1.out) HA2.out HQ.out
          have HFIN := Lib.hid hfin
          clear hfin HA1 HA2 HQ
          go_roundw
          case rel => exact ⟨K - 1, r6, by omega, rfl, rfl, HFIN.out, by have := HE5.out; (repeat first | with_reducible exact Ext.rfl' _ | with_reducible refine Ext.drewN ?_ _ | with_reducible refine Ext.drew' ?_ | with_reducible refine Ext.alloc' ?_ _ | with_reducible refine Ext.setCell_at ?_ _ _ _ (by first | exact Nat.le_refl _ | omega) | with_reducible assumption | refine Ext.trans ?_ (by with_reducible assumption))⟩
          case measure => simp only [intOf]; omega
        · have HK0 := Lib.hid (show K = 0 by omega)
          have HFR := Lib.hid (show ∀ r, cn .f64 r = fop .mul .f64 (cn .f64 z5) (cn .f64 r5) → cn .f64 r = tailR F by
            intro r hr
            unfold tailR
            rw [hr, HZ2.out, HR5.out, HK0.out])
          cases B with
          | true =>
            go_wp2_with (first
              | (refine wpList_fneg rfl _ _ rfl _ _ rfl ?_; intro r7 q7; have HN := Lib.hid q7; clear q7)
              | (refine wpList_float rfl _ _ _ _ _ rfl (by decide) _ _ _ rfl rfl ?_; intro r6 n6 q6; have HQ := Lib.hid q6; clear q6))
            go_ret
            refine ⟨by have := HE5.out; (repeat first | with_reducible exact Ext.rfl' _ | with_reducible refine Ext.drewN ?_ _ | with_reducible refine Ext.drew' ?_ | with_reducible refine Ext.alloc' ?_ _ | with_reducible refine Ext.setCell_at ?_ _ _ _ (by first | exact Nat.le_refl _ | omega) | with_reducible assumption | refine Ext.trans ?_ (by with_reducible assumption)), _, rfl, ?_⟩
            show _ = sinW y; unfold sinW; rw [HF.out]
            unfold tailP
            rw [HBW.out, if_pos rfl, show cn .f64 r7 = _ from HN.out, HFR.out _ HQ.out]
          | false =>
            go_wp2_with (first
              | (refine wpList_float rfl _ _ _ _ _ rfl (by decide) _ _ _ rfl rfl ?_; intro r6 n6 q6; have HQ := Lib.hid q6; clear q6))
            go_ret
            refine ⟨by have := HE5.out; (repeat first | with_reducible exact Ext.rfl' _ | with_reducible refine Ext.drewN ?_ _ | with_reducible refine Ext.drew' ?_ | with_reducible refine Ext.alloc' ?_ _ | with_reducible refine Ext.setCell_at ?_ _ _ _ (by first | exact Nat.le_refl _ | omega) | with_reducible assumption | refine Ext.trans ?_ (by with_reducible assumption)), _, rfl, ?_⟩
            show _ = sinW y; unfold sinW; rw [HF.out]
            unfold tailP
            rw [HBW.out, HFR.out _ HQ.out]
            rfl

theorem l01SineWide_any (Y : Nat) (hY : cn .f64 Y < 18446744073709551616) (w : World) : Calls Try.prog 187 #[.float .f64 Y] w fun e w' => Ext w w' ∧ ∃ r, e = .returned (.float .f64 r) ∧ cn .f64 r = wideP (cn .f64 Y) := by
  cases hn : noFin (cn .f64 Y) with
  | true => exact wideNaN_any Y hn w
  | false =>
    cases hb : isBig (cn .f64 Y) with
    | true => exact wideBig_any Y hn hb w
    | false =>
      have hnn : isN .f64 Y = false := by
        obtain ⟨s, m, p, h⟩ := noFin_num hn
        rw [← isN_cn]; unfold isN; rw [h]; rfl
      have hw : wideP (cn .f64 Y) = sinW (cn .f64 Y) := by unfold wideP; rw [hn, hb]; rfl
      rw [hw]
      rw [cn_of_not hnn] at *
      obtain ⟨s, m, p, h⟩ := noFin_num hn
      exact wideSin_any hY h hb w
end Go.Proofs.Ytbaohbpfnlicpaa
