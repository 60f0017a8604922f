/- Walks: the program's sine. -/
import Derived.Test.YtbaohbpfnlicpaaV1
import Derived.Deep.DeepCutAuto
namespace Go.Proofs.Ytbaohbpfnlicpaa
open Go Go.RowKit
set_option linter.unusedVariables false
set_option linter.unusedSimpArgs false
attribute [local go_sem] run_store_float

theorem roundP_int (u q : Nat) (K : Nat) (h1 : 1 ≤ K) (h8 : K ≤ 8) (a b : Nat) (ha : cn .f64 a = fop .mul .f64 u (polyP u (8 - K))) (hb : cn .f64 b = fop .quo .f64 (cn .f64 a) (cn .f64 (floatOfInt .f64 (2 * (K : Int) * (2 * (K : Int) + 1))))) (hq : cn .f64 q = fop .sub .f64 (cn .f64 4607182418800017408) (cn .f64 b)) : cn .f64 q = polyP u (8 - (K - 1)) := by
  rw [show 8 - (K - 1) = (8 - K) + 1 by omega]
  unfold polyP roundP
  have hcf : ∀ m : Int, cn .f64 (floatOfInt .f64 m) = floatOfInt .f64 m := fun m => cn_of_not (read_write_nearest Ieee.double _ _ _)
  rw [hq, hb, ha, cn_one64, show 8 - (8 - K) = K by omega, hcf]
  rw [show ((2 * K * (2 * K + 1) : Nat) : Int) = 2 * (K : Int) * (2 * (K : Int) + 1) by simp only [Int.natCast_mul, Int.natCast_add]; rfl]
theorem mul_bnd {K : Nat} (h8 : K ≤ 8) : 0 ≤ 2 * (K : Int) * (2 * (K : Int) + 1) ∧ 2 * (K : Int) * (2 * (K : Int) + 1) ≤ 272 := by
  have : 2 * K * (2 * K + 1) ≤ 16 * 17 := Nat.mul_le_mul (by omega) (by omega)
  have e : ((2 * K * (2 * K + 1) : Nat) : Int) = 2 * (K : Int) * (2 * (K : Int) + 1) := by simp only [Int.natCast_mul, Int.natCast_add]; rfl
  omega

set_option maxRecDepth 100000 in
theorem sine_any {y : Nat} {s : Bool} {m : Nat} {p : Int} (h : FloatKind.f64.decode y = .number s m p) (hb : isBig y = false) (w : World) : Calls Try.prog 189 #[.float .f64 y] w fun e w' => Ext w w' ∧ ∃ r, e = .returned (.float .f64 r) ∧ cn .f64 r = sinW y := by
  have HY := Lib.hid h
  have HB := Lib.hid hb
  obtain ⟨F, hF⟩ : ∃ F, upP (fracP y) = F := ⟨_, rfl⟩
  obtain ⟨B, hB⟩ : ∃ B, isBelow F = B := ⟨_, rfl⟩
  have HF := Lib.hid hF
  have HBW := Lib.hid hB
  clear h hb hF hB
  go_enter Try.func189, Try.ntmps189
  go_wp2_with fail
  refine (partOf_any HY.out HB.out _).mono ?_
  rintro e w1 ⟨he1, r0, rfl, hr0⟩
  have HE1 := Lib.hid he1
  have HR0 := Lib.hid (hr0.trans HF.out)
  clear he1 hr0
  go_upto_if 13 with (first
    | (have hk1 : fcmp .geq .f64 (cn .f64 r0) (cn .f64 4602678819172646912) = B := (by rw [HR0.out, cn_half64]; exact HBW.out); refine wpList_fcmp rfl _ _ _ _ _ rfl rfl _ _ _ rfl rfl _ hk1 ?_; clear hk1))
  go_cut [3, 4] (fun v b wx => ∃ r, v = .float .f64 r ∧ cn .f64 r = downP F ∧ b = .bool B ∧ Ext w wx)
  case first =>
    cases B with
    | true =>
      go_wp2_with (first | (refine wpList_float rfl _ _ _ _ _ rfl (by decide) _ _ _ rfl rfl ?_; intro r1 n1 q1) | (refine wpList_fcmp rfl _ _ _ _ _ rfl rfl _ _ _ rfl rfl _ (by first | with_reducible assumption | rfl) ?_) | (refine wpList_fneg rfl _ _ rfl _ _ rfl ?_; intro r1 q1))
      go_meet
      case rel => exact ⟨_, rfl, by unfold downP; rw [HBW.out, if_pos rfl, show cn .f64 r1 = _ from q1, HR0.out, cn_half64], rfl, by have := HE1.out; (repeat first | with_reducible exact Ext.rfl' _ | with_reducible refine Ext.drewN ?_ _ | with_reducible refine Ext.drew' ?_ | with_reducible refine Ext.alloc' ?_ _ | with_reducible refine Ext.setCell_at ?_ _ _ _ (by first | exact Nat.le_refl _ | omega) | with_reducible assumption | refine Ext.trans ?_ (by with_reducible assumption))⟩
    | false =>
      go_wp2_with (first | (refine wpList_float rfl _ _ _ _ _ rfl (by decide) _ _ _ rfl rfl ?_; intro r1 n1 q1) | (refine wpList_fcmp rfl _ _ _ _ _ rfl rfl _ _ _ rfl rfl _ (by first | with_reducible assumption | rfl) ?_) | (refine wpList_fneg rfl _ _ rfl _ _ rfl ?_; intro r1 q1))
      go_meet
      case rel => exact ⟨_, rfl, by unfold downP; rw [HBW.out]; exact HR0.out, rfl, HE1.out⟩
  case rest =>
    obtain ⟨r2, rfl, hr2, rfl, he2⟩ := hcut
    have HR2 := Lib.hid hr2
    have HE2 := Lib.hid he2
    obtain ⟨C, hC⟩ : ∃ C, fcmp .gtr .f64 (downP F) quart64 = C := ⟨_, rfl⟩
    have HC := Lib.hid hC
    clear hr2 he2 HE1 hC
    go_upto_if 17 with (first
      | (have hk1 : fcmp .gtr .f64 (cn .f64 r2) (cn .f64 4598175219545276416) = C := (by rw [HR2.out, cn_quart64]; exact HC.out); refine wpList_fcmp rfl _ _ _ _ _ rfl rfl _ _ _ rfl rfl _ hk1 ?_; clear hk1))
    go_simp
    go_cut [3] (fun v wx => ∃ r, v = .float .f64 r ∧ cn .f64 r = foldP (downP F) ∧ Ext w wx)
    case first =>
      cases C with
      | true =>
        go_wp2_with (first | (refine wpList_float rfl _ _ _ _ _ rfl (by decide) _ _ _ rfl rfl ?_; intro r1 n1 q1) | (refine wpList_fcmp rfl _ _ _ _ _ rfl rfl _ _ _ rfl rfl _ (by first | with_reducible assumption | rfl) ?_) | (refine wpList_fneg rfl _ _ rfl _ _ rfl ?_; intro r1 q1))
        go_meet
        case rel => exact ⟨_, rfl, by unfold foldP; rw [HC.out, if_pos rfl, show cn .f64 r1 = _ from q1, HR2.out, cn_half64], by have := HE2.out; (repeat first | with_reducible exact Ext.rfl' _ | with_reducible refine Ext.drewN ?_ _ | with_reducible refine Ext.drew' ?_ | with_reducible refine Ext.alloc' ?_ _ | with_reducible refine Ext.setCell_at ?_ _ _ _ (by first | exact Nat.le_refl _ | omega) | with_reducible assumption | refine Ext.trans ?_ (by with_reducible assumption))⟩
      | false =>
        go_wp2_with (first | (refine wpList_float rfl _ _ _ _ _ rfl (by decide) _ _ _ rfl rfl ?_; intro r1 n1 q1) | (refine wpList_fcmp rfl _ _ _ _ _ rfl rfl _ _ _ rfl rfl _ (by first | with_reducible assumption | rfl) ?_) | (refine wpList_fneg rfl _ _ rfl _ _ rfl ?_; intro r1 q1))
        go_meet
        case rel => exact ⟨_, rfl, by unfold foldP; rw [HC.out]; exact HR2.out, HE2.out⟩
    case rest =>
      obtain ⟨r3, rfl, hr3, he3⟩ := hcut
      have HR3 := Lib.hid hr3
      have HE3 := Lib.hid he3
      clear hr3 he3 HE2 HR2 HC
      go_wp2_with (first | (refine wpList_float rfl _ _ _ _ _ rfl (by decide) _ _ _ rfl rfl ?_; intro r4 n4 q4; have HQ := Lib.hid q4; clear q4))
      rename_i z5 n5 HZ KK hKK
      have HZ2 := Lib.hid (show cn .f64 z5 = tailZ F by unfold tailZ; rw [← HR3.out, ← cn_turn64]; exact HZ.out)
      have HU := Lib.hid (show cn .f64 r4 = fop .mul .f64 (tailZ F) (tailZ F) by rw [← HZ2.out]; exact HQ.out)
      have HX := Lib.hid (show Ext w (wc.drewN (n5 + n4)) by have := HE3.out; (repeat first | with_reducible exact Ext.rfl' _ | with_reducible refine Ext.drewN ?_ _ | with_reducible refine Ext.drew' ?_ | with_reducible refine Ext.alloc' ?_ _ | with_reducible refine Ext.setCell_at ?_ _ _ _ (by first | exact Nat.le_refl _ | omega) | with_reducible assumption | refine Ext.trans ?_ (by with_reducible assumption)))
      clear HZ HQ
      go_loopw [7, 8] (fun q i wr => ∃ (K : Nat) (r : Nat), K ≤ 8 ∧ i = .int .i64 K ∧ q = .float .f64 r ∧ cn .f64 r = polyP (fop .mul .f64 (tailZ F) (tailZ F)) (8 - K) ∧ Ext w wr) (fun _ i _ => (intOf i).toNat)
      case atStart => exact ⟨8, _, by omega, rfl, rfl, cn_one64, HX.out⟩
      case round =>
        obtain ⟨K, r5, hK, rfl, rfl, hr5, he5⟩ := hrel
        have HR5 := Lib.hid hr5
        have HE5 := Lib.hid he5
        clear hr5 he5
        by_cases hk : (1 : Int) ≤ K
        · obtain ⟨m0, m1⟩ := mul_bnd hK
          have x1 : IntKind.i64.wrap (2 * (K : Int)) = 2 * (K : Int) := IntWalk.i64_in _ (by omega)
          have x2 : IntKind.i64.wrap (2 * (K : Int) + 1) = 2 * (K : Int) + 1 := IntWalk.i64_in _ (by omega)
          have x3 : IntKind.i64.wrap (2 * (K : Int) * (2 * (K : Int) + 1)) = 2 * (K : Int) * (2 * (K : Int) + 1) := IntWalk.i64_in _ (by omega)
          have x4 : IntKind.i64.wrap ((K : Int) - 1) = ((K - 1 : Nat) : Int) := by rw [IntWalk.i64_in _ (by omega)]; omega
          clear m0 m1
          go_wp2_with (first | (refine wpList_float rfl _ _ _ _ _ rfl (by decide) _ _ _ rfl rfl ?_; intro r6 n6 q6; have HQ := Lib.hid q6; clear q6))
          rename_i a1 k1 HA1 a2 k2 HA2
          have hfin := roundP_int (fop .mul .f64 (tailZ F) (tailZ F)) r6 K (by omega) hK a1 a2 (by rw [← HR5.out, ← HU.out]; exact HA1.out) HA2.out HQ.out
          have HFIN := Lib.hid hfin
          clear hfin HA1 HA2 HQ
          go_roundw
          case rel => exact ⟨K - 1, r6, by omega, rfl, rfl, HFIN.out, by have := HE5.out; (repeat first | with_reducible exact Ext.rfl' _ | with_reducible refine Ext.drewN ?_ _ | with_reducible refine Ext.drew' ?_ | with_reducible refine Ext.alloc' ?_ _ | with_reducible refine Ext.setCell_at ?_ _ _ _ (by first | exact Nat.le_refl _ | omega) | with_reducible assumption | refine Ext.trans ?_ (by with_reducible assumption))⟩
          case measure => simp only [intOf]; omega
        · have HK0 := Lib.hid (show K = 0 by omega)
          have HFR := Lib.hid (show ∀ r, cn .f64 r = fop .mul .f64 (cn .f64 z5) (cn .f64 r5) → cn .f64 r = tailR F by
            intro r hr
            unfold tailR
            rw [hr, HZ2.out, HR5.out, HK0.out])
          cases B with
          | true =>
            go_wp2_with (first
              | (refine wpList_fneg rfl _ _ rfl _ _ rfl ?_; intro r7 q7; have HN := Lib.hid q7; clear q7)
              | (refine wpList_float rfl _ _ _ _ _ rfl (by decide) _ _ _ rfl rfl ?_; intro r6 n6 q6; have HQ := Lib.hid q6; clear q6))
            go_ret
            refine ⟨by have := HE5.out; (repeat first | with_reducible exact Ext.rfl' _ | with_reducible refine Ext.drewN ?_ _ | with_reducible refine Ext.drew' ?_ | with_reducible refine Ext.alloc' ?_ _ | with_reducible refine Ext.setCell_at ?_ _ _ _ (by first | exact Nat.le_refl _ | omega) | with_reducible assumption | refine Ext.trans ?_ (by with_reducible assumption)), _, rfl, ?_⟩
            show _ = sinW y; unfold sinW; rw [HF.out]
            unfold tailP
            rw [HBW.out, if_pos rfl, show cn .f64 r7 = _ from HN.out, HFR.out _ HQ.out]
          | false =>
            go_wp2_with (first
              | (refine wpList_float rfl _ _ _ _ _ rfl (by decide) _ _ _ rfl rfl ?_; intro r6 n6 q6; have HQ := Lib.hid q6; clear q6))
            go_ret
            refine ⟨by have := HE5.out; (repeat first | with_reducible exact Ext.rfl' _ | with_reducible refine Ext.drewN ?_ _ | with_reducible refine Ext.drew' ?_ | with_reducible refine Ext.alloc' ?_ _ | with_reducible refine Ext.setCell_at ?_ _ _ _ (by first | exact Nat.le_refl _ | omega) | with_reducible assumption | refine Ext.trans ?_ (by with_reducible assumption)), _, rfl, ?_⟩
            show _ = sinW y; unfold sinW; rw [HF.out]
            unfold tailP
            rw [HBW.out, HFR.out _ HQ.out]
            rfl
end Go.Proofs.Ytbaohbpfnlicpaa
