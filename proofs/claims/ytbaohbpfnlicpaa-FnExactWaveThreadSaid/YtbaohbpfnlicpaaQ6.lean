/- Walks: a waved ring, by the program. -/
import Derived.Test.YtbaohbpfnlicpaaQ5
import Derived.Test.YtbaohbpfnlicpaaQ4
import Derived.Deep.RegionLaw
namespace Go.Proofs.Ytbaohbpfnlicpaa
open Go Go.RowKit
set_option linter.unusedVariables false
set_option linter.unusedSimpArgs false
attribute [local go_sem] run_store_float

theorem fmul_fun (t : TypeId) (x y : Nat) : ∃ (r n : World → Nat), (∀ w, (binOp .mul t (.float .f32 x) (.float .f32 y)).run Try.prog w = .ok (.float .f32 (r w)) (w.drewN (n w))) ∧ ∀ w, cn .f32 (r w) = fop .mul .f32 (cn .f32 x) (cn .f32 y) := by
  have h := fun w => run_float Try.prog .mul (.inr (.inr (.inl rfl))) t .f32 x y w
  exact ⟨fun w => Classical.choose (h w), fun w => Classical.choose (Classical.choose_spec (h w)), fun w => (Classical.choose_spec (Classical.choose_spec (h w))).1, fun w => (Classical.choose_spec (Classical.choose_spec (h w))).2⟩
/-- from block b on lie a count, a number of waves and a size -/
def AtW (b m W q : Nat) (w : World) : Prop := b + 2 < w.heap.size ∧ w.cell? ⟨b, 0, none⟩ = some (.int .i64 m) ∧ w.cell? ⟨b + 1, 0, none⟩ = some (.int .i64 W) ∧ w.cell? ⟨b + 2, 0, none⟩ = some (.float .f32 q)
theorem AtW.ext {b m W q : Nat} {w w' : World} (h : AtW b m W q w) (he : Ext w w') : AtW b m W q w' :=
  ⟨Nat.lt_of_lt_of_le h.1 he.size, (he.cell (p := ⟨b, 0, none⟩) (show b < _ by have := h.1; omega)).trans h.2.1, (he.cell (p := ⟨b + 1, 0, none⟩) (show b + 1 < _ by have := h.1; omega)).trans h.2.2.1, (he.cell (p := ⟨b + 2, 0, none⟩) h.1).trans h.2.2.2⟩
set_option maxRecDepth 100000 in
set_option maxHeartbeats 3200000 in
theorem Wave1_any (b m W q k : Nat) (hm : m ≤ 32) (hW : W ≤ 12) (hk : k < m) (w : World) (h : AtW b m W q w) : Calls Try.prog 154 #[.int .i64 k, .pointer (some ⟨b + 2, 0, none⟩), .pointer (some ⟨b + 1, 0, none⟩), .pointer (some ⟨b, 0, none⟩)] w fun e w' => Ext w w' ∧ ∃ r, e = .returned (.float .f32 r) ∧ cn .f32 r = waveH m W (cn .f32 q) k := by
  have HAT := Lib.hid h
  obtain ⟨hb, c0, c1, c2⟩ := h
  have hm0 : 0 < m := by omega
  have hmod : k * W % m < m := Nat.mod_lt _ hm0
  have hkw : k * W ≤ 32 * 12 := Nat.mul_le_mul (by omega) hW
  have hcast : ((k * W : Nat) : Int) = (k : Int) * (W : Int) := Int.natCast_mul k W
  have hqz : ∀ w, (binOp .quo 22 (.float .f32 (floatOfInt .f32 ((k * W % m : Nat) : Int))) (.float .f32 (floatOfInt .f32 m))).run Try.prog w = .ok (.float .f32 (shareP ((k * W % m : Nat) : Int) m)) w := fun w => run_float_arith w .quo 22 .f32 _ _ _ (share_some (k * W % m) m (by omega) hm (by omega))
  have HSZ := Lib.hid (cn_share (k * W % m) m (by omega) hm (by omega))
  have x1 : IntKind.i64.wrap ((k : Int) * (W : Int)) = ((k * W : Nat) : Int) := by rw [← hcast]; exact IntWalk.i64_in _ (by omega)
  have x2 : ((k * W : Nat) : Int).tmod (m : Int) = ((k * W % m : Nat) : Int) := by rw [Int.tmod_eq_emod_of_nonneg (by omega)]; rfl
  have x3 : IntKind.i64.wrap ((k * W % m : Nat) : Int) = ((k * W % m : Nat) : Int) := IntWalk.i64_in _ (by omega)
  have x4 : ¬ ((m : Int) = 0) := by omega
  have x5 : ¬ m = 0 := by omega
  have HWH := Lib.hid (show waveH m W (cn .f32 q) k = fop .mul .f32 (cn .f32 q) (sineP (shareP ((k * W % m : Nat) : Int) m)) from rfl)
  clear hcast hkw hm hW
  generalize k * W % m = KM at *
  generalize hKW : k * W = KW at *
  have HKW := Lib.hid hKW
  clear hKW
  go_enter Try.func154, Try.ntmps154
  go_wp2_with fail
  go_region_law (first
    | (go_simp; go_at_call 155; refine (SineTurns_any _ _).mono ?_; rintro e w6 ⟨he6, rc, rfl, hrc⟩; have HRC := Lib.hid (show cn .f32 rc = sineP (shareP KM m) by rw [hrc, HSZ.out]); have HX6 := Lib.hid (show Ext w w6 from Ext.trans (Ext.drew' (Ext.rfl' _)) he6); obtain ⟨rm, nm, hmm, hmv⟩ := fmul_fun 22 q rc; have HMV := Lib.hid hmv; have k2 : w6.cell? ⟨b + 2, 0, none⟩ = some (.float .f32 q) := (HAT.out.ext HX6.out).2.2.2; clear he6 hrc hmv))
  all_goals
    go_wp2_with fail
    go_ret
    refine ⟨by have := HX6.out; (repeat first | with_reducible exact Ext.rfl' _ | with_reducible refine Ext.drewN ?_ _ | with_reducible refine Ext.drew' ?_ | with_reducible refine Ext.alloc' ?_ _ | with_reducible refine Ext.setCell_at ?_ _ _ _ (by first | exact Nat.le_refl _ | omega) | with_reducible assumption | refine Ext.trans ?_ (by with_reducible assumption)), _, rfl, ?_⟩
    rw [HMV.out, HRC.out, HWH.out]
theorem height_wave (b m W q : Nat) (hm : m ≤ 32) (hW : W ≤ 12) : HeightF 154 #[.pointer (some ⟨b + 2, 0, none⟩), .pointer (some ⟨b + 1, 0, none⟩), .pointer (some ⟨b, 0, none⟩)] (AtW b m W q) m (waveH m W (cn .f32 q)) :=
  ⟨fun args w => by go_simp, fun k w hk h => Wave1_any b m W q k hm hW hk w h, fun w w' h he => h.ext he⟩
theorem ringedWave_any (b : Nat) (n waves : Int) (radius size sp : Nat) (w : World) (hok : (decide (0 ≤ waves) && decide (waves ≤ 12)) = true) (hb : b + 2 < w.heap.size) (c0 : w.cell? ⟨b, 0, none⟩ = some (.int .i64 n)) (c1 : w.cell? ⟨b + 1, 0, none⟩ = some (.int .i64 waves)) (c2 : w.cell? ⟨b + 2, 0, none⟩ = some (.float .f32 size)) :
    Calls Try.prog 151 #[.int .i64 n, .float .f32 radius, .float .f32 sp, .func (.func 154) #[] #[.pointer (some ⟨b + 2, 0, none⟩), .pointer (some ⟨b + 1, 0, none⟩), .pointer (some ⟨b, 0, none⟩)]] w fun e w' => Ext w w' ∧ RT w w' e (ringP n (cn .f32 radius) (waveH n.toNat waves.toNat (cn .f32 size)) (cn .f32 sp)) := by
  unfold ringP
  cases h : ringOk n (cn .f32 radius) with
  | false => exact ringedNo_any n radius sp _ _ w h
  | true =>
    unfold ringOk at h
    simp only [Bool.and_eq_true, decide_eq_true_eq] at h hok
    obtain ⟨m, rfl⟩ : ∃ m : Nat, n = m := ⟨n.toNat, by omega⟩
    obtain ⟨W, rfl⟩ : ∃ W : Nat, waves = W := ⟨waves.toNat, by omega⟩
    exact ringedYes_any m radius sp _ _ _ _ (height_wave b m W size (by omega) (by omega)) w ⟨hb, c0, c1, c2⟩ (by omega) (by omega) h.2
set_option maxRecDepth 100000 in
theorem implWave_any (n waves : Int) (radius size sp : Nat) (w : World) :
    Calls Try.prog 76 #[.int .i64 n, .int .i64 waves, .float .f32 radius, .float .f32 size, .float .f32 sp] w fun e w' => Ext w w' ∧ RT w w' e (waveP n waves (cn .f32 radius) (cn .f32 size) (cn .f32 sp)) := by
  have HB0 := Lib.hid (show Blk ((((w.alloc (.cells #[.int .i64 n] 2)).alloc (.cells #[.int .i64 waves] 2)).alloc (.cells #[.float .f32 size] 22)).alloc (.cells #[.slice none 0 0, .float .f32 0] 48)) (w.heap.size + 3) 48 #[.slice none 0 0, .float .f32 0] from Blk.at_ _ _ _ _ (by simp))
  have HE0 := Lib.hid (show Ext w ((((w.alloc (.cells #[.int .i64 n] 2)).alloc (.cells #[.int .i64 waves] 2)).alloc (.cells #[.float .f32 size] 22)).alloc (.cells #[.slice none 0 0, .float .f32 0] 48)) by (repeat first | with_reducible exact Ext.rfl' _ | with_reducible refine Ext.drewN ?_ _ | with_reducible refine Ext.drew' ?_ | with_reducible refine Ext.alloc' ?_ _ | with_reducible refine Ext.setCell_at ?_ _ _ _ (by first | exact Nat.le_refl _ | omega) | with_reducible assumption | refine Ext.trans ?_ (by with_reducible assumption)))
  have HC0 := Lib.hid (show ((((w.alloc (.cells #[.int .i64 n] 2)).alloc (.cells #[.int .i64 waves] 2)).alloc (.cells #[.float .f32 size] 22)).alloc (.cells #[.slice none 0 0, .float .f32 0] 48)).cell? ⟨w.heap.size, 0, none⟩ = some (.int .i64 n) by go_simp)
  have HC1 := Lib.hid (show ((((w.alloc (.cells #[.int .i64 n] 2)).alloc (.cells #[.int .i64 waves] 2)).alloc (.cells #[.float .f32 size] 22)).alloc (.cells #[.slice none 0 0, .float .f32 0] 48)).cell? ⟨w.heap.size + 1, 0, none⟩ = some (.int .i64 waves) by go_simp)
  have HC2 := Lib.hid (show ((((w.alloc (.cells #[.int .i64 n] 2)).alloc (.cells #[.int .i64 waves] 2)).alloc (.cells #[.float .f32 size] 22)).alloc (.cells #[.slice none 0 0, .float .f32 0] 48)).cell? ⟨w.heap.size + 2, 0, none⟩ = some (.float .f32 size) by go_simp)
  unfold waveP waveOk
  cases hm : decide (0 ≤ waves) && decide (waves ≤ 12) with
  | false =>
    have HM := Lib.hid hm
    clear hm
    go_enter Try.func76, Try.ntmps76
    go_wp2_with fail
    generalize (((w.alloc (.cells #[.int .i64 n] 2)).alloc (.cells #[.int .i64 waves] 2)).alloc (.cells #[.float .f32 size] 22)).alloc (.cells #[.slice none 0 0, .float .f32 0] 48) = W1 at *
    have r0 : W1.cell? ⟨w.heap.size + 3, 0, none⟩ = some (.slice none 0 0) := HB0.out.cell 0
    have r1 : W1.cell? ⟨w.heap.size + 3, 1, none⟩ = some (.float .f32 0) := HB0.out.cell 1
    have rf0 := HB0.out.frozen 0
    have rf1 := HB0.out.frozen 1
    refine (in_any _ _ _ _ HM.out _).mono ?_
    rintro e wq ⟨rfl, rfl⟩
    go_wp2_with fail
    obtain ⟨-, -, c0, c1, hE, -, -⟩ := giveNo w _ _ _ _ _ HE0.out HB0.out (by omega)
    exact bodyPost_ret (v := .tuple #[.agg #[.slice none 0 0, .float .f32 0], .bool false]) (by simp [results, Try.results76, go_sem, c0, c1]) rfl ⟨hE, none, 0, 0, rfl, fun h => absurd h (Nat.lt_irrefl 0), cn_zero32⟩
  | true =>
    have HM := Lib.hid hm
    clear hm
    rw [Bool.true_and]
    cases hs : finF (cn .f32 size) with
    | false =>
      have HS := Lib.hid hs
      clear hs
      go_enter Try.func76, Try.ntmps76
      go_wp2_with fail
      generalize (((w.alloc (.cells #[.int .i64 n] 2)).alloc (.cells #[.int .i64 waves] 2)).alloc (.cells #[.float .f32 size] 22)).alloc (.cells #[.slice none 0 0, .float .f32 0] 48) = W1 at *
      refine (in_any _ _ _ _ HM.out _).mono ?_
      rintro e wq ⟨rfl, rfl⟩
      have k2 := HC2.out
      go_wp2_with fail
      refine (IsFinite_any _ false HS.out _).mono ?_
      rintro e w2 ⟨he, rfl⟩
      have HB2 := Lib.hid (HB0.out.ext he)
      have HE2 := Lib.hid (Ext.trans HE0.out he)
      have r0 : w2.cell? ⟨w.heap.size + 3, 0, none⟩ = some (.slice none 0 0) := HB2.out.cell 0
      have r1 : w2.cell? ⟨w.heap.size + 3, 1, none⟩ = some (.float .f32 0) := HB2.out.cell 1
      have rf0 := HB2.out.frozen 0
      have rf1 := HB2.out.frozen 1
      clear he k2
      go_wp2_with fail
      obtain ⟨-, -, c0, c1, hE, -, -⟩ := giveNo w _ _ _ _ _ HE2.out HB2.out (by omega)
      exact bodyPost_ret (v := .tuple #[.agg #[.slice none 0 0, .float .f32 0], .bool false]) (by simp [results, Try.results76, go_sem, c0, c1]) rfl ⟨hE, none, 0, 0, rfl, fun h => absurd h (Nat.lt_irrefl 0), cn_zero32⟩
    | true =>
      have HS := Lib.hid hs
      clear hs
      rw [if_pos rfl]
      obtain ⟨P, hP⟩ : ∃ P, ringP n (cn .f32 radius) (waveH n.toNat waves.toNat (cn .f32 size)) (cn .f32 sp) = P := ⟨_, rfl⟩
      rw [hP]
      obtain ⟨pb, ds, ps⟩ := P
      have HP := Lib.hid hP
      clear hP
      go_enter Try.func76, Try.ntmps76
      go_wp2_with fail
      generalize (((w.alloc (.cells #[.int .i64 n] 2)).alloc (.cells #[.int .i64 waves] 2)).alloc (.cells #[.float .f32 size] 22)).alloc (.cells #[.slice none 0 0, .float .f32 0] 48) = W1 at *
      refine (in_any _ _ _ _ HM.out _).mono ?_
      rintro e wq ⟨rfl, rfl⟩
      have k2 := HC2.out
      go_wp2_with fail
      refine (IsFinite_any _ true HS.out _).mono ?_
      rintro e w2 ⟨he, rfl⟩
      have hz1 := HB0.out.lt
      have HB2 := Lib.hid (HB0.out.ext he)
      have HE2 := Lib.hid (Ext.trans HE0.out he)
      have k0 : w2.cell? ⟨w.heap.size, 0, none⟩ = some (.int .i64 n) := (he.cell (p := ⟨w.heap.size, 0, none⟩) (show w.heap.size < _ by omega)).trans HC0.out
      have k1 : w2.cell? ⟨w.heap.size + 1, 0, none⟩ = some (.int .i64 waves) := (he.cell (p := ⟨w.heap.size + 1, 0, none⟩) (show w.heap.size + 1 < _ by omega)).trans HC1.out
      have k3 : w2.cell? ⟨w.heap.size + 2, 0, none⟩ = some (.float .f32 size) := (he.cell (p := ⟨w.heap.size + 2, 0, none⟩) (show w.heap.size + 2 < _ by omega)).trans HC2.out
      have hz2 := HB2.out.lt
      clear he k2
      go_wp2_with fail
      refine (ringedWave_any w.heap.size n waves radius size sp w2 HM.out (by omega) k0 k1 k3).mono ?_
      rintro e w6 ⟨he6, hrt⟩
      obtain ⟨A0, cap0, s0, rfl, hv6, hs6⟩ := RT.three hrt HP.out
      have HR6 := Lib.hid (HB2.out.ext he6)
      have HE6 := Lib.hid (Ext.trans HE2.out he6)
      have HV6 := Lib.hid hv6
      have HS6 := Lib.hid hs6
      have r0 : w6.cell? ⟨w.heap.size + 3, 0, none⟩ = some (.slice none 0 0) := HR6.out.cell 0
      have r1 : w6.cell? ⟨w.heap.size + 3, 1, none⟩ = some (.float .f32 0) := HR6.out.cell 1
      have rf0 := HR6.out.frozen 0
      have rf1 := HR6.out.frozen 1
      clear he6 hv6 hs6 hrt
      go_wp2_with fail
      have hla := Laid.set (w0 := w) (g := w.heap.size + 3) HE6.out HV6.out HE2.out.size HR6.out (by omega) hz2 cap0 s0
      obtain ⟨-, -, c0, c1, hE, hv, -⟩ := hla
      refine bodyPost_ret (v := .tuple #[.agg #[.slice A0 ds.length cap0, .float .f32 s0], .bool pb]) (by simp [results, Try.results76, go_sem, c0, c1]) rfl ⟨hE, A0, cap0, s0, rfl, hv, HS6.out⟩
end Go.Proofs.Ytbaohbpfnlicpaa
