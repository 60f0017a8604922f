/- Walks: a waved ring, by the reference. -/
import Derived.Test.YtbaohbpfnlicpaaQ2
namespace Go.Proofs.Ytbaohbpfnlicpaa
open Go Go.RowKit
set_option linter.unusedVariables false
set_option linter.unusedSimpArgs false
attribute [local go_sem] run_store_float

/-- the height of a wave's k-th point -/
def waveH (n waves size k : Nat) : Nat := fop .mul .f32 size (sineP (shareP ((k * waves % n : Nat) : Int) n))
def waveOk (waves : Int) (size : Nat) : Bool := (decide (0 ≤ waves) && decide (waves ≤ 12)) && finF size
def waveP (n waves : Int) (radius size sp : Nat) : Bool × List V3 × Nat := if waveOk waves size then ringP n radius (waveH n.toNat waves.toNat size) sp else (false, [], 0)
theorem waveP_len (n waves : Int) (radius size sp : Nat) : (waveP n waves radius size sp).2.1.length ≤ 1048576 := by
  unfold waveP
  split
  · exact ringP_len _ _ _ _
  · simp
set_option maxRecDepth 100000 in
set_option maxHeartbeats 1600000 in
theorem specWaveYes_any (m W radius size sp : Nat) (w : World) (h3 : 3 ≤ m) (h32 : m ≤ 32) (hw12 : W ≤ 12) (ha : aboveP (cn .f32 radius) = true) (hs : finF (cn .f32 size) = true) :
    Calls Try.prog 75 #[.int .i64 m, .int .i64 W, .float .f32 radius, .float .f32 size, .float .f32 sp] w fun e w' => Ext w w' ∧ RT w w' e (giveV (ringL m (cn .f32 radius) (waveH m W (cn .f32 size)) m) (cn .f32 sp)) := by
  have HM := Lib.hid (show 3 ≤ m ∧ m ≤ 32 from ⟨h3, h32⟩)
  have HA := Lib.hid ha
  have HS := Lib.hid hs
  have HW := Lib.hid hw12
  obtain ⟨i0, hi0, iz0, iz1, iz2⟩ := info_parts infoV
  have HB0 := Lib.hid (Blk.new w 48 #[.slice none 0 0, .float .f32 0])
  have HE0 := Lib.hid (show Ext w (w.alloc (.cells #[.slice none 0 0, .float .f32 0] 48)) by (repeat first | with_reducible exact Ext.rfl' _ | with_reducible refine Ext.drewN ?_ _ | with_reducible refine Ext.drew' ?_ | with_reducible refine Ext.alloc' ?_ _ | with_reducible refine Ext.setCell_at ?_ _ _ _ (by first | exact Nat.le_refl _ | omega) | with_reducible assumption | refine Ext.trans ?_ (by with_reducible assumption)))
  clear h3 h32 ha hs hw12
  go_enter Try.func75, Try.ntmps75
  go_wp2_with fail
  generalize w.alloc (.cells #[.slice none 0 0, .float .f32 0] 48) = W1 at *
  refine (l00In_yes _ _ _ _ (by have := HM.out; omega) (by have := HM.out; omega)).mono ?_
  rintro e wq ⟨rfl, rfl⟩
  go_wp2_with fail
  refine (l00In_yes _ _ _ _ (by omega) (by have := HW.out; omega)).mono ?_
  rintro e wq ⟨rfl, rfl⟩
  go_wp2_with fail
  refine (l02Above_any _ true HA.out _).mono ?_
  rintro e w1 ⟨he1, rfl⟩
  have HE1 := Lib.hid he1
  clear he1
  go_wp2_with fail
  refine (l01Finite_any _ true HS.out _).mono ?_
  rintro e w2 ⟨he2', rfl⟩
  have he2 := Ext.trans HE1.out he2'
  clear he2' HE1
  have HB2 := Lib.hid (HB0.out.ext he2)
  have HE2 := Lib.hid (Ext.trans HE0.out he2)
  have hws : w.heap.size < w2.heap.size := HB2.out.lt
  clear he2 HB0 HE0
  go_wp2_with fail
  have hown : ((w2.alloc (.cells #[] 54)).alloc (.cells #[.slice (some ⟨w2.heap.size, 0, none⟩) 0 0, .float .f32 sp] 48)).ownsRow w2.heap.size 54 3 (.slice (some ⟨w2.heap.size, 0, none⟩) 0 0) 0 [] := (World.ownsRow_made w2 #[] 0 (Nat.le_refl _) (by decide) rfl).alloc _
  have hout : Blk ((w2.alloc (.cells #[] 54)).alloc (.cells #[.slice (some ⟨w2.heap.size, 0, none⟩) 0 0, .float .f32 sp] 48)) (w2.heap.size + 1) 48 #[.slice (some ⟨w2.heap.size, 0, none⟩) 0 0, .float .f32 sp] := Blk.at_ _ _ _ _ (by simp)
  have he3 : Ext w2 ((w2.alloc (.cells #[] 54)).alloc (.cells #[.slice (some ⟨w2.heap.size, 0, none⟩) 0 0, .float .f32 sp] 48)) := by (repeat first | with_reducible exact Ext.rfl' _ | with_reducible refine Ext.drewN ?_ _ | with_reducible refine Ext.drew' ?_ | with_reducible refine Ext.alloc' ?_ _ | with_reducible refine Ext.setCell_at ?_ _ _ _ (by first | exact Nat.le_refl _ | omega) | with_reducible assumption | refine Ext.trans ?_ (by with_reducible assumption))
  generalize (w2.alloc (.cells #[] 54)).alloc (.cells #[.slice (some ⟨w2.heap.size, 0, none⟩) 0 0, .float .f32 sp] 48) = W3 at *
  have HO3 := Lib.hid hown
  have HB3 := Lib.hid hout
  have HE3 := Lib.hid he3
  clear hown hout he3
  go_loopw [13] (fun i wr => ∃ (k gg cp : Nat) (xs : List Value), k ≤ m ∧ i = .int .i64 k ∧ wr.ownsRow w2.heap.size 54 3 (.slice (some ⟨gg, 0, none⟩) k cp) k xs ∧ LVs xs (ringL m (cn .f32 radius) (waveH m W (cn .f32 size)) k) ∧ Blk wr (w2.heap.size + 1) 48 #[.slice (some ⟨gg, 0, none⟩) k cp, .float .f32 sp] ∧ Ext w2 wr) (fun i _ => m - (intOf i).toNat)
  case atStart => exact ⟨0, w2.heap.size, 0, [], Nat.zero_le _, rfl, HO3.out, LVs.nil, HB3.out, HE3.out⟩
  case round =>
    obtain ⟨k, gg, cp, xs, hk, rfl, hown, hlv, hout, hbel⟩ := hrel
    have HOW := Lib.hid hown
    have HLV := Lib.hid hlv
    have HOUT := Lib.hid hout
    have HE := Lib.hid hbel
    clear hown hlv hout hbel
    have q0 : wr.cell? ⟨w2.heap.size + 1, 0, none⟩ = some (.slice (some ⟨gg, 0, none⟩) k cp) := HOUT.out.cell 0
    have q1 : wr.cell? ⟨w2.heap.size + 1, 1, none⟩ = some (.float .f32 sp) := HOUT.out.cell 1
    by_cases hlt : k < m
    · have hm32 : m ≤ 32 := HM.out.2
      have hqb : ∀ w, (binOp .quo 22 (.float .f32 (floatOfInt .f32 k)) (.float .f32 (floatOfInt .f32 m))).run Try.prog w = .ok (.float .f32 (shareP k m)) w := fun w => run_float_arith w .quo 22 .f32 _ _ _ (share_some k m (by omega) hm32 (by omega))
      have HSH := Lib.hid (cn_share k m (by omega) hm32 (by omega))
      have hm0 : 0 < m := by omega
      have hmod : k * W % m < m := Nat.mod_lt _ hm0
      have hkw : k * W ≤ 32 * 12 := Nat.mul_le_mul (by omega) HW.out
      have hcast : ((k * W : Nat) : Int) = (k : Int) * (W : Int) := Int.natCast_mul k W
      have hqz : ∀ w, (binOp .quo 22 (.float .f32 (floatOfInt .f32 ((k * W % m : Nat) : Int))) (.float .f32 (floatOfInt .f32 m))).run Try.prog w = .ok (.float .f32 (shareP ((k * W % m : Nat) : Int) m)) w := fun w => run_float_arith w .quo 22 .f32 _ _ _ (share_some (k * W % m) m (by omega) hm32 (by omega))
      have HSZ := Lib.hid (cn_share (k * W % m) m (by omega) hm32 (by omega))
      have x1 : IntKind.i64.wrap ((k : Int) * (W : Int)) = ((k * W : Nat) : Int) := by rw [← hcast]; exact IntWalk.i64_in _ (by omega)
      have x2 : ((k * W : Nat) : Int).tmod (m : Int) = ((k * W % m : Nat) : Int) := by rw [Int.tmod_eq_emod_of_nonneg (by omega)]; rfl
      have x3 : IntKind.i64.wrap ((k * W % m : Nat) : Int) = ((k * W % m : Nat) : Int) := IntWalk.i64_in _ (by omega)
      have x4 : ¬ ((m : Int) = 0) := by omega
      have HWH := Lib.hid (show waveH m W (cn .f32 size) k = fop .mul .f32 (cn .f32 size) (sineP (shareP ((k * W % m : Nat) : Int) m)) from rfl)
      clear hcast hkw
      generalize k * W % m = KM at *
      generalize hKW : k * W = KW at *
      go_wp2_with fail
      refine (l01Sine_any _ _).mono ?_
      rintro e w4 ⟨he4, rc, rfl, hrc⟩
      have HRC := Lib.hid (show cn .f32 rc = sineP (shareP KM m) by rw [hrc, HSZ.out])
      have HX4 := Lib.hid he4
      clear he4 hrc HSZ
      go_wp2_with (first
        | (refine wpList_float rfl .mul _ _ _ _ rfl (by decide) _ _ _ rfl rfl ?_; intro rz nz qz; have HQZ := Lib.hid qz; clear qz))
      have HZ := Lib.hid (show cn .f32 rz = waveH m W (cn .f32 size) k by rw [HWH.out, show cn .f32 rz = _ from HQZ.out, HRC.out])
      have HXZ := Lib.hid (show Ext wr (w4.drewN nz) from HX4.out.drewN _)
      generalize w4.drewN nz = wz at *
      have tOW := HOW.out.kept (w' := wz) (row := none) ⟨HXZ.out.os, HXZ.out.tape, HXZ.out.output, HXZ.out.size, fun k hk _ => HXZ.out.block k hk⟩ (Or.inr (by simp [Value.ownBlock]))
      have tOUT := HOUT.out.ext HXZ.out
      have tE := Ext.trans HE.out HXZ.out
      clear HOW HOUT HE q0 q1 HQZ HRC HX4 HXZ HWH hqz x1 x2 x3
      have HOW := Lib.hid tOW
      have HOUT := Lib.hid tOUT
      have HE := Lib.hid tE
      clear tOW tOUT tE
      have q0 : wz.cell? ⟨w2.heap.size + 1, 0, none⟩ = some (.slice (some ⟨gg, 0, none⟩) k cp) := HOUT.out.cell 0
      have q1 : wz.cell? ⟨w2.heap.size + 1, 1, none⟩ = some (.float .f32 sp) := HOUT.out.cell 1
      have n3 : w2.heap.size + 1 < wz.heap.size := HOUT.out.lt
      go_region_law (first
        | (go_simp; go_at_call 150; refine (l06Round_any _ _ _ _).mono ?_; rintro e w6 ⟨he6, r', s', t', rfl, hq⟩; have HQ := Lib.hid hq; have HX6 := Lib.hid (show Ext wz w6 from Ext.trans (Ext.drew' (Ext.rfl' _)) he6); clear hq he6; (have HOUT5 := Lib.hid (HOUT.out.ext HX6.out)); (have k0 : w6.cell? ⟨w2.heap.size + 1, 0, none⟩ = some (.slice (some ⟨gg, 0, none⟩) k cp) := HOUT5.out.cell 0); (have k1 : w2.heap.size + 1 < w6.heap.size := HOUT5.out.lt); (have hown5 := HOW.out.kept (w' := w6) (row := none) ⟨HX6.out.os, HX6.out.tape, HX6.out.output, HX6.out.size, fun k hk _ => HX6.out.block k hk⟩ (Or.inr (by simp [Value.ownBlock]))); have HO5 := Lib.hid hown5; clear hown5)
        | (refine step_append_lies _ (by rfl) _ _ _ (by rfl) w2.heap.size 54 i0 _ 3 12 under_points hi0 iz0 iz1 iz2 rfl (by omega) (.slice (some ⟨gg, 0, none⟩) k cp) k xs (by rfl) (HO5.out.alloc _) ⟨w6.heap.size, 0, none⟩ 1 1 [.float .f32 r', .float .f32 s', .float .f32 t'] (by rfl) rfl (World.news_of_block (cs := #[.float .f32 r', .float .f32 s', .float .f32 t']) (t := 54) (fr := (0, 0)) (heap_alloc_new w6 _)) (by simp [Value.oneCell']) (by omega) (by unfold maxLen; omega) (by omega) (by have := HE.out.size; have := HX6.out.size; (try simp only [World.size_alloc, World.size_drew]); omega) _ rfl ?_; intro g2 cp2 w7 hown7 hgrow hat hlt7; (have hgl := HOW.out.lt); (have e7 : Ext w2 w7 := Ext.grown (Ext.trans HE.out (Ext.trans HX6.out (Ext.alloc' (Ext.rfl' w6) _))) hgrow (fun k hk => (hgl k hk).1)); obtain ⟨cur, hcur⟩ := own_block HOW.out; (have hne := blk_ne hcur HOUT.out (by decide)); (have hout7 : Blk w7 (w2.heap.size + 1) 48 #[.slice (some ⟨gg, 0, none⟩) k cp, .float .f32 sp] := (hgrow.block _ (by have := HOUT5.out.lt; simp; omega) (by simp [Value.ownBlock]; omega)).trans (show Blk _ _ _ _ from HOUT5.out.alloc _)); (have HOUT7 := Lib.hid hout7); (have HE7 := Lib.hid e7); (have HO7 := Lib.hid hown7); (have p0 : w7.cell? ⟨w2.heap.size + 1, 0, none⟩ = some (.slice (some ⟨gg, 0, none⟩) k cp) := hout7.cell 0); (have pf0 := hout7.frozen 0); clear hown7 hgrow hat hlt7 hgl e7 hcur hne hout7 cur q0 q1 k0))
      all_goals
        go_wp2_with fail
        have hset := HOUT7.out.set_ 0 (.slice (some ⟨g2, 0, none⟩) (k + 1) cp2)
        obtain ⟨cur, hcur⟩ := own_block HO7.out
        have hne := blk_ne hcur HOUT7.out (by decide)
        go_roundw
        case rel =>
          refine ⟨k + 1, g2, cp2, xs ++ [.float .f32 r', .float .f32 s', .float .f32 t'], by omega, rfl, HO7.out.kept (row := some (w2.heap.size + 1)) (only_setCell (g := w2.heap.size + 1) (p := ⟨w2.heap.size + 1, 0, none⟩) (only_refl _ _) rfl _) (Or.inr (by simp [Value.ownBlock]; omega)), ?_, by simpa using hset, Ext.setCell_at HE7.out _ _ _ (by omega)⟩
          rw [ringL_succ]
          refine LVs.append HLV.out ?_
          have hv : ringV m (cn .f32 radius) (waveH m W (cn .f32 size)) k = cv r' s' t' := by
            rw [HQ.out, HSH.out, HZ.out]; rfl
          rw [hv]
          exact LVs.one r' s' t'
        case measure =>
          simp only [intOf]
          omega
    · have hkl : k = m := by omega
      subst hkl
      have HR := Lib.hid ((HB2.out.ext HE.out))
      have HVO := Lib.hid (show VO wr w2.heap.size (some ⟨gg, 0, none⟩) (ringL k (cn .f32 radius) (waveH k W (cn .f32 size)) k) from by
        obtain ⟨A', cp', hA', hv⟩ := vo_of_owns HOW.out HLV.out (by rw [ringL_len])
        simp only [Value.slice.injEq] at hA'
        rw [← hA'.1] at hv
        exact hv)
      obtain ⟨P, hP⟩ : ∃ P, giveV (ringL k (cn .f32 radius) (waveH k W (cn .f32 size)) k) (cn .f32 sp) = P := ⟨_, rfl⟩
      obtain ⟨pb, ds, ps⟩ := P
      have HP := Lib.hid hP
      clear hP
      have hgv := giveV_own (some ⟨gg, 0, none⟩) cp sp _ k w2.heap.size (ringL_len _ _ _ k) wr HVO.out (by have := HM.out; omega) pb ds ps HP.out
      have HGV := Lib.hid hgv
      clear hgv
      go_wp2_with fail
      refine HGV.out.mono ?_
      rintro e w6 ⟨he6, A0, cap0, s0, rfl, hv6, hs6⟩
      have HR6 := Lib.hid (HR.out.ext he6)
      have HE6 := Lib.hid (Ext.trans HE2.out (Ext.trans HE.out he6))
      have HV6 := Lib.hid hv6
      have HS6 := Lib.hid hs6
      have r0 : w6.cell? ⟨w.heap.size, 0, none⟩ = some (.slice none 0 0) := HR6.out.cell 0
      have r1 : w6.cell? ⟨w.heap.size, 1, none⟩ = some (.float .f32 0) := HR6.out.cell 1
      have rf0 := HR6.out.frozen 0
      have rf1 := HR6.out.frozen 1
      clear he6 hv6 hs6
      go_wp2_with fail
      have hla := Laid.set (w0 := w) (g := w.heap.size) HE6.out HV6.out (by omega) HR6.out (Nat.le_refl _) hws cap0 s0
      obtain ⟨-, -, c0, c1, hE, hv, -⟩ := hla
      refine bodyPost_ret (v := .tuple #[.agg #[.slice A0 ds.length cap0, .float .f32 s0], .bool pb]) (by simp [results, Try.results75, go_sem, c0, c1]) rfl ⟨hE, ?_⟩
      rw [HP.out]
      exact ⟨A0, cap0, s0, rfl, hv, HS6.out⟩
set_option maxRecDepth 100000 in
theorem specWaveNo_any (n waves : Int) (radius size sp : Nat) (w : World) (hno : (waveOk waves (cn .f32 size) && ringOk n (cn .f32 radius)) = false) :
    Calls Try.prog 75 #[.int .i64 n, .int .i64 waves, .float .f32 radius, .float .f32 size, .float .f32 sp] w fun e w' => Ext w w' ∧ RT w w' e (false, [], 0) := by
  have HB0 := Lib.hid (Blk.new w 48 #[.slice none 0 0, .float .f32 0])
  have HE0 := Lib.hid (show Ext w (w.alloc (.cells #[.slice none 0 0, .float .f32 0] 48)) by (repeat first | with_reducible exact Ext.rfl' _ | with_reducible refine Ext.drewN ?_ _ | with_reducible refine Ext.drew' ?_ | with_reducible refine Ext.alloc' ?_ _ | with_reducible refine Ext.setCell_at ?_ _ _ _ (by first | exact Nat.le_refl _ | omega) | with_reducible assumption | refine Ext.trans ?_ (by with_reducible assumption)))
  unfold ringOk waveOk at hno
  cases hn : decide (3 ≤ n) && decide (n ≤ 32) with
  | false =>
    have HN := Lib.hid hn
    clear hn hno
    go_enter Try.func75, Try.ntmps75
    go_wp2_with fail
    generalize w.alloc (.cells #[.slice none 0 0, .float .f32 0] 48) = W1 at *
    have r0 : W1.cell? ⟨w.heap.size, 0, none⟩ = some (.slice none 0 0) := HB0.out.cell 0
    have r1 : W1.cell? ⟨w.heap.size, 1, none⟩ = some (.float .f32 0) := HB0.out.cell 1
    have rf0 := HB0.out.frozen 0
    have rf1 := HB0.out.frozen 1
    refine (l00In_any _ _ _ _ HN.out _).mono ?_
    rintro e wq ⟨rfl, rfl⟩
    go_wp2_with fail
    obtain ⟨-, -, c0, c1, hE, -, -⟩ := giveNo w _ _ _ _ _ HE0.out HB0.out (Nat.le_refl _)
    exact bodyPost_ret (v := .tuple #[.agg #[.slice none 0 0, .float .f32 0], .bool false]) (by simp [results, Try.results75, go_sem, c0, c1]) rfl ⟨hE, none, 0, 0, rfl, fun h => absurd h (Nat.lt_irrefl 0), cn_zero32⟩
  | true =>
    have HN := Lib.hid hn
    rw [hn, Bool.true_and] at hno
    clear hn
    cases hm : decide (0 ≤ waves) && decide (waves ≤ 12) with
    | false =>
    have HM := Lib.hid hm
    clear hm hno
    go_enter Try.func75, Try.ntmps75
    go_wp2_with fail
    generalize w.alloc (.cells #[.slice none 0 0, .float .f32 0] 48) = W1 at *
    have r0 : W1.cell? ⟨w.heap.size, 0, none⟩ = some (.slice none 0 0) := HB0.out.cell 0
    have r1 : W1.cell? ⟨w.heap.size, 1, none⟩ = some (.float .f32 0) := HB0.out.cell 1
    have rf0 := HB0.out.frozen 0
    have rf1 := HB0.out.frozen 1
    refine (l00In_any _ _ _ _ HN.out _).mono ?_
    rintro e wq ⟨rfl, rfl⟩
    go_wp2_with fail
    refine (l00In_any _ _ _ _ HM.out _).mono ?_
    rintro e wq ⟨rfl, rfl⟩
    go_wp2_with fail
    obtain ⟨-, -, c0, c1, hE, -, -⟩ := giveNo w _ _ _ _ _ HE0.out HB0.out (Nat.le_refl _)
    exact bodyPost_ret (v := .tuple #[.agg #[.slice none 0 0, .float .f32 0], .bool false]) (by simp [results, Try.results75, go_sem, c0, c1]) rfl ⟨hE, none, 0, 0, rfl, fun h => absurd h (Nat.lt_irrefl 0), cn_zero32⟩
    | true =>
    have HM := Lib.hid hm
    rw [hm, Bool.true_and] at hno
    clear hm
    cases ha : aboveP (cn .f32 radius) with
    | false =>
    have HA := Lib.hid ha
    clear ha hno
    go_enter Try.func75, Try.ntmps75
    go_wp2_with fail
    generalize w.alloc (.cells #[.slice none 0 0, .float .f32 0] 48) = W1 at *
    refine (l00In_any _ _ _ _ HN.out _).mono ?_
    rintro e wq ⟨rfl, rfl⟩
    go_wp2_with fail
    refine (l00In_any _ _ _ _ HM.out _).mono ?_
    rintro e wq ⟨rfl, rfl⟩
    go_wp2_with fail
    refine (l02Above_any _ false HA.out _).mono ?_
    rintro e w2 ⟨he, rfl⟩
    have HB2 := Lib.hid (HB0.out.ext he)
    have HE2 := Lib.hid (Ext.trans HE0.out he)
    clear he
    have r0 : w2.cell? ⟨w.heap.size, 0, none⟩ = some (.slice none 0 0) := HB2.out.cell 0
    have r1 : w2.cell? ⟨w.heap.size, 1, none⟩ = some (.float .f32 0) := HB2.out.cell 1
    have rf0 := HB2.out.frozen 0
    have rf1 := HB2.out.frozen 1
    go_wp2_with fail
    obtain ⟨-, -, c0, c1, hE, -, -⟩ := giveNo w _ _ _ _ _ HE2.out HB2.out (Nat.le_refl _)
    exact bodyPost_ret (v := .tuple #[.agg #[.slice none 0 0, .float .f32 0], .bool false]) (by simp [results, Try.results75, go_sem, c0, c1]) rfl ⟨hE, none, 0, 0, rfl, fun h => absurd h (Nat.lt_irrefl 0), cn_zero32⟩
    | true =>
    have HA := Lib.hid ha
    rw [ha, Bool.and_true] at hno
    have HS := Lib.hid hno
    clear ha hno
    go_enter Try.func75, Try.ntmps75
    go_wp2_with fail
    generalize w.alloc (.cells #[.slice none 0 0, .float .f32 0] 48) = W1 at *
    refine (l00In_any _ _ _ _ HN.out _).mono ?_
    rintro e wq ⟨rfl, rfl⟩
    go_wp2_with fail
    refine (l00In_any _ _ _ _ HM.out _).mono ?_
    rintro e wq ⟨rfl, rfl⟩
    go_wp2_with fail
    refine (l02Above_any _ true HA.out _).mono ?_
    rintro e w2 ⟨he, rfl⟩
    have HB2 := Lib.hid (HB0.out.ext he)
    have HE2 := Lib.hid (Ext.trans HE0.out he)
    clear he
    go_wp2_with fail
    refine (l01Finite_any _ false HS.out _).mono ?_
    rintro e w3 ⟨he, rfl⟩
    have HB3 := Lib.hid (HB2.out.ext he)
    have HE3 := Lib.hid (Ext.trans HE2.out he)
    clear he
    have r0 : w3.cell? ⟨w.heap.size, 0, none⟩ = some (.slice none 0 0) := HB3.out.cell 0
    have r1 : w3.cell? ⟨w.heap.size, 1, none⟩ = some (.float .f32 0) := HB3.out.cell 1
    have rf0 := HB3.out.frozen 0
    have rf1 := HB3.out.frozen 1
    go_wp2_with fail
    obtain ⟨-, -, c0, c1, hE, -, -⟩ := giveNo w _ _ _ _ _ HE3.out HB3.out (Nat.le_refl _)
    exact bodyPost_ret (v := .tuple #[.agg #[.slice none 0 0, .float .f32 0], .bool false]) (by simp [results, Try.results75, go_sem, c0, c1]) rfl ⟨hE, none, 0, 0, rfl, fun h => absurd h (Nat.lt_irrefl 0), cn_zero32⟩
theorem waveP_no {n waves : Int} {radius size sp : Nat} (h : (waveOk waves size && ringOk n radius) = false) : waveP n waves radius size sp = (false, [], 0) := by
  unfold waveP ringP
  cases h1 : waveOk waves size with
  | false => rfl
  | true =>
    rw [h1, Bool.true_and] at h
    rw [h]; rfl
theorem specWave_any (n waves : Int) (radius size sp : Nat) (w : World) :
    Calls Try.prog 75 #[.int .i64 n, .int .i64 waves, .float .f32 radius, .float .f32 size, .float .f32 sp] w fun e w' => Ext w w' ∧ RT w w' e (waveP n waves (cn .f32 radius) (cn .f32 size) (cn .f32 sp)) := by
  cases h : waveOk waves (cn .f32 size) && ringOk n (cn .f32 radius) with
  | false => rw [waveP_no h]; exact specWaveNo_any n waves radius size sp w h
  | true =>
    rw [Bool.and_eq_true] at h
    unfold waveP ringP
    rw [h.1, h.2]
    unfold waveOk ringOk at h
    simp only [Bool.and_eq_true, decide_eq_true_eq] at h
    obtain ⟨m, rfl⟩ : ∃ m : Nat, n = m := ⟨n.toNat, by omega⟩
    obtain ⟨W, rfl⟩ : ∃ W : Nat, waves = W := ⟨waves.toNat, by omega⟩
    exact specWaveYes_any m W radius size sp w (by omega) (by omega) (by omega) h.2.2 h.1.2
end Go.Proofs.Ytbaohbpfnlicpaa
