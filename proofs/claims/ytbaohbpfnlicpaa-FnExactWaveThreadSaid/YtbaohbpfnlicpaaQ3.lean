/- Walks: a ring, by the program. -/
import Derived.Test.YtbaohbpfnlicpaaQ2
import Derived.OwnWalk
namespace Go.Proofs.Ytbaohbpfnlicpaa
open Go Go.RowKit
set_option linter.unusedVariables false
set_option linter.unusedSimpArgs false
attribute [local go_sem] run_store_float

/-- a function value, with what it holds, that answers the height of the k-th point in every world that suits it -/
def HeightF (g : Nat) (fr : Array Value) (ok : World → Prop) (m : Nat) (hf : Nat → Nat) : Prop :=
  (∀ args w, (callFunc g args).run Try.prog w = .ok (.enter g args) w) ∧
  (∀ (k : Nat) w, k < m → ok w → Calls Try.prog g (#[.int .i64 k] ++ fr) w fun e w' => Ext w w' ∧ ∃ r, e = .returned (.float .f32 r) ∧ cn .f32 r = hf k) ∧
  ∀ w w', ok w → Ext w w' → ok w'
set_option maxRecDepth 100000 in
theorem ringedNo_any (n : Int) (radius sp g : Nat) (fr : Array Value) (w : World) (hno : ringOk n (cn .f32 radius) = false) :
    Calls Try.prog 151 #[.int .i64 n, .float .f32 radius, .float .f32 sp, .func (.func g) #[] fr] w fun e w' => Ext w w' ∧ RT w w' e (false, [], 0) := by
  have HB0 := Lib.hid (Blk.new w 48 #[.slice none 0 0, .float .f32 0])
  have HE0 := Lib.hid (show Ext w (w.alloc (.cells #[.slice none 0 0, .float .f32 0] 48)) by (repeat first | with_reducible exact Ext.rfl' _ | with_reducible refine Ext.drewN ?_ _ | with_reducible refine Ext.drew' ?_ | with_reducible refine Ext.alloc' ?_ _ | with_reducible refine Ext.setCell_at ?_ _ _ _ (by first | exact Nat.le_refl _ | omega) | with_reducible assumption | refine Ext.trans ?_ (by with_reducible assumption)))
  unfold ringOk at hno
  cases hn : decide (3 ≤ n) && decide (n ≤ 32) with
  | false =>
    have HN := Lib.hid hn
    clear hn hno
    go_enter Try.func151, Try.ntmps151
    go_wp2_with fail
    generalize w.alloc (.cells #[.slice none 0 0, .float .f32 0] 48) = W1 at *
    have r0 : W1.cell? ⟨w.heap.size, 0, none⟩ = some (.slice none 0 0) := HB0.out.cell 0
    have r1 : W1.cell? ⟨w.heap.size, 1, none⟩ = some (.float .f32 0) := HB0.out.cell 1
    have rf0 := HB0.out.frozen 0
    have rf1 := HB0.out.frozen 1
    refine (in_any _ _ _ _ HN.out _).mono ?_
    rintro e wq ⟨rfl, rfl⟩
    go_wp2_with fail
    obtain ⟨-, -, c0, c1, hE, -, -⟩ := giveNo w _ _ _ _ _ HE0.out HB0.out (Nat.le_refl _)
    exact bodyPost_ret (v := .tuple #[.agg #[.slice none 0 0, .float .f32 0], .bool false]) (by simp [results, Try.results151, go_sem, c0, c1]) rfl ⟨hE, none, 0, 0, rfl, fun h => absurd h (Nat.lt_irrefl 0), cn_zero32⟩
  | true =>
    rw [hn, Bool.true_and] at hno
    have HN := Lib.hid hn
    have HA := Lib.hid hno
    clear hn hno
    go_enter Try.func151, Try.ntmps151
    go_wp2_with fail
    generalize w.alloc (.cells #[.slice none 0 0, .float .f32 0] 48) = W1 at *
    refine (in_any _ _ _ _ HN.out _).mono ?_
    rintro e wq ⟨rfl, rfl⟩
    go_wp2_with fail
    have hfs := FS.one W1 22 radius W1.heap.size rfl
    have hx2 : Ext W1 (W1.alloc (.cells #[.float .f32 radius] 22)) := by (repeat first | with_reducible exact Ext.rfl' _ | with_reducible refine Ext.drewN ?_ _ | with_reducible refine Ext.drew' ?_ | with_reducible refine Ext.alloc' ?_ _ | with_reducible refine Ext.setCell_at ?_ _ _ _ (by first | exact Nat.le_refl _ | omega) | with_reducible assumption | refine Ext.trans ?_ (by with_reducible assumption))
    generalize W1.alloc (.cells #[.float .f32 radius] 22) = W2 at *
    refine (lengthOk_any (some ⟨W1.heap.size, 0, none⟩) 1 radius _ hfs false HA.out).mono ?_
    rintro e w2 ⟨he2, rfl⟩
    have HB2 := Lib.hid (HB0.out.ext (Ext.trans hx2 he2))
    have HE2 := Lib.hid (Ext.trans HE0.out (Ext.trans hx2 he2))
    have r0 : w2.cell? ⟨w.heap.size, 0, none⟩ = some (.slice none 0 0) := HB2.out.cell 0
    have r1 : w2.cell? ⟨w.heap.size, 1, none⟩ = some (.float .f32 0) := HB2.out.cell 1
    have rf0 := HB2.out.frozen 0
    have rf1 := HB2.out.frozen 1
    clear he2 hx2 hfs
    go_wp2_with fail
    obtain ⟨-, -, c0, c1, hE, -, -⟩ := giveNo w _ _ _ _ _ HE2.out HB2.out (Nat.le_refl _)
    exact bodyPost_ret (v := .tuple #[.agg #[.slice none 0 0, .float .f32 0], .bool false]) (by simp [results, Try.results151, go_sem, c0, c1]) rfl ⟨hE, none, 0, 0, rfl, fun h => absurd h (Nat.lt_irrefl 0), cn_zero32⟩

set_option maxRecDepth 100000 in
set_option maxHeartbeats 1600000 in
theorem ringedYes_any (m radius sp g : Nat) (fr : Array Value) (ok : World → Prop) (hf : Nat → Nat) (hH : HeightF g fr ok m hf) (w : World) (hok : ok w) (h3 : 3 ≤ m) (h32 : m ≤ 32) (ha : aboveP (cn .f32 radius) = true) :
    Calls Try.prog 151 #[.int .i64 m, .float .f32 radius, .float .f32 sp, .func (.func g) #[] fr] w fun e w' => Ext w w' ∧ RT w w' e (giveV (ringL m (cn .f32 radius) hf m) (cn .f32 sp)) := by
  obtain ⟨hcall, hmap, hmono⟩ := hH
  have HMAP := Lib.hid hmap
  have HMONO := Lib.hid hmono
  have HOK := Lib.hid hok
  have HM := Lib.hid (show 3 ≤ m ∧ m ≤ 32 from ⟨h3, h32⟩)
  have HA := Lib.hid ha
  obtain ⟨i0, hi0, iz0, iz1, iz2⟩ := info_parts infoV
  have HB0 := Lib.hid (Blk.new w 48 #[.slice none 0 0, .float .f32 0])
  have HE0 := Lib.hid (show Ext w (w.alloc (.cells #[.slice none 0 0, .float .f32 0] 48)) by (repeat first | with_reducible exact Ext.rfl' _ | with_reducible refine Ext.drewN ?_ _ | with_reducible refine Ext.drew' ?_ | with_reducible refine Ext.alloc' ?_ _ | with_reducible refine Ext.setCell_at ?_ _ _ _ (by first | exact Nat.le_refl _ | omega) | with_reducible assumption | refine Ext.trans ?_ (by with_reducible assumption)))
  clear h3 h32 ha hmap hmono hok
  go_enter Try.func151, Try.ntmps151
  go_wp2_with fail
  generalize w.alloc (.cells #[.slice none 0 0, .float .f32 0] 48) = W1 at *
  refine (in_yes _ _ _ _ (by have := HM.out; omega) (by have := HM.out; omega)).mono ?_
  rintro e wq ⟨rfl, rfl⟩
  go_wp2_with fail
  have hfs := FS.one W1 22 radius W1.heap.size rfl
  have hx2 : Ext W1 (W1.alloc (.cells #[.float .f32 radius] 22)) := by (repeat first | with_reducible exact Ext.rfl' _ | with_reducible refine Ext.drewN ?_ _ | with_reducible refine Ext.drew' ?_ | with_reducible refine Ext.alloc' ?_ _ | with_reducible refine Ext.setCell_at ?_ _ _ _ (by first | exact Nat.le_refl _ | omega) | with_reducible assumption | refine Ext.trans ?_ (by with_reducible assumption))
  generalize W1.alloc (.cells #[.float .f32 radius] 22) = W2 at *
  refine (lengthOk_any (some ⟨W1.heap.size, 0, none⟩) 1 radius _ hfs true HA.out).mono ?_
  rintro e w2 ⟨he2, rfl⟩
  have HB2 := Lib.hid (HB0.out.ext (Ext.trans hx2 he2))
  have HE2 := Lib.hid (Ext.trans HE0.out (Ext.trans hx2 he2))
  have hws : w.heap.size < w2.heap.size := HB2.out.lt
  clear he2 HB0 HE0 hx2 hfs
  go_wp2_with fail
  have hown : (w2.alloc (.cells #[] 54)).ownsRow w2.heap.size 54 3 (.slice (some ⟨w2.heap.size, 0, none⟩) 0 0) 0 [] := World.ownsRow_made w2 #[] 0 (Nat.le_refl _) (by decide) rfl
  have he3 : Ext w2 (w2.alloc (.cells #[] 54)) := by (repeat first | with_reducible exact Ext.rfl' _ | with_reducible refine Ext.drewN ?_ _ | with_reducible refine Ext.drew' ?_ | with_reducible refine Ext.alloc' ?_ _ | with_reducible refine Ext.setCell_at ?_ _ _ _ (by first | exact Nat.le_refl _ | omega) | with_reducible assumption | refine Ext.trans ?_ (by with_reducible assumption))
  generalize w2.alloc (.cells #[] 54) = W3 at *
  have HO3 := Lib.hid hown
  have HE3 := Lib.hid he3
  clear hown he3
  go_loopw [10, 25] (fun v i wr => ∃ (k gg cp : Nat) (xs : List Value), k ≤ m ∧ i = .int .i64 k ∧ v = .slice (some ⟨gg, 0, none⟩) k cp ∧ wr.ownsRow w2.heap.size 54 3 v k xs ∧ LVs xs (ringL m (cn .f32 radius) hf k) ∧ Ext w2 wr) (fun _ i _ => m - (intOf i).toNat)
  case atStart => exact ⟨0, w2.heap.size, 0, [], Nat.zero_le _, rfl, rfl, HO3.out, LVs.nil, HE3.out⟩
  case round =>
    obtain ⟨k, gg, cp, xs, hk, rfl, rfl, hown, hlv, hbel⟩ := hrel
    have HOW := Lib.hid hown
    have HLV := Lib.hid hlv
    have HE := Lib.hid hbel
    clear hown hlv hbel
    by_cases hlt : k < m
    · have hm32 : m ≤ 32 := HM.out.2
      have hqb : ∀ w, (binOp .quo 22 (.float .f32 (floatOfInt .f32 k)) (.float .f32 (floatOfInt .f32 m))).run Try.prog w = .ok (.float .f32 (shareP k m)) w := fun w => run_float_arith w .quo 22 .f32 _ _ _ (share_some k m (by omega) hm32 (by omega))
      have HSH := Lib.hid (cn_share k m (by omega) hm32 (by omega))
      go_wp2_with (first
        | (refine wpList_float rfl .add _ _ _ _ rfl (by decide) _ _ _ rfl rfl ?_; intro r0 n0 q0; have HQ0 := Lib.hid (show cosP (shareP k m) = sineP (cn .f32 r0) by unfold cosP; rw [show cn .f32 r0 = _ from q0, cn_quart32, HSH.out]); clear q0))
      refine (SineTurns_any _ _).mono ?_
      rintro e w4 ⟨he4, rc, rfl, hrc⟩
      have HRC := Lib.hid (show cn .f32 rc = cosP (shareP k m) by rw [hrc, ← HQ0.out])
      have HX4 := Lib.hid (show Ext wr w4 by (repeat first | with_reducible exact Ext.rfl' _ | with_reducible refine Ext.drewN ?_ _ | with_reducible refine Ext.drew' ?_ | with_reducible refine Ext.alloc' ?_ _ | with_reducible refine Ext.setCell_at ?_ _ _ _ (by first | exact Nat.le_refl _ | omega) | with_reducible assumption | refine Ext.trans ?_ (by with_reducible assumption)))
      clear he4 hrc HQ0
      go_wp2_with (first
        | (refine wpList_float rfl .mul _ _ _ _ rfl (by decide) _ _ _ rfl rfl ?_; intro r1 n1 q1; have HQ1 := Lib.hid q1; clear q1))
      refine (SineTurns_any _ _).mono ?_
      rintro e w5 ⟨he5, rs, rfl, hrs⟩
      have HRS := Lib.hid (show cn .f32 rs = sineP (shareP k m) by rw [hrs, HSH.out])
      have HX5 := Lib.hid (show Ext wr w5 from Ext.trans (HX4.out.drewN _) he5)
      clear he5 hrs HX4
      go_wp2_with (first
        | (refine wpList_float rfl .mul _ _ _ _ rfl (by decide) _ _ _ rfl rfl ?_; intro r2 n2 q2; have HQ2 := Lib.hid q2; clear q2))
      refine (HMAP.out k _ hlt (HMONO.out _ _ HOK.out (Ext.trans HE2.out (Ext.trans HE.out (HX5.out.drewN n2))))).mono ?_
      rintro e w6 ⟨he6, rh, rfl, hrh⟩
      have HRH := Lib.hid hrh
      have HX6 := Lib.hid (show Ext wr w6 from Ext.trans (HX5.out.drewN _) he6)
      clear he6 hrh HX5
      have hown6 := HOW.out.kept (w' := w6) (row := none) ⟨HX6.out.os, HX6.out.tape, HX6.out.output, HX6.out.size, fun k hk _ => HX6.out.block k hk⟩ (Or.inr (by simp [Value.ownBlock]))
      have HO6 := Lib.hid hown6
      clear hown6
      go_wp2_with (first | (at_builtin; refine Stand.of ?_))
      refine Stand.out ?_
      refine wpList_append_own _ rfl _ _ 46 rfl w2.heap.size 54 i0 _ 3 12 under_points hi0 iz0 iz1 iz2 rfl (by decide) _ _ _ rfl (HO6.out.alloc _) ⟨w6.heap.size, 0, none⟩ 1 1 [.float .f32 r1, .float .f32 r2, .float .f32 rh] rfl rfl (World.news_of_block (cs := #[.float .f32 r1, .float .f32 r2, .float .f32 rh]) (t := 54) (fr := (0, 0)) (heap_alloc_new w6 _)) (by simp [Value.oneCell']) (by unfold maxLen; omega) (by omega) (by have := HX6.out.size; have := HE.out.size; simp; omega) ?_
      intro v' w7 hown7 hgrow hnil
      obtain ⟨g2, c2, rfl⟩ := Joins.ownsRow_form hown7 (by omega)
      have hgl := HOW.out.lt
      have e7 : Ext w2 w7 := Ext.grown (Ext.trans HE.out (Ext.trans HX6.out (Ext.alloc' (Ext.rfl' w6) (.cells #[.float .f32 r1, .float .f32 r2, .float .f32 rh] 54)))) hgrow (fun k hk => (hgl k hk).1)
      have HE7 := Lib.hid e7
      have HO7 := Lib.hid hown7
      clear hown7 hgrow hnil hgl e7
      go_wp2_with fail
      refine ⟨⟨k + 1, g2, c2, xs ++ [.float .f32 r1, .float .f32 r2, .float .f32 rh], by omega, by go_num, rfl, HO7.out, ?_, HE7.out⟩, by simp [intOf]; omega⟩
      rw [ringL_succ]
      refine LVs.append HLV.out ?_
      have hv : ringV m (cn .f32 radius) hf k = cv r1 r2 rh := by
        unfold ringV roundV cv
        rw [show cn .f32 r1 = _ from HQ1.out, show cn .f32 r2 = _ from HQ2.out, HRC.out, HRS.out, HRH.out]
      rw [hv]
      exact LVs.one r1 r2 rh
    · have hkl : k = m := by omega
      subst hkl
      have HR := Lib.hid ((HB2.out.ext HE.out))
      have HVO := Lib.hid (show VO wr w2.heap.size (some ⟨gg, 0, none⟩) (ringL k (cn .f32 radius) hf k) from by
        obtain ⟨A', cp', hA', hv⟩ := vo_of_owns HOW.out HLV.out (by rw [ringL_len])
        simp only [Value.slice.injEq] at hA'
        rw [← hA'.1] at hv
        exact hv)
      obtain ⟨P, hP⟩ : ∃ P, giveV (ringL k (cn .f32 radius) hf k) (cn .f32 sp) = P := ⟨_, rfl⟩
      obtain ⟨pb, ds, ps⟩ := P
      have HP := Lib.hid hP
      clear hP
      have hgv := toldV_own (some ⟨gg, 0, none⟩) cp sp _ k w2.heap.size (ringL_len _ _ _ k) wr HVO.out (by have := HM.out; omega) pb ds ps HP.out
      have HGV := Lib.hid hgv
      clear hgv
      go_wp2_with fail
      refine HGV.out.mono ?_
      rintro e w6 ⟨he6, A0, cap0, s0, rfl, hv6, hs6⟩
      have HR6 := Lib.hid (HR.out.ext he6)
      have HE6 := Lib.hid (Ext.trans HE2.out (Ext.trans HE.out he6))
      have HV6 := Lib.hid hv6
      have HS6 := Lib.hid hs6
      have r0 : w6.cell? ⟨w.heap.size, 0, none⟩ = some (.slice none 0 0) := HR6.out.cell 0
      have r1 : w6.cell? ⟨w.heap.size, 1, none⟩ = some (.float .f32 0) := HR6.out.cell 1
      have rf0 := HR6.out.frozen 0
      have rf1 := HR6.out.frozen 1
      clear he6 hv6 hs6
      go_wp2_with fail
      have hla := Laid.set (w0 := w) (g := w.heap.size) HE6.out HV6.out (by omega) HR6.out (Nat.le_refl _) hws cap0 s0
      obtain ⟨-, -, c0, c1, hE, hv, -⟩ := hla
      refine bodyPost_ret (v := .tuple #[.agg #[.slice A0 ds.length cap0, .float .f32 s0], .bool pb]) (by simp [results, Try.results151, go_sem, c0, c1]) rfl ⟨hE, ?_⟩
      rw [HP.out]
      exact ⟨A0, cap0, s0, rfl, hv, HS6.out⟩
theorem ringed_any (n : Int) (radius sp g : Nat) (fr : Array Value) (ok : World → Prop) (hf : Nat → Nat) (hH : HeightF g fr ok n.toNat hf) (w : World) (hok : ok w) :
    Calls Try.prog 151 #[.int .i64 n, .float .f32 radius, .float .f32 sp, .func (.func g) #[] fr] w fun e w' => Ext w w' ∧ RT w w' e (ringP n (cn .f32 radius) hf (cn .f32 sp)) := by
  unfold ringP
  cases h : ringOk n (cn .f32 radius) with
  | false => exact ringedNo_any n radius sp g fr w h
  | true =>
    unfold ringOk at h
    simp only [Bool.and_eq_true, decide_eq_true_eq] at h
    obtain ⟨m, rfl⟩ : ∃ m : Nat, n = m := ⟨n.toNat, by omega⟩
    exact ringedYes_any m radius sp g fr ok hf hH w hok (by omega) (by omega) h.2
end Go.Proofs.Ytbaohbpfnlicpaa
