/- Walks: a ring, by the reference. -/
import Derived.Test.YtbaohbpfnlicpaaQ1
import Derived.Test.YtbaohbpfnlicpaaB1
namespace Go.Proofs.Ytbaohbpfnlicpaa
open Go Go.RowKit
set_option linter.unusedVariables false
set_option linter.unusedSimpArgs false
attribute [local go_sem] run_store_float

theorem quo_some {x y : Nat} {s t : Bool} {m n : Nat} {i j : Int} (hx : FloatKind.f32.decode x = .number s m i) (hy : FloatKind.f32.decode y = .number t n j) (hn : n ≠ 0) : ∃ r, floatBits .quo .f32 x y = some r := by
  unfold floatBits Ieee.Format.div
  rw [show FloatKind.f32.format.read x = _ from hx, show FloatKind.f32.format.read y = _ from hy]
  unfold Ieee.Datum.quotient
  dsimp only
  rw [if_neg hn]
  exact ⟨_, rfl⟩
theorem ofInt_num (k : Int) (hk : k.natAbs ≤ 2 ^ 64) : ∃ m p, FloatKind.f32.decode (floatOfInt .f32 k) = .number (decide (k < 0)) m p := by
  obtain ⟨m, p, h, _⟩ := nearest_mle Ieee.single (by decide) (decide (k < 0)) k.natAbs 0 64 (.inr ⟨by decide, hk⟩) (by decide) (by decide)
  exact ⟨m, p, h⟩
theorem ofInt_pos : ∀ m : Nat, m < 33 → m ≠ 0 → (match FloatKind.f32.decode (floatOfInt .f32 (m : Int)) with | .number _ n _ => n != 0 | _ => false) = true := by decide
theorem share_some (k m : Nat) (hk : k ≤ 4096) (hm : m ≤ 32) (h0 : m ≠ 0) : floatBits .quo .f32 (floatOfInt .f32 k) (floatOfInt .f32 m) = some (shareP k m) := by
  obtain ⟨a, i, hx⟩ := ofInt_num (k : Int) (Nat.le_trans (by omega : (k : Int).natAbs ≤ 4096) (by decide))
  obtain ⟨b, j, hy⟩ := ofInt_num (m : Int) (Nat.le_trans (by omega : (m : Int).natAbs ≤ 4096) (by decide))
  have hp := ofInt_pos m (by omega) h0
  rw [hy] at hp
  obtain ⟨r, hr⟩ := quo_some hx hy (by simpa using hp)
  rw [hr]
  unfold shareP fop
  rw [hr]
  rfl
theorem cn_share (k m : Nat) (hk : k ≤ 4096) (hm : m ≤ 32) (h0 : m ≠ 0) : cn .f32 (shareP k m) = shareP k m := cn_of_not (floatBits_not (share_some k m hk hm h0))

theorem giveNo (w w1 : World) (g : Nat) (t : TypeId) (x y : Value) (E : Ext w w1) (hb : Blk w1 g t #[x, y]) (hg : w.heap.size ≤ g) : Laid w ((w1.setCell ⟨g, 0, none⟩ (.slice none 0 0)).setCell ⟨g, 1, none⟩ (.float .f32 0)) g none [] 0 0 :=
  Laid.set (ds := []) (A := none) (B := g + 1) E (fun h => absurd h (Nat.lt_irrefl 0)) (by omega) hb hg (by omega) 0 0

set_option maxRecDepth 100000 in
theorem specRingNo_any (n : Int) (radius height sp : Nat) (w : World) (hno : ringOk n (cn .f32 radius) = false) :
    Calls Try.prog 73 #[.int .i64 n, .float .f32 radius, .float .f32 height, .float .f32 sp] w fun e w' => Ext w w' ∧ RT w w' e (false, [], 0) := by
  have HB0 := Lib.hid (Blk.new w 48 #[.slice none 0 0, .float .f32 0])
  have HE0 := Lib.hid (show Ext w (w.alloc (.cells #[.slice none 0 0, .float .f32 0] 48)) by (repeat first | with_reducible exact Ext.rfl' _ | with_reducible refine Ext.drewN ?_ _ | with_reducible refine Ext.drew' ?_ | with_reducible refine Ext.alloc' ?_ _ | with_reducible refine Ext.setCell_at ?_ _ _ _ (by first | exact Nat.le_refl _ | omega) | with_reducible assumption | refine Ext.trans ?_ (by with_reducible assumption)))
  unfold ringOk at hno
  cases hn : decide (3 ≤ n) && decide (n ≤ 32) with
  | false =>
    have HN := Lib.hid hn
    clear hn hno
    go_enter Try.func73, Try.ntmps73
    go_wp2_with fail
    generalize w.alloc (.cells #[.slice none 0 0, .float .f32 0] 48) = W1 at *
    have r0 : W1.cell? ⟨w.heap.size, 0, none⟩ = some (.slice none 0 0) := HB0.out.cell 0
    have r1 : W1.cell? ⟨w.heap.size, 1, none⟩ = some (.float .f32 0) := HB0.out.cell 1
    have rf0 := HB0.out.frozen 0
    have rf1 := HB0.out.frozen 1
    refine (l00In_any _ _ _ _ HN.out _).mono ?_
    rintro e wq ⟨rfl, rfl⟩
    go_wp2_with fail
    obtain ⟨-, -, c0, c1, hE, -, -⟩ := giveNo w _ _ _ _ _ HE0.out HB0.out (Nat.le_refl _)
    exact bodyPost_ret (v := .tuple #[.agg #[.slice none 0 0, .float .f32 0], .bool false]) (by simp [results, Try.results73, go_sem, c0, c1]) rfl ⟨hE, none, 0, 0, rfl, fun h => absurd h (Nat.lt_irrefl 0), cn_zero32⟩
  | true =>
    rw [hn, Bool.true_and] at hno
    have HN := Lib.hid hn
    have HA := Lib.hid hno
    clear hn hno
    go_enter Try.func73, Try.ntmps73
    go_wp2_with fail
    generalize w.alloc (.cells #[.slice none 0 0, .float .f32 0] 48) = W1 at *
    refine (l00In_any _ _ _ _ HN.out _).mono ?_
    rintro e wq ⟨rfl, rfl⟩
    go_wp2_with fail
    refine (l02Above_any _ false HA.out _).mono ?_
    rintro e w2 ⟨he2, rfl⟩
    have HB2 := Lib.hid (HB0.out.ext he2)
    have HE2 := Lib.hid (Ext.trans HE0.out he2)
    have r0 : w2.cell? ⟨w.heap.size, 0, none⟩ = some (.slice none 0 0) := HB2.out.cell 0
    have r1 : w2.cell? ⟨w.heap.size, 1, none⟩ = some (.float .f32 0) := HB2.out.cell 1
    have rf0 := HB2.out.frozen 0
    have rf1 := HB2.out.frozen 1
    clear he2
    go_wp2_with fail
    obtain ⟨-, -, c0, c1, hE, -, -⟩ := giveNo w _ _ _ _ _ HE2.out HB2.out (Nat.le_refl _)
    exact bodyPost_ret (v := .tuple #[.agg #[.slice none 0 0, .float .f32 0], .bool false]) (by simp [results, Try.results73, go_sem, c0, c1]) rfl ⟨hE, none, 0, 0, rfl, fun h => absurd h (Nat.lt_irrefl 0), cn_zero32⟩
set_option maxRecDepth 100000 in
set_option maxHeartbeats 1600000 in
theorem specRingYes_any (m radius height sp : Nat) (w : World) (h3 : 3 ≤ m) (h32 : m ≤ 32) (ha : aboveP (cn .f32 radius) = true) :
    Calls Try.prog 73 #[.int .i64 m, .float .f32 radius, .float .f32 height, .float .f32 sp] w fun e w' => Ext w w' ∧ RT w w' e (giveV (ringL m (cn .f32 radius) (fun _ => cn .f32 height) m) (cn .f32 sp)) := by
  have HM := Lib.hid (show 3 ≤ m ∧ m ≤ 32 from ⟨h3, h32⟩)
  have HA := Lib.hid ha
  obtain ⟨i0, hi0, iz0, iz1, iz2⟩ := info_parts infoV
  have HB0 := Lib.hid (Blk.new w 48 #[.slice none 0 0, .float .f32 0])
  have HE0 := Lib.hid (show Ext w (w.alloc (.cells #[.slice none 0 0, .float .f32 0] 48)) by (repeat first | with_reducible exact Ext.rfl' _ | with_reducible refine Ext.drewN ?_ _ | with_reducible refine Ext.drew' ?_ | with_reducible refine Ext.alloc' ?_ _ | with_reducible refine Ext.setCell_at ?_ _ _ _ (by first | exact Nat.le_refl _ | omega) | with_reducible assumption | refine Ext.trans ?_ (by with_reducible assumption)))
  clear h3 h32 ha
  go_enter Try.func73, Try.ntmps73
  go_wp2_with fail
  generalize w.alloc (.cells #[.slice none 0 0, .float .f32 0] 48) = W1 at *
  refine (l00In_yes _ _ _ _ (by have := HM.out; omega) (by have := HM.out; omega)).mono ?_
  rintro e wq ⟨rfl, rfl⟩
  go_wp2_with fail
  refine (l02Above_any _ true HA.out _).mono ?_
  rintro e w2 ⟨he2, rfl⟩
  have HB2 := Lib.hid (HB0.out.ext he2)
  have HE2 := Lib.hid (Ext.trans HE0.out he2)
  have hws : w.heap.size < w2.heap.size := HB2.out.lt
  clear he2 HB0 HE0
  go_wp2_with fail
  have hown : ((w2.alloc (.cells #[] 54)).alloc (.cells #[.slice (some ⟨w2.heap.size, 0, none⟩) 0 0, .float .f32 sp] 48)).ownsRow w2.heap.size 54 3 (.slice (some ⟨w2.heap.size, 0, none⟩) 0 0) 0 [] := (World.ownsRow_made w2 #[] 0 (Nat.le_refl _) (by decide) rfl).alloc _
  have hout : Blk ((w2.alloc (.cells #[] 54)).alloc (.cells #[.slice (some ⟨w2.heap.size, 0, none⟩) 0 0, .float .f32 sp] 48)) (w2.heap.size + 1) 48 #[.slice (some ⟨w2.heap.size, 0, none⟩) 0 0, .float .f32 sp] := Blk.at_ _ _ _ _ (by simp)
  have he3 : Ext w2 ((w2.alloc (.cells #[] 54)).alloc (.cells #[.slice (some ⟨w2.heap.size, 0, none⟩) 0 0, .float .f32 sp] 48)) := by (repeat first | with_reducible exact Ext.rfl' _ | with_reducible refine Ext.drewN ?_ _ | with_reducible refine Ext.drew' ?_ | with_reducible refine Ext.alloc' ?_ _ | with_reducible refine Ext.setCell_at ?_ _ _ _ (by first | exact Nat.le_refl _ | omega) | with_reducible assumption | refine Ext.trans ?_ (by with_reducible assumption))
  generalize (w2.alloc (.cells #[] 54)).alloc (.cells #[.slice (some ⟨w2.heap.size, 0, none⟩) 0 0, .float .f32 sp] 48) = W3 at *
  have HO3 := Lib.hid hown
  have HB3 := Lib.hid hout
  have HE3 := Lib.hid he3
  clear hown hout he3
  go_loopw [11] (fun i wr => ∃ (k gg cp : Nat) (xs : List Value), k ≤ m ∧ i = .int .i64 k ∧ wr.ownsRow w2.heap.size 54 3 (.slice (some ⟨gg, 0, none⟩) k cp) k xs ∧ LVs xs (ringL m (cn .f32 radius) (fun _ => cn .f32 height) k) ∧ Blk wr (w2.heap.size + 1) 48 #[.slice (some ⟨gg, 0, none⟩) k cp, .float .f32 sp] ∧ Ext w2 wr) (fun i _ => m - (intOf i).toNat)
  case atStart => exact ⟨0, w2.heap.size, 0, [], Nat.zero_le _, rfl, HO3.out, LVs.nil, HB3.out, HE3.out⟩
  case round =>
    obtain ⟨k, gg, cp, xs, hk, rfl, hown, hlv, hout, hbel⟩ := hrel
    have HOW := Lib.hid hown
    have HLV := Lib.hid hlv
    have HOUT := Lib.hid hout
    have HE := Lib.hid hbel
    clear hown hlv hout hbel
    have q0 : wr.cell? ⟨w2.heap.size + 1, 0, none⟩ = some (.slice (some ⟨gg, 0, none⟩) k cp) := HOUT.out.cell 0
    have q1 : wr.cell? ⟨w2.heap.size + 1, 1, none⟩ = some (.float .f32 sp) := HOUT.out.cell 1
    by_cases hlt : k < m
    · have hm32 : m ≤ 32 := HM.out.2
      have hqb : ∀ w, (binOp .quo 22 (.float .f32 (floatOfInt .f32 k)) (.float .f32 (floatOfInt .f32 m))).run Try.prog w = .ok (.float .f32 (shareP k m)) w := fun w => run_float_arith w .quo 22 .f32 _ _ _ (share_some k m (by omega) hm32 (by omega))
      have HSH := Lib.hid (cn_share k m (by omega) hm32 (by omega))
      have n3 : w2.heap.size + 1 < wr.heap.size := HOUT.out.lt
      go_wp2_with fail
      go_region_law (first
        | (go_simp; go_at_call 150; refine (l06Round_any _ _ _ _).mono ?_; rintro e w6 ⟨he6, r', s', t', rfl, hq⟩; have HQ := Lib.hid hq; have HX6 := Lib.hid (show Ext wr w6 from Ext.trans (Ext.drew' (Ext.rfl' _)) he6); clear hq he6; (have HOUT5 := Lib.hid (HOUT.out.ext HX6.out)); (have k0 : w6.cell? ⟨w2.heap.size + 1, 0, none⟩ = some (.slice (some ⟨gg, 0, none⟩) k cp) := HOUT5.out.cell 0); (have k1 : w2.heap.size + 1 < w6.heap.size := HOUT5.out.lt); (have hown5 := HOW.out.kept (w' := w6) (row := none) ⟨HX6.out.os, HX6.out.tape, HX6.out.output, HX6.out.size, fun k hk _ => HX6.out.block k hk⟩ (Or.inr (by simp [Value.ownBlock]))); have HO5 := Lib.hid hown5; clear hown5)
        | (refine step_append_lies _ (by rfl) _ _ _ (by rfl) w2.heap.size 54 i0 _ 3 12 under_points hi0 iz0 iz1 iz2 rfl (by omega) (.slice (some ⟨gg, 0, none⟩) k cp) k xs (by rfl) (HO5.out.alloc _) ⟨w6.heap.size, 0, none⟩ 1 1 [.float .f32 r', .float .f32 s', .float .f32 t'] (by rfl) rfl (World.news_of_block (cs := #[.float .f32 r', .float .f32 s', .float .f32 t']) (t := 54) (fr := (0, 0)) (heap_alloc_new w6 _)) (by simp [Value.oneCell']) (by omega) (by unfold maxLen; omega) (by omega) (by have := HE.out.size; have := HX6.out.size; (try simp only [World.size_alloc, World.size_drew]); omega) _ rfl ?_; intro g2 cp2 w7 hown7 hgrow hat hlt7; (have hgl := HOW.out.lt); (have e7 : Ext w2 w7 := Ext.grown (Ext.trans HE.out (Ext.trans HX6.out (Ext.alloc' (Ext.rfl' w6) _))) hgrow (fun k hk => (hgl k hk).1)); obtain ⟨cur, hcur⟩ := own_block HOW.out; (have hne := blk_ne hcur HOUT.out (by decide)); (have hout7 : Blk w7 (w2.heap.size + 1) 48 #[.slice (some ⟨gg, 0, none⟩) k cp, .float .f32 sp] := (hgrow.block _ (by have := HOUT5.out.lt; simp; omega) (by simp [Value.ownBlock]; omega)).trans (show Blk _ _ _ _ from HOUT5.out.alloc _)); (have HOUT7 := Lib.hid hout7); (have HE7 := Lib.hid e7); (have HO7 := Lib.hid hown7); (have p0 : w7.cell? ⟨w2.heap.size + 1, 0, none⟩ = some (.slice (some ⟨gg, 0, none⟩) k cp) := hout7.cell 0); (have pf0 := hout7.frozen 0); clear hown7 hgrow hat hlt7 hgl e7 hcur hne hout7 cur q0 q1 k0))
      all_goals
        go_wp2_with fail
        have hset := HOUT7.out.set_ 0 (.slice (some ⟨g2, 0, none⟩) (k + 1) cp2)
        obtain ⟨cur, hcur⟩ := own_block HO7.out
        have hne := blk_ne hcur HOUT7.out (by decide)
        go_roundw
        case rel =>
          refine ⟨k + 1, g2, cp2, xs ++ [.float .f32 r', .float .f32 s', .float .f32 t'], by omega, rfl, HO7.out.kept (row := some (w2.heap.size + 1)) (only_setCell (g := w2.heap.size + 1) (p := ⟨w2.heap.size + 1, 0, none⟩) (only_refl _ _) rfl _) (Or.inr (by simp [Value.ownBlock]; omega)), ?_, by simpa using hset, Ext.setCell_at HE7.out _ _ _ (by omega)⟩
          rw [ringL_succ]
          refine LVs.append HLV.out ?_
          have hv : ringV m (cn .f32 radius) (fun _ => cn .f32 height) k = cv r' s' t' := by
            rw [HQ.out, HSH.out]; rfl
          rw [hv]
          exact LVs.one r' s' t'
        case measure =>
          simp only [intOf]
          omega
    · have hkl : k = m := by omega
      subst hkl
      have HR := Lib.hid ((HB2.out.ext HE.out))
      have HVO := Lib.hid (show VO wr w2.heap.size (some ⟨gg, 0, none⟩) (ringL k (cn .f32 radius) (fun _ => cn .f32 height) k) from by
        obtain ⟨A', cp', hA', hv⟩ := vo_of_owns HOW.out HLV.out (by rw [ringL_len])
        simp only [Value.slice.injEq] at hA'
        rw [← hA'.1] at hv
        exact hv)
      obtain ⟨P, hP⟩ : ∃ P, giveV (ringL k (cn .f32 radius) (fun _ => cn .f32 height) k) (cn .f32 sp) = P := ⟨_, rfl⟩
      obtain ⟨pb, ds, ps⟩ := P
      have HP := Lib.hid hP
      clear hP
      have hgv := giveV_own (some ⟨gg, 0, none⟩) cp sp _ k w2.heap.size (ringL_len _ _ _ k) wr HVO.out (by have := HM.out; omega) pb ds ps HP.out
      have HGV := Lib.hid hgv
      clear hgv
      go_wp2_with fail
      refine HGV.out.mono ?_
      rintro e w6 ⟨he6, A0, cap0, s0, rfl, hv6, hs6⟩
      have HR6 := Lib.hid (HR.out.ext he6)
      have HE6 := Lib.hid (Ext.trans HE2.out (Ext.trans HE.out he6))
      have HV6 := Lib.hid hv6
      have HS6 := Lib.hid hs6
      have r0 : w6.cell? ⟨w.heap.size, 0, none⟩ = some (.slice none 0 0) := HR6.out.cell 0
      have r1 : w6.cell? ⟨w.heap.size, 1, none⟩ = some (.float .f32 0) := HR6.out.cell 1
      have rf0 := HR6.out.frozen 0
      have rf1 := HR6.out.frozen 1
      clear he6 hv6 hs6
      go_wp2_with fail
      have hla := Laid.set (w0 := w) (g := w.heap.size) HE6.out HV6.out (by omega) HR6.out (Nat.le_refl _) hws cap0 s0
      obtain ⟨-, -, c0, c1, hE, hv, -⟩ := hla
      refine bodyPost_ret (v := .tuple #[.agg #[.slice A0 ds.length cap0, .float .f32 s0], .bool pb]) (by simp [results, Try.results73, go_sem, c0, c1]) rfl ⟨hE, ?_⟩
      rw [HP.out]
      exact ⟨A0, cap0, s0, rfl, hv, HS6.out⟩
theorem specRing_any (n : Int) (radius height sp : Nat) (w : World) :
    Calls Try.prog 73 #[.int .i64 n, .float .f32 radius, .float .f32 height, .float .f32 sp] w fun e w' => Ext w w' ∧ RT w w' e (ringP n (cn .f32 radius) (fun _ => cn .f32 height) (cn .f32 sp)) := by
  unfold ringP
  cases h : ringOk n (cn .f32 radius) with
  | false => exact specRingNo_any n radius height sp w h
  | true =>
    unfold ringOk at h
    simp only [Bool.and_eq_true, decide_eq_true_eq] at h
    obtain ⟨m, rfl⟩ : ∃ m : Nat, n = m := ⟨n.toNat, by omega⟩
    exact specRingYes_any m radius height sp w (by omega) (by omega) h.2
end Go.Proofs.Ytbaohbpfnlicpaa
