/- Walks: the nearest points of two threads, by the program. -/
import Derived.Test.YtbaohbpfnlicpaaN3
namespace Go.Proofs.Ytbaohbpfnlicpaa
open Go Go.RowKit
set_option linter.unusedVariables false
set_option linter.unusedSimpArgs false
attribute [local go_sem] run_store_float

set_option maxRecDepth 100000 in
set_option maxHeartbeats 800000 in
theorem implNearNo_any (A : Option Addr) (cap sp : Nat) (B : Option Addr) (cap' sq : Nat) (cs ds : List V3) (w : World) (hA : VS w A cs) (hB : VS w B ds) (hl : cs.length ≤ 1048576) (hl' : ds.length ≤ 1048576) (hno : (isTh cs (cn .f32 sp) && isTh ds (cn .f32 sq)) = false) :
    Calls Try.prog 72 #[.agg #[.slice A cs.length cap, .float .f32 sp], .agg #[.slice B ds.length cap', .float .f32 sq]] w fun e w' => Ext w w' ∧ RN e (false, 0, 0, 0) := by
  have HA := Lib.hid hA
  have HB := Lib.hid hB
  have HL := Lib.hid hl
  have HL' := Lib.hid hl'
  clear hA hB hl hl'
  have HT' := Lib.hid (show TAt ((w.alloc (.cells #[.slice A cs.length cap, .float .f32 sp] 48)).alloc (.cells #[.slice B ds.length cap', .float .f32 sq] 48)) (w.heap.size + 1) 0 B ds.length cap' sq from ⟨by simp <;> omega, by go_simp, by go_simp⟩)
  have HE1 := Lib.hid (show Ext w ((w.alloc (.cells #[.slice A cs.length cap, .float .f32 sp] 48)).alloc (.cells #[.slice B ds.length cap', .float .f32 sq] 48)) by (repeat first | with_reducible exact Ext.rfl' _ | with_reducible refine Ext.drewN ?_ _ | with_reducible refine Ext.drew' ?_ | with_reducible refine Ext.alloc' ?_ _ | with_reducible refine Ext.setCell_at ?_ _ _ _ (by first | exact Nat.le_refl _ | omega) | with_reducible assumption | refine Ext.trans ?_ (by with_reducible assumption)))
  cases h0 : isTh cs (cn .f32 sp) with
  | false =>
    have H0 := Lib.hid h0
    clear h0 hno
    go_enter Try.func72, Try.ntmps72
    go_wp2_with fail
    generalize ((w.alloc (.cells #[.slice A cs.length cap, .float .f32 sp] 48)).alloc (.cells #[.slice B ds.length cap', .float .f32 sq] 48)) = W1 at *
    refine (IsThread_any A cap sp cs _ (HA.out.ext HE1.out) HL.out false H0.out).mono ?_
    rintro e w2 ⟨he2, rfl⟩
    have HE2 := Lib.hid (Ext.trans HE1.out he2)
    clear he2
    go_wp2_with fail
    refine bodyPost_ret (v := .tuple #[.int .i64 0, .int .i64 0, .float .f32 0, .bool false]) (by simp [results, Try.results72, go_sem]) rfl ?_
    exact ⟨HE2.out, 0, rfl, cn_zero32⟩
  | true =>
    rw [h0, Bool.true_and] at hno
    have H0 := Lib.hid h0
    have H1 := Lib.hid hno
    clear h0 hno
    go_enter Try.func72, Try.ntmps72
    go_wp2_with fail
    generalize ((w.alloc (.cells #[.slice A cs.length cap, .float .f32 sp] 48)).alloc (.cells #[.slice B ds.length cap', .float .f32 sq] 48)) = W1 at *
    refine (IsThread_any A cap sp cs _ (HA.out.ext HE1.out) HL.out true H0.out).mono ?_
    rintro e w1 ⟨he1, rfl⟩
    have HEa := Lib.hid (Ext.trans HE1.out he1)
    obtain ⟨tl, t0, t1⟩ := HT'.out.ext he1
    clear he1
    go_wp2_with fail
    refine (IsThread_any B cap' sq ds _ (HB.out.ext HEa.out) HL'.out false H1.out).mono ?_
    rintro e w2 ⟨he2, rfl⟩
    have HE2 := Lib.hid (Ext.trans HEa.out he2)
    clear he2
    go_wp2_with fail
    refine bodyPost_ret (v := .tuple #[.int .i64 0, .int .i64 0, .float .f32 0, .bool false]) (by simp [results, Try.results72, go_sem]) rfl ?_
    exact ⟨HE2.out, 0, rfl, cn_zero32⟩

set_option maxRecDepth 100000 in
set_option maxHeartbeats 1600000 in
theorem implNearYes_any (A : Option Addr) (cap sp : Nat) (B : Option Addr) (cap' sq : Nat) (cs ds : List V3) (w : World) (hA : VS w A cs) (hB : VS w B ds) (h0 : isTh cs (cn .f32 sp) = true) (h1 : isTh ds (cn .f32 sq) = true) (PP : Bool × Nat × Nat × Nat) (hPP : (if finF (curN (distN cs ds) ds.length cs.length 0).2.2 then (true, curN (distN cs ds) ds.length cs.length 0) else (false, 0, 0, 0)) = PP) :
    Calls Try.prog 72 #[.agg #[.slice A cs.length cap, .float .f32 sp], .agg #[.slice B ds.length cap', .float .f32 sq]] w fun e w' => Ext w w' ∧ RN e PP := by
  have HPP := Lib.hid hPP
  clear hPP
  have hc : 3 ≤ cs.length ∧ cs.length ≤ 32 := by have hi := h0; unfold isTh at hi; simp only [Bool.and_eq_true, decide_eq_true_eq] at hi; exact hi.1.1
  have hd : 3 ≤ ds.length ∧ ds.length ≤ 32 := by have hi := h1; unfold isTh at hi; simp only [Bool.and_eq_true, decide_eq_true_eq] at hi; exact hi.1.1
  have HC := Lib.hid hc
  have HD := Lib.hid hd
  obtain ⟨ba, oa, rfl, hba, hca⟩ := hA (by omega)
  obtain ⟨bb, ob, rfl, hbb, hcb⟩ := hB (by omega)
  have HA := Lib.hid hA
  have HB := Lib.hid hB
  have HCA := Lib.hid hca
  have HCB := Lib.hid hcb
  have HBA := Lib.hid hba
  have HBB := Lib.hid hbb
  have H0 := Lib.hid h0
  have H1 := Lib.hid h1
  clear hA hB hca hcb hba hbb h0 h1 hc hd
  have HT := Lib.hid (show TAt ((w.alloc (.cells #[.slice (some ⟨ba, oa, none⟩) cs.length cap, .float .f32 sp] 48)).alloc (.cells #[.slice (some ⟨bb, ob, none⟩) ds.length cap', .float .f32 sq] 48)) w.heap.size 0 (some ⟨ba, oa, none⟩) cs.length cap sp from ⟨by simp <;> omega, by go_simp, by go_simp⟩)
  have HT' := Lib.hid (show TAt ((w.alloc (.cells #[.slice (some ⟨ba, oa, none⟩) cs.length cap, .float .f32 sp] 48)).alloc (.cells #[.slice (some ⟨bb, ob, none⟩) ds.length cap', .float .f32 sq] 48)) (w.heap.size + 1) 0 (some ⟨bb, ob, none⟩) ds.length cap' sq from ⟨by simp <;> omega, by go_simp, by go_simp⟩)
  have HE1 := Lib.hid (show Ext w ((w.alloc (.cells #[.slice (some ⟨ba, oa, none⟩) cs.length cap, .float .f32 sp] 48)).alloc (.cells #[.slice (some ⟨bb, ob, none⟩) ds.length cap', .float .f32 sq] 48)) by (repeat first | with_reducible exact Ext.rfl' _ | with_reducible refine Ext.drewN ?_ _ | with_reducible refine Ext.drew' ?_ | with_reducible refine Ext.alloc' ?_ _ | with_reducible refine Ext.setCell_at ?_ _ _ _ (by first | exact Nat.le_refl _ | omega) | with_reducible assumption | refine Ext.trans ?_ (by with_reducible assumption)))
  go_enter Try.func72, Try.ntmps72
  go_wp2_with fail
  generalize ((w.alloc (.cells #[.slice (some ⟨ba, oa, none⟩) cs.length cap, .float .f32 sp] 48)).alloc (.cells #[.slice (some ⟨bb, ob, none⟩) ds.length cap', .float .f32 sq] 48)) = W1 at *
  refine (IsThread_any _ cap sp cs _ (HA.out.ext HE1.out) (by have := HC.out; omega) true H0.out).mono ?_
  rintro e w1 ⟨he1, rfl⟩
  have HEa := Lib.hid (Ext.trans HE1.out he1)
  have HTa := Lib.hid (HT.out.ext he1)
  have HT'a := Lib.hid (HT'.out.ext he1)
  obtain ⟨tl', t0', t1'⟩ := HT'a.out
  clear he1
  go_wp2_with fail
  refine (IsThread_any _ cap' sq ds _ (HB.out.ext HEa.out) (by have := HD.out; omega) true H1.out).mono ?_
  rintro e w2 ⟨he2, rfl⟩
  have HE2 := Lib.hid (Ext.trans HEa.out he2)
  have HT2 := Lib.hid (HTa.out.ext he2)
  have HT2' := Lib.hid (HT'a.out.ext he2)
  have hw2b : w.heap.size + 1 < w2.heap.size := HT2'.out.1
  clear he2 tl' t0' t1'
  obtain ⟨tl, t0, t1⟩ := HT2.out
  obtain ⟨tl', t0', t1'⟩ := HT2'.out
  obtain ⟨x1, y1, z1, c0, c1, c2, hcv⟩ := HCA.out 0 (by have := HC.out; omega)
  obtain ⟨x2, y2, z2, d0, d1, d2, hdv⟩ := HCB.out 0 (by have := HD.out; omega)
  simp only [Nat.zero_mul, Nat.add_zero] at c0 c1 c2 d0 d1 d2
  have e0 := (HE2.out.cell (p := ⟨_, _, none⟩) HBA.out).trans c0
  have e1 := (HE2.out.cell (p := ⟨_, _, none⟩) HBA.out).trans c1
  have e2 := (HE2.out.cell (p := ⟨_, _, none⟩) HBA.out).trans c2
  have g0 := (HE2.out.cell (p := ⟨_, _, none⟩) HBB.out).trans d0
  have g1 := (HE2.out.cell (p := ⟨_, _, none⟩) HBB.out).trans d1
  have g2 := (HE2.out.cell (p := ⟨_, _, none⟩) HBB.out).trans d2
  have hza : ba < w2.heap.size := Nat.lt_of_lt_of_le HBA.out HE2.out.size
  have hzb : bb < w2.heap.size := Nat.lt_of_lt_of_le HBB.out HE2.out.size
  have HCV := Lib.hid hcv
  have HDV := Lib.hid hdv
  have hi0 : (0 : Int) < (cs.length : Int) := by have := HC.out; omega
  have hk0 : (0 : Int) < (ds.length : Int) := by have := HD.out; omega
  have hi0n : 0 < cs.length := by omega
  have hk0n : 0 < ds.length := by omega
  clear c0 c1 c2 d0 d1 d2 hcv hdv
  go_wp2_with fail
  go_still_tail 8, (by kernel_rfl)
  go_wp2_with fail
  refine (LessVectors_any x2 y2 z2 x1 y1 z1 _).mono ?_
  rintro e w5 ⟨he5, r5, s5, u5, rfl, hr5⟩
  have HR5 := Lib.hid hr5
  have E5 : Ext w2 w5 := Ext.trans (Ext.drew' (Ext.rfl' _)) he5
  clear hr5 he5
  go_wp2_with fail
  refine (SizeOfVector_any r5 s5 u5 _).mono ?_
  rintro e w6 ⟨he6, r6, rfl, hr6⟩
  have HR6 := Lib.hid hr6
  have E6 : Ext w2 w6 := Ext.trans E5 he6
  have HD6 := Lib.hid (show cn .f32 r6 = distN cs ds 0 0 from by rw [HR6.out, HR5.out, HCV.out, HDV.out]; rfl)
  have HE6 := Lib.hid E6
  have HX6 := Lib.hid (Ext.trans HE2.out E6)
  clear t0 t1 tl t0' t1' tl' hr6 he6 E5 e0 e1 e2 g0 g1 g2 HR6 HR5 HCV HDV hza hzb
  obtain ⟨tl, t0, t1⟩ := HT2.out.ext E6
  have HT6 := Lib.hid (HT2.out.ext E6)
  have HT6' := Lib.hid (HT2'.out.ext E6)
  clear E6
  go_wp2_with fail
  go_loopw [8, 9, 10, 37] (fun x y l iv wr => ∃ (i r : Nat), i ≤ cs.length ∧ iv = .int .i64 i ∧ x = .int .i64 (curN (distN cs ds) ds.length i 0).1 ∧ y = .int .i64 (curN (distN cs ds) ds.length i 0).2.1 ∧ l = .float .f32 r ∧ cn .f32 r = (curN (distN cs ds) ds.length i 0).2.2 ∧ Ext w6 wr) (fun _ _ _ iv _ => cs.length - (intOf iv).toNat)
  case atStart => exact ⟨0, r6, by omega, rfl, rfl, rfl, rfl, HD6.out, Ext.rfl' _⟩
  case round =>
    clear t0 t1 tl
    obtain ⟨i, r, hi, rfl, rfl, rfl, rfl, hr, hbel⟩ := hrel
    have HR := Lib.hid hr
    have HE := Lib.hid hbel
    have HX := Lib.hid (Ext.trans HX6.out hbel)
    have HTr' := Lib.hid (HT6'.out.ext hbel)
    clear hr hbel
    by_cases hlt : i < cs.length
    · have hltI : (i : Int) < (cs.length : Int) := by omega
      obtain ⟨x1, y1, z1, c0, c1, c2, hcv⟩ := HCA.out i (by omega)
      have e0 := (HX.out.cell (p := ⟨_, _, none⟩) HBA.out).trans c0
      have e1 := (HX.out.cell (p := ⟨_, _, none⟩) HBA.out).trans c1
      have e2 := (HX.out.cell (p := ⟨_, _, none⟩) HBA.out).trans c2
      have HCV := Lib.hid hcv
      have hi0 : (0 : Int) ≤ (i : Int) := by omega
      clear c0 c1 c2 hcv
      obtain ⟨tl', t0', t1'⟩ := HTr'.out
      go_wp2_with fail
      have hgx : Ext wr (wr.alloc (.cells #[.float .f32 x1, .float .f32 y1, .float .f32 z1] 54)) := by (repeat first | with_reducible exact Ext.rfl' _ | with_reducible refine Ext.drewN ?_ _ | with_reducible refine Ext.drew' ?_ | with_reducible refine Ext.alloc' ?_ _ | with_reducible refine Ext.setCell_at ?_ _ _ _ (by first | exact Nat.le_refl _ | omega) | with_reducible assumption | refine Ext.trans ?_ (by with_reducible assumption))
      have hgb : Blk (wr.alloc (.cells #[.float .f32 x1, .float .f32 y1, .float .f32 z1] 54)) wr.heap.size 54 #[.float .f32 x1, .float .f32 y1, .float .f32 z1] := Blk.at_ _ _ _ _ rfl
      generalize wr.alloc (.cells #[.float .f32 x1, .float .f32 y1, .float .f32 z1] 54) = W7 at *
      have HGB := Lib.hid hgb
      have HE7 := Lib.hid (Ext.trans HE.out hgx)
      have hsr : w6.heap.size ≤ wr.heap.size := HE.out.size
      generalize hgv : wr.heap.size = v7 at *
      clear hgx hgb t0' t1' tl' e0 e1 e2 HTr' HE HX hgv wr
      go_loopw [8, 9, 10, 45] (fun x y l kv wi => ∃ (k q : Nat), k ≤ ds.length ∧ kv = .int .i64 k ∧ x = .int .i64 (curN (distN cs ds) ds.length i k).1 ∧ y = .int .i64 (curN (distN cs ds) ds.length i k).2.1 ∧ l = .float .f32 q ∧ cn .f32 q = (curN (distN cs ds) ds.length i k).2.2 ∧ Ext W7 wi) (fun _ _ _ kv _ => ds.length - (intOf kv).toNat)
      case atStart => exact ⟨0, r, by omega, rfl, rfl, rfl, rfl, HR.out, Ext.rfl' _⟩
      case round =>
        rename World => wi
        obtain ⟨k, q, hk, rfl, rfl, rfl, rfl, hq, hbel⟩ := hrel
        have HQ := Lib.hid hq
        have HEi := Lib.hid hbel
        have HX := Lib.hid (Ext.trans HX6.out (Ext.trans HE7.out hbel))
        have HGi := Lib.hid (HGB.out.ext hbel)
        clear hq hbel
        by_cases hlk : k < ds.length
        · have hlkI : (k : Int) < (ds.length : Int) := by omega
          obtain ⟨x2, y2, z2, d0, d1, d2, hdv⟩ := HCB.out k (by omega)
          have g0 := (HX.out.cell (p := ⟨_, _, none⟩) HBB.out).trans d0
          have g1 := (HX.out.cell (p := ⟨_, _, none⟩) HBB.out).trans d1
          have g2 := (HX.out.cell (p := ⟨_, _, none⟩) HBB.out).trans d2
          have j0 : wi.cell? ⟨v7, 0, none⟩ = some (.float .f32 x1) := HGi.out.cell 0
          have j1 : wi.cell? ⟨v7, 1, none⟩ = some (.float .f32 y1) := HGi.out.cell 1
          have j2 : wi.cell? ⟨v7, 2, none⟩ = some (.float .f32 z1) := HGi.out.cell 2
          have hv7 : v7 < wi.heap.size := HGi.out.lt
          have HDV := Lib.hid hdv
          have hk0 : (0 : Int) ≤ (k : Int) := by omega
          clear d0 d1 d2 hdv
          go_wp2_with fail
          refine (LessVectors_any x2 y2 z2 x1 y1 z1 _).mono ?_
          rintro e w8 ⟨he8, r8, s8, u8, rfl, hr8⟩
          have HR8 := Lib.hid hr8
          have HE8 := Lib.hid (show Ext wi w8 by (repeat first | with_reducible exact Ext.rfl' _ | with_reducible refine Ext.drewN ?_ _ | with_reducible refine Ext.drew' ?_ | with_reducible refine Ext.alloc' ?_ _ | with_reducible refine Ext.setCell_at ?_ _ _ _ (by first | exact Nat.le_refl _ | omega) | with_reducible assumption | refine Ext.trans ?_ (by with_reducible assumption)))
          clear hr8 he8 g0 g1 g2 j0 j1 j2
          go_wp2_with fail
          refine (SizeOfVector_any r8 s8 u8 _).mono ?_
          rintro e w9 ⟨he9, r9, rfl, hr9⟩
          have HD9 := Lib.hid (show cn .f32 r9 = distN cs ds i k from by rw [hr9, HR8.out, HCV.out, HDV.out]; rfl)
          have HE9 := Lib.hid (Ext.trans HEi.out (Ext.trans HE8.out he9))
          have hwk : wrap64 ((k : Int) + 1) = ((k + 1 : Nat) : Int) := by have := HD.out; unfold wrap64; omega
          clear hr9 he9
          cases hcmp : fcmp .lss .f32 (cn .f32 r9) (cn .f32 q) with
          | true =>
            have HCM := Lib.hid hcmp
            have hst : curN (distN cs ds) ds.length i (k + 1) = (i, k, distN cs ds i k) := by
              show stepN (distN cs ds i k) i k (curN (distN cs ds) ds.length i k) = _
              unfold stepN
              rw [← HD9.out, ← HQ.out, HCM.out, if_pos rfl]
            go_wp2_with (first | (refine wpList_float rfl _ _ _ _ _ rfl (by decide) _ _ _ rfl rfl ?_; intro r1 n1 q1) | (refine wpList_fcmp rfl _ _ _ _ _ rfl rfl _ _ _ rfl rfl _ (by first | with_reducible assumption | rfl) ?_) | (refine wpList_fneg rfl _ _ rfl _ _ rfl ?_; intro r1 q1))
            generalize hzz : wrap64 ((k : Int) + 1) = zz at *
            subst hwk
            go_roundw
            case rel => exact ⟨k + 1, r9, by omega, rfl, by rw [hst], by rw [hst], rfl, by rw [hst]; exact HD9.out, HE9.out⟩
            case measure =>
                simp only [intOf]
                omega
          | false =>
            have HCM := Lib.hid hcmp
            have hst : curN (distN cs ds) ds.length i (k + 1) = curN (distN cs ds) ds.length i k := by
              show stepN (distN cs ds i k) i k (curN (distN cs ds) ds.length i k) = _
              unfold stepN
              rw [← HD9.out, ← HQ.out, HCM.out]
              rfl
            go_wp2_with (first | (refine wpList_float rfl _ _ _ _ _ rfl (by decide) _ _ _ rfl rfl ?_; intro r1 n1 q1) | (refine wpList_fcmp rfl _ _ _ _ _ rfl rfl _ _ _ rfl rfl _ (by first | with_reducible assumption | rfl) ?_) | (refine wpList_fneg rfl _ _ rfl _ _ rfl ?_; intro r1 q1))
            generalize hzz : wrap64 ((k : Int) + 1) = zz at *
            subst hwk
            go_roundw
            case rel => exact ⟨k + 1, q, by omega, rfl, by rw [hst], by rw [hst], rfl, by rw [hst]; exact HQ.out, HE9.out⟩
            case measure =>
                simp only [intOf]
                omega
        · have hlkI : ¬ (k : Int) < (ds.length : Int) := by omega
          have hkn : k = ds.length := by omega
          subst hkn
          have hwi : wrap64 ((i : Int) + 1) = ((i + 1 : Nat) : Int) := by have := HC.out; unfold wrap64; omega
          go_wp2_with fail
          generalize hzz : wrap64 ((i : Int) + 1) = zz at *
          subst hwi
          go_roundw
          case rel => exact ⟨i + 1, q, by omega, rfl, by rw [curN_row], by rw [curN_row], rfl, by rw [← curN_row]; exact HQ.out, Ext.trans HE7.out HEi.out⟩
          case measure =>
            simp only [intOf]
            omega
    · have hltI : ¬ (i : Int) < (cs.length : Int) := by omega
      have hin : i = cs.length := by omega
      subst hin
      generalize curN (distN cs ds) ds.length cs.length 0 = S at *
      go_wp2_with fail
      cases hf : finF S.2.2 with
      | false =>
        have HF := Lib.hid hf
        clear hf
        refine (IsFinite_any _ false (by rw [HR.out]; exact HF.out) _).mono ?_
        rintro e w7 ⟨he7, rfl⟩
        go_wp2_with fail
        refine bodyPost_ret (v := .tuple #[.int .i64 0, .int .i64 0, .float .f32 0, .bool false]) (by simp [results, Try.results72, go_sem]) rfl ?_
        refine ⟨Ext.trans HX.out he7, ?_⟩
        rw [← HPP.out, HF.out]
        exact ⟨0, rfl, cn_zero32⟩
      | true =>
        have HF := Lib.hid hf
        clear hf
        refine (IsFinite_any _ true (by rw [HR.out]; exact HF.out) _).mono ?_
        rintro e w7 ⟨he7, rfl⟩
        go_wp2_with fail
        refine bodyPost_ret (v := .tuple #[.int .i64 S.1, .int .i64 S.2.1, .float .f32 r, .bool true]) (by simp [results, Try.results72, go_sem]) rfl ?_
        refine ⟨Ext.trans HX.out he7, ?_⟩
        rw [← HPP.out, HF.out, if_pos rfl]
        exact ⟨r, rfl, HR.out⟩

theorem specNear_any (A : Option Addr) (cap sp : Nat) (B : Option Addr) (cap' sq : Nat) (cs ds : List V3) (w : World) (hA : VS w A cs) (hB : VS w B ds) (hl : cs.length ≤ 1048576) (hl' : ds.length ≤ 1048576) :
    Calls Try.prog 71 #[.agg #[.slice A cs.length cap, .float .f32 sp], .agg #[.slice B ds.length cap', .float .f32 sq]] w fun e w' => Ext w w' ∧ RN e (nearP cs (cn .f32 sp) ds (cn .f32 sq)) := by
  unfold nearP
  cases h : (isTh cs (cn .f32 sp) && isTh ds (cn .f32 sq)) with
  | false => exact specNearNo_any A cap sp B cap' sq cs ds w hA hB hl hl' h
  | true =>
    simp only [Bool.and_eq_true] at h
    exact specNearYes_any A cap sp B cap' sq cs ds w hA hB h.1 h.2 _ rfl
theorem implNear_any (A : Option Addr) (cap sp : Nat) (B : Option Addr) (cap' sq : Nat) (cs ds : List V3) (w : World) (hA : VS w A cs) (hB : VS w B ds) (hl : cs.length ≤ 1048576) (hl' : ds.length ≤ 1048576) :
    Calls Try.prog 72 #[.agg #[.slice A cs.length cap, .float .f32 sp], .agg #[.slice B ds.length cap', .float .f32 sq]] w fun e w' => Ext w w' ∧ RN e (nearP cs (cn .f32 sp) ds (cn .f32 sq)) := by
  unfold nearP
  cases h : (isTh cs (cn .f32 sp) && isTh ds (cn .f32 sq)) with
  | false => exact implNearNo_any A cap sp B cap' sq cs ds w hA hB hl hl' h
  | true =>
    simp only [Bool.and_eq_true] at h
    exact implNearYes_any A cap sp B cap' sq cs ds w hA hB h.1 h.2 _ rfl
end Go.Proofs.Ytbaohbpfnlicpaa
