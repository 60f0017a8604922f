/- Walks: the nearest points of two threads, by the reference. -/
import Derived.Test.YtbaohbpfnlicpaaN2
import Derived.Test.YtbaohbpfnlicpaaW3
import Derived.Test.YtbaohbpfnlicpaaB1
import Derived.StillTailTactics
namespace Go.Proofs.Ytbaohbpfnlicpaa
open Go Go.RowKit
set_option linter.unusedVariables false
set_option linter.unusedSimpArgs false
attribute [local go_sem] run_store_float

def stepN (d i k : Nat) (s : Nat × Nat × Nat) : Nat × Nat × Nat := if fcmp .lss .f32 d s.2.2 then (i, k, d) else s
def rowN (d : Nat → Nat → Nat) (i : Nat) (s : Nat × Nat × Nat) : Nat → Nat × Nat × Nat
  | 0 => s
  | k + 1 => stepN (d i k) i k (rowN d i s k)
def allN (d : Nat → Nat → Nat) (m : Nat) : Nat → Nat × Nat × Nat
  | 0 => (0, 0, d 0 0)
  | i + 1 => rowN d i (allN d m i) m
/-- the best of all rows above i, and of the first k of row i -/
def curN (d : Nat → Nat → Nat) (m i k : Nat) : Nat × Nat × Nat := rowN d i (allN d m i) k
theorem curN_row (d : Nat → Nat → Nat) (m i : Nat) : curN d m i m = curN d m (i + 1) 0 := rfl
def distN (cs ds : List V3) (i k : Nat) : Nat := longP (vsub (ds.getD k (0, 0, 0)) (cs.getD i (0, 0, 0)))
/-- what NearestOfThreads answers: whether, where, how far -/
def nearP (cs : List V3) (sp : Nat) (ds : List V3) (sq : Nat) : Bool × Nat × Nat × Nat :=
  if isTh cs sp && isTh ds sq then (if finF (curN (distN cs ds) ds.length cs.length 0).2.2 then (true, curN (distN cs ds) ds.length cs.length 0) else (false, 0, 0, 0)) else (false, 0, 0, 0)
def RN (e : Ending) (P : Bool × Nat × Nat × Nat) : Prop := ∃ r, e = .returned (.tuple #[.int .i64 P.2.1, .int .i64 P.2.2.1, .float .f32 r, .bool P.1]) ∧ cn .f32 r = P.2.2.2
/-- what the reference's loop keeps -/
def NS (d : Nat → Nat → Nat) (m i k : Nat) (x y l : Value) : Prop :=
  ∃ r, l = .float .f32 r ∧ ((i = 0 ∧ k = 0 ∧ x = .int .i64 (-1) ∧ y = .int .i64 (-1)) ∨ (¬ (i = 0 ∧ k = 0) ∧ x = .int .i64 (curN d m i k).1 ∧ y = .int .i64 (curN d m i k).2.1 ∧ cn .f32 r = (curN d m i k).2.2))

theorem NS.row {d : Nat → Nat → Nat} {m i : Nat} {x y l : Value} (h : NS d m i m x y l) (hm : 0 < m) : NS d m (i + 1) 0 x y l := by
  obtain ⟨r, hl, hr⟩ := h
  rcases hr with ⟨-, h0, -⟩ | ⟨hne, hx, hy, hr⟩
  · omega
  · rw [curN_row] at hx hy hr
    exact ⟨r, hl, .inr ⟨by omega, hx, hy, hr⟩⟩
set_option maxRecDepth 100000 in
set_option maxHeartbeats 800000 in
theorem specNearNo_any (A : Option Addr) (cap sp : Nat) (B : Option Addr) (cap' sq : Nat) (cs ds : List V3) (w : World) (hA : VS w A cs) (hB : VS w B ds) (hl : cs.length ≤ 1048576) (hl' : ds.length ≤ 1048576) (hno : (isTh cs (cn .f32 sp) && isTh ds (cn .f32 sq)) = false) :
    Calls Try.prog 71 #[.agg #[.slice A cs.length cap, .float .f32 sp], .agg #[.slice B ds.length cap', .float .f32 sq]] w fun e w' => Ext w w' ∧ RN e (false, 0, 0, 0) := by
  have HA := Lib.hid hA
  have HB := Lib.hid hB
  have HL := Lib.hid hl
  have HL' := Lib.hid hl'
  clear hA hB hl hl'
  have HT := Lib.hid (show TAt ((w.alloc (.cells #[.slice A cs.length cap, .float .f32 sp] 48)).alloc (.cells #[.slice B ds.length cap', .float .f32 sq] 48)) w.heap.size 0 A cs.length cap sp from ⟨by simp <;> omega, by go_simp, by go_simp⟩)
  have HT' := Lib.hid (show TAt ((w.alloc (.cells #[.slice A cs.length cap, .float .f32 sp] 48)).alloc (.cells #[.slice B ds.length cap', .float .f32 sq] 48)) (w.heap.size + 1) 0 B ds.length cap' sq from ⟨by simp <;> omega, by go_simp, by go_simp⟩)
  have HE1 := Lib.hid (show Ext w ((w.alloc (.cells #[.slice A cs.length cap, .float .f32 sp] 48)).alloc (.cells #[.slice B ds.length cap', .float .f32 sq] 48)) by (repeat first | with_reducible exact Ext.rfl' _ | with_reducible refine Ext.drewN ?_ _ | with_reducible refine Ext.drew' ?_ | with_reducible refine Ext.alloc' ?_ _ | with_reducible refine Ext.setCell_at ?_ _ _ _ (by first | exact Nat.le_refl _ | omega) | with_reducible assumption | refine Ext.trans ?_ (by with_reducible assumption)))
  cases h0 : isTh cs (cn .f32 sp) with
  | false =>
    have H0 := Lib.hid h0
    clear h0 hno
    go_enter Try.func71, Try.ntmps71
    go_wp2_with fail
    generalize ((w.alloc (.cells #[.slice A cs.length cap, .float .f32 sp] 48)).alloc (.cells #[.slice B ds.length cap', .float .f32 sq] 48)) = W1 at *
    refine (l06Is_any w.heap.size 0 A cap sp cs _ HT.out (HA.out.ext HE1.out) HL.out false H0.out).mono ?_
    rintro e w2 ⟨he2, rfl⟩
    have HE2 := Lib.hid (Ext.trans HE1.out he2)
    clear he2
    go_wp2_with fail
    refine bodyPost_ret (v := .tuple #[.int .i64 0, .int .i64 0, .float .f32 0, .bool false]) (by simp [results, Try.results71, go_sem]) rfl ?_
    exact ⟨HE2.out, 0, rfl, cn_zero32⟩
  | true =>
    rw [h0, Bool.true_and] at hno
    have H0 := Lib.hid h0
    have H1 := Lib.hid hno
    clear h0 hno
    go_enter Try.func71, Try.ntmps71
    go_wp2_with fail
    generalize ((w.alloc (.cells #[.slice A cs.length cap, .float .f32 sp] 48)).alloc (.cells #[.slice B ds.length cap', .float .f32 sq] 48)) = W1 at *
    refine (l06Is_any w.heap.size 0 A cap sp cs _ HT.out (HA.out.ext HE1.out) HL.out true H0.out).mono ?_
    rintro e w1 ⟨he1, rfl⟩
    have HEa := Lib.hid (Ext.trans HE1.out he1)
    have HT'a := Lib.hid (HT'.out.ext he1)
    clear he1
    go_wp2_with fail
    refine (l06Is_any (w.heap.size + 1) 0 B cap' sq ds _ HT'a.out (HB.out.ext HEa.out) HL'.out false H1.out).mono ?_
    rintro e w2 ⟨he2, rfl⟩
    have HE2 := Lib.hid (Ext.trans HEa.out he2)
    clear he2
    go_wp2_with fail
    refine bodyPost_ret (v := .tuple #[.int .i64 0, .int .i64 0, .float .f32 0, .bool false]) (by simp [results, Try.results71, go_sem]) rfl ?_
    exact ⟨HE2.out, 0, rfl, cn_zero32⟩

set_option maxRecDepth 100000 in
set_option maxHeartbeats 1600000 in
theorem specNearYes_any (A : Option Addr) (cap sp : Nat) (B : Option Addr) (cap' sq : Nat) (cs ds : List V3) (w : World) (hA : VS w A cs) (hB : VS w B ds) (h0 : isTh cs (cn .f32 sp) = true) (h1 : isTh ds (cn .f32 sq) = true) (PP : Bool × Nat × Nat × Nat) (hPP : (if finF (curN (distN cs ds) ds.length cs.length 0).2.2 then (true, curN (distN cs ds) ds.length cs.length 0) else (false, 0, 0, 0)) = PP) :
    Calls Try.prog 71 #[.agg #[.slice A cs.length cap, .float .f32 sp], .agg #[.slice B ds.length cap', .float .f32 sq]] w fun e w' => Ext w w' ∧ RN e PP := by
  have HPP := Lib.hid hPP
  clear hPP
  have hc : 3 ≤ cs.length ∧ cs.length ≤ 32 := by have hi := h0; unfold isTh at hi; simp only [Bool.and_eq_true, decide_eq_true_eq] at hi; exact hi.1.1
  have hd : 3 ≤ ds.length ∧ ds.length ≤ 32 := by have hi := h1; unfold isTh at hi; simp only [Bool.and_eq_true, decide_eq_true_eq] at hi; exact hi.1.1
  have HC := Lib.hid hc
  have HD := Lib.hid hd
  obtain ⟨ba, oa, rfl, hba, hca⟩ := hA (by omega)
  obtain ⟨bb, ob, rfl, hbb, hcb⟩ := hB (by omega)
  have HA := Lib.hid hA
  have HB := Lib.hid hB
  have HCA := Lib.hid hca
  have HCB := Lib.hid hcb
  have HBA := Lib.hid hba
  have HBB := Lib.hid hbb
  have H0 := Lib.hid h0
  have H1 := Lib.hid h1
  clear hA hB hca hcb hba hbb h0 h1 hc hd
  have HT := Lib.hid (show TAt ((w.alloc (.cells #[.slice (some ⟨ba, oa, none⟩) cs.length cap, .float .f32 sp] 48)).alloc (.cells #[.slice (some ⟨bb, ob, none⟩) ds.length cap', .float .f32 sq] 48)) w.heap.size 0 (some ⟨ba, oa, none⟩) cs.length cap sp from ⟨by simp <;> omega, by go_simp, by go_simp⟩)
  have HT' := Lib.hid (show TAt ((w.alloc (.cells #[.slice (some ⟨ba, oa, none⟩) cs.length cap, .float .f32 sp] 48)).alloc (.cells #[.slice (some ⟨bb, ob, none⟩) ds.length cap', .float .f32 sq] 48)) (w.heap.size + 1) 0 (some ⟨bb, ob, none⟩) ds.length cap' sq from ⟨by simp <;> omega, by go_simp, by go_simp⟩)
  have HE1 := Lib.hid (show Ext w ((w.alloc (.cells #[.slice (some ⟨ba, oa, none⟩) cs.length cap, .float .f32 sp] 48)).alloc (.cells #[.slice (some ⟨bb, ob, none⟩) ds.length cap', .float .f32 sq] 48)) by (repeat first | with_reducible exact Ext.rfl' _ | with_reducible refine Ext.drewN ?_ _ | with_reducible refine Ext.drew' ?_ | with_reducible refine Ext.alloc' ?_ _ | with_reducible refine Ext.setCell_at ?_ _ _ _ (by first | exact Nat.le_refl _ | omega) | with_reducible assumption | refine Ext.trans ?_ (by with_reducible assumption)))
  go_enter Try.func71, Try.ntmps71
  go_wp2_with fail
  generalize ((w.alloc (.cells #[.slice (some ⟨ba, oa, none⟩) cs.length cap, .float .f32 sp] 48)).alloc (.cells #[.slice (some ⟨bb, ob, none⟩) ds.length cap', .float .f32 sq] 48)) = W1 at *
  refine (l06Is_any w.heap.size 0 _ cap sp cs _ HT.out (HA.out.ext HE1.out) (by have := HC.out; omega) true H0.out).mono ?_
  rintro e w1 ⟨he1, rfl⟩
  have HEa := Lib.hid (Ext.trans HE1.out he1)
  have HTa := Lib.hid (HT.out.ext he1)
  have HT'a := Lib.hid (HT'.out.ext he1)
  clear he1
  go_wp2_with fail
  refine (l06Is_any (w.heap.size + 1) 0 _ cap' sq ds _ HT'a.out (HB.out.ext HEa.out) (by have := HD.out; omega) true H1.out).mono ?_
  rintro e w2 ⟨he2, rfl⟩
  have HE2 := Lib.hid (Ext.trans HEa.out he2)
  have HT2 := Lib.hid (HTa.out.ext he2)
  have HT2' := Lib.hid (HT'a.out.ext he2)
  have hw2a : w.heap.size < w2.heap.size := HT2.out.1
  have hw2b : w.heap.size + 1 < w2.heap.size := HT2'.out.1
  clear he2
  go_wp2_with fail
  go_loopw [8, 9, 10, 11] (fun x y l iv wr => ∃ i : Nat, i ≤ cs.length ∧ iv = .int .i64 i ∧ NS (distN cs ds) ds.length i 0 x y l ∧ Ext w2 wr) (fun _ _ _ iv _ => cs.length - (intOf iv).toNat)
  case atStart => exact ⟨0, by omega, rfl, ⟨0, rfl, .inl ⟨rfl, rfl, rfl, rfl⟩⟩, Ext.rfl' _⟩
  case round =>
    obtain ⟨i, hi, rfl, hns, hbel⟩ := hrel
    have HNS := Lib.hid hns
    have HE := Lib.hid hbel
    clear hns
    obtain ⟨tl, t0, t1⟩ := HT2.out.ext hbel
    obtain ⟨tl', t0', t1'⟩ := HT2'.out.ext hbel
    clear hbel
    by_cases hlt : i < cs.length
    · have hltI : (i : Int) < (cs.length : Int) := by omega
      go_wp2_with fail
      go_loopw [8, 9, 10, 12] (fun x y l kv wi => ∃ k : Nat, k ≤ ds.length ∧ kv = .int .i64 k ∧ NS (distN cs ds) ds.length i k x y l ∧ Ext w2 wi) (fun _ _ _ kv _ => ds.length - (intOf kv).toNat)
      case atStart => exact ⟨0, by omega, rfl, HNS.out, HE.out⟩
      case round =>
        rename World => wi
        clear t0 t1 tl t0' t1' tl' HE HNS
        obtain ⟨k, hk, rfl, hns, hbel⟩ := hrel
        have HNS := Lib.hid hns
        have HE := Lib.hid hbel
        have HX := Lib.hid (Ext.trans HE2.out hbel)
        clear hns
        obtain ⟨tl, t0, t1⟩ := HT2.out.ext hbel
        obtain ⟨tl', t0', t1'⟩ := HT2'.out.ext hbel
        clear hbel
        by_cases hlk : k < ds.length
        · have hlkI : (k : Int) < (ds.length : Int) := by omega
          obtain ⟨x1, y1, z1, c0, c1, c2, hcv⟩ := HCA.out i (by omega)
          obtain ⟨x2, y2, z2, d0, d1, d2, hdv⟩ := HCB.out k (by omega)
          have e0 := (HX.out.cell (p := ⟨_, _, none⟩) HBA.out).trans c0
          have e1 := (HX.out.cell (p := ⟨_, _, none⟩) HBA.out).trans c1
          have e2 := (HX.out.cell (p := ⟨_, _, none⟩) HBA.out).trans c2
          have g0 := (HX.out.cell (p := ⟨_, _, none⟩) HBB.out).trans d0
          have g1 := (HX.out.cell (p := ⟨_, _, none⟩) HBB.out).trans d1
          have g2 := (HX.out.cell (p := ⟨_, _, none⟩) HBB.out).trans d2
          have hza : ba < wi.heap.size := Nat.lt_of_lt_of_le HBA.out HX.out.size
          have hzb : bb < wi.heap.size := Nat.lt_of_lt_of_le HBB.out HX.out.size
          have HCV := Lib.hid hcv
          have HDV := Lib.hid hdv
          have hi0 : (0 : Int) ≤ (i : Int) := by omega
          have hk0 : (0 : Int) ≤ (k : Int) := by omega
          clear c0 c1 c2 d0 d1 d2 hcv hdv
          go_wp2_with fail
          go_still_tail 10, (by kernel_rfl)
          go_wp2_with fail
          refine (l01VLess_any x2 y2 z2 x1 y1 z1 _).mono ?_
          rintro e w5 ⟨he5, r5, s5, u5, rfl, hr5⟩
          have HR5 := Lib.hid hr5
          have E5 : Ext wi w5 := Ext.trans (Ext.drew' (Ext.rfl' _)) he5
          clear hr5 he5
          go_wp2_with fail
          refine (l01VLong_any r5 s5 u5 _).mono ?_
          rintro e w6 ⟨he6, r6, rfl, hr6⟩
          have HR6 := Lib.hid hr6
          have E6 : Ext wi w6 := Ext.trans E5 he6
          have HD6 := Lib.hid (show cn .f32 r6 = distN cs ds i k from by rw [HR6.out, HR5.out, HCV.out, HDV.out]; rfl)
          have HE6 := Lib.hid (Ext.trans HE.out E6)
          have hwk : wrap64 ((k : Int) + 1) = ((k + 1 : Nat) : Int) := by have := HD.out; unfold wrap64; omega
          clear hr6 he6 E5 E6 t0 t1 t0' t1' e0 e1 e2 g0 g1 g2 HR6 HR5
          obtain ⟨r, rfl, hr⟩ := HNS.out
          clear HNS
          rcases hr with ⟨hi00, hk00, rfl, rfl⟩ | ⟨hne, rfl, rfl, hr⟩
          · have HI00 := Lib.hid hi00
            have HK00 := Lib.hid hk00
            clear hi00 hk00
            go_wp2_with fail
            generalize hzz : wrap64 ((k : Int) + 1) = zz at *
            subst hwk
            go_roundw
            case measure =>
                simp only [intOf]
                omega
            case rel =>
            refine ⟨k + 1, by omega, rfl, ⟨r6, rfl, .inr ⟨by omega, ?_⟩⟩, HE6.out⟩
            have hi00 := HI00.out
            have hk00 := HK00.out
            have hst : curN (distN cs ds) ds.length i (k + 1) = (0, 0, distN cs ds i k) := by
              rw [hi00, hk00]
              show stepN (distN cs ds 0 0) 0 0 (0, 0, distN cs ds 0 0) = _
              unfold stepN
              split <;> rfl
            rw [hst]
            exact ⟨by rw [hi00], by rw [hk00], HD6.out⟩
          · have HR := Lib.hid hr
            have hxn : ¬ (((curN (distN cs ds) ds.length i k).1 : Int) < 0) := by omega
            clear hr
            cases hcmp : fcmp .lss .f32 (cn .f32 r6) (cn .f32 r) with
            | true =>
              have HCM := Lib.hid hcmp
              go_wp2_with (first | (refine wpList_float rfl _ _ _ _ _ rfl (by decide) _ _ _ rfl rfl ?_; intro r1 n1 q1) | (refine wpList_fcmp rfl _ _ _ _ _ rfl rfl _ _ _ rfl rfl _ (by first | with_reducible assumption | rfl) ?_) | (refine wpList_fneg rfl _ _ rfl _ _ rfl ?_; intro r1 q1))
              generalize hzz : wrap64 ((k : Int) + 1) = zz at *
              subst hwk
              go_roundw
              case measure =>
                simp only [intOf]
                omega
              case rel =>
              refine ⟨k + 1, by omega, rfl, ⟨r6, rfl, .inr ⟨by omega, ?_⟩⟩, HE6.out⟩
              have hst : curN (distN cs ds) ds.length i (k + 1) = (i, k, distN cs ds i k) := by
                show stepN (distN cs ds i k) i k (curN (distN cs ds) ds.length i k) = _
                unfold stepN
                rw [← HD6.out, ← HR.out, HCM.out, if_pos rfl]
              rw [hst]
              exact ⟨rfl, rfl, HD6.out⟩
            | false =>
              have HCM := Lib.hid hcmp
              go_wp2_with (first | (refine wpList_float rfl _ _ _ _ _ rfl (by decide) _ _ _ rfl rfl ?_; intro r1 n1 q1) | (refine wpList_fcmp rfl _ _ _ _ _ rfl rfl _ _ _ rfl rfl _ (by first | with_reducible assumption | rfl) ?_) | (refine wpList_fneg rfl _ _ rfl _ _ rfl ?_; intro r1 q1))
              generalize hzz : wrap64 ((k : Int) + 1) = zz at *
              subst hwk
              go_roundw
              case measure =>
                simp only [intOf]
                omega
              case rel =>
              refine ⟨k + 1, by omega, rfl, ⟨r, rfl, .inr ⟨by omega, ?_⟩⟩, HE6.out⟩
              have hst : curN (distN cs ds) ds.length i (k + 1) = curN (distN cs ds) ds.length i k := by
                show stepN (distN cs ds i k) i k (curN (distN cs ds) ds.length i k) = _
                unfold stepN
                rw [← HD6.out, ← HR.out, HCM.out]
                rfl
              rw [hst]
              exact ⟨rfl, rfl, HR.out⟩
        · have hlkI : ¬ (k : Int) < (ds.length : Int) := by omega
          have hkn : k = ds.length := by omega
          subst hkn
          have hwi : wrap64 ((i : Int) + 1) = ((i + 1 : Nat) : Int) := by have := HC.out; unfold wrap64; omega
          go_wp2_with fail
          generalize hzz : wrap64 ((i : Int) + 1) = zz at *
          subst hwi
          go_roundw
          case measure =>
            simp only [intOf]
            omega
          case rel =>
          refine ⟨i + 1, by omega, rfl, ?_, HE.out⟩
          exact NS.row HNS.out (by have := HD.out; omega)
    · have hltI : ¬ (i : Int) < (cs.length : Int) := by omega
      have hin : i = cs.length := by omega
      subst hin
      obtain ⟨r, rfl, hr⟩ := HNS.out
      rcases hr with ⟨h0, -⟩ | ⟨-, rfl, rfl, hr⟩
      · exfalso; have := HC.out; omega
      · have HR := Lib.hid hr
        clear hr
        generalize curN (distN cs ds) ds.length cs.length 0 = S at *
        go_wp2_with fail
        cases hf : finF S.2.2 with
        | false =>
          have HF := Lib.hid hf
          clear hf
          refine (l01Finite_any _ false (by rw [HR.out]; exact HF.out) _).mono ?_
          rintro e w5 ⟨he5, rfl⟩
          go_wp2_with fail
          refine bodyPost_ret (v := .tuple #[.int .i64 0, .int .i64 0, .float .f32 0, .bool false]) (by simp [results, Try.results71, go_sem]) rfl ?_
          refine ⟨Ext.trans (Ext.trans HE2.out HE.out) he5, ?_⟩
          rw [← HPP.out, HF.out]
          exact ⟨0, rfl, cn_zero32⟩
        | true =>
          have HF := Lib.hid hf
          clear hf
          refine (l01Finite_any _ true (by rw [HR.out]; exact HF.out) _).mono ?_
          rintro e w5 ⟨he5, rfl⟩
          go_wp2_with fail
          refine bodyPost_ret (v := .tuple #[.int .i64 S.1, .int .i64 S.2.1, .float .f32 r, .bool true]) (by simp [results, Try.results71, go_sem]) rfl ?_
          refine ⟨Ext.trans (Ext.trans HE2.out HE.out) he5, ?_⟩
          rw [← HPP.out, HF.out, if_pos rfl]
          exact ⟨r, rfl, HR.out⟩
end Go.Proofs.Ytbaohbpfnlicpaa
