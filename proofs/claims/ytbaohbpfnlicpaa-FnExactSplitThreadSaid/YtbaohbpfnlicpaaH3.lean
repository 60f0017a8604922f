/- Walks: a thread shifted, by the program. -/
import Derived.Test.YtbaohbpfnlicpaaH2
import Derived.StillTailTactics
import Derived.Deep.RegionLaw
namespace Go.Proofs.Ytbaohbpfnlicpaa
open Go Go.RowKit Go.Lib
set_option linter.unusedVariables false
set_option linter.unusedSimpArgs false
attribute [local go_sem] run_store_float

set_option maxRecDepth 100000 in
theorem has_any (g o : Nat) (A : Option Addr) (cap sp : Nat) (cs : List V3) (i : Int) (w : World) (hT : TAt w g o A cs.length cap sp) (hA : VS w A cs) (hl : cs.length ≤ 1048576) (b : Bool) (hb : hasP cs (cn .f32 sp) i = b) :
    Calls Try.prog 142 #[.pointer (some ⟨g, o, none⟩), .int .i64 i] w fun e w' => Ext w w' ∧ e = .returned (.bool b) := by
  have HA := Lib.hid hA
  have HL := Lib.hid hl
  have HT := Lib.hid hT
  obtain ⟨tl, t0, t1⟩ := hT
  unfold hasP at hb
  have hwr : IntKind.i64.wrap ((cs.length : Int) - 1) = (cs.length : Int) - 1 := IntWalk.i64_in _ (by omega)
  cases h0 : isTh cs (cn .f32 sp) with
  | false =>
    rw [h0] at hb
    simp only [Bool.false_and] at hb
    subst hb
    have H0 := Lib.hid h0
    clear hA hl h0
    go_enter Try.func142, Try.ntmps142
    go_wp2_with (go_at_call 112; refine (IsThread_any A cap sp cs _ HA.out HL.out false H0.out).mono ?_; rintro e w1 ⟨he1, rfl⟩; obtain ⟨hc1, hf1⟩ := bcell he1; (try simp only [World.heap_drewN, World.cell?_drewN, World.frozen?_drewN] at hc1 hf1))
    go_ret
    exact ⟨he1, rfl⟩
  | true =>
    rw [h0] at hb
    simp only [Bool.true_and] at hb
    have H0 := Lib.hid h0
    have HB := Lib.hid hb
    clear hA hl h0 hb
    go_enter Try.func142, Try.ntmps142
    go_wp2_with (first
      | (go_at_call 112; refine (IsThread_any A cap sp cs _ HA.out HL.out true H0.out).mono ?_; rintro e w1 ⟨he1, rfl⟩; obtain ⟨tl', t0', t1'⟩ := HT.out.ext he1)
      | (go_at_call 82; refine (in_any _ _ _ b HB.out _).mono ?_; rintro e w2 ⟨rfl, rfl⟩))
    go_ret
    exact ⟨he1, rfl⟩

set_option maxRecDepth 100000 in
theorem from_any (g p : Nat) (A : Option Addr) (cap sp i : Nat) (cs : List V3) (w : World) (hT : TAt w g p A cs.length cap sp) (hA : VS w A cs) (hl : cs.length ≤ 32) (hcap : cs.length ≤ cap) (hi : i < cs.length) :
    Calls Try.prog 143 #[.pointer (some ⟨g, p, none⟩), .int .i64 i] w fun e w' => Ext w w' ∧ ∃ A' cap', e = .returned (.slice A' cs.length cap') ∧ VO w' w.heap.size A' (fromP cs i) := by
  obtain ⟨b, o, rfl, hb, hc⟩ := hA (by omega)
  obtain ⟨tl, t0, t1⟩ := hT
  have HA := Lib.hid hA
  have HL := Lib.hid hl
  have HI := Lib.hid hi
  have h1 : (0 : Int) ≤ (i : Int) := by omega
  have h2 : (i : Int) ≤ (cs.length : Int) := by omega
  have h3 : (cs.length : Int) ≤ (cap : Int) := by omega
  have h4 : (i : Int) ≤ (cap : Int) := by omega
  have h5 : ¬ cap = i := by omega
  have h6 : ¬ i = cap := by omega
  clear hA hl hc hcap
  go_enter Try.func143, Try.ntmps143
  go_wp2_with fail
  go_still_tail 12, (by kernel_rfl)
  go_wp2_with fail
  have hx : Ext w (w.alloc (.cells #[.slice (some ⟨b, o + i * 3, none⟩) (cs.length - i) (cap - i), .slice (some ⟨b, o, none⟩) i cap] 46)).drew := by (repeat first | with_reducible exact Ext.rfl' _ | with_reducible refine Ext.drewN ?_ _ | with_reducible refine Ext.drew' ?_ | with_reducible refine Ext.alloc' ?_ _ | with_reducible refine Ext.setCell_at ?_ _ _ _ (by first | exact Nat.le_refl _ | omega) | with_reducible assumption | refine Ext.trans ?_ (by with_reducible assumption))
  have hB : Blk (w.alloc (.cells #[.slice (some ⟨b, o + i * 3, none⟩) (cs.length - i) (cap - i), .slice (some ⟨b, o, none⟩) i cap] 46)).drew w.heap.size 46 #[.slice (some ⟨b, o + i * 3, none⟩) (cs.length - i) (cap - i), .slice (some ⟨b, o, none⟩) i cap] := Blk.at_drew _ _ _ _ rfl
  generalize (w.alloc (.cells #[.slice (some ⟨b, o + i * 3, none⟩) (cs.length - i) (cap - i), .slice (some ⟨b, o, none⟩) i cap] 46)).drew = W1 at *
  have hd : (cs.drop i).length = cs.length - i := by rw [List.length_drop]
  have ht : (cs.take i).length = i := by rw [List.length_take]; omega
  have hcon := ConcatV_any w.heap.size b (o + i * 3) (cap - i) b o cap (cs.drop i) (cs.take i) W1 (by rw [hd]; exact hB.cell 0) (by rw [ht]; exact hB.cell 1) ((HA.out.drop i).ext hx) ((HA.out.take i).ext hx) (by rw [hd, ht]; have := HL.out; omega) (by rw [hd, ht]; omega)
  refine hcon.mono ?_
  rintro e w2 ⟨he2, A2, cap2, rfl, hv2⟩
  have hlen : (cs.drop i).length + (cs.take i).length = cs.length := by rw [hd, ht]; omega
  rw [hlen]
  have HV := Lib.hid (show VO w2 w.heap.size A2 (fromP cs i) from hv2.mono hx.size)
  have HE := Lib.hid (Ext.trans hx he2)
  clear hx hB hd ht hcon he2 hv2 hlen
  go_wp2_with fail
  go_ret
  exact ⟨HE.out, A2, cap2, rfl, HV.out⟩
theorem from_int (g p : Nat) (A : Option Addr) (cap sp : Nat) (i : Int) (cs : List V3) (w : World) (hT : TAt w g p A cs.length cap sp) (hA : VS w A cs) (hl : cs.length ≤ 32) (hcap : cs.length ≤ cap) (hi : 0 ≤ i ∧ i < cs.length) :
    Calls Try.prog 143 #[.pointer (some ⟨g, p, none⟩), .int .i64 i] w fun e w' => Ext w w' ∧ ∃ A' cap', e = .returned (.slice A' cs.length cap') ∧ VO w' w.heap.size A' (fromP cs i.toNat) := by
  obtain ⟨n, rfl⟩ : ∃ n : Nat, i = n := ⟨i.toNat, by omega⟩
  exact from_any g p A cap sp n cs w hT hA hl hcap (by omega)
set_option maxRecDepth 100000 in
set_option maxHeartbeats 800000 in
theorem implShift_any (A : Option Addr) (cap sp : Nat) (i : Int) (cs : List V3) (w : World) (hA : VS w A cs) (hl : cs.length ≤ 1048576) (hcap : cs.length ≤ cap) :
    Calls Try.prog 66 #[.agg #[.slice A cs.length cap, .float .f32 sp], .int .i64 i] w fun e w' => Ext w w' ∧ RT w w' e (shiftP i cs (cn .f32 sp)) := by
  have HA := Lib.hid hA
  have HL := Lib.hid hl
  have HCAP := Lib.hid hcap
  clear hA hl hcap
  unfold shiftP
  have HT := Lib.hid (show TAt ((w.alloc (.cells #[.slice A cs.length cap, .float .f32 sp] 48)).alloc (.cells #[.slice none 0 0, .float .f32 0] 48)) w.heap.size 0 A cs.length cap sp from ⟨by simp <;> omega, by go_simp, by go_simp⟩)
  have HRs := Lib.hid (Blk.at_ (w.alloc (.cells #[.slice A cs.length cap, .float .f32 sp] 48)) 48 #[.slice none 0 0, .float .f32 0] (w.heap.size + 1) (by simp))
  have HE1 := Lib.hid (show Ext w ((w.alloc (.cells #[.slice A cs.length cap, .float .f32 sp] 48)).alloc (.cells #[.slice none 0 0, .float .f32 0] 48)) by (repeat first | with_reducible exact Ext.rfl' _ | with_reducible refine Ext.drewN ?_ _ | with_reducible refine Ext.drew' ?_ | with_reducible refine Ext.alloc' ?_ _ | with_reducible refine Ext.setCell_at ?_ _ _ _ (by first | exact Nat.le_refl _ | omega) | with_reducible assumption | refine Ext.trans ?_ (by with_reducible assumption)))
  cases hi : hasP cs (cn .f32 sp) i with
  | false =>
    have HI := Lib.hid hi
    clear hi
    go_enter Try.func66, Try.ntmps66
    go_wp2_with fail
    generalize ((w.alloc (.cells #[.slice A cs.length cap, .float .f32 sp] 48)).alloc (.cells #[.slice none 0 0, .float .f32 0] 48)) = W1 at *
    refine (has_any w.heap.size 0 A cap sp cs i _ HT.out (HA.out.ext HE1.out) HL.out false HI.out).mono ?_
    rintro e w2 ⟨he2, rfl⟩
    have HE2 := Lib.hid he2
    have HB2 := Lib.hid (HRs.out.ext he2)
    have r0 : w2.cell? ⟨w.heap.size + 1, 0, none⟩ = some (.slice none 0 0) := HB2.out.cell 0
    have r1 : w2.cell? ⟨w.heap.size + 1, 1, none⟩ = some (.float .f32 0) := HB2.out.cell 1
    have rf0 := HB2.out.frozen 0
    have rf1 := HB2.out.frozen 1
    clear he2
    go_wp2_with fail
    have hBS : Blk ((w2.setCell ⟨w.heap.size + 1, 0, none⟩ (.slice none 0 0)).setCell ⟨w.heap.size + 1, 1, none⟩ (.float .f32 0)) (w.heap.size + 1) 48 #[.slice none 0 0, .float .f32 0] := by
      have := (HB2.out.set_ 0 (.slice none 0 0)).set_ 1 (.float .f32 0)
      simpa using this
    have e3 : Ext w ((w2.setCell ⟨w.heap.size + 1, 0, none⟩ (.slice none 0 0)).setCell ⟨w.heap.size + 1, 1, none⟩ (.float .f32 0)) := Ext.setCell_at (Ext.setCell_at (Ext.trans HE1.out HE2.out) _ _ _ (by omega)) _ _ _ (by omega)
    generalize (w2.setCell ⟨w.heap.size + 1, 0, none⟩ (.slice none 0 0)).setCell ⟨w.heap.size + 1, 1, none⟩ (.float .f32 0) = W9 at *
    have q0 : W9.cell? ⟨w.heap.size + 1, 0, none⟩ = some (.slice none 0 0) := hBS.cell 0
    have q1 : W9.cell? ⟨w.heap.size + 1, 1, none⟩ = some (.float .f32 0) := hBS.cell 1
    exact bodyPost_ret (v := .tuple #[.agg #[.slice none 0 0, .float .f32 0], .bool false]) (by simp [results, Try.results66, go_sem, q0, q1]) rfl ⟨e3, none, 0, 0, rfl, fun h => absurd h (Nat.lt_irrefl 0), cn_zero32⟩
  | true =>
    have HI := Lib.hid hi
    have hb : isTh cs (cn .f32 sp) = true ∧ 0 ≤ i ∧ i < cs.length := by
      unfold hasP at hi
      simp only [Bool.and_eq_true, decide_eq_true_eq] at hi
      exact ⟨hi.1, hi.2.1, by omega⟩
    have h32 : 3 ≤ cs.length ∧ cs.length ≤ 32 := by have hi := hb.1; unfold isTh at hi; simp only [Bool.and_eq_true, decide_eq_true_eq] at hi; exact hi.1.1
    have HBI := Lib.hid hb
    have H32 := Lib.hid h32
    clear hi hb h32
    go_enter Try.func66, Try.ntmps66
    go_wp2_with fail
    generalize ((w.alloc (.cells #[.slice A cs.length cap, .float .f32 sp] 48)).alloc (.cells #[.slice none 0 0, .float .f32 0] 48)) = W1 at *
    refine (has_any w.heap.size 0 A cap sp cs i _ HT.out (HA.out.ext HE1.out) HL.out true HI.out).mono ?_
    rintro e w2 ⟨he2, rfl⟩
    have HE2 := Lib.hid (Ext.trans HE1.out he2)
    have HB2 := Lib.hid (HRs.out.ext he2)
    have HT2 := Lib.hid (HT.out.ext he2)
    obtain ⟨tl, t0, t1⟩ := HT2.out
    have hw1s : w.heap.size + 1 < w2.heap.size := HB2.out.lt
    clear he2 t0
    go_wp2_with fail
    go_region_law (first
      | (go_simp; go_at_call 143; refine (from_int _ _ A cap sp i cs _ (HT2.out.ext (Ext.drew' (Ext.rfl' _))) (HA.out.ext (Ext.trans HE2.out (Ext.drew' (Ext.rfl' _)))) H32.out.2 HCAP.out HBI.out.2).mono ?_; rintro e w3 ⟨he3, A3, cap3, rfl, hv3⟩; have he3' : Ext w2 w3 := Ext.trans (Ext.drew' (Ext.rfl' _)) he3; have HB3 := Lib.hid (HB2.out.ext he3'); have HE3 := Lib.hid (Ext.trans HE2.out he3'); have HV3 := Lib.hid (show VO w3 w2.heap.size A3 (fromP cs i.toNat) from hv3); obtain ⟨_, s0, s1⟩ := HT2.out.ext he3'; (have r0 : w3.cell? ⟨w.heap.size + 1, 0, none⟩ = some (.slice none 0 0) := HB3.out.cell 0); (have r1 : w3.cell? ⟨w.heap.size + 1, 1, none⟩ = some (.float .f32 0) := HB3.out.cell 1); have rf0 := HB3.out.frozen 0; have rf1 := HB3.out.frozen 1; clear he3 he3' hv3 s0))
    all_goals
      go_wp2_with fail
      have hBS : Blk ((w3.setCell ⟨w.heap.size + 1, 0, none⟩ (.slice A3 cs.length cap3)).setCell ⟨w.heap.size + 1, 1, none⟩ (.float .f32 sp)) (w.heap.size + 1) 48 #[.slice A3 cs.length cap3, .float .f32 sp] := by
        have := (HB3.out.set_ 0 (.slice A3 cs.length cap3)).set_ 1 (.float .f32 sp)
        simpa using this
      have e3 : Ext w ((w3.setCell ⟨w.heap.size + 1, 0, none⟩ (.slice A3 cs.length cap3)).setCell ⟨w.heap.size + 1, 1, none⟩ (.float .f32 sp)) := Ext.setCell_at (Ext.setCell_at HE3.out _ _ _ (by omega)) _ _ _ (by omega)
      have hvo : VO ((w3.setCell ⟨w.heap.size + 1, 0, none⟩ (.slice A3 cs.length cap3)).setCell ⟨w.heap.size + 1, 1, none⟩ (.float .f32 sp)) w.heap.size A3 (fromP cs i.toNat) := ((HV3.out.set_lt _ _ _ hw1s).set_lt _ _ _ hw1s).mono (by omega)
      generalize (w3.setCell ⟨w.heap.size + 1, 0, none⟩ (.slice A3 cs.length cap3)).setCell ⟨w.heap.size + 1, 1, none⟩ (.float .f32 sp) = W9 at *
      have q0 : W9.cell? ⟨w.heap.size + 1, 0, none⟩ = some (.slice A3 cs.length cap3) := hBS.cell 0
      have q1 : W9.cell? ⟨w.heap.size + 1, 1, none⟩ = some (.float .f32 sp) := hBS.cell 1
      exact bodyPost_ret (v := .tuple #[.agg #[.slice A3 cs.length cap3, .float .f32 sp], .bool true]) (by simp [results, Try.results66, go_sem, q0, q1]) rfl ⟨e3, A3, cap3, sp, by simp [fromP_len], hvo, rfl⟩
end Go.Proofs.Ytbaohbpfnlicpaa
