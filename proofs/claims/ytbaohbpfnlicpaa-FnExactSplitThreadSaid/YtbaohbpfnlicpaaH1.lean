/- Walks: a thread shifted, by the reference. -/
import Derived.Test.YtbaohbpfnlicpaaB1
namespace Go.Proofs.Ytbaohbpfnlicpaa
open Go Go.RowKit
set_option linter.unusedVariables false
set_option linter.unusedSimpArgs false
attribute [local go_sem] run_store_float

/-- is it a right thread that has a point i? -/
def hasP (cs : List V3) (sp : Nat) (i : Int) : Bool := isTh cs sp && (decide (0 ≤ i) && decide (i ≤ (cs.length : Int) - 1))
def fromP (cs : List V3) (i : Nat) : List V3 := cs.drop i ++ cs.take i
def shiftP (i : Int) (cs : List V3) (sp : Nat) : Bool × List V3 × Nat := if hasP cs sp i then (true, fromP cs i.toNat, sp) else (false, [], 0)
theorem fromP_len (cs : List V3) (i : Nat) : (fromP cs i).length = cs.length := by simp [fromP]; omega
theorem shiftP_len (i : Int) (cs : List V3) (sp : Nat) (h : cs.length ≤ 1048576) : (shiftP i cs sp).2.1.length ≤ 1048576 := by
  unfold shiftP
  split
  · simpa [fromP_len] using h
  · simp
theorem VS.drop {w : World} {b o : Nat} {cs : List V3} (h : VS w (some ⟨b, o, none⟩) cs) (i : Nat) : VS w (some ⟨b, o + i * 3, none⟩) (cs.drop i) := fun hp => by
  rw [List.length_drop] at hp
  obtain ⟨b', o', hA, hb, hc⟩ := h (by omega)
  simp only [Option.some.injEq, Addr.mk.injEq, and_true] at hA
  obtain ⟨rfl, rfl⟩ := hA
  refine ⟨_, _, rfl, hb, fun t ht => ?_⟩
  rw [List.length_drop] at ht
  have := hc (i + t) (by omega)
  have e : (cs.drop i).getD t (0, 0, 0) = cs.getD (i + t) (0, 0, 0) := by simp [List.getD_eq_getElem?_getD]
  rw [e, show o + i * 3 + t * 3 = o + (i + t) * 3 by omega]
  exact this
theorem VS.take {w : World} {b o : Nat} {cs : List V3} (h : VS w (some ⟨b, o, none⟩) cs) (i : Nat) : VS w (some ⟨b, o, none⟩) (cs.take i) := fun hp => by
  rw [List.length_take] at hp
  obtain ⟨b', o', hA, hb, hc⟩ := h (by omega)
  simp only [Option.some.injEq, Addr.mk.injEq, and_true] at hA
  obtain ⟨rfl, rfl⟩ := hA
  refine ⟨_, _, rfl, hb, fun t ht => ?_⟩
  rw [List.length_take] at ht
  have e : (cs.take i).getD t (0, 0, 0) = cs.getD t (0, 0, 0) := by simp only [List.getD_eq_getElem?_getD]; rw [List.getElem?_take_of_lt (by omega)]
  rw [e]
  exact hc t (by omega)

set_option maxRecDepth 100000 in
theorem l06Point_any (g o : Nat) (A : Option Addr) (cap sp : Nat) (cs : List V3) (i : Int) (w : World) (hT : TAt w g o A cs.length cap sp) (hA : VS w A cs) (hl : cs.length ≤ 1048576) (b : Bool) (hb : hasP cs (cn .f32 sp) i = b) :
    Calls Try.prog 140 #[.pointer (some ⟨g, o, none⟩), .int .i64 i] w fun e w' => Ext w w' ∧ e = .returned (.bool b) := by
  have HA := Lib.hid hA
  have HL := Lib.hid hl
  have HT := Lib.hid hT
  unfold hasP at hb
  have hwr : IntKind.i64.wrap ((cs.length : Int) - 1) = (cs.length : Int) - 1 := IntWalk.i64_in _ (by omega)
  cases h0 : isTh cs (cn .f32 sp) with
  | false =>
    rw [h0] at hb
    simp only [Bool.false_and] at hb
    subst hb
    have H0 := Lib.hid h0
    clear hA hl hT h0
    go_enter Try.func140, Try.ntmps140
    go_wp2_with (go_at_call 108; refine (l06Is_any g o A cap sp cs _ HT.out HA.out HL.out false H0.out).mono ?_; rintro e w1 ⟨he1, rfl⟩; obtain ⟨hc1, hf1⟩ := bcell he1; (try simp only [World.heap_drewN, World.cell?_drewN, World.frozen?_drewN] at hc1 hf1))
    go_ret
    exact ⟨he1, rfl⟩
  | true =>
    rw [h0] at hb
    simp only [Bool.true_and] at hb
    have H0 := Lib.hid h0
    have HB := Lib.hid hb
    clear hA hl hT h0 hb
    go_enter Try.func140, Try.ntmps140
    go_wp2_with (first
      | (go_at_call 108; refine (l06Is_any g o A cap sp cs _ HT.out HA.out HL.out true H0.out).mono ?_; rintro e w1 ⟨he1, rfl⟩; obtain ⟨tl, t0, t1⟩ := HT.out.ext he1)
      | (go_at_call 79; refine (l00In_any _ _ _ b HB.out _).mono ?_; rintro e w2 ⟨rfl, rfl⟩))
    go_ret
    exact ⟨he1, rfl⟩

set_option maxRecDepth 100000 in
theorem l06From_any (g p : Nat) (A : Option Addr) (cap sp i : Nat) (cs : List V3) (w : World) (hT : TAt w g p A cs.length cap sp) (hA : VS w A cs) (hl : cs.length ≤ 32) (hcap : cs.length ≤ cap) (hi : i < cs.length) :
    Calls Try.prog 141 #[.pointer (some ⟨g, p, none⟩), .int .i64 i] w fun e w' => Ext w w' ∧ ∃ A' cap', e = .returned (.slice A' cs.length cap') ∧ VO w' w.heap.size A' (fromP cs i) := by
  obtain ⟨i0, hi0, iz0, iz1, iz2⟩ := info_parts infoV
  obtain ⟨b, o, rfl, hb, hc⟩ := hA (by omega)
  obtain ⟨tl, t0, t1⟩ := hT
  obtain ⟨news, hnw, hnc, hn1⟩ := (hA.drop i).cells
  obtain ⟨news2, hnw2, hnc2, hn12⟩ := (hA.take i).cells
  have HN := Lib.hid hnw
  have HNC := Lib.hid hnc
  have HN2 := Lib.hid hnw2
  have HNC2 := Lib.hid hnc2
  have HL := Lib.hid hl
  have HCAP := Lib.hid hcap
  have h1 : (0 : Int) ≤ (i : Int) := by omega
  have h2 : (i : Int) ≤ (cs.length : Int) := by omega
  have h3 : (cs.length : Int) ≤ (cap : Int) := by omega
  have h4 : (i : Int) ≤ (cap : Int) := by omega
  clear hA hl hc hnw hnc hnw2 hnc2 hcap
  go_enter Try.func141, Try.ntmps141
  go_wp2_with (first | (at_builtin; refine Stand.of ?_))
  refine Stand.out ?_
  have hn1' : news.length = (cs.length - i) * 3 := by have := HN.out.1; rwa [List.length_drop] at this
  refine wpList_append_own _ rfl _ _ 46 rfl w.heap.size 54 i0 _ 3 12 under_points hi0 iz0 iz1 iz2 rfl (by decide) (.slice (some ⟨w.heap.size, 0, none⟩) 0 0) 0 [] rfl (World.ownsRow_made w #[] 0 (Nat.le_refl _) (by decide) rfl) ⟨b, o + i * 3, none⟩ (cs.length - i) (cap - i) news rfl hn1' (news_ext HNC.out (by (repeat first | with_reducible exact Ext.rfl' _ | with_reducible refine Ext.drewN ?_ _ | with_reducible refine Ext.drew' ?_ | with_reducible refine Ext.alloc' ?_ _ | with_reducible refine Ext.setCell_at ?_ _ _ _ (by first | exact Nat.le_refl _ | omega) | with_reducible assumption | refine Ext.trans ?_ (by with_reducible assumption)))) hn1 (by have := HL.out; unfold maxLen; omega) (by have := HL.out; omega) (by simp) ?_
  intro v' w6 hown6 hgrow hnil
  have e6 : Ext w w6 := Ext.grown (show Ext w (w.alloc (.cells #[] 54)) by (repeat first | with_reducible exact Ext.rfl' _ | with_reducible refine Ext.drewN ?_ _ | with_reducible refine Ext.drew' ?_ | with_reducible refine Ext.alloc' ?_ _ | with_reducible refine Ext.setCell_at ?_ _ _ _ (by first | exact Nat.le_refl _ | omega) | with_reducible assumption | refine Ext.trans ?_ (by with_reducible assumption))) hgrow (fun k hk => by simp [Value.ownBlock] at hk; omega)
  simp only [Nat.zero_add, List.nil_append] at hown6
  obtain ⟨g6, cap6, rfl⟩ := Joins.ownsRow_form hown6 (by omega)
  have HO6 := Lib.hid hown6
  have HE6 := Lib.hid e6
  have s0 := (e6.cell (p := ⟨g, p, none⟩) (by omega)).trans t0
  have tl6 : g < w6.heap.size := Nat.lt_of_lt_of_le tl e6.size
  have hg6 := (hown6.lt g6 rfl)
  clear hown6 hgrow hnil e6 t0 t1 hn1'
  go_wp2_with (first | (at_builtin; refine Stand.of ?_))
  refine Stand.out ?_
  have hn2' : news2.length = i * 3 := by have := HN2.out.1; rw [List.length_take] at this; omega
  refine wpList_append_own _ rfl _ _ 46 rfl w.heap.size 54 i0 _ 3 12 under_points hi0 iz0 iz1 iz2 rfl (by decide) (.slice (some ⟨g6, 0, none⟩) (cs.length - i) cap6) (cs.length - i) news rfl HO6.out ⟨b, o, none⟩ i cap news2 rfl hn2' (news_ext HNC2.out HE6.out) hn12 (by have := HL.out; unfold maxLen; omega) (by have := HL.out; omega) (by omega) ?_
  intro v' w7 hown7 hgrow hnil
  have e7 : Ext w w7 := Ext.grown HE6.out hgrow (fun k hk => by simp only [Value.ownBlock, Option.some.injEq] at hk; omega)
  have hlv : LVs (news ++ news2) (fromP cs i) := LVs.append HN.out HN2.out
  have hlen : cs.length - i + i = cs.length := by omega
  rw [hlen] at hown7
  obtain ⟨A', cap', rfl, hvo⟩ := vo_of_owns hown7 hlv (by rw [fromP_len])
  clear hown7 hgrow hnil hlv hlen
  go_wp2_with fail
  go_ret
  exact ⟨e7, A', cap', rfl, hvo⟩
theorem l06From_int (g p : Nat) (A : Option Addr) (cap sp : Nat) (i : Int) (cs : List V3) (w : World) (hT : TAt w g p A cs.length cap sp) (hA : VS w A cs) (hl : cs.length ≤ 32) (hcap : cs.length ≤ cap) (hi : 0 ≤ i ∧ i < cs.length) :
    Calls Try.prog 141 #[.pointer (some ⟨g, p, none⟩), .int .i64 i] w fun e w' => Ext w w' ∧ ∃ A' cap', e = .returned (.slice A' cs.length cap') ∧ VO w' w.heap.size A' (fromP cs i.toNat) := by
  obtain ⟨n, rfl⟩ : ∃ n : Nat, i = n := ⟨i.toNat, by omega⟩
  exact l06From_any g p A cap sp n cs w hT hA hl hcap (by omega)

set_option maxRecDepth 100000 in
set_option maxHeartbeats 800000 in
theorem specShift_any (A : Option Addr) (cap sp : Nat) (i : Int) (cs : List V3) (w : World) (hA : VS w A cs) (hl : cs.length ≤ 1048576) (hcap : cs.length ≤ cap) :
    Calls Try.prog 65 #[.agg #[.slice A cs.length cap, .float .f32 sp], .int .i64 i] w fun e w' => Ext w w' ∧ RT w w' e (shiftP i cs (cn .f32 sp)) := by
  have HA := Lib.hid hA
  have HL := Lib.hid hl
  have HCAP := Lib.hid hcap
  clear hA hl hcap
  unfold shiftP
  have HT := Lib.hid (show TAt ((w.alloc (.cells #[.slice A cs.length cap, .float .f32 sp] 48)).alloc (.cells #[.slice none 0 0, .float .f32 0] 48)) w.heap.size 0 A cs.length cap sp from ⟨by simp <;> omega, by go_simp, by go_simp⟩)
  have HRs := Lib.hid (Blk.at_ (w.alloc (.cells #[.slice A cs.length cap, .float .f32 sp] 48)) 48 #[.slice none 0 0, .float .f32 0] (w.heap.size + 1) (by simp))
  have HE1 := Lib.hid (show Ext w ((w.alloc (.cells #[.slice A cs.length cap, .float .f32 sp] 48)).alloc (.cells #[.slice none 0 0, .float .f32 0] 48)) by (repeat first | with_reducible exact Ext.rfl' _ | with_reducible refine Ext.drewN ?_ _ | with_reducible refine Ext.drew' ?_ | with_reducible refine Ext.alloc' ?_ _ | with_reducible refine Ext.setCell_at ?_ _ _ _ (by first | exact Nat.le_refl _ | omega) | with_reducible assumption | refine Ext.trans ?_ (by with_reducible assumption)))
  cases hi : hasP cs (cn .f32 sp) i with
  | false =>
    have HI := Lib.hid hi
    clear hi
    go_enter Try.func65, Try.ntmps65
    go_wp2_with fail
    generalize ((w.alloc (.cells #[.slice A cs.length cap, .float .f32 sp] 48)).alloc (.cells #[.slice none 0 0, .float .f32 0] 48)) = W1 at *
    refine (l06Point_any w.heap.size 0 A cap sp cs i _ HT.out (HA.out.ext HE1.out) HL.out false HI.out).mono ?_
    rintro e w2 ⟨he2, rfl⟩
    have HE2 := Lib.hid he2
    have HB2 := Lib.hid (HRs.out.ext he2)
    have r0 : w2.cell? ⟨w.heap.size + 1, 0, none⟩ = some (.slice none 0 0) := HB2.out.cell 0
    have r1 : w2.cell? ⟨w.heap.size + 1, 1, none⟩ = some (.float .f32 0) := HB2.out.cell 1
    have rf0 := HB2.out.frozen 0
    have rf1 := HB2.out.frozen 1
    clear he2
    go_wp2_with fail
    have hBS : Blk ((w2.setCell ⟨w.heap.size + 1, 0, none⟩ (.slice none 0 0)).setCell ⟨w.heap.size + 1, 1, none⟩ (.float .f32 0)) (w.heap.size + 1) 48 #[.slice none 0 0, .float .f32 0] := by
      have := (HB2.out.set_ 0 (.slice none 0 0)).set_ 1 (.float .f32 0)
      simpa using this
    have e3 : Ext w ((w2.setCell ⟨w.heap.size + 1, 0, none⟩ (.slice none 0 0)).setCell ⟨w.heap.size + 1, 1, none⟩ (.float .f32 0)) := Ext.setCell_at (Ext.setCell_at (Ext.trans HE1.out HE2.out) _ _ _ (by omega)) _ _ _ (by omega)
    generalize (w2.setCell ⟨w.heap.size + 1, 0, none⟩ (.slice none 0 0)).setCell ⟨w.heap.size + 1, 1, none⟩ (.float .f32 0) = W9 at *
    have q0 : W9.cell? ⟨w.heap.size + 1, 0, none⟩ = some (.slice none 0 0) := hBS.cell 0
    have q1 : W9.cell? ⟨w.heap.size + 1, 1, none⟩ = some (.float .f32 0) := hBS.cell 1
    exact bodyPost_ret (v := .tuple #[.agg #[.slice none 0 0, .float .f32 0], .bool false]) (by simp [results, Try.results65, go_sem, q0, q1]) rfl ⟨e3, none, 0, 0, rfl, fun h => absurd h (Nat.lt_irrefl 0), cn_zero32⟩
  | true =>
    have HI := Lib.hid hi
    have hb : isTh cs (cn .f32 sp) = true ∧ 0 ≤ i ∧ i < cs.length := by
      unfold hasP at hi
      simp only [Bool.and_eq_true, decide_eq_true_eq] at hi
      exact ⟨hi.1, hi.2.1, by omega⟩
    have h32 : 3 ≤ cs.length ∧ cs.length ≤ 32 := by have hi := hb.1; unfold isTh at hi; simp only [Bool.and_eq_true, decide_eq_true_eq] at hi; exact hi.1.1
    have HBI := Lib.hid hb
    have H32 := Lib.hid h32
    clear hi hb h32
    go_enter Try.func65, Try.ntmps65
    go_wp2_with fail
    generalize ((w.alloc (.cells #[.slice A cs.length cap, .float .f32 sp] 48)).alloc (.cells #[.slice none 0 0, .float .f32 0] 48)) = W1 at *
    refine (l06Point_any w.heap.size 0 A cap sp cs i _ HT.out (HA.out.ext HE1.out) HL.out true HI.out).mono ?_
    rintro e w2 ⟨he2, rfl⟩
    have HE2 := Lib.hid (Ext.trans HE1.out he2)
    have HB2 := Lib.hid (HRs.out.ext he2)
    have HT2 := Lib.hid (HT.out.ext he2)
    obtain ⟨tl, t0, t1⟩ := HT2.out
    have hw1s : w.heap.size + 1 < w2.heap.size := HB2.out.lt
    clear he2 t0
    go_wp2_with fail
    go_region_law (first
      | (go_simp; go_at_call 141; refine (l06From_int _ _ A cap sp i cs _ (HT2.out.ext (Ext.drew' (Ext.rfl' _))) (HA.out.ext (Ext.trans HE2.out (Ext.drew' (Ext.rfl' _)))) H32.out.2 HCAP.out HBI.out.2).mono ?_; rintro e w3 ⟨he3, A3, cap3, rfl, hv3⟩; have he3' : Ext w2 w3 := Ext.trans (Ext.drew' (Ext.rfl' _)) he3; have HB3 := Lib.hid (HB2.out.ext he3'); have HE3 := Lib.hid (Ext.trans HE2.out he3'); have HV3 := Lib.hid (show VO w3 w2.heap.size A3 (fromP cs i.toNat) from hv3); obtain ⟨_, s0, s1⟩ := HT2.out.ext he3'; (have r0 : w3.cell? ⟨w.heap.size + 1, 0, none⟩ = some (.slice none 0 0) := HB3.out.cell 0); (have r1 : w3.cell? ⟨w.heap.size + 1, 1, none⟩ = some (.float .f32 0) := HB3.out.cell 1); have rf0 := HB3.out.frozen 0; have rf1 := HB3.out.frozen 1; clear he3 he3' hv3 s0))
    all_goals
      go_wp2_with fail
      have hBS : Blk ((w3.setCell ⟨w.heap.size + 1, 0, none⟩ (.slice A3 cs.length cap3)).setCell ⟨w.heap.size + 1, 1, none⟩ (.float .f32 sp)) (w.heap.size + 1) 48 #[.slice A3 cs.length cap3, .float .f32 sp] := by
        have := (HB3.out.set_ 0 (.slice A3 cs.length cap3)).set_ 1 (.float .f32 sp)
        simpa using this
      have e3 : Ext w ((w3.setCell ⟨w.heap.size + 1, 0, none⟩ (.slice A3 cs.length cap3)).setCell ⟨w.heap.size + 1, 1, none⟩ (.float .f32 sp)) := Ext.setCell_at (Ext.setCell_at HE3.out _ _ _ (by omega)) _ _ _ (by omega)
      have hvo : VO ((w3.setCell ⟨w.heap.size + 1, 0, none⟩ (.slice A3 cs.length cap3)).setCell ⟨w.heap.size + 1, 1, none⟩ (.float .f32 sp)) w.heap.size A3 (fromP cs i.toNat) := ((HV3.out.set_lt _ _ _ hw1s).set_lt _ _ _ hw1s).mono (by omega)
      generalize (w3.setCell ⟨w.heap.size + 1, 0, none⟩ (.slice A3 cs.length cap3)).setCell ⟨w.heap.size + 1, 1, none⟩ (.float .f32 sp) = W9 at *
      have q0 : W9.cell? ⟨w.heap.size + 1, 0, none⟩ = some (.slice A3 cs.length cap3) := hBS.cell 0
      have q1 : W9.cell? ⟨w.heap.size + 1, 1, none⟩ = some (.float .f32 sp) := hBS.cell 1
      exact bodyPost_ret (v := .tuple #[.agg #[.slice A3 cs.length cap3, .float .f32 sp], .bool true]) (by simp [results, Try.results65, go_sem, q0, q1]) rfl ⟨e3, A3, cap3, sp, by simp [fromP_len], hvo, rfl⟩
end Go.Proofs.Ytbaohbpfnlicpaa
