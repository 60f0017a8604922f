/- Walks: two threads joined, by the reference. -/
import Derived.Test.YtbaohbpfnlicpaaH1
import Derived.Test.YtbaohbpfnlicpaaSh2
import Derived.Deep.RegionHeld3
import Derived.Deep.DeepCutAuto
namespace Go.Proofs.Ytbaohbpfnlicpaa
open Go Go.RowKit
set_option linter.unusedVariables false
set_option linter.unusedSimpArgs false
attribute [local go_sem] run_store_float

set_option maxRecDepth 100000 in
theorem l06From_own (g p : Nat) (A : Option Addr) (cap sp i : Nat) (cs : List V3) (w : World) (hT : TAt w g p A cs.length cap sp) (hA : VS w A cs) (hl : cs.length ≤ 32) (hcap : cs.length ≤ cap) (hi : i < cs.length) :
    Calls Try.prog 141 #[.pointer (some ⟨g, p, none⟩), .int .i64 i] w fun e w' => Ext w w' ∧ ∃ g' cap' xs, e = .returned (.slice (some ⟨g', 0, none⟩) cs.length cap') ∧ w'.ownsRow w.heap.size 54 3 (.slice (some ⟨g', 0, none⟩) cs.length cap') cs.length xs ∧ LVs xs (fromP cs i) := by
  obtain ⟨i0, hi0, iz0, iz1, iz2⟩ := info_parts infoV
  obtain ⟨b, o, rfl, hb, hc⟩ := hA (by omega)
  obtain ⟨tl, t0, t1⟩ := hT
  obtain ⟨news, hnw, hnc, hn1⟩ := (hA.drop i).cells
  obtain ⟨news2, hnw2, hnc2, hn12⟩ := (hA.take i).cells
  have HN := Lib.hid hnw
  have HNC := Lib.hid hnc
  have HN2 := Lib.hid hnw2
  have HNC2 := Lib.hid hnc2
  have HL := Lib.hid hl
  have HCAP := Lib.hid hcap
  have h1 : (0 : Int) ≤ (i : Int) := by omega
  have h2 : (i : Int) ≤ (cs.length : Int) := by omega
  have h3 : (cs.length : Int) ≤ (cap : Int) := by omega
  have h4 : (i : Int) ≤ (cap : Int) := by omega
  clear hA hl hc hnw hnc hnw2 hnc2 hcap
  go_enter Try.func141, Try.ntmps141
  go_wp2_with (first | (at_builtin; refine Stand.of ?_))
  refine Stand.out ?_
  have hn1' : news.length = (cs.length - i) * 3 := by have := HN.out.1; rwa [List.length_drop] at this
  refine wpList_append_own _ rfl _ _ 46 rfl w.heap.size 54 i0 _ 3 12 under_points hi0 iz0 iz1 iz2 rfl (by decide) (.slice (some ⟨w.heap.size, 0, none⟩) 0 0) 0 [] rfl (World.ownsRow_made w #[] 0 (Nat.le_refl _) (by decide) rfl) ⟨b, o + i * 3, none⟩ (cs.length - i) (cap - i) news rfl hn1' (news_ext HNC.out (by (repeat first | with_reducible exact Ext.rfl' _ | with_reducible refine Ext.drewN ?_ _ | with_reducible refine Ext.drew' ?_ | with_reducible refine Ext.alloc' ?_ _ | with_reducible refine Ext.setCell_at ?_ _ _ _ (by first | exact Nat.le_refl _ | omega) | with_reducible assumption | refine Ext.trans ?_ (by with_reducible assumption)))) hn1 (by have := HL.out; unfold maxLen; omega) (by have := HL.out; omega) (by simp) ?_
  intro v' w6 hown6 hgrow hnil
  have e6 : Ext w w6 := Ext.grown (show Ext w (w.alloc (.cells #[] 54)) by (repeat first | with_reducible exact Ext.rfl' _ | with_reducible refine Ext.drewN ?_ _ | with_reducible refine Ext.drew' ?_ | with_reducible refine Ext.alloc' ?_ _ | with_reducible refine Ext.setCell_at ?_ _ _ _ (by first | exact Nat.le_refl _ | omega) | with_reducible assumption | refine Ext.trans ?_ (by with_reducible assumption))) hgrow (fun k hk => by simp [Value.ownBlock] at hk; omega)
  simp only [Nat.zero_add, List.nil_append] at hown6
  obtain ⟨g6, cap6, rfl⟩ := Joins.ownsRow_form hown6 (by omega)
  have HO6 := Lib.hid hown6
  have HE6 := Lib.hid e6
  have s0 := (e6.cell (p := ⟨g, p, none⟩) (by omega)).trans t0
  have tl6 : g < w6.heap.size := Nat.lt_of_lt_of_le tl e6.size
  have hg6 := (hown6.lt g6 rfl)
  clear hown6 hgrow hnil e6 t0 t1 hn1'
  go_wp2_with (first | (at_builtin; refine Stand.of ?_))
  refine Stand.out ?_
  have hn2' : news2.length = i * 3 := by have := HN2.out.1; rw [List.length_take] at this; omega
  refine wpList_append_own _ rfl _ _ 46 rfl w.heap.size 54 i0 _ 3 12 under_points hi0 iz0 iz1 iz2 rfl (by decide) (.slice (some ⟨g6, 0, none⟩) (cs.length - i) cap6) (cs.length - i) news rfl HO6.out ⟨b, o, none⟩ i cap news2 rfl hn2' (news_ext HNC2.out HE6.out) hn12 (by have := HL.out; unfold maxLen; omega) (by have := HL.out; omega) (by omega) ?_
  intro v' w7 hown7 hgrow hnil
  have e7 : Ext w w7 := Ext.grown HE6.out hgrow (fun k hk => by simp only [Value.ownBlock, Option.some.injEq] at hk; omega)
  have hlv : LVs (news ++ news2) (fromP cs i) := LVs.append HN.out HN2.out
  have hlen : cs.length - i + i = cs.length := by omega
  rw [hlen] at hown7
  obtain ⟨g7, cap7, rfl⟩ := Joins.ownsRow_form hown7 (by omega)
  have HO7 := Lib.hid hown7
  have HLV := Lib.hid hlv
  clear hown7 hgrow hnil hlv hlen
  go_wp2_with fail
  go_ret
  exact ⟨e7, g7, cap7, _, rfl, HO7.out, HLV.out⟩

/-- a thread, if it is right -/
def giveP (cs : List V3) (sp : Nat) : Bool × List V3 × Nat := if isTh cs sp then (true, cs, sp) else (false, [], 0)
def joinOk (i k : Int) (cs : List V3) (sp : Nat) (ds : List V3) (sq : Nat) : Bool := hasP cs sp i && (hasP ds sq k && !fcmp .neq .f32 sp sq)
def joined (i k : Int) (cs ds : List V3) : List V3 := fromP cs ((i.toNat + 1) % cs.length) ++ fromP ds ((k.toNat + 1) % ds.length)
def joinP (i k : Int) (cs : List V3) (sp : Nat) (ds : List V3) (sq : Nat) : Bool × List V3 × Nat := if joinOk i k cs sp ds sq then giveP (joined i k cs ds) sp else (false, [], 0)
theorem joined_len (i k : Int) (cs ds : List V3) : (joined i k cs ds).length = cs.length + ds.length := by simp [joined, fromP_len]
theorem joinP_len (i k : Int) (cs : List V3) (sp : Nat) (ds : List V3) (sq : Nat) (h : cs.length ≤ 1048576) (h' : ds.length ≤ 1048576) : (joinP i k cs sp ds sq).2.1.length ≤ 1048576 := by
  unfold joinP
  split
  · unfold giveP
    split
    · rename_i hi
      unfold isTh at hi
      simp only [Bool.and_eq_true, decide_eq_true_eq] at hi
      have := hi.1.1.2
      simp only
      omega
    · simp
  · simp
theorem hasP_bounds {cs : List V3} {sp : Nat} {i : Int} (h : hasP cs sp i = true) : 3 ≤ cs.length ∧ cs.length ≤ 32 ∧ 0 ≤ i ∧ i < cs.length := by
  unfold hasP isTh at h
  simp only [Bool.and_eq_true, decide_eq_true_eq] at h
  omega

set_option maxRecDepth 100000 in
set_option maxHeartbeats 800000 in
theorem specJoinNo_any (A : Option Addr) (cap sp : Nat) (B : Option Addr) (cap' sq : Nat) (i k : Int) (cs ds : List V3) (w : World) (hA : VS w A cs) (hB : VS w B ds) (hl : cs.length ≤ 1048576) (hl' : ds.length ≤ 1048576) (hno : joinOk i k cs (cn .f32 sp) ds (cn .f32 sq) = false) :
    Calls Try.prog 67 #[.agg #[.slice A cs.length cap, .float .f32 sp], .agg #[.slice B ds.length cap', .float .f32 sq], .int .i64 i, .int .i64 k] w fun e w' => Ext w w' ∧ RT w w' e (false, [], 0) := by
  have HA := Lib.hid hA
  have HB := Lib.hid hB
  have HL := Lib.hid hl
  have HL' := Lib.hid hl'
  clear hA hB hl hl'
  have HT := Lib.hid (show TAt (((w.alloc (.cells #[.slice A cs.length cap, .float .f32 sp] 48)).alloc (.cells #[.slice B ds.length cap', .float .f32 sq] 48)).alloc (.cells #[.slice none 0 0, .float .f32 0] 48)) w.heap.size 0 A cs.length cap sp from ⟨by simp <;> omega, by go_simp, by go_simp⟩)
  have HT' := Lib.hid (show TAt (((w.alloc (.cells #[.slice A cs.length cap, .float .f32 sp] 48)).alloc (.cells #[.slice B ds.length cap', .float .f32 sq] 48)).alloc (.cells #[.slice none 0 0, .float .f32 0] 48)) (w.heap.size + 1) 0 B ds.length cap' sq from ⟨by simp <;> omega, by go_simp, by go_simp⟩)
  have HRs := Lib.hid (show Blk (((w.alloc (.cells #[.slice A cs.length cap, .float .f32 sp] 48)).alloc (.cells #[.slice B ds.length cap', .float .f32 sq] 48)).alloc (.cells #[.slice none 0 0, .float .f32 0] 48)) (w.heap.size + 1 + 1) 48 #[.slice none 0 0, .float .f32 0] from Blk.at_ _ _ _ _ (by simp))
  have HE1 := Lib.hid (show Ext w (((w.alloc (.cells #[.slice A cs.length cap, .float .f32 sp] 48)).alloc (.cells #[.slice B ds.length cap', .float .f32 sq] 48)).alloc (.cells #[.slice none 0 0, .float .f32 0] 48)) by (repeat first | with_reducible exact Ext.rfl' _ | with_reducible refine Ext.drewN ?_ _ | with_reducible refine Ext.drew' ?_ | with_reducible refine Ext.alloc' ?_ _ | with_reducible refine Ext.setCell_at ?_ _ _ _ (by first | exact Nat.le_refl _ | omega) | with_reducible assumption | refine Ext.trans ?_ (by with_reducible assumption)))
  unfold joinOk at hno
  cases h0 : hasP cs (cn .f32 sp) i with
  | false =>
    have H0 := Lib.hid h0
    clear h0 hno
    go_enter Try.func67, Try.ntmps67
    go_wp2_with fail
    generalize (((w.alloc (.cells #[.slice A cs.length cap, .float .f32 sp] 48)).alloc (.cells #[.slice B ds.length cap', .float .f32 sq] 48)).alloc (.cells #[.slice none 0 0, .float .f32 0] 48)) = W1 at *
    refine (l06Point_any w.heap.size 0 A cap sp cs i _ HT.out (HA.out.ext HE1.out) HL.out false H0.out).mono ?_
    rintro e w2 ⟨he2, rfl⟩
    have HE2 := Lib.hid (Ext.trans HE1.out he2)
    have HB2 := Lib.hid (HRs.out.ext he2)
    clear he2
    have r0 : w2.cell? ⟨w.heap.size + 1 + 1, 0, none⟩ = some (.slice none 0 0) := HB2.out.cell 0
    have r1 : w2.cell? ⟨w.heap.size + 1 + 1, 1, none⟩ = some (.float .f32 0) := HB2.out.cell 1
    have rf0 := HB2.out.frozen 0
    have rf1 := HB2.out.frozen 1
    go_wp2_with fail
    have hBS : Blk ((w2.setCell ⟨w.heap.size + 1 + 1, 0, none⟩ (.slice none 0 0)).setCell ⟨w.heap.size + 1 + 1, 1, none⟩ (.float .f32 0)) (w.heap.size + 1 + 1) 48 #[.slice none 0 0, .float .f32 0] := by
      have := (HB2.out.set_ 0 (.slice none 0 0)).set_ 1 (.float .f32 0)
      simpa using this
    have e3 : Ext w ((w2.setCell ⟨w.heap.size + 1 + 1, 0, none⟩ (.slice none 0 0)).setCell ⟨w.heap.size + 1 + 1, 1, none⟩ (.float .f32 0)) := Ext.setCell_at (Ext.setCell_at HE2.out _ _ _ (by omega)) _ _ _ (by omega)
    generalize (w2.setCell ⟨w.heap.size + 1 + 1, 0, none⟩ (.slice none 0 0)).setCell ⟨w.heap.size + 1 + 1, 1, none⟩ (.float .f32 0) = W9 at *
    have q0 : W9.cell? ⟨w.heap.size + 1 + 1, 0, none⟩ = some (.slice none 0 0) := hBS.cell 0
    have q1 : W9.cell? ⟨w.heap.size + 1 + 1, 1, none⟩ = some (.float .f32 0) := hBS.cell 1
    exact bodyPost_ret (v := .tuple #[.agg #[.slice none 0 0, .float .f32 0], .bool false]) (by simp [results, Try.results67, go_sem, q0, q1]) rfl ⟨e3, none, 0, 0, rfl, fun h => absurd h (Nat.lt_irrefl 0), cn_zero32⟩
  | true =>
   rw [h0, Bool.true_and] at hno
   have H0 := Lib.hid h0
   clear h0
   cases h1 : hasP ds (cn .f32 sq) k with
   | false =>
    have H1 := Lib.hid h1
    clear h1 hno
    go_enter Try.func67, Try.ntmps67
    go_wp2_with fail
    generalize (((w.alloc (.cells #[.slice A cs.length cap, .float .f32 sp] 48)).alloc (.cells #[.slice B ds.length cap', .float .f32 sq] 48)).alloc (.cells #[.slice none 0 0, .float .f32 0] 48)) = W1 at *
    refine (l06Point_any w.heap.size 0 A cap sp cs i _ HT.out (HA.out.ext HE1.out) HL.out true H0.out).mono ?_
    rintro e w1 ⟨he1, rfl⟩
    have HEa := Lib.hid (Ext.trans HE1.out he1)
    have HTa := Lib.hid (HT.out.ext he1)
    have HT'a := Lib.hid (HT'.out.ext he1)
    have HBa := Lib.hid (HRs.out.ext he1)
    clear he1
    go_wp2_with fail
    refine (l06Point_any (w.heap.size + 1) 0 B cap' sq ds k _ HT'a.out (HB.out.ext HEa.out) HL'.out false H1.out).mono ?_
    rintro e w2 ⟨he2, rfl⟩
    have HE2 := Lib.hid (Ext.trans HEa.out he2)
    have HB2 := Lib.hid (HBa.out.ext he2)
    obtain ⟨tl, t0, t1⟩ := HTa.out.ext he2
    obtain ⟨tl', t0', t1'⟩ := HT'a.out.ext he2
    clear he2
    have r0 : w2.cell? ⟨w.heap.size + 1 + 1, 0, none⟩ = some (.slice none 0 0) := HB2.out.cell 0
    have r1 : w2.cell? ⟨w.heap.size + 1 + 1, 1, none⟩ = some (.float .f32 0) := HB2.out.cell 1
    have rf0 := HB2.out.frozen 0
    have rf1 := HB2.out.frozen 1
    go_wp2_with fail
    have hBS : Blk ((w2.setCell ⟨w.heap.size + 1 + 1, 0, none⟩ (.slice none 0 0)).setCell ⟨w.heap.size + 1 + 1, 1, none⟩ (.float .f32 0)) (w.heap.size + 1 + 1) 48 #[.slice none 0 0, .float .f32 0] := by
      have := (HB2.out.set_ 0 (.slice none 0 0)).set_ 1 (.float .f32 0)
      simpa using this
    have e3 : Ext w ((w2.setCell ⟨w.heap.size + 1 + 1, 0, none⟩ (.slice none 0 0)).setCell ⟨w.heap.size + 1 + 1, 1, none⟩ (.float .f32 0)) := Ext.setCell_at (Ext.setCell_at HE2.out _ _ _ (by omega)) _ _ _ (by omega)
    generalize (w2.setCell ⟨w.heap.size + 1 + 1, 0, none⟩ (.slice none 0 0)).setCell ⟨w.heap.size + 1 + 1, 1, none⟩ (.float .f32 0) = W9 at *
    have q0 : W9.cell? ⟨w.heap.size + 1 + 1, 0, none⟩ = some (.slice none 0 0) := hBS.cell 0
    have q1 : W9.cell? ⟨w.heap.size + 1 + 1, 1, none⟩ = some (.float .f32 0) := hBS.cell 1
    exact bodyPost_ret (v := .tuple #[.agg #[.slice none 0 0, .float .f32 0], .bool false]) (by simp [results, Try.results67, go_sem, q0, q1]) rfl ⟨e3, none, 0, 0, rfl, fun h => absurd h (Nat.lt_irrefl 0), cn_zero32⟩
   | true =>
    rw [h1, Bool.true_and] at hno
    have hq : fcmp .neq .f32 (cn .f32 sp) (cn .f32 sq) = true := by simpa using hno
    have H1 := Lib.hid h1
    clear h1 hno
    go_enter Try.func67, Try.ntmps67
    go_wp2_with fail
    generalize (((w.alloc (.cells #[.slice A cs.length cap, .float .f32 sp] 48)).alloc (.cells #[.slice B ds.length cap', .float .f32 sq] 48)).alloc (.cells #[.slice none 0 0, .float .f32 0] 48)) = W1 at *
    refine (l06Point_any w.heap.size 0 A cap sp cs i _ HT.out (HA.out.ext HE1.out) HL.out true H0.out).mono ?_
    rintro e w1 ⟨he1, rfl⟩
    have HEa := Lib.hid (Ext.trans HE1.out he1)
    have HTa := Lib.hid (HT.out.ext he1)
    have HT'a := Lib.hid (HT'.out.ext he1)
    have HBa := Lib.hid (HRs.out.ext he1)
    clear he1
    go_wp2_with fail
    refine (l06Point_any (w.heap.size + 1) 0 B cap' sq ds k _ HT'a.out (HB.out.ext HEa.out) HL'.out true H1.out).mono ?_
    rintro e w2 ⟨he2, rfl⟩
    have HE2 := Lib.hid (Ext.trans HEa.out he2)
    have HB2 := Lib.hid (HBa.out.ext he2)
    obtain ⟨tl, t0, t1⟩ := HTa.out.ext he2
    obtain ⟨tl', t0', t1'⟩ := HT'a.out.ext he2
    clear he2
    have r0 : w2.cell? ⟨w.heap.size + 1 + 1, 0, none⟩ = some (.slice none 0 0) := HB2.out.cell 0
    have r1 : w2.cell? ⟨w.heap.size + 1 + 1, 1, none⟩ = some (.float .f32 0) := HB2.out.cell 1
    have rf0 := HB2.out.frozen 0
    have rf1 := HB2.out.frozen 1
    go_wp2_with (first | (refine wpList_float rfl _ _ _ _ _ rfl (by decide) _ _ _ rfl rfl ?_; intro r1 n1 q1) | (refine wpList_fcmp rfl _ _ _ _ _ rfl rfl _ _ _ rfl rfl _ (by first | with_reducible assumption | rfl) ?_) | (refine wpList_fneg rfl _ _ rfl _ _ rfl ?_; intro r1 q1))
    have hBS : Blk ((w2.setCell ⟨w.heap.size + 1 + 1, 0, none⟩ (.slice none 0 0)).setCell ⟨w.heap.size + 1 + 1, 1, none⟩ (.float .f32 0)) (w.heap.size + 1 + 1) 48 #[.slice none 0 0, .float .f32 0] := by
      have := (HB2.out.set_ 0 (.slice none 0 0)).set_ 1 (.float .f32 0)
      simpa using this
    have e3 : Ext w ((w2.setCell ⟨w.heap.size + 1 + 1, 0, none⟩ (.slice none 0 0)).setCell ⟨w.heap.size + 1 + 1, 1, none⟩ (.float .f32 0)) := Ext.setCell_at (Ext.setCell_at HE2.out _ _ _ (by omega)) _ _ _ (by omega)
    generalize (w2.setCell ⟨w.heap.size + 1 + 1, 0, none⟩ (.slice none 0 0)).setCell ⟨w.heap.size + 1 + 1, 1, none⟩ (.float .f32 0) = W9 at *
    have q0 : W9.cell? ⟨w.heap.size + 1 + 1, 0, none⟩ = some (.slice none 0 0) := hBS.cell 0
    have q1 : W9.cell? ⟨w.heap.size + 1 + 1, 1, none⟩ = some (.float .f32 0) := hBS.cell 1
    exact bodyPost_ret (v := .tuple #[.agg #[.slice none 0 0, .float .f32 0], .bool false]) (by simp [results, Try.results67, go_sem, q0, q1]) rfl ⟨e3, none, 0, 0, rfl, fun h => absurd h (Nat.lt_irrefl 0), cn_zero32⟩
end Go.Proofs.Ytbaohbpfnlicpaa
