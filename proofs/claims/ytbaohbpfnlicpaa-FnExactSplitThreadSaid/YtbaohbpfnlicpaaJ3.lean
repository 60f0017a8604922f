/- Walks: two threads joined, by the program. -/
import Derived.Test.YtbaohbpfnlicpaaJ2
import Derived.Test.YtbaohbpfnlicpaaH3
import Derived.StillTactics
namespace Go.Proofs.Ytbaohbpfnlicpaa
open Go Go.RowKit
set_option linter.unusedVariables false
set_option linter.unusedSimpArgs false
attribute [local go_sem] run_store_float

theorem ConcatV_len (gs b1 o1 c1 b2 o2 c2 : Nat) (cs ds : List V3) (n m : Nat) (hn : cs.length = n) (hm : ds.length = m) (w : World)
    (hs0 : w.cell? ⟨gs, 0, none⟩ = some (.slice (some ⟨b1, o1, none⟩) n c1)) (hs1 : w.cell? ⟨gs, 1, none⟩ = some (.slice (some ⟨b2, o2, none⟩) m c2))
    (hA : VS w (some ⟨b1, o1, none⟩) cs) (hB : VS w (some ⟨b2, o2, none⟩) ds) (hl : n + m ≤ 1048576) (hp : 0 < n + m) :
    Calls Try.prog 145 #[.slice (some ⟨gs, 0, none⟩) 2 2] w fun e w' => Ext w w' ∧ ∃ A' cap', e = .returned (.slice A' (n + m) cap') ∧ VO w' w.heap.size A' (cs ++ ds) := by
  subst hn
  subst hm
  exact ConcatV_any gs b1 o1 c1 b2 o2 c2 cs ds w hs0 hs1 hA hB hl hp
theorem toldThread_len (A : Option Addr) (cap sp : Nat) (cs : List V3) (n : Nat) (hn : cs.length = n) (w : World) (hA : VS w A cs) (hl : n ≤ 1048576) (b : Bool) (hb : isTh cs (cn .f32 sp) = b) :
    Calls Try.prog 144 #[.slice A n cap, .float .f32 sp] w fun e w' => Ext w w' ∧ e = .returned (.tuple #[if b then .agg #[.slice A n cap, .float .f32 sp] else .agg #[.slice none 0 0, .float .f32 0], .bool b]) := by
  subst hn
  exact toldThread_any A cap sp cs w hA hl b hb

set_option maxRecDepth 100000 in
set_option maxHeartbeats 800000 in
theorem implJoinNo_any (A : Option Addr) (cap sp : Nat) (B : Option Addr) (cap' sq : Nat) (i k : Int) (cs ds : List V3) (w : World) (hA : VS w A cs) (hB : VS w B ds) (hl : cs.length ≤ 1048576) (hl' : ds.length ≤ 1048576) (hno : joinOk i k cs (cn .f32 sp) ds (cn .f32 sq) = false) :
    Calls Try.prog 68 #[.agg #[.slice A cs.length cap, .float .f32 sp], .agg #[.slice B ds.length cap', .float .f32 sq], .int .i64 i, .int .i64 k] w fun e w' => Ext w w' ∧ RT w w' e (false, [], 0) := by
  have HA := Lib.hid hA
  have HB := Lib.hid hB
  have HL := Lib.hid hl
  have HL' := Lib.hid hl'
  clear hA hB hl hl'
  have HT := Lib.hid (show TAt (((w.alloc (.cells #[.slice A cs.length cap, .float .f32 sp] 48)).alloc (.cells #[.slice B ds.length cap', .float .f32 sq] 48)).alloc (.cells #[.slice none 0 0, .float .f32 0] 48)) w.heap.size 0 A cs.length cap sp from ⟨by simp <;> omega, by go_simp, by go_simp⟩)
  have HT' := Lib.hid (show TAt (((w.alloc (.cells #[.slice A cs.length cap, .float .f32 sp] 48)).alloc (.cells #[.slice B ds.length cap', .float .f32 sq] 48)).alloc (.cells #[.slice none 0 0, .float .f32 0] 48)) (w.heap.size + 1) 0 B ds.length cap' sq from ⟨by simp <;> omega, by go_simp, by go_simp⟩)
  have HRs := Lib.hid (show Blk (((w.alloc (.cells #[.slice A cs.length cap, .float .f32 sp] 48)).alloc (.cells #[.slice B ds.length cap', .float .f32 sq] 48)).alloc (.cells #[.slice none 0 0, .float .f32 0] 48)) (w.heap.size + 1 + 1) 48 #[.slice none 0 0, .float .f32 0] from Blk.at_ _ _ _ _ (by simp))
  have HE1 := Lib.hid (show Ext w (((w.alloc (.cells #[.slice A cs.length cap, .float .f32 sp] 48)).alloc (.cells #[.slice B ds.length cap', .float .f32 sq] 48)).alloc (.cells #[.slice none 0 0, .float .f32 0] 48)) by (repeat first | with_reducible exact Ext.rfl' _ | with_reducible refine Ext.drewN ?_ _ | with_reducible refine Ext.drew' ?_ | with_reducible refine Ext.alloc' ?_ _ | with_reducible refine Ext.setCell_at ?_ _ _ _ (by first | exact Nat.le_refl _ | omega) | with_reducible assumption | refine Ext.trans ?_ (by with_reducible assumption)))
  unfold joinOk at hno
  cases h0 : hasP cs (cn .f32 sp) i with
  | false =>
    have H0 := Lib.hid h0
    clear h0 hno
    go_enter Try.func68, Try.ntmps68
    go_wp2_with fail
    generalize (((w.alloc (.cells #[.slice A cs.length cap, .float .f32 sp] 48)).alloc (.cells #[.slice B ds.length cap', .float .f32 sq] 48)).alloc (.cells #[.slice none 0 0, .float .f32 0] 48)) = W1 at *
    refine (has_any w.heap.size 0 A cap sp cs i _ HT.out (HA.out.ext HE1.out) HL.out false H0.out).mono ?_
    rintro e w2 ⟨he2, rfl⟩
    have HE2 := Lib.hid (Ext.trans HE1.out he2)
    have HB2 := Lib.hid (HRs.out.ext he2)
    clear he2
    have r0 : w2.cell? ⟨w.heap.size + 1 + 1, 0, none⟩ = some (.slice none 0 0) := HB2.out.cell 0
    have r1 : w2.cell? ⟨w.heap.size + 1 + 1, 1, none⟩ = some (.float .f32 0) := HB2.out.cell 1
    have rf0 := HB2.out.frozen 0
    have rf1 := HB2.out.frozen 1
    go_wp2_with fail
    have hBS : Blk ((w2.setCell ⟨w.heap.size + 1 + 1, 0, none⟩ (.slice none 0 0)).setCell ⟨w.heap.size + 1 + 1, 1, none⟩ (.float .f32 0)) (w.heap.size + 1 + 1) 48 #[.slice none 0 0, .float .f32 0] := by
      have := (HB2.out.set_ 0 (.slice none 0 0)).set_ 1 (.float .f32 0)
      simpa using this
    have e3 : Ext w ((w2.setCell ⟨w.heap.size + 1 + 1, 0, none⟩ (.slice none 0 0)).setCell ⟨w.heap.size + 1 + 1, 1, none⟩ (.float .f32 0)) := Ext.setCell_at (Ext.setCell_at HE2.out _ _ _ (by omega)) _ _ _ (by omega)
    generalize (w2.setCell ⟨w.heap.size + 1 + 1, 0, none⟩ (.slice none 0 0)).setCell ⟨w.heap.size + 1 + 1, 1, none⟩ (.float .f32 0) = W9 at *
    have q0 : W9.cell? ⟨w.heap.size + 1 + 1, 0, none⟩ = some (.slice none 0 0) := hBS.cell 0
    have q1 : W9.cell? ⟨w.heap.size + 1 + 1, 1, none⟩ = some (.float .f32 0) := hBS.cell 1
    exact bodyPost_ret (v := .tuple #[.agg #[.slice none 0 0, .float .f32 0], .bool false]) (by simp [results, Try.results68, go_sem, q0, q1]) rfl ⟨e3, none, 0, 0, rfl, fun h => absurd h (Nat.lt_irrefl 0), cn_zero32⟩
  | true =>
   rw [h0, Bool.true_and] at hno
   have H0 := Lib.hid h0
   clear h0
   cases h1 : hasP ds (cn .f32 sq) k with
   | false =>
    have H1 := Lib.hid h1
    clear h1 hno
    go_enter Try.func68, Try.ntmps68
    go_wp2_with fail
    generalize (((w.alloc (.cells #[.slice A cs.length cap, .float .f32 sp] 48)).alloc (.cells #[.slice B ds.length cap', .float .f32 sq] 48)).alloc (.cells #[.slice none 0 0, .float .f32 0] 48)) = W1 at *
    refine (has_any w.heap.size 0 A cap sp cs i _ HT.out (HA.out.ext HE1.out) HL.out true H0.out).mono ?_
    rintro e w1 ⟨he1, rfl⟩
    have HEa := Lib.hid (Ext.trans HE1.out he1)
    have HTa := Lib.hid (HT.out.ext he1)
    have HT'a := Lib.hid (HT'.out.ext he1)
    have HBa := Lib.hid (HRs.out.ext he1)
    clear he1
    go_wp2_with fail
    refine (has_any (w.heap.size + 1) 0 B cap' sq ds k _ HT'a.out (HB.out.ext HEa.out) HL'.out false H1.out).mono ?_
    rintro e w2 ⟨he2, rfl⟩
    have HE2 := Lib.hid (Ext.trans HEa.out he2)
    have HB2 := Lib.hid (HBa.out.ext he2)
    obtain ⟨tl, t0, t1⟩ := HTa.out.ext he2
    obtain ⟨tl', t0', t1'⟩ := HT'a.out.ext he2
    clear he2
    have r0 : w2.cell? ⟨w.heap.size + 1 + 1, 0, none⟩ = some (.slice none 0 0) := HB2.out.cell 0
    have r1 : w2.cell? ⟨w.heap.size + 1 + 1, 1, none⟩ = some (.float .f32 0) := HB2.out.cell 1
    have rf0 := HB2.out.frozen 0
    have rf1 := HB2.out.frozen 1
    go_wp2_with fail
    have hBS : Blk ((w2.setCell ⟨w.heap.size + 1 + 1, 0, none⟩ (.slice none 0 0)).setCell ⟨w.heap.size + 1 + 1, 1, none⟩ (.float .f32 0)) (w.heap.size + 1 + 1) 48 #[.slice none 0 0, .float .f32 0] := by
      have := (HB2.out.set_ 0 (.slice none 0 0)).set_ 1 (.float .f32 0)
      simpa using this
    have e3 : Ext w ((w2.setCell ⟨w.heap.size + 1 + 1, 0, none⟩ (.slice none 0 0)).setCell ⟨w.heap.size + 1 + 1, 1, none⟩ (.float .f32 0)) := Ext.setCell_at (Ext.setCell_at HE2.out _ _ _ (by omega)) _ _ _ (by omega)
    generalize (w2.setCell ⟨w.heap.size + 1 + 1, 0, none⟩ (.slice none 0 0)).setCell ⟨w.heap.size + 1 + 1, 1, none⟩ (.float .f32 0) = W9 at *
    have q0 : W9.cell? ⟨w.heap.size + 1 + 1, 0, none⟩ = some (.slice none 0 0) := hBS.cell 0
    have q1 : W9.cell? ⟨w.heap.size + 1 + 1, 1, none⟩ = some (.float .f32 0) := hBS.cell 1
    exact bodyPost_ret (v := .tuple #[.agg #[.slice none 0 0, .float .f32 0], .bool false]) (by simp [results, Try.results68, go_sem, q0, q1]) rfl ⟨e3, none, 0, 0, rfl, fun h => absurd h (Nat.lt_irrefl 0), cn_zero32⟩
   | true =>
    rw [h1, Bool.true_and] at hno
    have hq : fcmp .neq .f32 (cn .f32 sp) (cn .f32 sq) = true := by simpa using hno
    have H1 := Lib.hid h1
    clear h1 hno
    go_enter Try.func68, Try.ntmps68
    go_wp2_with fail
    generalize (((w.alloc (.cells #[.slice A cs.length cap, .float .f32 sp] 48)).alloc (.cells #[.slice B ds.length cap', .float .f32 sq] 48)).alloc (.cells #[.slice none 0 0, .float .f32 0] 48)) = W1 at *
    refine (has_any w.heap.size 0 A cap sp cs i _ HT.out (HA.out.ext HE1.out) HL.out true H0.out).mono ?_
    rintro e w1 ⟨he1, rfl⟩
    have HEa := Lib.hid (Ext.trans HE1.out he1)
    have HTa := Lib.hid (HT.out.ext he1)
    have HT'a := Lib.hid (HT'.out.ext he1)
    have HBa := Lib.hid (HRs.out.ext he1)
    clear he1
    go_wp2_with fail
    refine (has_any (w.heap.size + 1) 0 B cap' sq ds k _ HT'a.out (HB.out.ext HEa.out) HL'.out true H1.out).mono ?_
    rintro e w2 ⟨he2, rfl⟩
    have HE2 := Lib.hid (Ext.trans HEa.out he2)
    have HB2 := Lib.hid (HBa.out.ext he2)
    obtain ⟨tl, t0, t1⟩ := HTa.out.ext he2
    obtain ⟨tl', t0', t1'⟩ := HT'a.out.ext he2
    clear he2
    have r0 : w2.cell? ⟨w.heap.size + 1 + 1, 0, none⟩ = some (.slice none 0 0) := HB2.out.cell 0
    have r1 : w2.cell? ⟨w.heap.size + 1 + 1, 1, none⟩ = some (.float .f32 0) := HB2.out.cell 1
    have rf0 := HB2.out.frozen 0
    have rf1 := HB2.out.frozen 1
    go_wp2_with (first | (refine wpList_float rfl _ _ _ _ _ rfl (by decide) _ _ _ rfl rfl ?_; intro r1 n1 q1) | (refine wpList_fcmp rfl _ _ _ _ _ rfl rfl _ _ _ rfl rfl _ (by first | with_reducible assumption | rfl) ?_) | (refine wpList_fneg rfl _ _ rfl _ _ rfl ?_; intro r1 q1))
    have hBS : Blk ((w2.setCell ⟨w.heap.size + 1 + 1, 0, none⟩ (.slice none 0 0)).setCell ⟨w.heap.size + 1 + 1, 1, none⟩ (.float .f32 0)) (w.heap.size + 1 + 1) 48 #[.slice none 0 0, .float .f32 0] := by
      have := (HB2.out.set_ 0 (.slice none 0 0)).set_ 1 (.float .f32 0)
      simpa using this
    have e3 : Ext w ((w2.setCell ⟨w.heap.size + 1 + 1, 0, none⟩ (.slice none 0 0)).setCell ⟨w.heap.size + 1 + 1, 1, none⟩ (.float .f32 0)) := Ext.setCell_at (Ext.setCell_at HE2.out _ _ _ (by omega)) _ _ _ (by omega)
    generalize (w2.setCell ⟨w.heap.size + 1 + 1, 0, none⟩ (.slice none 0 0)).setCell ⟨w.heap.size + 1 + 1, 1, none⟩ (.float .f32 0) = W9 at *
    have q0 : W9.cell? ⟨w.heap.size + 1 + 1, 0, none⟩ = some (.slice none 0 0) := hBS.cell 0
    have q1 : W9.cell? ⟨w.heap.size + 1 + 1, 1, none⟩ = some (.float .f32 0) := hBS.cell 1
    exact bodyPost_ret (v := .tuple #[.agg #[.slice none 0 0, .float .f32 0], .bool false]) (by simp [results, Try.results68, go_sem, q0, q1]) rfl ⟨e3, none, 0, 0, rfl, fun h => absurd h (Nat.lt_irrefl 0), cn_zero32⟩

set_option maxRecDepth 100000 in
set_option maxHeartbeats 3200000 in
theorem implJoinYes_any (A : Option Addr) (cap sp : Nat) (B : Option Addr) (cap' sq : Nat) (i k : Nat) (cs ds : List V3) (w : World) (hA : VS w A cs) (hB : VS w B ds) (hcap : cs.length ≤ cap) (hcap' : ds.length ≤ cap') (hi : hasP cs (cn .f32 sp) i = true) (hk : hasP ds (cn .f32 sq) k = true) (hq : fcmp .neq .f32 (cn .f32 sp) (cn .f32 sq) = false) :
    Calls Try.prog 68 #[.agg #[.slice A cs.length cap, .float .f32 sp], .agg #[.slice B ds.length cap', .float .f32 sq], .int .i64 i, .int .i64 k] w fun e w' => Ext w w' ∧ RT w w' e (giveP (joined i k cs ds) (cn .f32 sp)) := by
  obtain ⟨hn3, hn32, -, hin⟩ := hasP_bounds hi
  obtain ⟨hm3, hm32, -, hkm⟩ := hasP_bounds hk
  obtain ⟨i0, hi0, iz0, iz1, iz2⟩ := info_parts infoV
  have HA := Lib.hid hA
  have HB := Lib.hid hB
  have HI := Lib.hid hi
  have HK := Lib.hid hk
  have HCAP := Lib.hid hcap
  have HCAP' := Lib.hid hcap'
  have HN := Lib.hid (show 3 ≤ cs.length ∧ cs.length ≤ 32 ∧ i < cs.length from ⟨hn3, hn32, by omega⟩)
  have HM := Lib.hid (show 3 ≤ ds.length ∧ ds.length ≤ 32 ∧ k < ds.length from ⟨hm3, hm32, by omega⟩)
  have HT := Lib.hid (show TAt (((w.alloc (.cells #[.slice A cs.length cap, .float .f32 sp] 48)).alloc (.cells #[.slice B ds.length cap', .float .f32 sq] 48)).alloc (.cells #[.slice none 0 0, .float .f32 0] 48)) w.heap.size 0 A cs.length cap sp from ⟨by simp <;> omega, by go_simp, by go_simp⟩)
  have HT' := Lib.hid (show TAt (((w.alloc (.cells #[.slice A cs.length cap, .float .f32 sp] 48)).alloc (.cells #[.slice B ds.length cap', .float .f32 sq] 48)).alloc (.cells #[.slice none 0 0, .float .f32 0] 48)) (w.heap.size + 1) 0 B ds.length cap' sq from ⟨by simp <;> omega, by go_simp, by go_simp⟩)
  have HRs := Lib.hid (show Blk (((w.alloc (.cells #[.slice A cs.length cap, .float .f32 sp] 48)).alloc (.cells #[.slice B ds.length cap', .float .f32 sq] 48)).alloc (.cells #[.slice none 0 0, .float .f32 0] 48)) (w.heap.size + 1 + 1) 48 #[.slice none 0 0, .float .f32 0] from Blk.at_ _ _ _ _ (by simp))
  have HE1 := Lib.hid (show Ext w (((w.alloc (.cells #[.slice A cs.length cap, .float .f32 sp] 48)).alloc (.cells #[.slice B ds.length cap', .float .f32 sq] 48)).alloc (.cells #[.slice none 0 0, .float .f32 0] 48)) by (repeat first | with_reducible exact Ext.rfl' _ | with_reducible refine Ext.drewN ?_ _ | with_reducible refine Ext.drew' ?_ | with_reducible refine Ext.alloc' ?_ _ | with_reducible refine Ext.setCell_at ?_ _ _ _ (by first | exact Nat.le_refl _ | omega) | with_reducible assumption | refine Ext.trans ?_ (by with_reducible assumption)))
  have hne : cs ≠ [] := by intro h; rw [h] at hn3; simp at hn3
  have hne' : ds ≠ [] := by intro h; rw [h] at hm3; simp at hm3
  have hw1 : IntKind.i64.wrap ((i : Int) + 1) = (i : Int) + 1 := IntWalk.i64_in _ (by omega)
  have hw1' : IntKind.i64.wrap ((k : Int) + 1) = (k : Int) + 1 := IntWalk.i64_in _ (by omega)
  have ht := tmod_next i cs.length (by omega)
  have ht' := tmod_next k ds.length (by omega)
  have ham : (i + 1) % cs.length < cs.length := Nat.mod_lt _ (by omega)
  have ham' : (k + 1) % ds.length < ds.length := Nat.mod_lt _ (by omega)
  have hw2 : IntKind.i64.wrap (((i + 1) % cs.length : Nat) : Int) = (((i + 1) % cs.length : Nat) : Int) := IntWalk.i64_in _ (by omega)
  have hw2' : IntKind.i64.wrap (((k + 1) % ds.length : Nat) : Int) = (((k + 1) % ds.length : Nat) : Int) := IntWalk.i64_in _ (by omega)
  have ht2 : ((i : Int) + 1) % (cs.length : Int) = (((i + 1) % cs.length : Nat) : Int) := by rw [Int.natCast_emod, Int.natCast_add]; rfl
  have ht2' : ((k : Int) + 1) % (ds.length : Int) = (((k + 1) % ds.length : Nat) : Int) := by rw [Int.natCast_emod, Int.natCast_add]; rfl
  have hj : joined i k cs ds = fromP cs ((i + 1) % cs.length) ++ fromP ds ((k + 1) % ds.length) := by unfold joined; simp
  rw [hj]
  clear hA hB hi hk hcap hcap' hj hn3 hm3 hn32 hm32 hin hkm
  generalize (i + 1) % cs.length = a at *
  generalize (k + 1) % ds.length = c at *
  have HAM := Lib.hid ham
  have HAM' := Lib.hid ham'
  clear ham ham'
  go_enter Try.func68, Try.ntmps68
  go_wp2_with fail
  generalize (((w.alloc (.cells #[.slice A cs.length cap, .float .f32 sp] 48)).alloc (.cells #[.slice B ds.length cap', .float .f32 sq] 48)).alloc (.cells #[.slice none 0 0, .float .f32 0] 48)) = W1 at *
  refine (has_any w.heap.size 0 A cap sp cs i _ HT.out (HA.out.ext HE1.out) (by have := HN.out; omega) true HI.out).mono ?_
  rintro e w1 ⟨he1, rfl⟩
  have HEa := Lib.hid (Ext.trans HE1.out he1)
  have HTa := Lib.hid (HT.out.ext he1)
  have HT'a := Lib.hid (HT'.out.ext he1)
  have HBa := Lib.hid (HRs.out.ext he1)
  clear he1
  go_wp2_with fail
  refine (has_any (w.heap.size + 1) 0 B cap' sq ds k _ HT'a.out (HB.out.ext HEa.out) (by have := HM.out; omega) true HK.out).mono ?_
  rintro e w2 ⟨he2, rfl⟩
  have HE2 := Lib.hid (Ext.trans HEa.out he2)
  have HB2 := Lib.hid (HBa.out.ext he2)
  have HT2 := Lib.hid (HTa.out.ext he2)
  have HT2' := Lib.hid (HT'a.out.ext he2)
  obtain ⟨tl, t0, t1⟩ := HT2.out
  obtain ⟨tl', t0', t1'⟩ := HT2'.out
  clear he2
  have hlen : (fromP cs a ++ fromP ds c).length = cs.length + ds.length := by rw [List.length_append, fromP_len, fromP_len]
  have HLEN := Lib.hid hlen
  have hwB : w.heap.size + 1 + 1 < w2.heap.size := HB2.out.lt
  clear hlen
  go_wp2_with (first | (refine wpList_float rfl _ _ _ _ _ rfl (by decide) _ _ _ rfl rfl ?_; intro r1 n1 q1) | (refine wpList_fcmp rfl _ _ _ _ _ rfl rfl _ _ _ rfl rfl _ (by first | with_reducible assumption | rfl) ?_) | (refine wpList_fneg rfl _ _ rfl _ _ rfl ?_; intro r1 q1))
  go_still (by kernel_rfl)
  go_wp2_with fail
  change Code.wp _ _ _ _ w2.drew
  have X23 : Ext w2 w2.drew := Ext.drew' (Ext.rfl' _)
  have HE3 := Lib.hid (Ext.trans HE2.out X23)
  have HT3 := Lib.hid (HT2.out.ext X23)
  have HT3' := Lib.hid (HT2'.out.ext X23)
  have hw3 : w2.heap.size ≤ w2.drew.heap.size := Nat.le_refl _
  generalize w2.drew = w3 at *
  obtain ⟨tl3, s0, s1⟩ := HT3.out
  clear t0 t1 t0' t1' tl tl' s0
  cases hgv : isTh (fromP cs a ++ fromP ds c) (cn .f32 sp) with
  | false =>
    have HG1 := Lib.hid hgv
    clear hgv
    go_region_held3 (fun W => W.cell? ⟨w.heap.size, 0 + 1, none⟩ = some (.float .f32 sp)) (((try dsimp only); (repeat' apply And.intro) <;> (simp [*, go_sem]; done)))
      (first
        | (go_at_call 144; refine (toldThread_len A6 cp6 sp _ (cs.length + ds.length) HLEN.out _ hv6.vs (by have := HN.out; have := HM.out; omega) _ HG1.out).mono ?_; rintro e w7 ⟨he7, rfl⟩; have X7 : Ext w6 w7 := he7; have E7 := Ext.trans E6 X7; obtain ⟨hc7, hf7⟩ := bcell E7; have hs7 : w3.heap.size ≤ w7.heap.size := E7.size; have hz7 : w.heap.size < w7.heap.size := (by omega); have hR7 := HB2.out.ext (Ext.trans X23 E7); (have r0 : w7.cell? ⟨w.heap.size + 1 + 1, 0, none⟩ = some (.slice none 0 0) := hR7.cell 0); (have r1 : w7.cell? ⟨w.heap.size + 1 + 1, 1, none⟩ = some (.float .f32 0) := hR7.cell 1); have rf0 := hR7.frozen 0; have rf1 := hR7.frozen 1)
        | (go_at_call 145; refine (ConcatV_len w5.heap.size b4 o4 cp4 b5 o5 cp5 (fromP cs a) (fromP ds c) cs.length ds.length (fromP_len _ _) (fromP_len _ _) _ (by simp [World.cell?_alloc_new]) (by simp [World.cell?_alloc_new]) (hv4.vs.ext (by (repeat first | with_reducible exact Ext.rfl' _ | with_reducible refine Ext.drewN ?_ _ | with_reducible refine Ext.drew' ?_ | with_reducible refine Ext.alloc' ?_ _ | with_reducible refine Ext.setCell_at ?_ _ _ _ (by first | exact Nat.le_refl _ | omega) | with_reducible assumption | refine Ext.trans ?_ (by with_reducible assumption)))) (hv5.vs.ext (by (repeat first | with_reducible exact Ext.rfl' _ | with_reducible refine Ext.drewN ?_ _ | with_reducible refine Ext.drew' ?_ | with_reducible refine Ext.alloc' ?_ _ | with_reducible refine Ext.setCell_at ?_ _ _ _ (by first | exact Nat.le_refl _ | omega) | with_reducible assumption | refine Ext.trans ?_ (by with_reducible assumption)))) (by have := HN.out; have := HM.out; omega) (by have := HN.out; omega)).mono ?_; rintro e w6 ⟨he6, A6, cp6, rfl, hv6⟩; have X6 : Ext w5 w6 := (by (repeat first | with_reducible exact Ext.rfl' _ | with_reducible refine Ext.drewN ?_ _ | with_reducible refine Ext.drew' ?_ | with_reducible refine Ext.alloc' ?_ _ | with_reducible refine Ext.setCell_at ?_ _ _ _ (by first | exact Nat.le_refl _ | omega) | with_reducible assumption | refine Ext.trans ?_ (by with_reducible assumption))); have E6 := Ext.trans E5 X6; obtain ⟨hc6, hf6⟩ := bcell E6; have hs6 : w3.heap.size ≤ w6.heap.size := E6.size; have hz6 : w.heap.size < w6.heap.size := (by omega))
        | (go_at_call 143; have hguard := hv4; refine (from_any (w.heap.size + 1) 0 B cap' sq c ds _ (HT3'.out.ext (Ext.trans E4 (by (repeat first | with_reducible exact Ext.rfl' _ | with_reducible refine Ext.drewN ?_ _ | with_reducible refine Ext.drew' ?_ | with_reducible refine Ext.alloc' ?_ _ | with_reducible refine Ext.setCell_at ?_ _ _ _ (by first | exact Nat.le_refl _ | omega) | with_reducible assumption | refine Ext.trans ?_ (by with_reducible assumption))))) (HB.out.ext (Ext.trans HE3.out (Ext.trans E4 (by (repeat first | with_reducible exact Ext.rfl' _ | with_reducible refine Ext.drewN ?_ _ | with_reducible refine Ext.drew' ?_ | with_reducible refine Ext.alloc' ?_ _ | with_reducible refine Ext.setCell_at ?_ _ _ _ (by first | exact Nat.le_refl _ | omega) | with_reducible assumption | refine Ext.trans ?_ (by with_reducible assumption)))))) HM.out.2.1 HCAP'.out HAM'.out).mono ?_; rintro e w5 ⟨he5, A5, cp5, rfl, hv5⟩; (obtain ⟨b5, o5, rfl, -⟩ := hv5 (by rw [fromP_len]; have := HM.out; omega)); have X5 : Ext w4 w5 := (by (repeat first | with_reducible exact Ext.rfl' _ | with_reducible refine Ext.drewN ?_ _ | with_reducible refine Ext.drew' ?_ | with_reducible refine Ext.alloc' ?_ _ | with_reducible refine Ext.setCell_at ?_ _ _ _ (by first | exact Nat.le_refl _ | omega) | with_reducible assumption | refine Ext.trans ?_ (by with_reducible assumption))); have E5 := Ext.trans E4 X5; obtain ⟨hc5, hf5⟩ := bcell E5; have hs5 : w3.heap.size ≤ w5.heap.size := E5.size; have hz5 : w.heap.size < w5.heap.size := (by omega))
        | (go_at_call 143; refine (from_any w.heap.size 0 A cap sp a cs _ (HT3.out.ext (by (repeat first | with_reducible exact Ext.rfl' _ | with_reducible refine Ext.drewN ?_ _ | with_reducible refine Ext.drew' ?_ | with_reducible refine Ext.alloc' ?_ _ | with_reducible refine Ext.setCell_at ?_ _ _ _ (by first | exact Nat.le_refl _ | omega) | with_reducible assumption | refine Ext.trans ?_ (by with_reducible assumption)))) (HA.out.ext (Ext.trans HE3.out (by (repeat first | with_reducible exact Ext.rfl' _ | with_reducible refine Ext.drewN ?_ _ | with_reducible refine Ext.drew' ?_ | with_reducible refine Ext.alloc' ?_ _ | with_reducible refine Ext.setCell_at ?_ _ _ _ (by first | exact Nat.le_refl _ | omega) | with_reducible assumption | refine Ext.trans ?_ (by with_reducible assumption))))) HN.out.2.1 HCAP.out HAM.out).mono ?_; rintro e w4 ⟨he4, A4, cp4, rfl, hv4⟩; (obtain ⟨b4, o4, rfl, -⟩ := hv4 (by rw [fromP_len]; have := HN.out; omega)); have E4 : Ext w3 w4 := (by (repeat first | with_reducible exact Ext.rfl' _ | with_reducible refine Ext.drewN ?_ _ | with_reducible refine Ext.drew' ?_ | with_reducible refine Ext.alloc' ?_ _ | with_reducible refine Ext.setCell_at ?_ _ _ _ (by first | exact Nat.le_refl _ | omega) | with_reducible assumption | refine Ext.trans ?_ (by with_reducible assumption))); obtain ⟨hc4, hf4⟩ := bcell E4; have hs4 : w3.heap.size ≤ w4.heap.size := E4.size; have hz4 : w.heap.size < w4.heap.size := (by omega)))
    all_goals
      go_wp2_with fail
      have hBS : Blk ((w7.setCell ⟨w.heap.size + 1 + 1, 0, none⟩ (.slice none 0 0)).setCell ⟨w.heap.size + 1 + 1, 1, none⟩ (.float .f32 0)) (w.heap.size + 1 + 1) 48 #[.slice none 0 0, .float .f32 0] := by
        have := (hR7.set_ 0 (.slice none 0 0)).set_ 1 (.float .f32 0)
        simpa using this
      have e3 : Ext w ((w7.setCell ⟨w.heap.size + 1 + 1, 0, none⟩ (.slice none 0 0)).setCell ⟨w.heap.size + 1 + 1, 1, none⟩ (.float .f32 0)) := Ext.setCell_at (Ext.setCell_at (Ext.trans HE3.out E7) _ _ _ (by omega)) _ _ _ (by omega)
      have HV6 := Lib.hid (show VO w6 w5.heap.size A6 (fromP cs a ++ fromP ds c) from hv6.mono (by (try simp only [World.size_alloc]); omega))
      have hlt6 : w.heap.size + 1 + 1 < w5.heap.size := by omega
      generalize (w7.setCell ⟨w.heap.size + 1 + 1, 0, none⟩ (.slice none 0 0)).setCell ⟨w.heap.size + 1 + 1, 1, none⟩ (.float .f32 0) = W9 at *
      have z0 : W9.cell? ⟨w.heap.size + 1 + 1, 0, none⟩ = some (.slice none 0 0) := hBS.cell 0
      have z1 : W9.cell? ⟨w.heap.size + 1 + 1, 1, none⟩ = some (.float .f32 0) := hBS.cell 1
      refine bodyPost_ret (v := .tuple #[.agg #[.slice none 0 0, .float .f32 0], .bool false]) (by simp [results, Try.results68, go_sem, z0, z1]) rfl ?_
      unfold giveP
      rw [HG1.out]
      exact ⟨e3, none, 0, 0, rfl, fun h => absurd h (Nat.lt_irrefl 0), cn_zero32⟩
  | true =>
    have HG1 := Lib.hid hgv
    clear hgv
    go_region_held3 (fun W => W.cell? ⟨w.heap.size, 0 + 1, none⟩ = some (.float .f32 sp)) (((try dsimp only); (repeat' apply And.intro) <;> (simp [*, go_sem]; done)))
      (first
        | (go_at_call 144; refine (toldThread_len A6 cp6 sp _ (cs.length + ds.length) HLEN.out _ hv6.vs (by have := HN.out; have := HM.out; omega) _ HG1.out).mono ?_; rintro e w7 ⟨he7, rfl⟩; have X7 : Ext w6 w7 := he7; have E7 := Ext.trans E6 X7; obtain ⟨hc7, hf7⟩ := bcell E7; have hs7 : w3.heap.size ≤ w7.heap.size := E7.size; have hz7 : w.heap.size < w7.heap.size := (by omega); have hR7 := HB2.out.ext (Ext.trans X23 E7); (have r0 : w7.cell? ⟨w.heap.size + 1 + 1, 0, none⟩ = some (.slice none 0 0) := hR7.cell 0); (have r1 : w7.cell? ⟨w.heap.size + 1 + 1, 1, none⟩ = some (.float .f32 0) := hR7.cell 1); have rf0 := hR7.frozen 0; have rf1 := hR7.frozen 1)
        | (go_at_call 145; refine (ConcatV_len w5.heap.size b4 o4 cp4 b5 o5 cp5 (fromP cs a) (fromP ds c) cs.length ds.length (fromP_len _ _) (fromP_len _ _) _ (by simp [World.cell?_alloc_new]) (by simp [World.cell?_alloc_new]) (hv4.vs.ext (by (repeat first | with_reducible exact Ext.rfl' _ | with_reducible refine Ext.drewN ?_ _ | with_reducible refine Ext.drew' ?_ | with_reducible refine Ext.alloc' ?_ _ | with_reducible refine Ext.setCell_at ?_ _ _ _ (by first | exact Nat.le_refl _ | omega) | with_reducible assumption | refine Ext.trans ?_ (by with_reducible assumption)))) (hv5.vs.ext (by (repeat first | with_reducible exact Ext.rfl' _ | with_reducible refine Ext.drewN ?_ _ | with_reducible refine Ext.drew' ?_ | with_reducible refine Ext.alloc' ?_ _ | with_reducible refine Ext.setCell_at ?_ _ _ _ (by first | exact Nat.le_refl _ | omega) | with_reducible assumption | refine Ext.trans ?_ (by with_reducible assumption)))) (by have := HN.out; have := HM.out; omega) (by have := HN.out; omega)).mono ?_; rintro e w6 ⟨he6, A6, cp6, rfl, hv6⟩; have X6 : Ext w5 w6 := (by (repeat first | with_reducible exact Ext.rfl' _ | with_reducible refine Ext.drewN ?_ _ | with_reducible refine Ext.drew' ?_ | with_reducible refine Ext.alloc' ?_ _ | with_reducible refine Ext.setCell_at ?_ _ _ _ (by first | exact Nat.le_refl _ | omega) | with_reducible assumption | refine Ext.trans ?_ (by with_reducible assumption))); have E6 := Ext.trans E5 X6; obtain ⟨hc6, hf6⟩ := bcell E6; have hs6 : w3.heap.size ≤ w6.heap.size := E6.size; have hz6 : w.heap.size < w6.heap.size := (by omega))
        | (go_at_call 143; have hguard := hv4; refine (from_any (w.heap.size + 1) 0 B cap' sq c ds _ (HT3'.out.ext (Ext.trans E4 (by (repeat first | with_reducible exact Ext.rfl' _ | with_reducible refine Ext.drewN ?_ _ | with_reducible refine Ext.drew' ?_ | with_reducible refine Ext.alloc' ?_ _ | with_reducible refine Ext.setCell_at ?_ _ _ _ (by first | exact Nat.le_refl _ | omega) | with_reducible assumption | refine Ext.trans ?_ (by with_reducible assumption))))) (HB.out.ext (Ext.trans HE3.out (Ext.trans E4 (by (repeat first | with_reducible exact Ext.rfl' _ | with_reducible refine Ext.drewN ?_ _ | with_reducible refine Ext.drew' ?_ | with_reducible refine Ext.alloc' ?_ _ | with_reducible refine Ext.setCell_at ?_ _ _ _ (by first | exact Nat.le_refl _ | omega) | with_reducible assumption | refine Ext.trans ?_ (by with_reducible assumption)))))) HM.out.2.1 HCAP'.out HAM'.out).mono ?_; rintro e w5 ⟨he5, A5, cp5, rfl, hv5⟩; (obtain ⟨b5, o5, rfl, -⟩ := hv5 (by rw [fromP_len]; have := HM.out; omega)); have X5 : Ext w4 w5 := (by (repeat first | with_reducible exact Ext.rfl' _ | with_reducible refine Ext.drewN ?_ _ | with_reducible refine Ext.drew' ?_ | with_reducible refine Ext.alloc' ?_ _ | with_reducible refine Ext.setCell_at ?_ _ _ _ (by first | exact Nat.le_refl _ | omega) | with_reducible assumption | refine Ext.trans ?_ (by with_reducible assumption))); have E5 := Ext.trans E4 X5; obtain ⟨hc5, hf5⟩ := bcell E5; have hs5 : w3.heap.size ≤ w5.heap.size := E5.size; have hz5 : w.heap.size < w5.heap.size := (by omega))
        | (go_at_call 143; refine (from_any w.heap.size 0 A cap sp a cs _ (HT3.out.ext (by (repeat first | with_reducible exact Ext.rfl' _ | with_reducible refine Ext.drewN ?_ _ | with_reducible refine Ext.drew' ?_ | with_reducible refine Ext.alloc' ?_ _ | with_reducible refine Ext.setCell_at ?_ _ _ _ (by first | exact Nat.le_refl _ | omega) | with_reducible assumption | refine Ext.trans ?_ (by with_reducible assumption)))) (HA.out.ext (Ext.trans HE3.out (by (repeat first | with_reducible exact Ext.rfl' _ | with_reducible refine Ext.drewN ?_ _ | with_reducible refine Ext.drew' ?_ | with_reducible refine Ext.alloc' ?_ _ | with_reducible refine Ext.setCell_at ?_ _ _ _ (by first | exact Nat.le_refl _ | omega) | with_reducible assumption | refine Ext.trans ?_ (by with_reducible assumption))))) HN.out.2.1 HCAP.out HAM.out).mono ?_; rintro e w4 ⟨he4, A4, cp4, rfl, hv4⟩; (obtain ⟨b4, o4, rfl, -⟩ := hv4 (by rw [fromP_len]; have := HN.out; omega)); have E4 : Ext w3 w4 := (by (repeat first | with_reducible exact Ext.rfl' _ | with_reducible refine Ext.drewN ?_ _ | with_reducible refine Ext.drew' ?_ | with_reducible refine Ext.alloc' ?_ _ | with_reducible refine Ext.setCell_at ?_ _ _ _ (by first | exact Nat.le_refl _ | omega) | with_reducible assumption | refine Ext.trans ?_ (by with_reducible assumption))); obtain ⟨hc4, hf4⟩ := bcell E4; have hs4 : w3.heap.size ≤ w4.heap.size := E4.size; have hz4 : w.heap.size < w4.heap.size := (by omega)))
    all_goals
      go_wp2_with fail
      have hBS : Blk ((w7.setCell ⟨w.heap.size + 1 + 1, 0, none⟩ (.slice A6 (cs.length + ds.length) cp6)).setCell ⟨w.heap.size + 1 + 1, 1, none⟩ (.float .f32 sp)) (w.heap.size + 1 + 1) 48 #[.slice A6 (cs.length + ds.length) cp6, .float .f32 sp] := by
        have := (hR7.set_ 0 (.slice A6 (cs.length + ds.length) cp6)).set_ 1 (.float .f32 sp)
        simpa using this
      have e3 : Ext w ((w7.setCell ⟨w.heap.size + 1 + 1, 0, none⟩ (.slice A6 (cs.length + ds.length) cp6)).setCell ⟨w.heap.size + 1 + 1, 1, none⟩ (.float .f32 sp)) := Ext.setCell_at (Ext.setCell_at (Ext.trans HE3.out E7) _ _ _ (by omega)) _ _ _ (by omega)
      have HV6 := Lib.hid (show VO w6 w5.heap.size A6 (fromP cs a ++ fromP ds c) from hv6.mono (by (try simp only [World.size_alloc]); omega))
      have hlt6 : w.heap.size + 1 + 1 < w5.heap.size := by omega
      have hvo : VO ((w7.setCell ⟨w.heap.size + 1 + 1, 0, none⟩ (.slice A6 (cs.length + ds.length) cp6)).setCell ⟨w.heap.size + 1 + 1, 1, none⟩ (.float .f32 sp)) w.heap.size A6 (fromP cs a ++ fromP ds c) := ((((HV6.out.ext X7).set_lt _ _ _ hlt6).set_lt _ _ _ hlt6)).mono (by omega)
      generalize (w7.setCell ⟨w.heap.size + 1 + 1, 0, none⟩ (.slice A6 (cs.length + ds.length) cp6)).setCell ⟨w.heap.size + 1 + 1, 1, none⟩ (.float .f32 sp) = W9 at *
      have z0 : W9.cell? ⟨w.heap.size + 1 + 1, 0, none⟩ = some (.slice A6 (cs.length + ds.length) cp6) := hBS.cell 0
      have z1 : W9.cell? ⟨w.heap.size + 1 + 1, 1, none⟩ = some (.float .f32 sp) := hBS.cell 1
      refine bodyPost_ret (v := .tuple #[.agg #[.slice A6 (cs.length + ds.length) cp6, .float .f32 sp], .bool true]) (by simp [results, Try.results68, go_sem, z0, z1]) rfl ?_
      unfold giveP
      rw [HG1.out]
      exact ⟨e3, A6, cp6, sp, by simp [HLEN.out], hvo, rfl⟩
theorem implJoin_any (A : Option Addr) (cap sp : Nat) (B : Option Addr) (cap' sq : Nat) (i k : Int) (cs ds : List V3) (w : World) (hA : VS w A cs) (hB : VS w B ds) (hl : cs.length ≤ 1048576) (hl' : ds.length ≤ 1048576) (hcap : cs.length ≤ cap) (hcap' : ds.length ≤ cap') :
    Calls Try.prog 68 #[.agg #[.slice A cs.length cap, .float .f32 sp], .agg #[.slice B ds.length cap', .float .f32 sq], .int .i64 i, .int .i64 k] w fun e w' => Ext w w' ∧ RT w w' e (joinP i k cs (cn .f32 sp) ds (cn .f32 sq)) := by
  unfold joinP
  cases hno : joinOk i k cs (cn .f32 sp) ds (cn .f32 sq) with
  | false => exact implJoinNo_any A cap sp B cap' sq i k cs ds w hA hB hl hl' hno
  | true =>
    unfold joinOk at hno
    simp only [Bool.and_eq_true, Bool.not_eq_true'] at hno
    obtain ⟨h1, h2, h3⟩ := hno
    obtain ⟨-, -, hi0, -⟩ := hasP_bounds h1
    obtain ⟨-, -, hk0, -⟩ := hasP_bounds h2
    obtain ⟨n, rfl⟩ : ∃ n : Nat, i = n := ⟨i.toNat, by omega⟩
    obtain ⟨m, rfl⟩ : ∃ m : Nat, k = m := ⟨k.toNat, by omega⟩
    exact implJoinYes_any A cap sp B cap' sq n m cs ds w hA hB hcap hcap' h1 h2 h3
end Go.Proofs.Ytbaohbpfnlicpaa
