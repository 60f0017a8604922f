/- Walks: a thread cut in two, by the program. -/
import Derived.Test.YtbaohbpfnlicpaaG1
import Derived.Test.YtbaohbpfnlicpaaJ3
import Derived.Test.YtbaohbpfnlicpaaB2
namespace Go.Proofs.Ytbaohbpfnlicpaa
open Go Go.RowKit
set_option linter.unusedVariables false
set_option linter.unusedSimpArgs false
attribute [local go_sem] run_store_float

theorem CloneV_len (A : Option Addr) (cap n : Nat) (cs : List V3) (hn : cs.length = n) (w : World) (hA : VS w A cs) (hl : n ≤ 1048576) (hp : 0 < n) :
    Calls Try.prog 129 #[.slice A n cap] w fun e w' => Ext w w' ∧ ∃ A' cap', e = .returned (.slice A' n cap') ∧ VO w' w.heap.size A' cs := by
  subst hn
  exact CloneV_any A cap cs w hA hl hp
theorem toldThread_own (A : Option Addr) (cap sp : Nat) (cs : List V3) (n B : Nat) (hn : cs.length = n) (w : World) (hA : VO w B A cs) (hl : n ≤ 1048576) (pb : Bool) (ds : List V3) (ps : Nat) (hP : giveP cs (cn .f32 sp) = (pb, ds, ps)) :
    Calls Try.prog 144 #[.slice A n cap, .float .f32 sp] w fun e w' => Ext w w' ∧ ∃ A0 cap0 s0, e = .returned (.tuple #[.agg #[.slice A0 ds.length cap0, .float .f32 s0], .bool pb]) ∧ VO w' B A0 ds ∧ cn .f32 s0 = ps ∧ (0 < ds.length → A0 = A ∧ ds = cs) := by
  unfold giveP at hP
  cases hb : isTh cs (cn .f32 sp) with
  | true =>
    rw [hb, if_pos rfl] at hP
    simp only [Prod.mk.injEq] at hP
    obtain ⟨rfl, rfl, rfl⟩ := hP
    refine (toldThread_len A cap sp cs n hn w hA.vs hl true hb).mono ?_
    rintro e w' ⟨he, rfl⟩
    exact ⟨he, A, cap, sp, by rw [hn]; rfl, hA.ext he, rfl, fun _ => ⟨rfl, rfl⟩⟩
  | false =>
    rw [hb, if_neg (by decide)] at hP
    simp only [Prod.mk.injEq] at hP
    obtain ⟨rfl, rfl, rfl⟩ := hP
    refine (toldThread_len A cap sp cs n hn w hA.vs hl false hb).mono ?_
    rintro e w' ⟨he, rfl⟩
    exact ⟨he, none, 0, 0, rfl, fun h => absurd h (Nat.lt_irrefl 0), cn_zero32, fun h => absurd h (Nat.lt_irrefl 0)⟩
theorem Laid.setne {w0 w3 : World} {B g : Nat} {A : Option Addr} {ds : List V3} {t : TypeId} {x y : Value} (E : Ext w0 w3) (hv : VO w3 B A ds) (hB : w0.heap.size ≤ B) (hb : Blk w3 g t #[x, y]) (hg : w0.heap.size ≤ g) (hne : 0 < ds.length → ∀ b o, A = some ⟨b, o, none⟩ → b ≠ g) (cap s : Nat) :
    Laid w0 ((w3.setCell ⟨g, 0, none⟩ (.slice A ds.length cap)).setCell ⟨g, 1, none⟩ (.float .f32 s)) g A ds cap s := by
  have hb2 : Blk ((w3.setCell ⟨g, 0, none⟩ (.slice A ds.length cap)).setCell ⟨g, 1, none⟩ (.float .f32 s)) g t #[.slice A ds.length cap, .float .f32 s] := by
    have := (hb.set_ 0 (.slice A ds.length cap)).set_ 1 (.float .f32 s)
    simpa using this
  refine ⟨hg, hb2.lt, hb2.cell 0, hb2.cell 1, (E.setCell_at _ _ _ hg).setCell_at _ _ _ hg, fun hp => ?_, hne⟩
  exact ((hv.mono hB).only (row := some g) (only_setCell (g := g) (p := ⟨g, 1, none⟩) (only_setCell (g := g) (p := ⟨g, 0, none⟩) (only_refl _ _) rfl _) rfl _) (fun b o hA h => hne hp b o hA (by simpa using h))) hp
theorem Blk.drw {w : World} {g : Nat} {t : TypeId} {cs : Array Value} (h : Blk w g t cs) : Blk w.drew g t cs := h
theorem VO.lt {w : World} {B : Nat} {A : Option Addr} {cs : List V3} (h : VO w B A cs) (hp : 0 < cs.length) {b o : Nat} (hA : A = some ⟨b, o, none⟩) : B ≤ b ∧ b < w.heap.size := by
  obtain ⟨b', o', hA', h1, h2, -⟩ := h hp
  rw [hA'] at hA
  simp only [Option.some.injEq, Addr.mk.injEq] at hA
  omega

set_option maxRecDepth 100000 in
set_option maxHeartbeats 800000 in
theorem implSplitNo_any (A : Option Addr) (cap sp : Nat) (i k : Int) (cs : List V3) (w : World) (hA : VS w A cs) (hl : cs.length ≤ 1048576) (hno : splitOk i k cs (cn .f32 sp) = false) :
    Calls Try.prog 70 #[.agg #[.slice A cs.length cap, .float .f32 sp], .int .i64 i, .int .i64 k] w fun e w' => Ext w w' ∧ RTT w w' e noTwo := by
  have HA := Lib.hid hA
  have HL := Lib.hid hl
  clear hA hl
  have HT := Lib.hid (show TAt (((w.alloc (.cells #[.slice A cs.length cap, .float .f32 sp] 48)).alloc (.cells #[.slice none 0 0, .float .f32 0] 48)).alloc (.cells #[.slice none 0 0, .float .f32 0] 48)) w.heap.size 0 A cs.length cap sp from ⟨by simp <;> omega, by go_simp, by go_simp⟩)
  have HRa := Lib.hid (show Blk (((w.alloc (.cells #[.slice A cs.length cap, .float .f32 sp] 48)).alloc (.cells #[.slice none 0 0, .float .f32 0] 48)).alloc (.cells #[.slice none 0 0, .float .f32 0] 48)) (w.heap.size + 1) 48 #[.slice none 0 0, .float .f32 0] from (Blk.at_ _ _ _ _ (by simp)).alloc _)
  have HRb := Lib.hid (show Blk (((w.alloc (.cells #[.slice A cs.length cap, .float .f32 sp] 48)).alloc (.cells #[.slice none 0 0, .float .f32 0] 48)).alloc (.cells #[.slice none 0 0, .float .f32 0] 48)) (w.heap.size + 1 + 1) 48 #[.slice none 0 0, .float .f32 0] from Blk.at_ _ _ _ _ (by simp))
  have HE1 := Lib.hid (show Ext w (((w.alloc (.cells #[.slice A cs.length cap, .float .f32 sp] 48)).alloc (.cells #[.slice none 0 0, .float .f32 0] 48)).alloc (.cells #[.slice none 0 0, .float .f32 0] 48)) by (repeat first | with_reducible exact Ext.rfl' _ | with_reducible refine Ext.drewN ?_ _ | with_reducible refine Ext.drew' ?_ | with_reducible refine Ext.alloc' ?_ _ | with_reducible refine Ext.setCell_at ?_ _ _ _ (by first | exact Nat.le_refl _ | omega) | with_reducible assumption | refine Ext.trans ?_ (by with_reducible assumption)))
  unfold splitOk at hno
  cases h0 : hasP cs (cn .f32 sp) i with
  | false =>
    have H0 := Lib.hid h0
    clear h0 hno
    go_enter Try.func70, Try.ntmps70
    go_wp2_with fail
    generalize (((w.alloc (.cells #[.slice A cs.length cap, .float .f32 sp] 48)).alloc (.cells #[.slice none 0 0, .float .f32 0] 48)).alloc (.cells #[.slice none 0 0, .float .f32 0] 48)) = W1 at *
    refine (has_any w.heap.size 0 A cap sp cs i _ HT.out (HA.out.ext HE1.out) HL.out false H0.out).mono ?_
    rintro e w2 ⟨he2, rfl⟩
    have HE2 := Lib.hid (Ext.trans HE1.out he2)
    have HA2 := Lib.hid (HRa.out.ext he2)
    have HB2 := Lib.hid (HRb.out.ext he2)
    clear he2
    have r0 : w2.cell? ⟨w.heap.size + 1, 0, none⟩ = some (.slice none 0 0) := HA2.out.cell 0
    have r1 : w2.cell? ⟨w.heap.size + 1, 1, none⟩ = some (.float .f32 0) := HA2.out.cell 1
    have rf0 := HA2.out.frozen 0
    have rf1 := HA2.out.frozen 1
    have s0 : w2.cell? ⟨w.heap.size + 1 + 1, 0, none⟩ = some (.slice none 0 0) := HB2.out.cell 0
    have s1 : w2.cell? ⟨w.heap.size + 1 + 1, 1, none⟩ = some (.float .f32 0) := HB2.out.cell 1
    have sf0 := HB2.out.frozen 0
    have sf1 := HB2.out.frozen 1
    go_wp2_with fail
    obtain ⟨hBa, hBb, hX, -⟩ := two_set (u0 := .slice none 0 0) (u1 := .float .f32 0) (v0 := .slice none 0 0) (v1 := .float .f32 0) HA2.out HB2.out (by omega) HE2.out (by omega) (by omega)
    generalize (((w2.setCell ⟨w.heap.size + 1, 0, none⟩ (.slice none 0 0)).setCell ⟨w.heap.size + 1, 1, none⟩ (.float .f32 0)).setCell ⟨w.heap.size + 1 + 1, 0, none⟩ (.slice none 0 0)).setCell ⟨w.heap.size + 1 + 1, 1, none⟩ (.float .f32 0) = W9 at *
    have q0 : W9.cell? ⟨w.heap.size + 1, 0, none⟩ = some (.slice none 0 0) := hBa.cell 0
    have q1 : W9.cell? ⟨w.heap.size + 1, 1, none⟩ = some (.float .f32 0) := hBa.cell 1
    have q2 : W9.cell? ⟨w.heap.size + 1 + 1, 0, none⟩ = some (.slice none 0 0) := hBb.cell 0
    have q3 : W9.cell? ⟨w.heap.size + 1 + 1, 1, none⟩ = some (.float .f32 0) := hBb.cell 1
    exact bodyPost_ret (v := .tuple #[.agg #[.slice none 0 0, .float .f32 0], .agg #[.slice none 0 0, .float .f32 0], .bool false]) (by simp [results, Try.results70, go_sem, q0, q1, q2, q3]) rfl ⟨hX, RTT.no⟩
  | true =>
   rw [h0, Bool.true_and] at hno
   have H0 := Lib.hid h0
   clear h0
   cases h1 : hasP cs (cn .f32 sp) k with
   | false =>
    have H1 := Lib.hid h1
    clear h1 hno
    go_enter Try.func70, Try.ntmps70
    go_wp2_with fail
    generalize (((w.alloc (.cells #[.slice A cs.length cap, .float .f32 sp] 48)).alloc (.cells #[.slice none 0 0, .float .f32 0] 48)).alloc (.cells #[.slice none 0 0, .float .f32 0] 48)) = W1 at *
    refine (has_any w.heap.size 0 A cap sp cs i _ HT.out (HA.out.ext HE1.out) HL.out true H0.out).mono ?_
    rintro e w1 ⟨he1, rfl⟩
    have HEa := Lib.hid (Ext.trans HE1.out he1)
    have HTa := Lib.hid (HT.out.ext he1)
    have HAa := Lib.hid (HRa.out.ext he1)
    have HBa := Lib.hid (HRb.out.ext he1)
    clear he1
    go_wp2_with fail
    refine (has_any w.heap.size 0 A cap sp cs k _ HTa.out (HA.out.ext HEa.out) HL.out false H1.out).mono ?_
    rintro e w2 ⟨he2, rfl⟩
    have HE2 := Lib.hid (Ext.trans HEa.out he2)
    have HA2 := Lib.hid (HAa.out.ext he2)
    have HB2 := Lib.hid (HBa.out.ext he2)
    clear he2
    have r0 : w2.cell? ⟨w.heap.size + 1, 0, none⟩ = some (.slice none 0 0) := HA2.out.cell 0
    have r1 : w2.cell? ⟨w.heap.size + 1, 1, none⟩ = some (.float .f32 0) := HA2.out.cell 1
    have rf0 := HA2.out.frozen 0
    have rf1 := HA2.out.frozen 1
    have s0 : w2.cell? ⟨w.heap.size + 1 + 1, 0, none⟩ = some (.slice none 0 0) := HB2.out.cell 0
    have s1 : w2.cell? ⟨w.heap.size + 1 + 1, 1, none⟩ = some (.float .f32 0) := HB2.out.cell 1
    have sf0 := HB2.out.frozen 0
    have sf1 := HB2.out.frozen 1
    go_wp2_with fail
    obtain ⟨hBa, hBb, hX, -⟩ := two_set (u0 := .slice none 0 0) (u1 := .float .f32 0) (v0 := .slice none 0 0) (v1 := .float .f32 0) HA2.out HB2.out (by omega) HE2.out (by omega) (by omega)
    generalize (((w2.setCell ⟨w.heap.size + 1, 0, none⟩ (.slice none 0 0)).setCell ⟨w.heap.size + 1, 1, none⟩ (.float .f32 0)).setCell ⟨w.heap.size + 1 + 1, 0, none⟩ (.slice none 0 0)).setCell ⟨w.heap.size + 1 + 1, 1, none⟩ (.float .f32 0) = W9 at *
    have q0 : W9.cell? ⟨w.heap.size + 1, 0, none⟩ = some (.slice none 0 0) := hBa.cell 0
    have q1 : W9.cell? ⟨w.heap.size + 1, 1, none⟩ = some (.float .f32 0) := hBa.cell 1
    have q2 : W9.cell? ⟨w.heap.size + 1 + 1, 0, none⟩ = some (.slice none 0 0) := hBb.cell 0
    have q3 : W9.cell? ⟨w.heap.size + 1 + 1, 1, none⟩ = some (.float .f32 0) := hBb.cell 1
    exact bodyPost_ret (v := .tuple #[.agg #[.slice none 0 0, .float .f32 0], .agg #[.slice none 0 0, .float .f32 0], .bool false]) (by simp [results, Try.results70, go_sem, q0, q1, q2, q3]) rfl ⟨hX, RTT.no⟩
   | true =>
    rw [h1, Bool.true_and] at hno
    have hge : k ≤ i := by simpa using hno
    have H1 := Lib.hid h1
    clear h1 hno
    go_enter Try.func70, Try.ntmps70
    go_wp2_with fail
    generalize (((w.alloc (.cells #[.slice A cs.length cap, .float .f32 sp] 48)).alloc (.cells #[.slice none 0 0, .float .f32 0] 48)).alloc (.cells #[.slice none 0 0, .float .f32 0] 48)) = W1 at *
    refine (has_any w.heap.size 0 A cap sp cs i _ HT.out (HA.out.ext HE1.out) HL.out true H0.out).mono ?_
    rintro e w1 ⟨he1, rfl⟩
    have HEa := Lib.hid (Ext.trans HE1.out he1)
    have HTa := Lib.hid (HT.out.ext he1)
    have HAa := Lib.hid (HRa.out.ext he1)
    have HBa := Lib.hid (HRb.out.ext he1)
    clear he1
    go_wp2_with fail
    refine (has_any w.heap.size 0 A cap sp cs k _ HTa.out (HA.out.ext HEa.out) HL.out true H1.out).mono ?_
    rintro e w2 ⟨he2, rfl⟩
    have HE2 := Lib.hid (Ext.trans HEa.out he2)
    have HA2 := Lib.hid (HAa.out.ext he2)
    have HB2 := Lib.hid (HBa.out.ext he2)
    clear he2
    have r0 : w2.cell? ⟨w.heap.size + 1, 0, none⟩ = some (.slice none 0 0) := HA2.out.cell 0
    have r1 : w2.cell? ⟨w.heap.size + 1, 1, none⟩ = some (.float .f32 0) := HA2.out.cell 1
    have rf0 := HA2.out.frozen 0
    have rf1 := HA2.out.frozen 1
    have s0 : w2.cell? ⟨w.heap.size + 1 + 1, 0, none⟩ = some (.slice none 0 0) := HB2.out.cell 0
    have s1 : w2.cell? ⟨w.heap.size + 1 + 1, 1, none⟩ = some (.float .f32 0) := HB2.out.cell 1
    have sf0 := HB2.out.frozen 0
    have sf1 := HB2.out.frozen 1
    go_wp2_with fail
    obtain ⟨hBa, hBb, hX, -⟩ := two_set (u0 := .slice none 0 0) (u1 := .float .f32 0) (v0 := .slice none 0 0) (v1 := .float .f32 0) HA2.out HB2.out (by omega) HE2.out (by omega) (by omega)
    generalize (((w2.setCell ⟨w.heap.size + 1, 0, none⟩ (.slice none 0 0)).setCell ⟨w.heap.size + 1, 1, none⟩ (.float .f32 0)).setCell ⟨w.heap.size + 1 + 1, 0, none⟩ (.slice none 0 0)).setCell ⟨w.heap.size + 1 + 1, 1, none⟩ (.float .f32 0) = W9 at *
    have q0 : W9.cell? ⟨w.heap.size + 1, 0, none⟩ = some (.slice none 0 0) := hBa.cell 0
    have q1 : W9.cell? ⟨w.heap.size + 1, 1, none⟩ = some (.float .f32 0) := hBa.cell 1
    have q2 : W9.cell? ⟨w.heap.size + 1 + 1, 0, none⟩ = some (.slice none 0 0) := hBb.cell 0
    have q3 : W9.cell? ⟨w.heap.size + 1 + 1, 1, none⟩ = some (.float .f32 0) := hBb.cell 1
    exact bodyPost_ret (v := .tuple #[.agg #[.slice none 0 0, .float .f32 0], .agg #[.slice none 0 0, .float .f32 0], .bool false]) (by simp [results, Try.results70, go_sem, q0, q1, q2, q3]) rfl ⟨hX, RTT.no⟩

set_option maxRecDepth 100000 in
set_option maxHeartbeats 3200000 in
theorem implSplitYes_any (A : Option Addr) (cap sp i k : Nat) (cs : List V3) (w : World) (hA : VS w A cs) (hcap : cs.length ≤ cap) (hi : hasP cs (cn .f32 sp) i = true) (hk : hasP cs (cn .f32 sp) k = true) (hik : i < k) (pb qb : Bool) (ds es : List V3) (ps qs : Nat) (hP : giveP (splitA i k cs) (cn .f32 sp) = (pb, ds, ps)) (hQ : giveP (splitB i k cs) (cn .f32 sp) = (qb, es, qs)) :
    Calls Try.prog 70 #[.agg #[.slice A cs.length cap, .float .f32 sp], .int .i64 i, .int .i64 k] w fun e w' => Ext w w' ∧ RTT w w' e (bothP (pb, ds, ps) (qb, es, qs)) := by
  obtain ⟨hn3, hn32, -, hkn⟩ := hasP_bounds hk
  obtain ⟨b, o, rfl, hbw, -⟩ := hA (by omega)
  have HN := Lib.hid (show 3 ≤ cs.length ∧ cs.length ≤ 32 ∧ i < k ∧ k < cs.length from ⟨hn3, hn32, hik, by omega⟩)
  have hsa : splitA i k cs = (cs.take k).drop i := by simp [splitA]
  have hsb : splitB i k cs = cs.drop k ++ cs.take i := by simp [splitB]
  rw [hsa] at hP
  rw [hsb] at hQ
  have HP := Lib.hid hP
  have HQ := Lib.hid hQ
  have HLA := Lib.hid (show ((cs.take k).drop i).length = k - i by rw [List.length_drop, List.length_take]; omega)
  have HLB := Lib.hid (show (cs.drop k).length = cs.length - k by rw [List.length_drop])
  have HLC := Lib.hid (show (cs.take i).length = i by rw [List.length_take]; omega)
  have HLD := Lib.hid (show (cs.drop k ++ cs.take i).length = cs.length - k + i by rw [List.length_append, List.length_drop, List.length_take]; omega)
  have HS1 := Lib.hid ((hA.take k).drop i)
  have HS2 := Lib.hid (hA.drop k)
  have HS3 := Lib.hid (hA.take i)
  have HA := Lib.hid hA
  have HI := Lib.hid hi
  have HK := Lib.hid hk
  have HT := Lib.hid (show TAt (((w.alloc (.cells #[.slice (some ⟨b, o, none⟩) cs.length cap, .float .f32 sp] 48)).alloc (.cells #[.slice none 0 0, .float .f32 0] 48)).alloc (.cells #[.slice none 0 0, .float .f32 0] 48)) w.heap.size 0 (some ⟨b, o, none⟩) cs.length cap sp from ⟨by simp <;> omega, by go_simp, by go_simp⟩)
  have HRa := Lib.hid (show Blk (((w.alloc (.cells #[.slice (some ⟨b, o, none⟩) cs.length cap, .float .f32 sp] 48)).alloc (.cells #[.slice none 0 0, .float .f32 0] 48)).alloc (.cells #[.slice none 0 0, .float .f32 0] 48)) (w.heap.size + 1) 48 #[.slice none 0 0, .float .f32 0] from (Blk.at_ _ _ _ _ (by simp)).alloc _)
  have HRb := Lib.hid (show Blk (((w.alloc (.cells #[.slice (some ⟨b, o, none⟩) cs.length cap, .float .f32 sp] 48)).alloc (.cells #[.slice none 0 0, .float .f32 0] 48)).alloc (.cells #[.slice none 0 0, .float .f32 0] 48)) (w.heap.size + 1 + 1) 48 #[.slice none 0 0, .float .f32 0] from Blk.at_ _ _ _ _ (by simp))
  have HE1 := Lib.hid (show Ext w (((w.alloc (.cells #[.slice (some ⟨b, o, none⟩) cs.length cap, .float .f32 sp] 48)).alloc (.cells #[.slice none 0 0, .float .f32 0] 48)).alloc (.cells #[.slice none 0 0, .float .f32 0] 48)) by (repeat first | with_reducible exact Ext.rfl' _ | with_reducible refine Ext.drewN ?_ _ | with_reducible refine Ext.drew' ?_ | with_reducible refine Ext.alloc' ?_ _ | with_reducible refine Ext.setCell_at ?_ _ _ _ (by first | exact Nat.le_refl _ | omega) | with_reducible assumption | refine Ext.trans ?_ (by with_reducible assumption)))
  have q1 : (0 : Int) ≤ (i : Int) := by omega
  have q2 : (i : Int) ≤ (k : Int) := by omega
  have q3 : (k : Int) ≤ (cap : Int) := by omega
  have q4 : (k : Int) ≤ (cs.length : Int) := by omega
  have q5 : (cs.length : Int) ≤ (cap : Int) := by omega
  have q6 : (i : Int) ≤ (cap : Int) := by omega
  have q7 : (0 : Int) ≤ (k : Int) := by omega
  have q8 : ¬ cap = i := by omega
  have q9 : ¬ cap = k := by omega
  have qa : ¬ ((k : Int) ≤ (i : Int)) := by omega
  clear hA hi hk hsa hsb hn3 hn32 hkn hik hcap hbw hP hQ
  go_enter Try.func70, Try.ntmps70
  go_wp2_with fail
  generalize (((w.alloc (.cells #[.slice (some ⟨b, o, none⟩) cs.length cap, .float .f32 sp] 48)).alloc (.cells #[.slice none 0 0, .float .f32 0] 48)).alloc (.cells #[.slice none 0 0, .float .f32 0] 48)) = W1 at *
  refine (has_any w.heap.size 0 (some ⟨b, o, none⟩) cap sp cs i _ HT.out (HA.out.ext HE1.out) (by have := HN.out; omega) true HI.out).mono ?_
  rintro e w1 ⟨he1, rfl⟩
  have HEa := Lib.hid (Ext.trans HE1.out he1)
  have HTa := Lib.hid (HT.out.ext he1)
  have HAa := Lib.hid (HRa.out.ext he1)
  have HBa := Lib.hid (HRb.out.ext he1)
  clear he1
  go_wp2_with fail
  refine (has_any w.heap.size 0 (some ⟨b, o, none⟩) cap sp cs k _ HTa.out (HA.out.ext HEa.out) (by have := HN.out; omega) true HK.out).mono ?_
  rintro e w2 ⟨he2, rfl⟩
  have HE2 := Lib.hid (Ext.trans HEa.out he2)
  have HT2 := Lib.hid (HTa.out.ext he2)
  have HA2 := Lib.hid (HAa.out.ext he2)
  have HB2 := Lib.hid (HBa.out.ext he2)
  obtain ⟨tl, t0, t1⟩ := HT2.out
  have hws : w.heap.size + 1 + 1 < w2.heap.size := HB2.out.lt
  clear he2
  go_upto_region 3 with fail
  go_cut [9, 10] (fun p bb wx => ∃ (g : Nat) (A0 : Option Addr) (cap0 s0 : Nat), p = .pointer (some ⟨g, 0, none⟩) ∧ bb = .bool pb ∧ Laid w2 wx g A0 ds cap0 s0 ∧ cn .f32 s0 = ps)
  case first =>
    go_region_held3 (fun W => W.cell? ⟨w.heap.size, 0, none⟩ = some (.slice (some ⟨b, o, none⟩) cs.length cap) ∧ W.cell? ⟨w.heap.size, 0 + 1, none⟩ = some (.float .f32 sp)) (((try dsimp only); (repeat' apply And.intro) <;> (simp [*, go_sem]; done)))
      (first
        | (go_at_call 144; refine (toldThread_own A6 cp6 sp ((cs.take k).drop i) (k - i) _ HLA.out _ (VO.ext hv6 (by (repeat first | with_reducible exact Ext.rfl' _ | with_reducible refine Ext.drewN ?_ _ | with_reducible refine Ext.drew' ?_ | with_reducible refine Ext.alloc' ?_ _ | with_reducible refine Ext.setCell_at ?_ _ _ _ (by first | exact Nat.le_refl _ | omega) | with_reducible assumption | refine Ext.trans ?_ (by with_reducible assumption)))) (by have := HN.out; omega) pb ds ps HP.out).mono ?_; rintro e w7 ⟨he7, A0, cap0, s0, rfl, hv7, hs7, hsame⟩; have X7 : Ext w6 w7 := (by (repeat first | with_reducible exact Ext.rfl' _ | with_reducible refine Ext.drewN ?_ _ | with_reducible refine Ext.drew' ?_ | with_reducible refine Ext.alloc' ?_ _ | with_reducible refine Ext.setCell_at ?_ _ _ _ (by first | exact Nat.le_refl _ | omega) | with_reducible assumption | refine Ext.trans ?_ (by with_reducible assumption))); have E7 := Ext.trans E6 X7; obtain ⟨hc7, hf7⟩ := bcell E7; have hsz7 : w2.heap.size ≤ w7.heap.size := E7.size; have hz7 : w.heap.size < w7.heap.size := (by omega); (try ((first | (have B7 : Blk w7 _ 48 #[.slice none 0 0, .float .f32 0] := Blk.ext B6 he7) | (have B7 : Blk w7 w6.heap.size 48 #[.slice none 0 0, .float .f32 0] := Blk.ext (Blk.at_ w6 48 #[.slice none 0 0, .float .f32 0] _ rfl) he7) | (have B7 : Blk w7 w6.heap.size 48 #[.slice none 0 0, .float .f32 0] := Blk.ext (Blk.at_drew w6 48 #[.slice none 0 0, .float .f32 0] _ rfl) he7)); (have r0 : w7.cell? ⟨_, 0, none⟩ = some (.slice none 0 0) := Blk.cell B7 0); (have r1 : w7.cell? ⟨_, 1, none⟩ = some (.float .f32 0) := Blk.cell B7 1); have rf0 := Blk.frozen B7 0; have rf1 := Blk.frozen B7 1)))
        | (go_at_call 129; refine (CloneV_len (some ⟨b, o + i * 3, none⟩) (cap - i) (k - i) ((cs.take k).drop i) HLA.out _ (HS1.out.ext (Ext.trans HE2.out (by (repeat first | with_reducible exact Ext.rfl' _ | with_reducible refine Ext.drewN ?_ _ | with_reducible refine Ext.drew' ?_ | with_reducible refine Ext.alloc' ?_ _ | with_reducible refine Ext.setCell_at ?_ _ _ _ (by first | exact Nat.le_refl _ | omega) | with_reducible assumption | refine Ext.trans ?_ (by with_reducible assumption))))) (by have := HN.out; omega) (by have := HN.out; omega)).mono ?_; rintro e w6 ⟨he6, A6, cp6, rfl, hv6⟩; have E6 : Ext w2 w6 := (by (repeat first | with_reducible exact Ext.rfl' _ | with_reducible refine Ext.drewN ?_ _ | with_reducible refine Ext.drew' ?_ | with_reducible refine Ext.alloc' ?_ _ | with_reducible refine Ext.setCell_at ?_ _ _ _ (by first | exact Nat.le_refl _ | omega) | with_reducible assumption | refine Ext.trans ?_ (by with_reducible assumption))); obtain ⟨hc6, hf6⟩ := bcell E6; have hs6 : w2.heap.size ≤ w6.heap.size := E6.size; have hz6 : w.heap.size < w6.heap.size := (by omega); (try ((first | (have B6 : Blk w6 w2.heap.size 48 #[.slice none 0 0, .float .f32 0] := Blk.ext (Blk.at_ w2 48 #[.slice none 0 0, .float .f32 0] _ rfl) he6) | (have B6 : Blk w6 w2.heap.size 48 #[.slice none 0 0, .float .f32 0] := Blk.ext (Blk.at_drew w2 48 #[.slice none 0 0, .float .f32 0] _ rfl) he6) | (have B6 : Blk w6 w2.heap.size 48 #[.slice none 0 0, .float .f32 0] := Blk.ext (Blk.alloc (Blk.at_ w2 48 #[.slice none 0 0, .float .f32 0] _ rfl) _) he6) | (have B6 : Blk w6 w2.heap.size 48 #[.slice none 0 0, .float .f32 0] := Blk.ext (Blk.drw (Blk.alloc (Blk.at_ w2 48 #[.slice none 0 0, .float .f32 0] _ rfl) _)) he6) | (have B6 : Blk w6 w2.heap.size 48 #[.slice none 0 0, .float .f32 0] := Blk.ext (Blk.alloc (Blk.at_drew w2 48 #[.slice none 0 0, .float .f32 0] _ rfl) _) he6) | (have B6 : Blk w6 (w2.heap.size + 1) 48 #[.slice none 0 0, .float .f32 0] := Blk.ext (Blk.at_ _ 48 #[.slice none 0 0, .float .f32 0] _ (by simp)) he6) | (have B6 : Blk w6 (w2.heap.size + 1) 48 #[.slice none 0 0, .float .f32 0] := Blk.ext (Blk.at_drew _ 48 #[.slice none 0 0, .float .f32 0] _ (by simp)) he6)); (have r0 : w6.cell? ⟨_, 0, none⟩ = some (.slice none 0 0) := Blk.cell B6 0); (have r1 : w6.cell? ⟨_, 1, none⟩ = some (.float .f32 0) := Blk.cell B6 1); have rf0 := Blk.frozen B6 0; have rf1 := Blk.frozen B6 1))))
    all_goals
      go_wp2_with fail
      go_meet
      refine ⟨_, A0, cap0, s0, rfl, rfl, ?_, hs7⟩
      first
        | exact Laid.new E7 hv7 (by (try simp only [World.size_alloc, World.size_drew]); omega) cap0 s0 _
        | exact Laid.set E7 hv7 (by (try simp only [World.size_alloc, World.size_drew]); omega) B7 (by (try simp only [World.size_alloc, World.size_drew]); omega) (by (try simp only [World.size_alloc, World.size_drew]); omega) cap0 s0
        | exact Laid.setne E7 hv7 (by (try simp only [World.size_alloc, World.size_drew]); omega) B7 (by (try simp only [World.size_alloc, World.size_drew]); omega) (fun hp bb oo hA => by have hq := hsame hp; have := (hv6.lt (by rw [← hq.2]; exact hp) (hq.1 ▸ hA)).2; omega) cap0 s0
  case rest =>
    obtain ⟨ga, Aa, capa, sa, rfl, rfl, hlaid, hsa⟩ := hcut
    obtain ⟨hl1, hl2, hl3, hl4, hl5, hl6, hl7⟩ := hlaid
    rename World => w4
    have HVA := Lib.hid hl6
    have HSA := Lib.hid hsa
    have HGA := Lib.hid (show w2.heap.size ≤ ga ∧ ga < w4.heap.size from ⟨hl1, hl2⟩)
    have HCA0 := Lib.hid hl3
    have HCA1 := Lib.hid hl4
    have HE4 := Lib.hid (Ext.trans HE2.out hl5)
    have HT4 := Lib.hid (HT2.out.ext hl5)
    have HA4 := Lib.hid (HA2.out.ext hl5)
    have HB4 := Lib.hid (HB2.out.ext hl5)
    have h24 := hl5.size
    clear hl1 hl2 hl3 hl4 hl5 hl6 hl7 hsa t0 t1 tl
    obtain ⟨tl, t0, t1⟩ := HT4.out
    have hws4 : w.heap.size + 1 + 1 < w4.heap.size := HB4.out.lt
    go_upto_region 4 with fail
    go_cut [11, 12] (fun p bb wx => ∃ (g : Nat) (A0 : Option Addr) (cap0 s0 : Nat), p = .pointer (some ⟨g, 0, none⟩) ∧ bb = .bool qb ∧ Laid w4 wx g A0 es cap0 s0 ∧ cn .f32 s0 = qs)
    case first =>
      go_region_held3 (fun W => W.cell? ⟨w.heap.size, 0, none⟩ = some (.slice (some ⟨b, o, none⟩) cs.length cap) ∧ W.cell? ⟨w.heap.size, 0 + 1, none⟩ = some (.float .f32 sp)) (((try dsimp only); (repeat' apply And.intro) <;> (simp [*, go_sem]; done)))
        (first
          | (go_at_call 144; refine (toldThread_own A6 cp6 sp (cs.drop k ++ cs.take i) (cs.length - k + i) _ HLD.out _ (VO.ext hv6 (by (repeat first | with_reducible exact Ext.rfl' _ | with_reducible refine Ext.drewN ?_ _ | with_reducible refine Ext.drew' ?_ | with_reducible refine Ext.alloc' ?_ _ | with_reducible refine Ext.setCell_at ?_ _ _ _ (by first | exact Nat.le_refl _ | omega) | with_reducible assumption | refine Ext.trans ?_ (by with_reducible assumption)))) (by have := HN.out; omega) qb es qs HQ.out).mono ?_; rintro e w7 ⟨he7, A0, cap0, s0, rfl, hv7, hs7, hsame⟩; have X7 : Ext w6 w7 := (by (repeat first | with_reducible exact Ext.rfl' _ | with_reducible refine Ext.drewN ?_ _ | with_reducible refine Ext.drew' ?_ | with_reducible refine Ext.alloc' ?_ _ | with_reducible refine Ext.setCell_at ?_ _ _ _ (by first | exact Nat.le_refl _ | omega) | with_reducible assumption | refine Ext.trans ?_ (by with_reducible assumption))); have E7 := Ext.trans E6 X7; obtain ⟨hc7, hf7⟩ := bcell E7; have hsz7 : w4.heap.size ≤ w7.heap.size := E7.size; have hz7 : w.heap.size < w7.heap.size := (by omega); (try ((first | (have B7 : Blk w7 _ 48 #[.slice none 0 0, .float .f32 0] := Blk.ext B6 he7) | (have B7 : Blk w7 w6.heap.size 48 #[.slice none 0 0, .float .f32 0] := Blk.ext (Blk.at_ w6 48 #[.slice none 0 0, .float .f32 0] _ rfl) he7) | (have B7 : Blk w7 w6.heap.size 48 #[.slice none 0 0, .float .f32 0] := Blk.ext (Blk.at_drew w6 48 #[.slice none 0 0, .float .f32 0] _ rfl) he7)); (have r0 : w7.cell? ⟨_, 0, none⟩ = some (.slice none 0 0) := Blk.cell B7 0); (have r1 : w7.cell? ⟨_, 1, none⟩ = some (.float .f32 0) := Blk.cell B7 1); have rf0 := Blk.frozen B7 0; have rf1 := Blk.frozen B7 1)))
          | (go_at_call 145; refine (ConcatV_len _ b (o + k * 3) (cap - k) b o cap (cs.drop k) (cs.take i) (cs.length - k) i HLB.out HLC.out _ (by first | (simp [World.cell?_alloc_new]; done) | (go_simp; done)) (by first | (simp [World.cell?_alloc_new]; done) | (go_simp; done)) (HS2.out.ext (Ext.trans HE4.out (by (repeat first | with_reducible exact Ext.rfl' _ | with_reducible refine Ext.drewN ?_ _ | with_reducible refine Ext.drew' ?_ | with_reducible refine Ext.alloc' ?_ _ | with_reducible refine Ext.setCell_at ?_ _ _ _ (by first | exact Nat.le_refl _ | omega) | with_reducible assumption | refine Ext.trans ?_ (by with_reducible assumption))))) (HS3.out.ext (Ext.trans HE4.out (by (repeat first | with_reducible exact Ext.rfl' _ | with_reducible refine Ext.drewN ?_ _ | with_reducible refine Ext.drew' ?_ | with_reducible refine Ext.alloc' ?_ _ | with_reducible refine Ext.setCell_at ?_ _ _ _ (by first | exact Nat.le_refl _ | omega) | with_reducible assumption | refine Ext.trans ?_ (by with_reducible assumption))))) (by have := HN.out; omega) (by have := HN.out; omega)).mono ?_; rintro e w6 ⟨he6, A6, cp6, rfl, hv6⟩; have E6 : Ext w4 w6 := (by (repeat first | with_reducible exact Ext.rfl' _ | with_reducible refine Ext.drewN ?_ _ | with_reducible refine Ext.drew' ?_ | with_reducible refine Ext.alloc' ?_ _ | with_reducible refine Ext.setCell_at ?_ _ _ _ (by first | exact Nat.le_refl _ | omega) | with_reducible assumption | refine Ext.trans ?_ (by with_reducible assumption))); obtain ⟨hc6, hf6⟩ := bcell E6; have hs6 : w4.heap.size ≤ w6.heap.size := E6.size; have hz6 : w.heap.size < w6.heap.size := (by omega); (try ((first | (have B6 : Blk w6 w4.heap.size 48 #[.slice none 0 0, .float .f32 0] := Blk.ext (Blk.at_ w4 48 #[.slice none 0 0, .float .f32 0] _ rfl) he6) | (have B6 : Blk w6 w4.heap.size 48 #[.slice none 0 0, .float .f32 0] := Blk.ext (Blk.at_drew w4 48 #[.slice none 0 0, .float .f32 0] _ rfl) he6) | (have B6 : Blk w6 w4.heap.size 48 #[.slice none 0 0, .float .f32 0] := Blk.ext (Blk.alloc (Blk.at_ w4 48 #[.slice none 0 0, .float .f32 0] _ rfl) _) he6) | (have B6 : Blk w6 w4.heap.size 48 #[.slice none 0 0, .float .f32 0] := Blk.ext (Blk.drw (Blk.alloc (Blk.at_ w4 48 #[.slice none 0 0, .float .f32 0] _ rfl) _)) he6) | (have B6 : Blk w6 w4.heap.size 48 #[.slice none 0 0, .float .f32 0] := Blk.ext (Blk.alloc (Blk.at_drew w4 48 #[.slice none 0 0, .float .f32 0] _ rfl) _) he6) | (have B6 : Blk w6 (w4.heap.size + 1) 48 #[.slice none 0 0, .float .f32 0] := Blk.ext (Blk.at_ _ 48 #[.slice none 0 0, .float .f32 0] _ (by simp)) he6) | (have B6 : Blk w6 (w4.heap.size + 1) 48 #[.slice none 0 0, .float .f32 0] := Blk.ext (Blk.at_drew _ 48 #[.slice none 0 0, .float .f32 0] _ (by simp)) he6)); (have r0 : w6.cell? ⟨_, 0, none⟩ = some (.slice none 0 0) := Blk.cell B6 0); (have r1 : w6.cell? ⟨_, 1, none⟩ = some (.float .f32 0) := Blk.cell B6 1); have rf0 := Blk.frozen B6 0; have rf1 := Blk.frozen B6 1))))
      all_goals
        go_wp2_with fail
        go_meet
        refine ⟨_, A0, cap0, s0, rfl, rfl, ?_, hs7⟩
        first
          | exact Laid.new E7 hv7 (by (try simp only [World.size_alloc, World.size_drew]); omega) cap0 s0 _
          | exact Laid.set E7 hv7 (by (try simp only [World.size_alloc, World.size_drew]); omega) B7 (by (try simp only [World.size_alloc, World.size_drew]); omega) (by (try simp only [World.size_alloc, World.size_drew]); omega) cap0 s0
          | exact Laid.setne E7 hv7 (by (try simp only [World.size_alloc, World.size_drew]); omega) B7 (by (try simp only [World.size_alloc, World.size_drew]); omega) (fun hp bb oo hA => by have hq := hsame hp; have := (hv6.lt (by rw [← hq.2]; exact hp) (hq.1 ▸ hA)).2; omega) cap0 s0
    case rest =>
      obtain ⟨gb, Ab, capb, sb, rfl, rfl, hlaid, hsb⟩ := hcut
      obtain ⟨hl1, hl2, hl3, hl4, hl5, hl6, hl7⟩ := hlaid
      rename World => w9
      have HVB9 := Lib.hid hl6
      have HSB := Lib.hid hsb
      have HVA9 := Lib.hid (HVA.out.ext hl5)
      have hgb4 := hl1
      have p0 : w9.cell? ⟨ga, 0, none⟩ = some (.slice Aa ds.length capa) := (hl5.cell (p := ⟨ga, 0, none⟩) HGA.out.2).trans HCA0.out
      have p1 : w9.cell? ⟨ga, 1, none⟩ = some (.float .f32 sa) := (hl5.cell (p := ⟨ga, 1, none⟩) HGA.out.2).trans HCA1.out
      have pq0 : w9.cell? ⟨gb, 0, none⟩ = some (.slice Ab es.length capb) := hl3
      have pq1 : w9.cell? ⟨gb, 1, none⟩ = some (.float .f32 sb) := hl4
      have HE9 := Lib.hid (Ext.trans HE4.out hl5)
      have HA9 := Lib.hid (HA4.out.ext hl5)
      have HB9 := Lib.hid (HB4.out.ext hl5)
      have HGB := Lib.hid hl1
      clear hl1 hl2 hl3 hl4 hl5 hl6 hl7 hsb t0 t1 tl hgb4
      cases pb with
      | false =>
        have r0 : w9.cell? ⟨w.heap.size + 1, 0, none⟩ = some (.slice none 0 0) := HA9.out.cell 0
        have r1 : w9.cell? ⟨w.heap.size + 1, 1, none⟩ = some (.float .f32 0) := HA9.out.cell 1
        have rf0 := HA9.out.frozen 0
        have rf1 := HA9.out.frozen 1
        have s0 : w9.cell? ⟨w.heap.size + 1 + 1, 0, none⟩ = some (.slice none 0 0) := HB9.out.cell 0
        have s1 : w9.cell? ⟨w.heap.size + 1 + 1, 1, none⟩ = some (.float .f32 0) := HB9.out.cell 1
        have sf0 := HB9.out.frozen 0
        have sf1 := HB9.out.frozen 1
        go_wp2_with fail
        obtain ⟨hBa, hBb, hX, -⟩ := two_set (u0 := .slice none 0 0) (u1 := .float .f32 0) (v0 := .slice none 0 0) (v1 := .float .f32 0) HA9.out HB9.out (by omega) HE9.out (by omega) (by omega)
        generalize (((w9.setCell ⟨w.heap.size + 1, 0, none⟩ (.slice none 0 0)).setCell ⟨w.heap.size + 1, 1, none⟩ (.float .f32 0)).setCell ⟨w.heap.size + 1 + 1, 0, none⟩ (.slice none 0 0)).setCell ⟨w.heap.size + 1 + 1, 1, none⟩ (.float .f32 0) = W9 at *
        have y0 : W9.cell? ⟨w.heap.size + 1, 0, none⟩ = some (.slice none 0 0) := hBa.cell 0
        have y1 : W9.cell? ⟨w.heap.size + 1, 1, none⟩ = some (.float .f32 0) := hBa.cell 1
        have y2 : W9.cell? ⟨w.heap.size + 1 + 1, 0, none⟩ = some (.slice none 0 0) := hBb.cell 0
        have y3 : W9.cell? ⟨w.heap.size + 1 + 1, 1, none⟩ = some (.float .f32 0) := hBb.cell 1
        refine bodyPost_ret (v := .tuple #[.agg #[.slice none 0 0, .float .f32 0], .agg #[.slice none 0 0, .float .f32 0], .bool false]) (by simp [results, Try.results70, go_sem, y0, y1, y2, y3]) rfl ⟨hX, ?_⟩
        have hno : bothP (false, ds, ps) (qb, es, qs) = noTwo := by simp [bothP]
        rw [hno]
        exact RTT.no
      | true =>
        cases qb with
        | false =>
          have r0 : w9.cell? ⟨w.heap.size + 1, 0, none⟩ = some (.slice none 0 0) := HA9.out.cell 0
          have r1 : w9.cell? ⟨w.heap.size + 1, 1, none⟩ = some (.float .f32 0) := HA9.out.cell 1
          have rf0 := HA9.out.frozen 0
          have rf1 := HA9.out.frozen 1
          have s0 : w9.cell? ⟨w.heap.size + 1 + 1, 0, none⟩ = some (.slice none 0 0) := HB9.out.cell 0
          have s1 : w9.cell? ⟨w.heap.size + 1 + 1, 1, none⟩ = some (.float .f32 0) := HB9.out.cell 1
          have sf0 := HB9.out.frozen 0
          have sf1 := HB9.out.frozen 1
          go_wp2_with fail
          obtain ⟨hBa, hBb, hX, -⟩ := two_set (u0 := .slice none 0 0) (u1 := .float .f32 0) (v0 := .slice none 0 0) (v1 := .float .f32 0) HA9.out HB9.out (by omega) HE9.out (by omega) (by omega)
          generalize (((w9.setCell ⟨w.heap.size + 1, 0, none⟩ (.slice none 0 0)).setCell ⟨w.heap.size + 1, 1, none⟩ (.float .f32 0)).setCell ⟨w.heap.size + 1 + 1, 0, none⟩ (.slice none 0 0)).setCell ⟨w.heap.size + 1 + 1, 1, none⟩ (.float .f32 0) = W9 at *
          have y0 : W9.cell? ⟨w.heap.size + 1, 0, none⟩ = some (.slice none 0 0) := hBa.cell 0
          have y1 : W9.cell? ⟨w.heap.size + 1, 1, none⟩ = some (.float .f32 0) := hBa.cell 1
          have y2 : W9.cell? ⟨w.heap.size + 1 + 1, 0, none⟩ = some (.slice none 0 0) := hBb.cell 0
          have y3 : W9.cell? ⟨w.heap.size + 1 + 1, 1, none⟩ = some (.float .f32 0) := hBb.cell 1
          refine bodyPost_ret (v := .tuple #[.agg #[.slice none 0 0, .float .f32 0], .agg #[.slice none 0 0, .float .f32 0], .bool false]) (by simp [results, Try.results70, go_sem, y0, y1, y2, y3]) rfl ⟨hX, ?_⟩
          have hno : bothP (true, ds, ps) (false, es, qs) = noTwo := by simp [bothP]
          rw [hno]
          exact RTT.no
        | true =>
          have r0 : w9.cell? ⟨w.heap.size + 1, 0, none⟩ = some (.slice none 0 0) := HA9.out.cell 0
          have r1 : w9.cell? ⟨w.heap.size + 1, 1, none⟩ = some (.float .f32 0) := HA9.out.cell 1
          have rf0 := HA9.out.frozen 0
          have rf1 := HA9.out.frozen 1
          have s0 : w9.cell? ⟨w.heap.size + 1 + 1, 0, none⟩ = some (.slice none 0 0) := HB9.out.cell 0
          have s1 : w9.cell? ⟨w.heap.size + 1 + 1, 1, none⟩ = some (.float .f32 0) := HB9.out.cell 1
          have sf0 := HB9.out.frozen 0
          have sf1 := HB9.out.frozen 1
          have hna : ¬ w.heap.size + 1 = ga := by have := HGA.out; omega
          have hnb : ¬ w.heap.size + 1 + 1 = ga := by have := HGA.out; omega
          have hnc : ¬ w.heap.size + 1 = gb := by have := HGB.out; omega
          have hnd : ¬ w.heap.size + 1 + 1 = gb := by have := HGB.out; omega
          go_wp2_with fail
          go_region_law (first | fail)
          all_goals
            go_wp2_with fail
            first
                | (obtain ⟨hBa, hBb, hX, hVV⟩ := two_setD (w2 := w9) (u0 := .slice Aa ds.length capa) (u1 := .float .f32 sa) (v0 := .slice Ab es.length capb) (v1 := .float .f32 sb) HA9.out HB9.out (by omega) HE9.out (by omega) (by omega)
                   have hva := (hVV _ _ _ HVA9.out (by omega) (by omega)).mono (show w.heap.size ≤ w2.heap.size by omega)
                   have hvb := (hVV _ _ _ HVB9.out (by omega) (by omega)).mono (show w.heap.size ≤ w4.heap.size by omega)
                   generalize ((((w9.setCell ⟨w.heap.size + 1, 0, none⟩ (.slice Aa ds.length capa)).setCell ⟨w.heap.size + 1, 1, none⟩ (.float .f32 sa)).setCell ⟨w.heap.size + 1 + 1, 0, none⟩ (.slice Ab es.length capb)).setCell ⟨w.heap.size + 1 + 1, 1, none⟩ (.float .f32 sb)).drew = W9 at *
                   have y0 : W9.cell? ⟨w.heap.size + 1, 0, none⟩ = some (.slice Aa ds.length capa) := hBa.cell 0
                   have y1 : W9.cell? ⟨w.heap.size + 1, 1, none⟩ = some (.float .f32 sa) := hBa.cell 1
                   have y2 : W9.cell? ⟨w.heap.size + 1 + 1, 0, none⟩ = some (.slice Ab es.length capb) := hBb.cell 0
                   have y3 : W9.cell? ⟨w.heap.size + 1 + 1, 1, none⟩ = some (.float .f32 sb) := hBb.cell 1
                   refine bodyPost_ret (v := .tuple #[.agg #[.slice Aa ds.length capa, .float .f32 sa], .agg #[.slice Ab es.length capb, .float .f32 sb], .bool true]) (by simp [results, Try.results70, go_sem, y0, y1, y2, y3]) rfl ⟨hX, ?_⟩
                   rw [show bothP (true, ds, ps) (true, es, qs) = (true, (ds, ps), (es, qs)) from rfl]
                   exact ⟨Aa, capa, sa, Ab, capb, sb, rfl, hva, hvb, HSA.out, HSB.out, fun hd he b1 o1 b2 o2 e1 e2 => by have := (HVA.out.lt hd e1).2; have := (HVB9.out.lt he e2).1; omega⟩)
                | (obtain ⟨hBb, hBa, hX, hVV⟩ := two_setD (w2 := w9) (v0 := .slice Aa ds.length capa) (v1 := .float .f32 sa) (u0 := .slice Ab es.length capb) (u1 := .float .f32 sb) HB9.out HA9.out (by omega) HE9.out (by omega) (by omega)
                   have hva := (hVV _ _ _ HVA9.out (by omega) (by omega)).mono (show w.heap.size ≤ w2.heap.size by omega)
                   have hvb := (hVV _ _ _ HVB9.out (by omega) (by omega)).mono (show w.heap.size ≤ w4.heap.size by omega)
                   generalize ((((w9.setCell ⟨w.heap.size + 1 + 1, 0, none⟩ (.slice Ab es.length capb)).setCell ⟨w.heap.size + 1 + 1, 1, none⟩ (.float .f32 sb)).setCell ⟨w.heap.size + 1, 0, none⟩ (.slice Aa ds.length capa)).setCell ⟨w.heap.size + 1, 1, none⟩ (.float .f32 sa)).drew = W9 at *
                   have y0 : W9.cell? ⟨w.heap.size + 1, 0, none⟩ = some (.slice Aa ds.length capa) := hBa.cell 0
                   have y1 : W9.cell? ⟨w.heap.size + 1, 1, none⟩ = some (.float .f32 sa) := hBa.cell 1
                   have y2 : W9.cell? ⟨w.heap.size + 1 + 1, 0, none⟩ = some (.slice Ab es.length capb) := hBb.cell 0
                   have y3 : W9.cell? ⟨w.heap.size + 1 + 1, 1, none⟩ = some (.float .f32 sb) := hBb.cell 1
                   refine bodyPost_ret (v := .tuple #[.agg #[.slice Aa ds.length capa, .float .f32 sa], .agg #[.slice Ab es.length capb, .float .f32 sb], .bool true]) (by simp [results, Try.results70, go_sem, y0, y1, y2, y3]) rfl ⟨hX, ?_⟩
                   rw [show bothP (true, ds, ps) (true, es, qs) = (true, (ds, ps), (es, qs)) from rfl]
                   exact ⟨Aa, capa, sa, Ab, capb, sb, rfl, hva, hvb, HSA.out, HSB.out, fun hd he b1 o1 b2 o2 e1 e2 => by have := (HVA.out.lt hd e1).2; have := (HVB9.out.lt he e2).1; omega⟩)
theorem implSplit_any (A : Option Addr) (cap sp : Nat) (i k : Int) (cs : List V3) (w : World) (hA : VS w A cs) (hl : cs.length ≤ 1048576) (hcap : cs.length ≤ cap) :
    Calls Try.prog 70 #[.agg #[.slice A cs.length cap, .float .f32 sp], .int .i64 i, .int .i64 k] w fun e w' => Ext w w' ∧ RTT w w' e (splitP i k cs (cn .f32 sp)) := by
  unfold splitP
  cases hno : splitOk i k cs (cn .f32 sp) with
  | false => exact implSplitNo_any A cap sp i k cs w hA hl hno
  | true =>
    unfold splitOk at hno
    simp only [Bool.and_eq_true, decide_eq_true_eq] at hno
    obtain ⟨h1, h2, h3⟩ := hno
    obtain ⟨-, -, hi0, -⟩ := hasP_bounds h1
    obtain ⟨-, -, hk0, -⟩ := hasP_bounds h2
    obtain ⟨n, rfl⟩ : ∃ n : Nat, i = n := ⟨i.toNat, by omega⟩
    obtain ⟨m, rfl⟩ : ∃ m : Nat, k = m := ⟨k.toNat, by omega⟩
    exact implSplitYes_any A cap sp n m cs w hA hcap h1 h2 (by omega) _ _ _ _ _ _ rfl rfl
end Go.Proofs.Ytbaohbpfnlicpaa
