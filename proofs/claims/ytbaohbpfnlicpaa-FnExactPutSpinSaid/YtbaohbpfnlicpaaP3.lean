/- Walks: a spin put into a cell. -/
import Derived.Test.YtbaohbpfnlicpaaP2
namespace Go.Proofs.Ytbaohbpfnlicpaa
open Go Go.RowKit
set_option linter.unusedVariables false
set_option linter.unusedSimpArgs false
attribute [local go_sem] run_store_float

set_option maxRecDepth 100000 in
set_option maxHeartbeats 1600000 in
theorem specPut_any (a u : Int) (A : Option Addr) (cap : Nat) (xs : List Nat) (x y : Int) (s : Nat) (w : World) (hA : FS w A xs) (hl : xs.length ≤ 1048576) :
    Calls Try.prog 50 #[.agg #[.int .i64 a, .int .i64 u, .slice A xs.length cap], .int .i64 x, .int .i64 y, .float .f32 s] w fun e w' => Ext w w' ∧ RB w w' e (putP a u xs x y (cn .f32 s)) := by
  have HA := Lib.hid hA
  have HL := Lib.hid hl
  have HT := Lib.hid (show BAt ((w.alloc (.cells #[.int .i64 a, .int .i64 u, .slice A xs.length cap] 35)).alloc (.cells #[.int .i64 0, .int .i64 0, .slice none 0 0] 35)) w.heap.size 0 a u A xs.length cap from ⟨by simp <;> omega, by go_simp, by go_simp, by go_simp⟩)
  have HR := Lib.hid (Blk.at_ (w.alloc (.cells #[.int .i64 a, .int .i64 u, .slice A xs.length cap] 35)) 35 #[.int .i64 0, .int .i64 0, .slice none 0 0] (w.heap.size + 1) (by simp))
  have HE := Lib.hid (show Ext w ((w.alloc (.cells #[.int .i64 a, .int .i64 u, .slice A xs.length cap] 35)).alloc (.cells #[.int .i64 0, .int .i64 0, .slice none 0 0] 35)) by (repeat first | with_reducible exact Ext.rfl' _ | with_reducible refine Ext.drewN ?_ _ | with_reducible refine Ext.drew' ?_ | with_reducible refine Ext.alloc' ?_ _ | with_reducible refine Ext.setCell_at ?_ _ _ _ (by first | exact Nat.le_refl _ | omega) | with_reducible assumption | refine Ext.trans ?_ (by with_reducible assumption)))
  clear hA hl
  cases hb : bHas a u xs x y with
  | false =>
    have HB := Lib.hid hb
    clear hb
    go_enter Try.func50, Try.ntmps50
    go_wp2_with fail
    generalize ((w.alloc (.cells #[.int .i64 a, .int .i64 u, .slice A xs.length cap] 35)).alloc (.cells #[.int .i64 0, .int .i64 0, .slice none 0 0] 35)) = W1 at *
    refine (l04Cell_any w.heap.size 0 a u A cap xs x y _ HT.out (HA.out.ext HE.out) HL.out false HB.out).mono ?_
    rintro e w2 ⟨he2, rfl⟩
    have HE2 := Lib.hid (Ext.trans HE.out he2)
    have HR2 := Lib.hid (HR.out.ext he2)
    have r0 : w2.cell? ⟨w.heap.size + 1, 0, none⟩ = some (.int .i64 0) := HR2.out.cell 0
    have r1 : w2.cell? ⟨w.heap.size + 1, 1, none⟩ = some (.int .i64 0) := HR2.out.cell 1
    have r2 : w2.cell? ⟨w.heap.size + 1, 2, none⟩ = some (.slice none 0 0) := HR2.out.cell 2
    have rf0 := HR2.out.frozen 0
    have rf1 := HR2.out.frozen 1
    have rf2 := HR2.out.frozen 2
    clear he2
    go_wp2_with fail
    have hBS := HR2.out.set3v (.int .i64 0) (.int .i64 0) (.slice none 0 0)
    have e3 : Ext w (((w2.setCell ⟨w.heap.size + 1, 0, none⟩ (.int .i64 0)).setCell ⟨w.heap.size + 1, 1, none⟩ (.int .i64 0)).setCell ⟨w.heap.size + 1, 2, none⟩ (.slice none 0 0)) := Ext.setCell_at (Ext.setCell_at (Ext.setCell_at HE2.out _ _ _ (by omega)) _ _ _ (by omega)) _ _ _ (by omega)
    generalize ((w2.setCell ⟨w.heap.size + 1, 0, none⟩ (.int .i64 0)).setCell ⟨w.heap.size + 1, 1, none⟩ (.int .i64 0)).setCell ⟨w.heap.size + 1, 2, none⟩ (.slice none 0 0) = W9 at *
    have q0 : W9.cell? ⟨w.heap.size + 1, 0, none⟩ = some (.int .i64 0) := hBS.cell 0
    have q1 : W9.cell? ⟨w.heap.size + 1, 1, none⟩ = some (.int .i64 0) := hBS.cell 1
    have q2 : W9.cell? ⟨w.heap.size + 1, 2, none⟩ = some (.slice none 0 0) := hBS.cell 2
    refine bodyPost_ret (v := .tuple #[.agg #[.int .i64 0, .int .i64 0, .slice none 0 0], .bool false]) (by simp [results, Try.results50, go_sem, q0, q1, q2]) rfl ?_
    unfold putP
    rw [HB.out]
    exact ⟨e3, none, 0, rfl, fun h => absurd h (Nat.lt_irrefl 0)⟩

  | true =>
    obtain ⟨hi, hsz, hlen, hx0, hx1, hy0, hy1⟩ := bHas_bounds hb
    have hm := mul_bounds hsz
    have h1 : 0 ≤ a * y := Int.mul_nonneg (by omega) hy0
    have h2 : a * y ≤ a * (u - 1) := Int.mul_le_mul_of_nonneg_left hy1 (by omega)
    have h3 : a * (u - 1) = a * u - a := by rw [Int.mul_sub, Int.mul_one]
    obtain ⟨k, hk⟩ : ∃ k : Nat, x + a * y = k := ⟨(x + a * y).toNat, by omega⟩
    have hkt : (x + a * y).toNat = k := by omega
    have HKL := Lib.hid (show k < xs.length by omega)
    have hwm : IntKind.i64.wrap (a * y) = a * y := IntWalk.i64_in _ (by omega)
    have hws : IntKind.i64.wrap (x + a * y) = (k : Int) := by rw [hk]; exact IntWalk.i64_in _ (by omega)
    have hk0 : (0 : Int) ≤ (k : Int) := by omega
    have hk1 : (k : Int) < (xs.length : Int) := by omega
    have HB := Lib.hid hb
    have HK := Lib.hid hk
    have HKT := Lib.hid hkt
    have HX := Lib.hid (show 0 ≤ x ∧ x ≤ a - 1 from ⟨hx0, hx1⟩)
    have HY := Lib.hid (show 0 ≤ y ∧ y ≤ u - 1 from ⟨hy0, hy1⟩)
    have HS := Lib.hid hsz
    clear hb hi hsz hlen hx0 hx1 hy0 hy1 hm h1 h2 h3 hk hkt
    go_enter Try.func50, Try.ntmps50
    go_wp2_with fail
    generalize ((w.alloc (.cells #[.int .i64 a, .int .i64 u, .slice A xs.length cap] 35)).alloc (.cells #[.int .i64 0, .int .i64 0, .slice none 0 0] 35)) = W1 at *
    refine (l04Cell_any w.heap.size 0 a u A cap xs x y _ HT.out (HA.out.ext HE.out) HL.out true HB.out).mono ?_
    rintro e w2 ⟨he2, rfl⟩
    have HE2 := Lib.hid (Ext.trans HE.out he2)
    have HR2 := Lib.hid (HR.out.ext he2)
    have HT2 := Lib.hid (HT.out.ext he2)
    have hw1s : w.heap.size + 1 < w2.heap.size := HR2.out.lt
    clear he2
    go_wp2_with fail
    refine (l04Own_any w.heap.size 0 a u A cap xs _ HT2.out (HA.out.ext HE2.out) HL.out (by have := HKL.out; omega)).mono ?_
    rintro e w3 ⟨he3, A3, cap3, rfl, hf3⟩
    obtain ⟨b3, o3, rfl, hB3, hb3, hfr3, hcc3⟩ := hf3 (by have := HKL.out; omega)
    obtain ⟨y3, d3, -⟩ := hcc3 k HKL.out
    have HF3 := Lib.hid hf3
    have HE3 := Lib.hid (Ext.trans HE2.out he3)
    have HR3 := Lib.hid (HR2.out.ext he3)
    obtain ⟨tl, t0, t1, t2⟩ := HT2.out.ext he3
    have hw3 : w2.heap.size ≤ w3.heap.size := he3.size
    have fr3 := hfr3 (o3 + k)
    clear he3 hcc3 hfr3 hf3
    go_wp2_with fail
    have hf5 : FO ((w3.setCell ⟨b3, o3 + k, none⟩ (.float .f32 s)).alloc (.cells #[.int .i64 a, .int .i64 u, .slice (some ⟨b3, o3, none⟩) xs.length cap3] 35)) w2.heap.size (some ⟨b3, o3, none⟩) (xs.set k (cn .f32 s)) := (HF3.out.set HKL.out s).ext (by (repeat first | with_reducible exact Ext.rfl' _ | with_reducible refine Ext.drewN ?_ _ | with_reducible refine Ext.drew' ?_ | with_reducible refine Ext.alloc' ?_ _ | with_reducible refine Ext.setCell_at ?_ _ _ _ (by first | exact Nat.le_refl _ | omega) | with_reducible assumption | refine Ext.trans ?_ (by with_reducible assumption)))
    have he5 : Ext w ((w3.setCell ⟨b3, o3 + k, none⟩ (.float .f32 s)).alloc (.cells #[.int .i64 a, .int .i64 u, .slice (some ⟨b3, o3, none⟩) xs.length cap3] 35)) := Ext.alloc' (Ext.setCell_at HE3.out _ _ _ (by omega)) _
    have hr5 : Blk ((w3.setCell ⟨b3, o3 + k, none⟩ (.float .f32 s)).alloc (.cells #[.int .i64 a, .int .i64 u, .slice (some ⟨b3, o3, none⟩) xs.length cap3] 35)) (w.heap.size + 1) 35 #[.int .i64 0, .int .i64 0, .slice none 0 0] := (HR3.out.setoff (h := b3) (by omega) _ _).alloc _
    have HF5 := Lib.hid hf5
    have HE5 := Lib.hid he5
    have HR5 := Lib.hid hr5
    clear hf5 he5 hr5 d3 fr3 t0 t1 t2 tl
    generalize ((w3.setCell ⟨b3, o3 + k, none⟩ (.float .f32 s)).alloc (.cells #[.int .i64 a, .int .i64 u, .slice (some ⟨b3, o3, none⟩) xs.length cap3] 35)) = w5 at *
    cases hgv : isB a u (xs.set k (cn .f32 s)) with
    | false =>
      have HG1 := Lib.hid hgv
      clear hgv
      refine (l04Give_any a u (some ⟨b3, o3, none⟩) cap3 (xs.set k (cn .f32 s)) xs.length (by rw [List.length_set]) _ HF5.out.fs HL.out false HG1.out).mono ?_
      rintro e w7 ⟨he7, rfl⟩
      have HR7 := Lib.hid (HR5.out.ext he7)
      have HE7 := Lib.hid (Ext.trans HE5.out he7)
      have HF7 := Lib.hid (HF5.out.ext he7)
      have r0 : w7.cell? ⟨w.heap.size + 1, 0, none⟩ = some (.int .i64 0) := HR7.out.cell 0
      have r1 : w7.cell? ⟨w.heap.size + 1, 1, none⟩ = some (.int .i64 0) := HR7.out.cell 1
      have r2 : w7.cell? ⟨w.heap.size + 1, 2, none⟩ = some (.slice none 0 0) := HR7.out.cell 2
      have rf0 := HR7.out.frozen 0
      have rf1 := HR7.out.frozen 1
      have rf2 := HR7.out.frozen 2
      clear he7
      go_wp2_with fail
      have hBS := HR7.out.set3v (.int .i64 0) (.int .i64 0) (.slice none 0 0)
      have e3 : Ext w (((w7.setCell ⟨w.heap.size + 1, 0, none⟩ (.int .i64 0)).setCell ⟨w.heap.size + 1, 1, none⟩ (.int .i64 0)).setCell ⟨w.heap.size + 1, 2, none⟩ (.slice none 0 0)) := Ext.setCell_at (Ext.setCell_at (Ext.setCell_at HE7.out _ _ _ (by omega)) _ _ _ (by omega)) _ _ _ (by omega)
      generalize ((w7.setCell ⟨w.heap.size + 1, 0, none⟩ (.int .i64 0)).setCell ⟨w.heap.size + 1, 1, none⟩ (.int .i64 0)).setCell ⟨w.heap.size + 1, 2, none⟩ (.slice none 0 0) = W9 at *
      have q0 : W9.cell? ⟨w.heap.size + 1, 0, none⟩ = some (.int .i64 0) := hBS.cell 0
      have q1 : W9.cell? ⟨w.heap.size + 1, 1, none⟩ = some (.int .i64 0) := hBS.cell 1
      have q2 : W9.cell? ⟨w.heap.size + 1, 2, none⟩ = some (.slice none 0 0) := hBS.cell 2
      refine bodyPost_ret (v := .tuple #[.agg #[.int .i64 0, .int .i64 0, .slice none 0 0], .bool false]) (by simp [results, Try.results50, go_sem, q0, q1, q2]) rfl ?_
      unfold putP giveB
      rw [HB.out, if_pos rfl, HKT.out, HG1.out]
      exact ⟨e3, none, 0, rfl, fun h => absurd h (Nat.lt_irrefl 0)⟩

    | true =>
      have HG1 := Lib.hid hgv
      clear hgv
      refine (l04Give_any a u (some ⟨b3, o3, none⟩) cap3 (xs.set k (cn .f32 s)) xs.length (by rw [List.length_set]) _ HF5.out.fs HL.out true HG1.out).mono ?_
      rintro e w7 ⟨he7, rfl⟩
      have HR7 := Lib.hid (HR5.out.ext he7)
      have HE7 := Lib.hid (Ext.trans HE5.out he7)
      have HF7 := Lib.hid (HF5.out.ext he7)
      have r0 : w7.cell? ⟨w.heap.size + 1, 0, none⟩ = some (.int .i64 0) := HR7.out.cell 0
      have r1 : w7.cell? ⟨w.heap.size + 1, 1, none⟩ = some (.int .i64 0) := HR7.out.cell 1
      have r2 : w7.cell? ⟨w.heap.size + 1, 2, none⟩ = some (.slice none 0 0) := HR7.out.cell 2
      have rf0 := HR7.out.frozen 0
      have rf1 := HR7.out.frozen 1
      have rf2 := HR7.out.frozen 2
      clear he7
      go_wp2_with fail
      have hBS := HR7.out.set3v (.int .i64 a) (.int .i64 u) (.slice (some ⟨b3, o3, none⟩) xs.length cap3)
      have e3 : Ext w (((w7.setCell ⟨w.heap.size + 1, 0, none⟩ (.int .i64 a)).setCell ⟨w.heap.size + 1, 1, none⟩ (.int .i64 u)).setCell ⟨w.heap.size + 1, 2, none⟩ (.slice (some ⟨b3, o3, none⟩) xs.length cap3)) := Ext.setCell_at (Ext.setCell_at (Ext.setCell_at HE7.out _ _ _ (by omega)) _ _ _ (by omega)) _ _ _ (by omega)
      have hfo : FO (((w7.setCell ⟨w.heap.size + 1, 0, none⟩ (.int .i64 a)).setCell ⟨w.heap.size + 1, 1, none⟩ (.int .i64 u)).setCell ⟨w.heap.size + 1, 2, none⟩ (.slice (some ⟨b3, o3, none⟩) xs.length cap3)) w.heap.size (some ⟨b3, o3, none⟩) (xs.set k (cn .f32 s)) := (((HF7.out.set_lt _ _ _ hw1s).set_lt _ _ _ hw1s).set_lt _ _ _ hw1s).mono (by omega)
      generalize ((w7.setCell ⟨w.heap.size + 1, 0, none⟩ (.int .i64 a)).setCell ⟨w.heap.size + 1, 1, none⟩ (.int .i64 u)).setCell ⟨w.heap.size + 1, 2, none⟩ (.slice (some ⟨b3, o3, none⟩) xs.length cap3) = W9 at *
      have q0 : W9.cell? ⟨w.heap.size + 1, 0, none⟩ = some (.int .i64 a) := hBS.cell 0
      have q1 : W9.cell? ⟨w.heap.size + 1, 1, none⟩ = some (.int .i64 u) := hBS.cell 1
      have q2 : W9.cell? ⟨w.heap.size + 1, 2, none⟩ = some (.slice (some ⟨b3, o3, none⟩) xs.length cap3) := hBS.cell 2
      refine bodyPost_ret (v := .tuple #[.agg #[.int .i64 a, .int .i64 u, .slice (some ⟨b3, o3, none⟩) xs.length cap3], .bool true]) (by simp [results, Try.results50, go_sem, q0, q1, q2]) rfl ?_
      unfold putP giveB
      rw [HB.out, if_pos rfl, HKT.out, HG1.out]
      exact ⟨e3, some ⟨b3, o3, none⟩, cap3, by simp, hfo⟩

end Go.Proofs.Ytbaohbpfnlicpaa
