/- Slices of vectors that a call made itself: what is appended to them, and what they hold. -/
import Derived.Test.YtbaohbpfnlicpaaW3
import Derived.Laws.AppendOwn
import Derived.Laws.OwnMore
import Derived.Deep.AppendLies
import Derived.Deep.RegionHeld3
namespace Go.Proofs.Ytbaohbpfnlicpaa
open Go Go.RowKit
set_option linter.unusedVariables false
set_option linter.unusedSimpArgs false
attribute [local go_sem] run_store_float

/-- in a list of cells the i-th vector is c -/
def LVec (xs : List Value) (i : Nat) (c : V3) : Prop :=
  ∃ x y z, xs[i * 3]? = some (.float .f32 x) ∧ xs[i * 3 + 1]? = some (.float .f32 y) ∧ xs[i * 3 + 2]? = some (.float .f32 z) ∧ cv x y z = c
/-- a list of cells holds the vectors cs -/
def LVs (xs : List Value) (cs : List V3) : Prop := xs.length = cs.length * 3 ∧ ∀ i, i < cs.length → LVec xs i (cs.getD i (0, 0, 0))
theorem LVs.nil : LVs [] [] := ⟨rfl, fun i hi => absurd hi (Nat.not_lt_zero _)⟩
theorem LVs.append {xs ys : List Value} {cs ds : List V3} (h : LVs xs cs) (k : LVs ys ds) : LVs (xs ++ ys) (cs ++ ds) := by
  refine ⟨by rw [List.length_append, List.length_append, h.1, k.1]; omega, fun i hi => ?_⟩
  rw [List.length_append] at hi
  rcases Nat.lt_or_ge i cs.length with hlt | hge
  · obtain ⟨x, y, z, h0, h1, h2, h3⟩ := h.2 i hlt
    have hl := h.1
    refine ⟨x, y, z, ?_, ?_, ?_, ?_⟩
    · rw [List.getElem?_append_left (by omega)]; exact h0
    · rw [List.getElem?_append_left (by omega)]; exact h1
    · rw [List.getElem?_append_left (by omega)]; exact h2
    · rw [h3]; simp [List.getD_eq_getElem?_getD, List.getElem?_append_left hlt]
  · obtain ⟨x, y, z, h0, h1, h2, h3⟩ := k.2 (i - cs.length) (by omega)
    have hl := h.1
    refine ⟨x, y, z, ?_, ?_, ?_, ?_⟩
    · rw [List.getElem?_append_right (by omega), ← h0]; congr 1; omega
    · rw [List.getElem?_append_right (by omega), ← h1]; congr 1; omega
    · rw [List.getElem?_append_right (by omega), ← h2]; congr 1; omega
    · rw [h3]; simp [List.getD_eq_getElem?_getD, List.getElem?_append_right hge]
theorem LVs.one (x y z : Nat) : LVs [.float .f32 x, .float .f32 y, .float .f32 z] [cv x y z] := by
  refine ⟨rfl, fun i hi => ?_⟩
  match i, hi with
  | 0, _ => exact ⟨x, y, z, rfl, rfl, rfl, rfl⟩

/-- what a slice holds, as a list of cells -/
theorem VS.cells {w : World} {b o : Nat} {cs : List V3} (h : VS w (some ⟨b, o, none⟩) cs) :
    ∃ news : List Value, LVs news cs ∧ (∀ j u, news[j]? = some u → w.cell? ((⟨b, o, none⟩ : Addr).add j) = some u) ∧ ∀ u ∈ news, u.oneCell' = true := by
  rcases Nat.eq_zero_or_pos cs.length with h0 | hp
  · refine ⟨[], ?_, fun j u hu => by simp at hu, fun u hu => by cases hu⟩
    rw [List.length_eq_zero_iff.1 h0]; exact LVs.nil
  · obtain ⟨b', o', hA, hb, hc⟩ := h hp
    simp only [Option.some.injEq, Addr.mk.injEq, and_true] at hA
    obtain ⟨rfl, rfl⟩ := hA
    have hfl : ∀ j, j < cs.length * 3 → ∃ n, w.cell? ⟨b, o + j, none⟩ = some (.float .f32 n) := by
      intro j hj
      obtain ⟨x, y, z, c0, c1, c2, -⟩ := hc (j / 3) (by omega)
      have hm : j % 3 < 3 := Nat.mod_lt _ (by omega)
      have hd : j = j / 3 * 3 + j % 3 := by omega
      match hr : j % 3, hm with
      | 0, _ => exact ⟨x, by rw [hd, hr]; exact c0⟩
      | 1, _ => exact ⟨y, by rw [hd, hr, ← Nat.add_assoc]; exact c1⟩
      | 2, _ => exact ⟨z, by rw [hd, hr, ← Nat.add_assoc]; exact c2⟩
    refine ⟨(List.range (cs.length * 3)).map fun j => (w.cell? ⟨b, o + j, none⟩).getD (.bool false), ⟨by simp, fun i hi => ?_⟩, fun j u hu => ?_, fun u hu => ?_⟩
    · obtain ⟨x, y, z, c0, c1, c2, h3⟩ := hc i hi
      refine ⟨x, y, z, ?_, ?_, ?_, h3⟩
      · rw [List.getElem?_map, List.getElem?_range (by omega)]; simp [c0]
      · rw [List.getElem?_map, List.getElem?_range (by omega)]; simp [← Nat.add_assoc, c1]
      · rw [List.getElem?_map, List.getElem?_range (by omega)]; simp [← Nat.add_assoc, c2]
    · rcases Nat.lt_or_ge j (cs.length * 3) with hj | hj
      · rw [List.getElem?_map, List.getElem?_range hj] at hu
        obtain ⟨n, hn⟩ := hfl j hj
        simp only [Option.map_some, hn, Option.getD_some, Option.some.injEq] at hu
        have hadd : (⟨b, o, none⟩ : Addr).add j = ⟨b, o + j, none⟩ := by
          unfold Addr.add
          split
          · rename_i h; subst h; rfl
          · rfl
        rw [hadd, hn, hu]
      · rw [List.getElem?_eq_none (by simpa using hj)] at hu; cases hu
    · simp only [List.mem_map, List.mem_range] at hu
      obtain ⟨j, hj, rfl⟩ := hu
      obtain ⟨n, hn⟩ := hfl j hj
      rw [hn]; rfl

/-- what the call made itself may be written, and lies above -/
theorem vo_of_owns {w : World} {B : Nat} {e : TypeId} {v : Value} {n : Nat} {xs : List Value} {cs : List V3} (h : w.ownsRow B e 3 v n xs) (hv : LVs xs cs) (hn : n = cs.length) : ∃ A cap, v = .slice A n cap ∧ VO w B A cs := by
  rcases h.2 with ⟨rfl, h0⟩ | ⟨g, cap, cur, rfl, hB, hg, h1, h2, h3, h4⟩
  · subst h0
    exact ⟨none, 0, rfl, fun hp => by omega⟩
  · have hblk : Blk w g e cur := hg
    refine ⟨_, _, rfl, fun _ => ⟨g, 0, rfl, hB, hblk.lt, fun j => hblk.frozen j, fun i hi => ?_⟩⟩
    obtain ⟨x, y, z, c0, c1, c2, c3⟩ := hv.2 i hi
    have hget : ∀ j, j < n * 3 → cur[j]? = xs[j]? := by
      intro j hj
      rw [← h4, List.getElem?_take_of_lt hj, Array.getElem?_toList]
    refine ⟨x, y, z, ?_, ?_, ?_, c3⟩
    · rw [hblk.cell, Nat.zero_add, hget _ (by omega)]; exact c0
    · rw [hblk.cell, Nat.zero_add, hget _ (by omega)]; exact c1
    · rw [hblk.cell, Nat.zero_add, hget _ (by omega)]; exact c2

/-- a step that grew the memory, or wrote a row of the call's own -/
theorem Ext.grown {w w1 w2 : World} {row : Option Nat} (h : Ext w w1) (hg : w1.grownBy w2 row) (hr : ∀ k, row = some k → w.heap.size ≤ k) : Ext w w2 :=
  ⟨hg.os.trans h.os, hg.tape.trans h.tape, hg.output.trans h.output, Nat.le_trans h.size hg.size, fun k hk => by
    rw [hg.block k (Nat.lt_of_lt_of_le hk h.size) (fun e => by have := hr k e.symm; omega), h.block k hk]⟩

theorem news_ext {w w' : World} {ad : Addr} {news : List Value} (h : ∀ j u, news[j]? = some u → w.cell? (ad.add j) = some u) (he : Ext w w') : ∀ j u, news[j]? = some u → w'.cell? (ad.add j) = some u := fun j u hu =>
  (he.cell (World.block_lt_of_cell? w _ (h j u hu))).trans (h j u hu)
theorem infoV : (Try.prog.info? 54).map (fun i => (i.zero, i.size, i.bytes)) = some (some (.agg #[.float .f32 0, .float .f32 0, .float .f32 0]), 3, 12) := by kernel_rfl
theorem under_points : Try.prog.underlying 46 = some (.slice 54) := by kernel_rfl

set_option maxRecDepth 100000 in
set_option maxHeartbeats 3200000 in
theorem l06Own_any (g o : Nat) (A : Option Addr) (cap sp : Nat) (cs : List V3) (w : World) (hT : TAt w g o A cs.length cap sp) (hA : VS w A cs) (hl : cs.length ≤ 32) (hp : 0 < cs.length) :
    Calls Try.prog 134 #[.pointer (some ⟨g, o, none⟩)] w fun e w' => Ext w w' ∧ ∃ A' cap', e = .returned (.agg #[.slice A' cs.length cap', .float .f32 sp]) ∧ VO w' w.heap.size A' cs := by
  obtain ⟨i0, hi0, hz0, hz1, hz2⟩ := info_parts infoV
  obtain ⟨b, p, rfl, hb, hc⟩ := hA hp
  obtain ⟨tl, t0, t1⟩ := hT
  obtain ⟨news, hnw, hnc, hn1⟩ := hA.cells
  have e1 : Ext w (w.alloc (.cells #[.slice none 0 0, .float .f32 0] 48)) := by (repeat first | with_reducible exact Ext.rfl' _ | with_reducible refine Ext.drewN ?_ _ | with_reducible refine Ext.drew' ?_ | with_reducible refine Ext.alloc' ?_ _ | with_reducible refine Ext.setCell_at ?_ _ _ _ (by first | exact Nat.le_refl _ | omega) | with_reducible assumption | refine Ext.trans ?_ (by with_reducible assumption))
  have HB := Lib.hid (Blk.new w 48 #[.slice none 0 0, .float .f32 0])
  have t0w := (e1.cell (p := ⟨_, _, none⟩) tl).trans t0
  have t1w := (e1.cell (p := ⟨_, _, none⟩) tl).trans t1
  have hsz : (w.alloc (.cells #[.slice none 0 0, .float .f32 0] 48)).heap.size = w.heap.size + 1 := by simp
  have HN := Lib.hid hnw
  have HNC := Lib.hid (news_ext hnc e1)
  have HL := Lib.hid hl
  clear hA hl hc t0 t1 hnw hnc
  go_enter Try.func134, Try.ntmps134
  go_wp2_with fail
  generalize w.alloc (.cells #[.slice none 0 0, .float .f32 0] 48) = W1 at *
  have n1 : g ≠ w.heap.size := by omega
  have n2 : g < W1.heap.size := by omega
  have n3 : w.heap.size < W1.heap.size := by omega
  have m0 : W1.cell? ⟨w.heap.size, 0, none⟩ = some (.slice none 0 0) := HB.out.cell 0
  have m1 : W1.cell? ⟨w.heap.size, 1, none⟩ = some (.float .f32 0) := HB.out.cell 1
  have f0 := HB.out.frozen 0
  have f1 := HB.out.frozen 1
  have hown0 : (W1.drew.alloc (.cells #[] 54)).ownsRow w.heap.size 54 3 (.slice (some ⟨w.heap.size + 1, 0, none⟩) 0 0) 0 [] := by
    have := World.ownsRow_made (base := w.heap.size) (e := 54) (size := 3) W1.drew #[] 0 (Nat.le_of_lt n3) (by decide) rfl
    rwa [show W1.drew.heap.size = w.heap.size + 1 from hsz] at this
  go_region_held3 (fun w' => w'.cell? ⟨g, o, none⟩ = some (.slice (some ⟨b, p, none⟩) cs.length cap) ∧ w'.cell? ⟨g, o + 1, none⟩ = some (.float .f32 sp))
    (first
      | (go_split_ands
         refine ⟨?_, ?_⟩
         · (rw [hgrow.cell_far _ (by simp; omega) (by simp [Value.ownBlock]; omega)]; assumption)
         · (rw [hgrow.cell_far _ (by simp; omega) (by simp [Value.ownBlock]; omega)]; assumption))
      | ((try dsimp only); (repeat' apply And.intro) <;> (simp [*, go_sem]; done)))
    ((refine step_append_lies _ (by rfl) _ _ _ (by rfl) w.heap.size 54 i0 _ 3 12 under_points hi0 hz0 hz1 hz2 rfl (by omega) (.slice (some ⟨w.heap.size + 1, 0, none⟩) 0 0) 0 [] (by rfl) hown0
        ⟨b, p, none⟩ cs.length cap news (by rfl) (by rw [HN.out.1]) (news_ext HNC.out (Ext.alloc' (Ext.drew' (Ext.rfl' _)) _)) hn1 hp (by have := HL.out; unfold maxLen; omega) (by have := HL.out; omega) (by simp; omega) (w.heap.size + 2) (by simp; omega) ?_; intro gg cap2 w2 hown2 hgrow hat hlt; have HBX := Lib.hid (show Blk w2 w.heap.size 48 #[.slice none 0 0, .float .f32 0] from (hgrow.block _ (by simp; omega) (by simp [Value.ownBlock])).trans ((show Blk W1.drew _ _ _ from HB.out).alloc _)); (have r0 : w2.cell? ⟨w.heap.size, 0, none⟩ = some (.slice none 0 0) := HBX.out.cell 0); (have r1 : w2.cell? ⟨w.heap.size, 1, none⟩ = some (.float .f32 0) := HBX.out.cell 1); have rf0 := HBX.out.frozen 0; have rf1 := HBX.out.frozen 1))
  go_wp2_with fail
  have hgb : w.heap.size + 1 ≤ gg := by
    rcases hat with h | h
    · simp [Value.ownBlock] at h; omega
    · omega
  have hBS : Blk ((w2.setCell ⟨w.heap.size, 0, none⟩ (.slice (some ⟨gg, 0, none⟩) cs.length cap2)).setCell ⟨w.heap.size, 1, none⟩ (.float .f32 sp)) w.heap.size 48 #[.slice (some ⟨gg, 0, none⟩) cs.length cap2, .float .f32 sp] := by
    have := (HBX.out.set_ 0 (.slice (some ⟨gg, 0, none⟩) cs.length cap2)).set_ 1 (.float .f32 sp)
    simpa using this
  have e2 : Ext w w2 := Ext.grown (Ext.trans e1 (Ext.alloc' (Ext.drew' (Ext.rfl' W1)) _)) hgrow (by simp [Value.ownBlock])
  have e3 : Ext w ((w2.setCell ⟨w.heap.size, 0, none⟩ (.slice (some ⟨gg, 0, none⟩) cs.length cap2)).setCell ⟨w.heap.size, 1, none⟩ (.float .f32 sp)) := by (repeat first | with_reducible exact Ext.rfl' _ | with_reducible refine Ext.drewN ?_ _ | with_reducible refine Ext.drew' ?_ | with_reducible refine Ext.alloc' ?_ _ | with_reducible refine Ext.setCell_at ?_ _ _ _ (by first | exact Nat.le_refl _ | omega) | with_reducible assumption | refine Ext.trans ?_ (by with_reducible assumption))
  obtain ⟨A', cap', hA', hVO⟩ := vo_of_owns hown2 HN.out (by omega)
  simp only [Value.slice.injEq] at hA'
  obtain ⟨rfl, -, rfl⟩ := hA'
  have hVO2 : VO ((w2.setCell ⟨w.heap.size, 0, none⟩ (.slice (some ⟨gg, 0, none⟩) cs.length cap2)).setCell ⟨w.heap.size, 1, none⟩ (.float .f32 sp)) w.heap.size (some ⟨gg, 0, none⟩) cs := by
    refine hVO.only (row := some w.heap.size) (only_setCell (g := w.heap.size) (p := ⟨w.heap.size, 1, none⟩) (only_setCell (g := w.heap.size) (p := ⟨w.heap.size, 0, none⟩) (only_refl _ _) rfl _) rfl _) fun b' o' h => ?_
    simp only [Option.some.injEq, Addr.mk.injEq] at h
    intro hh
    simp only [Option.some.injEq] at hh
    omega
  generalize (w2.setCell ⟨w.heap.size, 0, none⟩ (.slice (some ⟨gg, 0, none⟩) cs.length cap2)).setCell ⟨w.heap.size, 1, none⟩ (.float .f32 sp) = W4 at *
  have q0 : W4.cell? ⟨w.heap.size, 0, none⟩ = some (.slice (some ⟨gg, 0, none⟩) cs.length cap2) := hBS.cell 0
  have q1 : W4.cell? ⟨w.heap.size, 1, none⟩ = some (.float .f32 sp) := hBS.cell 1
  exact bodyPost_ret (v := .agg #[.slice (some ⟨gg, 0, none⟩) cs.length cap2, .float .f32 sp]) (by simp [results, Try.results134, go_sem, q0, q1]) rfl ⟨e3, _, _, rfl, hVO2⟩
end Go.Proofs.Ytbaohbpfnlicpaa
