/- Walks: slices.Clone and slices.Reverse over vectors. -/
import Derived.Test.YtbaohbpfnlicpaaB1
import Derived.RegionTactic
import Derived.Lib.SliceRun
import Derived.ChangeAlike
namespace Go.Proofs.Ytbaohbpfnlicpaa
open Go Go.RowKit
set_option linter.unusedVariables false
set_option linter.unusedSimpArgs false
attribute [local go_sem] run_store_float

set_option maxRecDepth 100000 in
/-- slices.Clone over vectors: the same vectors, in memory of the call's own -/
theorem CloneV_any (A : Option Addr) (cap : Nat) (cs : List V3) (w : World) (hA : VS w A cs) (hl : cs.length ≤ 1048576) (hp : 0 < cs.length) :
    Calls Try.prog 129 #[.slice A cs.length cap] w fun e w' => Ext w w' ∧ ∃ A' cap', e = .returned (.slice A' cs.length cap') ∧ VO w' w.heap.size A' cs := by
  obtain ⟨i0, hi0, iz0, iz1, iz2⟩ := info_parts infoV
  have q22 : ∀ (w : World) (a : Option Addr) (n c n' c' : Nat), (binOp .eql 46 (.slice a n c) (.slice none n' c')).run Try.prog w = .ok (.bool a.isNone) w := fun w a n c n' c' => Lib.run_eql_slice_nil w _ _ a n c n' c' under_points
  obtain ⟨b, o, rfl, hb, hc⟩ := hA hp
  obtain ⟨news, hnw, hnc, hn1⟩ := hA.cells
  have HN := Lib.hid hnw
  have HNC := Lib.hid hnc
  have HL := Lib.hid hl
  clear hA hl hc hnw hnc
  go_enter Try.func129, Try.ntmps129
  go_wp2_with (first | (at_builtin; refine Stand.of ?_))
  refine Stand.out ?_
  refine wpList_append_own _ rfl (.tmp 5) (.tmp 6) 46 rfl w.heap.size 54 i0 _ 3 12 under_points hi0 iz0 iz1 iz2 rfl (by decide) (.slice (some ⟨w.heap.size, 0, none⟩) 0 0) 0 [] (by rfl) (World.ownsRow_made w #[] 0 (Nat.le_refl _) (by decide) rfl) ⟨b, o, none⟩ cs.length cap news (by rfl) (by rw [HN.out.1]) (news_ext HNC.out (by (repeat first | with_reducible exact Ext.rfl' _ | with_reducible refine Ext.drewN ?_ _ | with_reducible refine Ext.drew' ?_ | with_reducible refine Ext.alloc' ?_ _ | with_reducible refine Ext.setCell_at ?_ _ _ _ (by first | exact Nat.le_refl _ | omega) | with_reducible assumption | refine Ext.trans ?_ (by with_reducible assumption)))) hn1 (by have := HL.out; unfold maxLen; omega) (by have := HL.out; omega) (by simp) ?_
  intro v' w6 hown6 hgrow hnil
  have e6 : Ext w w6 := Ext.grown (show Ext w (w.alloc (.cells #[] 54)) by (repeat first | with_reducible exact Ext.rfl' _ | with_reducible refine Ext.drewN ?_ _ | with_reducible refine Ext.drew' ?_ | with_reducible refine Ext.alloc' ?_ _ | with_reducible refine Ext.setCell_at ?_ _ _ _ (by first | exact Nat.le_refl _ | omega) | with_reducible assumption | refine Ext.trans ?_ (by with_reducible assumption))) hgrow (fun k hk => by simp [Value.ownBlock] at hk; omega)
  simp only [Nat.zero_add, List.nil_append] at hown6
  obtain ⟨A', cap', rfl, hvo⟩ := vo_of_owns hown6 HN.out rfl
  clear hown6 hgrow hnil
  go_wp2_with fail
  go_ret
  exact ⟨e6, A', cap', rfl, hvo⟩

theorem only_drew {a w : World} {row : Option Nat} (h : a.grownBy w row) : a.grownBy w.drew row := ⟨h.os, h.tape, h.output, h.size, h.block⟩
/-- n vectors lie from b, o on, and may be written: the t-th is f t -/
def Row3 (w : World) (b o n : Nat) (f : Nat → V3) : Prop :=
  b < w.heap.size ∧ (∀ j, w.frozen? ⟨b, j, none⟩ = false) ∧ ∀ t, t < n → VAt w b (o + t * 3) (f t)
theorem Row3.set {w : World} {b o n k : Nat} {f : Nat → V3} (h : Row3 w b o n f) (hk : k < n) {r s t : Nat} {c : V3} (hc : cv r s t = c) :
    Row3 (((w.setCell ⟨b, o + k * 3, none⟩ (.float .f32 r)).setCell ⟨b, o + k * 3 + 1, none⟩ (.float .f32 s)).setCell ⟨b, o + k * 3 + 2, none⟩ (.float .f32 t)) b o n (fun i => if i = k then c else f i) := by
  refine ⟨by simpa [World.setCell] using h.1, fun j => by rw [frozen_setCell, frozen_setCell, frozen_setCell]; exact h.2.1 j, fun i hi => ?_⟩
  obtain ⟨a0, a1, a2, d0, d1, d2, -⟩ := h.2.2 k hk
  have far : ∀ (u : World) (p q : Nat) (v : Value), p ≠ q → (u.setCell ⟨b, p, none⟩ v).cell? ⟨b, q, none⟩ = u.cell? ⟨b, q, none⟩ := fun u p q v hne =>
    World.cell?_setCell_other u _ _ _ (by simp only [ne_eq, Addr.mk.injEq, not_and]; omega)
  by_cases e : i = k
  · subst e
    simp only [if_pos, ← hc]
    refine ⟨r, s, t, ?_, ?_, ?_, rfl⟩
    · rw [far _ _ _ _ (by omega), far _ _ _ _ (by omega)]
      exact World.cell?_setCell_same w _ _ d0
    · rw [far _ _ _ _ (by omega)]
      exact World.cell?_setCell_same _ _ _ ((far _ _ _ _ (by omega)).trans d1)
    · exact World.cell?_setCell_same _ _ _ ((far _ _ _ _ (by omega)).trans ((far _ _ _ _ (by omega)).trans d2))
  · obtain ⟨x, y, z, h0, h1, h2, h3⟩ := h.2.2 i hi
    simp only [if_neg e]
    refine ⟨x, y, z, ?_, ?_, ?_, h3⟩
    · rw [far _ _ _ _ (by omega), far _ _ _ _ (by omega), far _ _ _ _ (by omega)]; exact h0
    · rw [far _ _ _ _ (by omega), far _ _ _ _ (by omega), far _ _ _ _ (by omega)]; exact h1
    · rw [far _ _ _ _ (by omega), far _ _ _ _ (by omega), far _ _ _ _ (by omega)]; exact h2
theorem Row3.congr {w : World} {b o n : Nat} {f g : Nat → V3} (h : Row3 w b o n f) (hfg : ∀ t, t < n → f t = g t) : Row3 w b o n g := ⟨h.1, h.2.1, fun t ht => by rw [← hfg t ht]; exact h.2.2 t ht⟩
theorem Row3.drew {w : World} {b o n : Nat} {f : Nat → V3} (h : Row3 w b o n f) : Row3 w.drew b o n f := h
/-- the first k and the last k turned around -/
def revMix (cs : List V3) (k t : Nat) : V3 := if t < k ∨ cs.length ≤ t + k then cs.getD (cs.length - 1 - t) (0, 0, 0) else cs.getD t (0, 0, 0)
theorem revMix_step (cs : List V3) (k j : Nat) (hn : cs.length = k + j + 1) (hkj : k < j) (t : Nat) (ht : t < cs.length) :
    (if t = j then revMix cs k k else if t = k then revMix cs k j else revMix cs k t) = revMix cs (k + 1) t := by
  unfold revMix
  by_cases h1 : t = j
  · subst h1
    rw [if_pos rfl, if_neg (by omega), if_pos (by omega)]
    congr 1; omega
  · rw [if_neg h1]
    by_cases h2 : t = k
    · subst h2
      rw [if_pos rfl, if_neg (by omega), if_pos (by omega)]
      congr 1; omega
    · rw [if_neg h2]
      by_cases h3 : t < k ∨ cs.length ≤ t + k
      · rw [if_pos h3, if_pos (by omega)]
      · rw [if_neg h3, if_neg (by omega)]
theorem revMix_end (cs : List V3) (k : Nat) (hk : cs.length ≤ k + k + 1) (t : Nat) (ht : t < cs.length) : revMix cs k t = cs.reverse.getD t (0, 0, 0) := by
  have hr : cs.reverse.getD t (0, 0, 0) = cs.getD (cs.length - 1 - t) (0, 0, 0) := by
    simp only [List.getD_eq_getElem?_getD]
    rw [List.getElem?_reverse ht]
  rw [hr]
  unfold revMix
  by_cases h : t < k ∨ cs.length ≤ t + k
  · rw [if_pos h]
  · rw [if_neg h]
    congr 1; omega

set_option maxRecDepth 100000 in
set_option maxHeartbeats 1600000 in
/-- slices.Reverse over vectors, in memory that may be written -/
theorem ReverseV_any (b o cap : Nat) (cs : List V3) (w : World) (hR : Row3 w b o cs.length (revMix cs 0)) (hl : cs.length ≤ 1048576) (hp : 0 < cs.length) :
    Calls Try.prog 130 #[.slice (some ⟨b, o, none⟩) cs.length cap] w fun e w' => e = .returned (.tuple #[]) ∧ w.grownBy w' (some b) ∧ Row3 w' b o cs.length (fun t => cs.reverse.getD t (0, 0, 0)) := by
  have HR := Lib.hid hR
  have HL := Lib.hid hl
  clear hR hl
  go_enter Try.func130, Try.ntmps130
  go_wp2_with fail
  have hwrap : wrap64 ((cs.length : Int) - 1) = (cs.length : Int) - 1 := by have := HL.out; unfold wrap64; omega
  rw [hwrap]
  clear hwrap
  go_loopw [2, 3] (fun i j wr => ∃ (k : Nat), k ≤ cs.length ∧ i = .int .i64 k ∧ j = .int .i64 ((cs.length : Int) - 1 - k) ∧ Row3 wr b o cs.length (revMix cs k) ∧ w.grownBy wr (some b)) (fun _ j _ => (intOf j + 1).toNat)
  case atStart => exact ⟨0, Nat.zero_le _, rfl, by simp, HR.out, only_refl _ _⟩
  case round =>
    obtain ⟨k, hk, rfl, rfl, hrow, hgr⟩ := hrel
    have HROW := Lib.hid hrow
    have HG := Lib.hid hgr
    clear hrow hgr
    by_cases hlt : (k : Int) < (cs.length : Int) - 1 - k
    · obtain ⟨j, hj⟩ : ∃ j, cs.length = k + j + 1 := ⟨cs.length - k - 1, by omega⟩
      have hji : (cs.length : Int) - 1 - k = (j : Int) := by omega
      rw [hji] at hlt ⊢
      have hkj : k < j := by omega
      obtain ⟨x, y, z, c0, c1, c2, hc⟩ := HROW.out.2.2 k (by omega)
      obtain ⟨x', y', z', c0', c1', c2', hc'⟩ := HROW.out.2.2 j (by omega)
      have f0 := HROW.out.2.1 (o + k * 3)
      have f1 := HROW.out.2.1 (o + k * 3 + 1)
      have f2 := HROW.out.2.1 (o + k * 3 + 2)
      have f0' := HROW.out.2.1 (o + j * 3)
      have f1' := HROW.out.2.1 (o + j * 3 + 1)
      have f2' := HROW.out.2.1 (o + j * 3 + 2)
      have HC := Lib.hid hc
      have HC' := Lib.hid hc'
      have HJ := Lib.hid hj
      have hkl : (k : Int) < (cs.length : Int) := by omega
      have hjl : (j : Int) < (cs.length : Int) := by omega
      clear hc hc' hj hji
      go_wp2_with fail
      go_region
      all_goals
        go_wp2_with fail
        have hw1 : wrap64 ((k : Int) + 1) = ((k + 1 : Nat) : Int) := by have := HL.out; have := HJ.out; unfold wrap64; omega
        have hw2 : wrap64 ((j : Int) - 1) = (cs.length : Int) - 1 - ((k + 1 : Nat) : Int) := by have := HL.out; have := HJ.out; unfold wrap64; omega
        have hw3 : wrap64 ((j : Int) - 1) = (j : Int) - 1 := by have := HL.out; have := HJ.out; unfold wrap64; omega
        refine ⟨⟨k + 1, by omega, by rw [hw1], by rw [hw2], ?_, ?_⟩, by rw [hw3]; simp only [intOf]; omega⟩
        · refine Row3.drew ?_
          exact ((HROW.out.set (show k < cs.length by omega) HC'.out).set (show j < cs.length by omega) HC.out).congr (revMix_step cs k j HJ.out hkj)
        · exact only_drew (only_setCell (only_setCell (only_setCell (only_setCell (only_setCell (only_setCell HG.out rfl _) rfl _) rfl _) rfl _) rfl _) rfl _)
    · go_wp2_with fail
      go_end0
      exact ⟨rfl, HG.out, HROW.out.congr (fun t ht => revMix_end cs k (by omega) t ht)⟩
end Go.Proofs.Ytbaohbpfnlicpaa
