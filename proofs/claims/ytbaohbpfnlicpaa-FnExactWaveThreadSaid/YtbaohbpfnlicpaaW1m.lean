/- Walks: a thread is marked, and its marks are looked for. -/
import Derived.Test.YtbaohbpfnlicpaaW1
namespace Go.Proofs.Ytbaohbpfnlicpaa
open Go Go.RowKit
set_option linter.unusedVariables false
set_option linter.unusedSimpArgs false
attribute [local go_sem] run_store_float

theorem markThread_any (A : Option Addr) (cap sp : Nat) (cs : List V3) (k : Int) (B : Nat) (w : World) (hA : VO w B A cs) (h1 : 0 ≤ k) (h2 : k ≤ 1073741824) (hl : cs.length ≤ 1048576) :
    Calls Try.prog 58 #[.agg #[.slice A cs.length cap, .float .f32 sp], .int .i64 k] w fun e w' =>
      e = .returned (.int .i64 (k + cs.length * 3)) ∧ Marked w' A cs.length k ∧ ∃ row, w.grownBy w' row ∧ (∀ g, row = some g → ∃ o, A = some ⟨g, o, none⟩ ∧ B ≤ g ∧ g < w.heap.size) := by
  have HA := Lib.hid hA
  have HL := Lib.hid hl
  have H2 := Lib.hid h2
  clear hA hl h2
  go_enter Try.func58, Try.ntmps58
  go_wp2_with fail
  refine (markVectorS_any A cap cs k B _ (HA.out.ext (by (repeat first | with_reducible exact Ext.rfl' _ | with_reducible refine Ext.drewN ?_ _ | with_reducible refine Ext.drew' ?_ | with_reducible refine Ext.alloc' ?_ _ | with_reducible refine Ext.setCell_at ?_ _ _ _ (by first | exact Nat.le_refl _ | omega) | with_reducible assumption | refine Ext.trans ?_ (by with_reducible assumption)))) h1 H2.out HL.out).mono ?_
  rintro e w1 ⟨rfl, hm, row, hg, hr⟩
  have HM := Lib.hid hm
  have HG := Lib.hid hg
  have HR := Lib.hid hr
  clear hm hg hr
  go_wp2_with fail
  go_ret
  have hx : Ext w (w.alloc (.cells #[.slice A cs.length cap, .float .f32 sp] 48)) := by (repeat first | with_reducible exact Ext.rfl' _ | with_reducible refine Ext.drewN ?_ _ | with_reducible refine Ext.drew' ?_ | with_reducible refine Ext.alloc' ?_ _ | with_reducible refine Ext.setCell_at ?_ _ _ _ (by first | exact Nat.le_refl _ | omega) | with_reducible assumption | refine Ext.trans ?_ (by with_reducible assumption))
  have hgen : ∀ row', (∀ i, i < w.heap.size → some i ≠ row' → some i ≠ row) → w.grownBy w1 row' := fun row' hne =>
    ⟨HG.out.os.trans hx.os, HG.out.tape.trans hx.tape, HG.out.output.trans hx.output, Nat.le_trans hx.size HG.out.size, fun i hi h => (HG.out.block i (Nat.lt_of_lt_of_le hi hx.size) (hne i hi h)).trans (hx.block i hi)⟩
  match row, hgen, HR.out with
  | none, hgen, _ => exact ⟨rfl, HM.out, none, hgen none (fun _ _ h => h), fun g hg => by cases hg⟩
  | some g, hgen, hR =>
    by_cases hlt : g < w.heap.size
    · obtain ⟨o, hA', hB, -⟩ := hR g rfl
      refine ⟨rfl, HM.out, some g, hgen _ (fun _ _ h => h), fun g' hg' => ?_⟩
      simp only [Option.some.injEq] at hg'
      subst hg'
      exact ⟨o, hA', hB, hlt⟩
    · refine ⟨rfl, HM.out, none, hgen none (fun i hi _ e => ?_), fun g hg => by cases hg⟩
      simp only [Option.some.injEq] at e
      omega
theorem heldThread_any (A : Option Addr) (n cap sp : Nat) (k : Int) (w : World) (hA : Marked w A n k) (h1 : 0 ≤ k) (h2 : k ≤ 1073741824) (hl : n ≤ 1048576) :
    Calls Try.prog 59 #[.agg #[.slice A n cap, .float .f32 sp], .int .i64 k] w fun e w' => Ext w w' ∧ e = .returned (.int .i64 (k + n * 3)) := by
  have HA := Lib.hid hA
  have HL := Lib.hid hl
  have H2 := Lib.hid h2
  clear hA hl h2
  go_enter Try.func59, Try.ntmps59
  go_wp2_with fail
  refine (heldVectorS_any A n cap k _ (HA.out.ext (by (repeat first | with_reducible exact Ext.rfl' _ | with_reducible refine Ext.drewN ?_ _ | with_reducible refine Ext.drew' ?_ | with_reducible refine Ext.alloc' ?_ _ | with_reducible refine Ext.setCell_at ?_ _ _ _ (by first | exact Nat.le_refl _ | omega) | with_reducible assumption | refine Ext.trans ?_ (by with_reducible assumption)))) h1 H2.out HL.out).mono ?_
  rintro e w1 ⟨rfl, rfl⟩
  have hk : ¬ (k + (n : Int) * 3 < 0) := by omega
  go_wp2_with fail
  go_ret
  exact ⟨by (repeat first | with_reducible exact Ext.rfl' _ | with_reducible refine Ext.drewN ?_ _ | with_reducible refine Ext.drew' ?_ | with_reducible refine Ext.alloc' ?_ _ | with_reducible refine Ext.setCell_at ?_ _ _ _ (by first | exact Nat.le_refl _ | omega) | with_reducible assumption | refine Ext.trans ?_ (by with_reducible assumption)), rfl⟩
theorem markVectorS_nil (A : Option Addr) (cap n : Nat) (h0 : n = 0) (k : Int) (w : World) :
    Calls Try.prog 131 #[.slice A n cap, .int .i64 k] w fun e w' => w = w' ∧ e = .returned (.int .i64 k) := by
  have h1 : ¬ (0 : Int) < (n : Int) := by omega
  clear h0
  go_enter Try.func131, Try.ntmps131
  go_wp2_with fail
  go_loopw [1, 5] (fun q i wr => i = .int .i64 0 ∧ q = .int .i64 k ∧ w = wr) (fun _ _ _ => 0)
  case atStart => exact ⟨rfl, rfl, rfl⟩
  case round =>
    obtain ⟨rfl, rfl, rfl⟩ := hrel
    go_wp2_with fail
    go_ret
    exact ⟨rfl, rfl⟩
theorem markThread_nil (A : Option Addr) (cap sp n : Nat) (h0 : n = 0) (k : Int) (w : World) :
    Calls Try.prog 58 #[.agg #[.slice A n cap, .float .f32 sp], .int .i64 k] w fun e w' => Ext w w' ∧ e = .returned (.int .i64 k) := by
  have H0 := Lib.hid h0
  clear h0
  go_enter Try.func58, Try.ntmps58
  go_wp2_with fail
  refine (markVectorS_nil A cap n H0.out k _).mono ?_
  rintro e w1 ⟨rfl, rfl⟩
  go_wp2_with fail
  go_ret
  exact ⟨by (repeat first | with_reducible exact Ext.rfl' _ | with_reducible refine Ext.drewN ?_ _ | with_reducible refine Ext.drew' ?_ | with_reducible refine Ext.alloc' ?_ _ | with_reducible refine Ext.setCell_at ?_ _ _ _ (by first | exact Nat.le_refl _ | omega) | with_reducible assumption | refine Ext.trans ?_ (by with_reducible assumption)), rfl⟩
/-- marking a thread writes its own block alone, and none where it has no point -/
theorem markThread2_any (A : Option Addr) (cap sp : Nat) (cs : List V3) (k : Int) (B : Nat) (w : World) (hA : VO w B A cs) (h1 : 0 ≤ k) (h2 : k ≤ 1073741824) (hl : cs.length ≤ 1048576) :
    Calls Try.prog 58 #[.agg #[.slice A cs.length cap, .float .f32 sp], .int .i64 k] w fun e w' =>
      e = .returned (.int .i64 (k + cs.length * 3)) ∧ Marked w' A cs.length k ∧ ∃ row, w.grownBy w' row ∧ (∀ g, row = some g → 0 < cs.length ∧ ∃ o, A = some ⟨g, o, none⟩ ∧ B ≤ g ∧ g < w.heap.size) := by
  rcases Nat.eq_zero_or_pos cs.length with h0 | hp
  · refine (markThread_nil A cap sp cs.length h0 k w).mono fun e w' h => ⟨by rw [h.2, h0]; simp, fun hp => absurd hp (by omega), none, ⟨h.1.os, h.1.tape, h.1.output, h.1.size, fun i hi _ => h.1.block i hi⟩, fun g hg => by cases hg⟩
  · refine (markThread_any A cap sp cs k B w hA h1 h2 hl).mono fun e w' h => ?_
    obtain ⟨h3, h4, row, h5, h6⟩ := h
    exact ⟨h3, h4, row, h5, fun g hg => ⟨hp, h6 g hg⟩⟩
end Go.Proofs.Ytbaohbpfnlicpaa
