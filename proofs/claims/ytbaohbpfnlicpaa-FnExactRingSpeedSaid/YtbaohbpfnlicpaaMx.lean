/- A slice whose first vectors are changed, one after the other. -/
import Derived.Test.YtbaohbpfnlicpaaM2
import Derived.Test.YtbaohbpfnlicpaaW6
import Derived.Test.YtbaohbpfnlicpaaW7
namespace Go.Proofs.Ytbaohbpfnlicpaa
open Go Go.RowKit
set_option linter.unusedVariables false
set_option linter.unusedSimpArgs false

/-- a call's result: a thread that it made itself, and whether there is one -/
def RT (w0 w' : World) (e : Ending) (P : Bool × List V3 × Nat) : Prop :=
  ∃ A' cap' s', e = .returned (.tuple #[.agg #[.slice A' P.2.1.length cap', .float .f32 s'], .bool P.1]) ∧ VO w' w0.heap.size A' P.2.1 ∧ cn .f32 s' = P.2.2
def onTh (f : V3 → V3) (ok : Bool) (cs : List V3) (sp : Nat) : Bool × List V3 × Nat :=
  if isTh cs sp && ok && isTh (cs.map f) sp then (true, cs.map f, sp) else (false, [], 0)
/-- the first k vectors changed, the others as they were -/
def Mix (w : World) (b o : Nat) (f : V3 → V3) (cs : List V3) (k : Nat) : Prop :=
  b < w.heap.size ∧ (∀ j, w.frozen? ⟨b, j, none⟩ = false) ∧ ∀ i, i < cs.length → VAt w b (o + i * 3) (if i < k then f (cs.getD i (0, 0, 0)) else cs.getD i (0, 0, 0))

theorem Mix.ext {w w' : World} {b o k : Nat} {f : V3 → V3} {cs : List V3} (h : Mix w b o f cs k) (he : Ext w w') : Mix w' b o f cs k :=
  ⟨Nat.lt_of_lt_of_le h.1 he.size, fun j => (he.frozen (p := ⟨b, j, none⟩) h.1).trans (h.2.1 j), fun i hi => (h.2.2 i hi).ext h.1 he⟩

theorem Mix.step {w : World} {b o k : Nat} {f : V3 → V3} {cs : List V3} (h : Mix w b o f cs k) (hk : k < cs.length) {r s t : Nat} (hc : cv r s t = f (cs.getD k (0, 0, 0))) :
    Mix (((w.setCell ⟨b, o + k * 3, none⟩ (.float .f32 r)).setCell ⟨b, o + k * 3 + 1, none⟩ (.float .f32 s)).setCell ⟨b, o + k * 3 + 2, none⟩ (.float .f32 t)) b o f cs (k + 1) := by
  refine ⟨by simpa [World.setCell] using h.1, fun j => by rw [frozen_setCell, frozen_setCell, frozen_setCell]; exact h.2.1 j, fun i hi => ?_⟩
  obtain ⟨a0, a1, a2, d0, d1, d2, -⟩ := h.2.2 k hk
  have far : ∀ (u : World) (p q : Nat) (v : Value), p ≠ q → (u.setCell ⟨b, p, none⟩ v).cell? ⟨b, q, none⟩ = u.cell? ⟨b, q, none⟩ := fun u p q v hne =>
    World.cell?_setCell_other u _ _ _ (by simp only [ne_eq, Addr.mk.injEq, not_and]; omega)
  by_cases e : i = k
  · subst e
    rw [if_pos (by omega), ← hc]
    refine ⟨r, s, t, ?_, ?_, ?_, rfl⟩
    · rw [far _ _ _ _ (by omega), far _ _ _ _ (by omega)]
      exact World.cell?_setCell_same w _ _ d0
    · rw [far _ _ _ _ (by omega)]
      exact World.cell?_setCell_same _ _ _ ((far _ _ _ _ (by omega)).trans d1)
    · exact World.cell?_setCell_same _ _ _ ((far _ _ _ _ (by omega)).trans ((far _ _ _ _ (by omega)).trans d2))
  · obtain ⟨x, y, z, h0, h1, h2, h3⟩ := h.2.2 i hi
    refine ⟨x, y, z, ?_, ?_, ?_, ?_⟩
    · rw [far _ _ _ _ (by omega), far _ _ _ _ (by omega), far _ _ _ _ (by omega)]; exact h0
    · rw [far _ _ _ _ (by omega), far _ _ _ _ (by omega), far _ _ _ _ (by omega)]; exact h1
    · rw [far _ _ _ _ (by omega), far _ _ _ _ (by omega), far _ _ _ _ (by omega)]; exact h2
    · rw [h3]
      by_cases hlt : i < k
      · rw [if_pos hlt, if_pos (by omega)]
      · rw [if_neg hlt, if_neg (by omega)]
theorem Mix.vo {w : World} {B b o : Nat} {f : V3 → V3} {cs : List V3} (h : Mix w b o f cs cs.length) (hB : B ≤ b) : VO w B (some ⟨b, o, none⟩) (cs.map f) := fun hp => by
  refine ⟨b, o, rfl, hB, h.1, h.2.1, fun i hi => ?_⟩
  rw [List.length_map] at hi
  have := h.2.2 i hi
  rw [if_pos hi] at this
  have he : (cs.map f).getD i (0, 0, 0) = f (cs.getD i (0, 0, 0)) := by
    simp [List.getD_eq_getElem?_getD, hi]
  rw [he]
  exact this
end Go.Proofs.Ytbaohbpfnlicpaa
