/- Walk: the vector across two others (a statement whose order is open). -/
import Derived.Test.YtbaohbpfnlicpaaW4
namespace Go.Proofs.Ytbaohbpfnlicpaa
open Go Go.RowKit
set_option linter.unusedVariables false
set_option linter.unusedSimpArgs false
attribute [local go_sem] run_store_float

set_option maxRecDepth 100000 in
set_option maxHeartbeats 1000000 in
theorem CrossOf_any (x y z x' y' z' : Nat) (w : World) : Calls Try.prog 120 #[.agg #[.float .f32 x, .float .f32 y, .float .f32 z], .agg #[.float .f32 x', .float .f32 y', .float .f32 z']] w fun e w' => Ext w w' ∧ ∃ r s t, e = .returned (.agg #[.float .f32 r, .float .f32 s, .float .f32 t]) ∧ cv r s t = vcross (cv x y z) (cv x' y' z') := by
  go_enter Try.func120, Try.ntmps120
  go_wp2_with fail
  go_region_held3 (fun w' => w'.cell? ⟨w.heap.size, 0, none⟩ = some (.float .f32 x) ∧ w'.cell? ⟨w.heap.size, 1, none⟩ = some (.float .f32 y) ∧ w'.cell? ⟨w.heap.size, 2, none⟩ = some (.float .f32 z) ∧ w'.cell? ⟨w.heap.size + 1, 0, none⟩ = some (.float .f32 x') ∧ w'.cell? ⟨w.heap.size + 1, 1, none⟩ = some (.float .f32 y') ∧ w'.cell? ⟨w.heap.size + 1, 2, none⟩ = some (.float .f32 z')) (((try dsimp only); (repeat' apply And.intro) <;> (simp [World.cell?_setCell_other, go_sem]; done)))
    (first | (go_at_call 180; refine (crossed_any _ _ _ _ _).mono ?_; rintro e w1 ⟨n1, r1, rfl, rfl, q1⟩))
  all_goals
    go_wp2_with fail
    go_returns
    unfold FR at *
    exact ⟨by (repeat first | with_reducible exact Ext.rfl' _ | with_reducible refine Ext.drewN ?_ _ | with_reducible refine Ext.drew' ?_ | with_reducible refine Ext.alloc' ?_ _ | with_reducible refine Ext.setCell_at ?_ _ _ _ (by first | exact Nat.le_refl _ | omega) | with_reducible assumption | refine Ext.trans ?_ (by with_reducible assumption)), _, _, _, rfl, by simp only [cv, vcross, *]⟩
end Go.Proofs.Ytbaohbpfnlicpaa
