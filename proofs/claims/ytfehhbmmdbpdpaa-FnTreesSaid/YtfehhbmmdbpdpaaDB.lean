/- The growth of a node, at any depth. -/
import Derived.Test.YtfehhbmmdbpdpaaD9
namespace Go.Proofs.Ytfehhbmmdbpdpaa
open Go Go.RowKit
set_option linter.unusedVariables false

theorem grow_any (ps : List Wh) (wd B g lb lo lcap : Nat) (hps : OkPs ps) (hwd : wd ≤ 32) : ∀ f d, f + d = 6 → Grows f ps wd B g lb lo lcap d
  | 0, d, hfd => fun r cp n cx cy ws ys A1 c1 w hpre hT hL hW hn hws => by
    refine (growLeaf_any ps wd B g r cp n d cx cy ws ys lb lo lcap A1 c1 w hps hpre hT hL hW (by omega) hws (.inr (.inl (by omega))) hwd (by omega)).mono ?_
    rintro e w' ⟨he, r', cp', zs, h1, h2, h3, h4⟩
    exact ⟨he, r', cp', zs, h1, h2, h3, h4⟩
  | f + 1, d, hfd => fun r cp n cx cy ws ys A1 c1 w hpre hT hL hW hn hws => by
    by_cases hleaf : ws.length ≤ 3 ∨ wd = 0
    · refine (growLeaf_any ps wd B g r cp n d cx cy ws ys lb lo lcap A1 c1 w hps hpre hT hL hW (by omega) hws (by rcases hleaf with h | h; exact .inl h; exact .inr (.inr h)) hwd (by omega)).mono ?_
      rintro e w' ⟨he, r', cp', zs, h1, h2, h3, h4⟩
      have hg : growP ps wd (f + 1) n d cx cy ws = [nodeP ps d cx cy ws []] := by
        conv => lhs; unfold growP
        rw [if_pos hleaf]
      rw [hg]
      exact ⟨he, r', cp', zs, h1, h2, h3, h4⟩
    · exact growBranch_any f ps wd B g r cp n d cx cy ws ys lb lo lcap A1 c1 w hps hpre hT hL hW hn hws (grow_any ps wd B g lb lo lcap hps hwd f (d + 1) (by omega)) hleaf hwd (by omega) (by omega)
end Go.Proofs.Ytfehhbmmdbpdpaa
