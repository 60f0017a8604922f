/- What the shells of the laws share: the size of a thread, and what lies below a block that was written. -/
import Derived.Test.YtbaohbpfnlicpaaW1m
import Derived.Test.YtbaohbpfnlicpaaMx
namespace Go.Proofs.Ytbaohbpfnlicpaa
open Go Go.RowKit
set_option linter.unusedVariables false
set_option linter.unusedSimpArgs false

theorem szThread_big (A : Option Addr) (n cap sp : Nat) (l : Int) (w : World) (h1 : 0 ≤ l) (h2 : l ≤ 1048576) (hn : n ≤ 9223372036854775807) (h : l - n < 0) :
    Calls Try.prog 33 #[.agg #[.slice A n cap, .float .f32 sp], .int .i64 l] w fun e w' => Ext w w' ∧ e = .returned (.int .i64 (-1)) :=
  (szThread_any A n cap sp l w h1 h2 hn).mono fun e w' ⟨x, y⟩ => ⟨x, by rw [y, if_pos h]⟩
theorem szThread_ok (A : Option Addr) (n cap sp : Nat) (l : Int) (w : World) (h1 : 0 ≤ l) (h2 : l ≤ 1048576) (hn : n ≤ 9223372036854775807) (h : ¬ l - n < 0) :
    Calls Try.prog 33 #[.agg #[.slice A n cap, .float .f32 sp], .int .i64 l] w fun e w' => Ext w w' ∧ ∃ q : Int, e = .returned (.int .i64 q) ∧ 0 ≤ q ∧ q = l - n :=
  (szThread_any A n cap sp l w h1 h2 hn).mono fun e w' ⟨x, y⟩ => ⟨x, _, by rw [y, if_neg h], by omega, rfl⟩
theorem VO.only_lt {w w' : World} {B : Nat} {A : Option Addr} {cs : List V3} {row : Option Nat} (h : VO w B A cs) (hg : w.grownBy w' row) (hlt : ∀ g, row = some g → g < B) : VO w' B A cs := fun hp => by
  obtain ⟨b, o, hA, hB, -⟩ := h hp
  exact h.only hg (fun b' o' hA' e => by
    rw [hA'] at hA
    simp only [Option.some.injEq, Addr.mk.injEq] at hA
    have := hlt b' e.symm
    omega) hp
theorem onTh_len (f : V3 → V3) (ok : Bool) (cs : List V3) (sp : Nat) (h : cs.length ≤ 1048576) : (onTh f ok cs sp).2.1.length ≤ 1048576 := by
  unfold onTh
  split
  · simpa using h
  · simp
end Go.Proofs.Ytbaohbpfnlicpaa
