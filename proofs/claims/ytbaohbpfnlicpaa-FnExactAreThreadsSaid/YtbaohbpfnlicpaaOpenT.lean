/- What came in, opened: a list of threads. -/
import Derived.Test.YtbaohbpfnlicpaaOpen
import Derived.Test.YtbaohbpfnlicpaaA1
namespace Go.Proofs.Ytbaohbpfnlicpaa
open Go Go.RowKit Go.ChangeShapes Go.WideShapes Go.Deep Go.Joins
set_option linter.unusedVariables false

section
variable {H : Type} {enc : TypeId × Value → H} {w : World} {base : Nat} {spare : Nat → Bool} {held : Bool} {fuel : Nat} {t : TypeId} {cs : List Value} {x : DataW H × List MemPlace}

set_option maxRecDepth 100000 in
theorem open_threadsL (h : DataW.trod enc Try.prog w base spare held fuel 59 cs = some x) :
    ∃ (A : Option Addr) (n cap : Nat) (ts : List Th), cs = [.slice A n cap] ∧ ts.length = n ∧ n ≤ 9223372036854775807 ∧ TS w A ts ∧ Short ts 9223372036854775807 := by
  rcases open_rows (by kernel_rfl) threadStruct threadOne (threadCells.trans (types_len threadTypes).symm) h with h0 | ⟨a, len, cap, hcs, hl, hm, hc⟩
  · exact ⟨_, _, _, [], h0, rfl, by omega, fun hp => absurd hp (Nat.lt_irrefl 0), fun i hi => absurd hi (Nat.not_lt_zero i)⟩
  · have hsz : (fieldsOf Try.prog 43).size = 2 := types_len threadTypes
    obtain ⟨f0, hf0, ht0⟩ := types_at threadTypes 0 (by decide)
    obtain ⟨f1, hf1, ht1⟩ := types_at threadTypes 1 (by decide)
    have hcell : ∀ i, ∃ (t : Th), i < len → ∃ (A' : Option Addr) (cap sp : Nat), w.cell? (a.add (i * 2)) = some (.slice A' t.1.length cap) ∧ w.cell? (a.add (i * 2 + 1)) = some (.float .f32 sp) ∧ VS w A' t.1 ∧ cn .f32 sp = t.2 ∧ t.1.length ≤ 9223372036854775807 := by
      intro i
      by_cases hi : i < len
      · obtain ⟨v0, y0, n0, e0, g0⟩ := hc i hi 0 f0 hf0
        obtain ⟨v1, y1, n1, e1, g1⟩ := hc i hi 1 f1 hf1
        rw [hsz] at e0 e1
        rw [ht0] at g0
        rw [ht1] at g1
        obtain ⟨A', n', cap', c, hA, hcn, hn, hVS⟩ := open_points g0
        obtain ⟨sp, hsp⟩ := trod_float f32Under g1
        simp only [List.cons.injEq, and_true] at hA hsp
        exact ⟨(c, cn .f32 sp), fun _ => ⟨A', cap', sp, by rw [← Nat.add_zero (i * 2), e0, hA, hcn], by rw [e1, hsp], hVS, rfl, by rw [hcn]; exact hn⟩⟩
      · exact ⟨noTh, fun h => absurd h hi⟩
    obtain ⟨f, hf⟩ := Classical.axiomOfChoice hcell
    have hml : maxLen = 9223372036854775807 := by decide
    have hget : ∀ i, i < len → ((List.range len).map f).getD i noTh = f i := fun i hi => by simp [List.getD_eq_getElem?_getD, hi]
    refine ⟨some a, len, cap, (List.range len).map f, hcs, by simp, by omega, fun hp => ?_, fun i hi => ?_⟩
    · simp only [List.length_map, List.length_range] at hp
      obtain ⟨A', c', sp, e0, -⟩ := hf 0 hp
      obtain ⟨b, o, s⟩ := a
      have hspot : s = none := by simpa [Addr.add] using World.cell?_spot e0
      subst hspot
      refine ⟨b, o, rfl, cell_lt e0, fun i hi => ?_⟩
      simp only [List.length_map, List.length_range] at hi
      rw [hget i hi]
      obtain ⟨A2, c2, s2, g0, g1, g2, g3, -⟩ := hf i hi
      rw [add_none] at g0 g1
      exact ⟨A2, c2, s2, g0, g1, g2, g3⟩
    · simp only [List.length_map, List.length_range] at hi
      rw [hget i hi]
      obtain ⟨A2, c2, s2, -, -, -, -, g4⟩ := hf i hi
      exact g4
set_option maxRecDepth 100000 in
theorem open_threads {r : Reach} {b0 : Nat} {v : Value} {d : DataW H} {p : List MemPlace} (hv : Value.okWide Try.prog w r b0 59 v) (h : DataW.Trod enc Try.prog w base spare held 59 v d p) :
    ∃ (A : Option Addr) (cap : Nat) (ts : List Th), v = .slice A ts.length cap ∧ ts.length ≤ 9223372036854775807 ∧ TS w A ts ∧ Short ts 9223372036854775807 := by
  have hcell : v.cells.toList = [v] := by
    have hu : Try.prog.underlying 59 = some (.slice 43) := by kernel_rfl
    simp only [Value.okWide, hu, Cell.okWide] at hv
    cases v <;> simp_all [Value.cells, Cell.ok]
  obtain ⟨n, hn⟩ := field_of_Trod h hcell
  obtain ⟨A, m, cap, ts, hA, rfl, h1, h2, h3⟩ := open_threadsL hn
  simp only [List.cons.injEq, and_true] at hA
  exact ⟨A, cap, ts, hA, h1, h2, h3⟩
end
end Go.Proofs.Ytbaohbpfnlicpaa
