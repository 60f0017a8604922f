/- What came in, opened: lists of floats, basins. -/
import Derived.Test.YtbaohbpfnlicpaaOpen
import Derived.Test.YtbaohbpfnlicpaaMem
namespace Go.Proofs.Ytbaohbpfnlicpaa
open Go Go.RowKit Go.ChangeShapes Go.WideShapes Go.Deep Go.Joins
set_option linter.unusedVariables false

theorem basinStruct : Try.prog.underlying 31 = some (.struct (fieldsOf Try.prog 31)) := by kernel_rfl
theorem basinOne : oneCellFields Try.prog (fieldsOf Try.prog 31) = true := by kernel_rfl
theorem basinTypes : (fieldsOf Try.prog 31).toList.map (·.type) = [2, 2, 29] := by kernel_rfl
theorem basinCells : Try.prog.cellsOf 31 = 3 := by kernel_rfl
theorem f32Cells : Try.prog.cellsOf 22 = 1 := by kernel_rfl
theorem i64Under : Try.prog.underlying 2 = some (.int .i64) := by kernel_rfl

section
variable {H : Type} {enc : TypeId × Value → H} {w : World} {base : Nat} {spare : Nat → Bool} {held : Bool} {fuel : Nat} {t : TypeId} {cs : List Value} {x : DataW H × List MemPlace}

set_option maxRecDepth 100000 in
theorem open_floats (h : DataW.trod enc Try.prog w base spare held fuel 29 cs = some x) :
    ∃ (A : Option Addr) (n cap : Nat) (c : List Nat), cs = [.slice A n cap] ∧ c.length = n ∧ n ≤ 9223372036854775807 ∧ FS w A c := by
  rcases open_slice (by kernel_rfl) h with h0 | ⟨a, len, cap, m, n, D, Pl, hcs, hb, hl, hm, hmm, hx, hi⟩
  · exact ⟨_, _, _, [], h0.1, rfl, by omega, fun hp => absurd hp (Nat.lt_irrefl 0)⟩
  · have hcell : ∀ i, i < len → ∃ n, w.cell? (a.add i) = some (.float .f32 n) := by
      intro i hi'
      obtain ⟨cs', hc, ht'⟩ := hi i (by rw [hmm]; split <;> omega)
      rw [f32Cells, Nat.mul_one] at hc
      obtain ⟨_, hcl, hat⟩ := World.cells?_some hc
      obtain ⟨q, hq⟩ := trod_float f32Under ht'
      have := hat 0 (by omega)
      rw [hq] at this
      refine ⟨q, ?_⟩
      rw [← Nat.add_zero i, ← Go.Deep.add_add, this]
      rfl
    have hfun : ∃ g : Nat → Nat, ∀ i, i < len → w.cell? (a.add i) = some (.float .f32 (g i)) := by
      refine ⟨fun i => match w.cell? (a.add i) with | some (.float .f32 n) => n | _ => 0, fun i hi' => ?_⟩
      obtain ⟨n, hn⟩ := hcell i hi'
      simp only [hn]
    obtain ⟨g, hg⟩ := hfun
    have hml : maxLen = 9223372036854775807 := by decide
    refine ⟨some a, len, cap, (List.range len).map fun i => cn .f32 (g i), hcs, by simp, by omega, fun hp => ?_⟩
    simp only [List.length_map, List.length_range] at hp
    have h0 := hg 0 hp
    obtain ⟨b, o, sp⟩ := a
    have hspot : sp = none := by simpa [Addr.add] using World.cell?_spot h0
    subst hspot
    refine ⟨b, o, rfl, cell_lt h0, fun i hi' => ?_⟩
    simp only [List.length_map, List.length_range] at hi'
    refine ⟨g i, ?_, ?_⟩
    · have := hg i hi'; rwa [add_none] at this
    · simp [List.getD_eq_getElem?_getD, hi']

set_option maxRecDepth 100000 in
theorem open_basin {r : Reach} {b0 : Nat} {v : Value} {d : DataW H} {p : List MemPlace} (hv : Value.okWide Try.prog w r b0 31 v) (h : DataW.Trod enc Try.prog w base spare held 31 v d p) :
    ∃ (a b : Int) (A : Option Addr) (cap : Nat) (c : List Nat), v = .agg #[.int .i64 a, .int .i64 b, .slice A c.length cap] ∧ c.length ≤ 9223372036854775807 ∧ FS w A c := by
  obtain ⟨f0, hf0, ht0⟩ := types_at basinTypes 0 (by decide)
  obtain ⟨f1, hf1, ht1⟩ := types_at basinTypes 1 (by decide)
  obtain ⟨f2, hf2, ht2⟩ := types_at basinTypes 2 (by decide)
  have hfs : fieldsOf Try.prog 31 = #[f0, f1, f2] := by
    have hsz := types_len basinTypes
    apply Array.ext
    · exact hsz
    · intro i h1 h2
      rw [hsz] at h1
      match i, h1 with
      | 0, _ => simpa using (Array.getElem?_eq_some_iff.1 hf0).2
      | 1, _ => simpa using (Array.getElem?_eq_some_iff.1 hf1).2
      | 2, _ => simpa using (Array.getElem?_eq_some_iff.1 hf2).2
  have hopen := open_agg3 (hfs ▸ basinStruct) (hfs ▸ basinOne) basinCells hv h
  obtain ⟨v0, v1, v2, y0, y1, y2, n, rfl, -, -, h0, h1, h2⟩ := hopen
  rw [ht0] at h0
  rw [ht1] at h1
  rw [ht2] at h2
  obtain ⟨A, m, cap, c, hA, rfl, hn, hFS⟩ := open_floats h2
  obtain ⟨a, ha, -, -⟩ := DataW.trod_int i64Under h0
  obtain ⟨b, hb, -, -⟩ := DataW.trod_int i64Under h1
  simp only [List.cons.injEq, and_true] at hA ha hb
  subst hA ha hb
  exact ⟨a, b, A, cap, c, rfl, hn, hFS⟩
end
end Go.Proofs.Ytbaohbpfnlicpaa
