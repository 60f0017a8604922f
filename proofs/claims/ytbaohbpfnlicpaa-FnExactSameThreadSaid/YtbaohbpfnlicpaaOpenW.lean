/- What came in, opened with the bounds of its numbers' bits. -/
import Derived.Test.YtbaohbpfnlicpaaOpen
import Derived.Test.YtbaohbpfnlicpaaS3
namespace Go.Proofs.Ytbaohbpfnlicpaa
open Go Go.RowKit Go.ChangeShapes Go.WideShapes Go.Deep Go.Joins
set_option linter.unusedVariables false

theorem cn_lt {n : Nat} (h : n < 4294967296) : In32 (cn .f32 n) := by
  unfold In32 cn
  split
  · exact (by decide : qn .f32 < 4294967296)
  · exact h

section
variable {H : Type} {enc : TypeId × Value → H} {P : Program} {w : World} {base : Nat} {spare : Nat → Bool} {held : Bool} {fuel : Nat} {t : TypeId} {cs : List Value} {x : DataW H × List MemPlace}
theorem trod_floatW (ht : P.underlying t = some (.float .f32)) (h : DataW.trod enc P w base spare held fuel t cs = some x) : ∃ n, cs = [.float .f32 n] ∧ n < 4294967296 := by
  obtain ⟨n, rfl⟩ := trod_float ht h
  refine ⟨n, rfl, ?_⟩
  cases fuel with
  | zero => simp [DataW.trod] at h
  | succ m =>
    unfold DataW.trod at h
    rw [ht] at h
    simp only [true_and] at h
    by_cases hw : (Lit.float .f32 n).wf = true
    · have : decide (n < 2 ^ 32) = true := hw
      simpa using this
    · rw [if_neg hw] at h
      cases h
end
section
variable {H : Type} {enc : TypeId × Value → H} {w : World} {base : Nat} {spare : Nat → Bool} {held : Bool} {fuel : Nat} {t : TypeId} {cs : List Value} {x : DataW H × List MemPlace}

set_option maxRecDepth 100000 in
theorem open_pointsW (h : DataW.trod enc Try.prog w base spare held fuel 41 cs = some x) :
    ∃ (A : Option Addr) (n cap : Nat) (c : List V3), cs = [.slice A n cap] ∧ c.length = n ∧ n ≤ 9223372036854775807 ∧ VS w A c ∧ InS c := by
  rcases open_rows (by kernel_rfl) vecStruct vecOne (vecCells.trans (types_len vecTypes).symm) h with h0 | ⟨a, len, cap, hcs, hl, hm, hc⟩
  · exact ⟨_, _, _, [], h0, rfl, by omega, VS.nil _ _, fun i hi => absurd hi (Nat.not_lt_zero _)⟩
  · have hsz : (fieldsOf Try.prog 73).size = 3 := types_len vecTypes
    have hcell : ∀ i, i < len → ∀ j, j < 3 → ∃ n, w.cell? (a.add (i * 3 + j)) = some (.float .f32 n) ∧ n < 4294967296 := by
      intro i hi j hj
      obtain ⟨f, hf, hft⟩ := types_at vecTypes j hj
      obtain ⟨v, y, n, h1, h2⟩ := hc i hi j f hf
      rw [hsz] at h1
      have hft' : f.type = 22 := by
        rw [hft]
        match j, hj with
        | 0, _ => rfl
        | 1, _ => rfl
        | 2, _ => rfl
      rw [hft'] at h2
      obtain ⟨m, hm, hb⟩ := trod_floatW f32Under h2
      simp only [List.cons.injEq, and_true] at hm
      exact ⟨m, by rw [h1, hm], hb⟩
    have hfun : ∃ g : Nat → Nat → Nat, ∀ i, i < len → ∀ j, j < 3 → w.cell? (a.add (i * 3 + j)) = some (.float .f32 (g i j)) ∧ g i j < 4294967296 := by
      refine ⟨fun i j => match w.cell? (a.add (i * 3 + j)) with | some (.float .f32 n) => n | _ => 0, fun i hi j hj => ?_⟩
      obtain ⟨n, hn, hb⟩ := hcell i hi j hj
      simp only [hn]
      exact ⟨trivial, hb⟩
    obtain ⟨g, hg⟩ := hfun
    have hml : maxLen = 9223372036854775807 := by decide
    refine ⟨some a, len, cap, (List.range len).map fun i => cv (g i 0) (g i 1) (g i 2), hcs, by simp, by omega, fun hp => ?_, fun i hi => ?_⟩
    rotate_left
    · simp only [List.length_map, List.length_range] at hi
      simp only [List.getD_eq_getElem?_getD, List.getElem?_map, List.getElem?_range, hi, Option.map_some, Option.getD_some]
      exact ⟨cn_lt (hg i hi 0 (by omega)).2, cn_lt (hg i hi 1 (by omega)).2, cn_lt (hg i hi 2 (by omega)).2⟩
    simp only [List.length_map, List.length_range] at hp
    have h0 := (hg 0 hp 0 (by omega)).1
    obtain ⟨b, o, sp⟩ := a
    have hspot : sp = none := by simpa [Addr.add] using World.cell?_spot h0
    subst hspot
    refine ⟨b, o, rfl, cell_lt h0, fun i hi => ?_⟩
    simp only [List.length_map, List.length_range] at hi
    refine ⟨g i 0, g i 1, g i 2, ?_, ?_, ?_, ?_⟩
    · have := (hg i hi 0 (by omega)).1; rw [add_none] at this; simpa only [Nat.add_assoc, Nat.add_zero] using this
    · have := (hg i hi 1 (by omega)).1; rw [add_none] at this; simpa only [Nat.add_assoc, Nat.add_zero] using this
    · have := (hg i hi 2 (by omega)).1; rw [add_none] at this; simpa only [Nat.add_assoc, Nat.add_zero] using this
    · simp [List.getD_eq_getElem?_getD, hi]

set_option maxRecDepth 100000 in
theorem open_threadW {r : Reach} {b0 : Nat} {v : Value} {d : DataW H} {p : List MemPlace} (hv : Value.okWide Try.prog w r b0 43 v) (h : DataW.Trod enc Try.prog w base spare held 43 v d p) :
    ∃ (A : Option Addr) (cap sp : Nat) (c : List V3), v = .agg #[.slice A c.length cap, .float .f32 sp] ∧ c.length ≤ 9223372036854775807 ∧ VS w A c ∧ InS c ∧ In32 (cn .f32 sp) := by
  obtain ⟨f0, hf0, ht0⟩ := types_at threadTypes 0 (by decide)
  obtain ⟨f1, hf1, ht1⟩ := types_at threadTypes 1 (by decide)
  have hfs : fieldsOf Try.prog 43 = #[f0, f1] := by
    have hsz := types_len threadTypes
    apply Array.ext
    · exact hsz
    · intro i h1 h2
      rw [hsz] at h1
      match i, h1 with
      | 0, _ => simpa using (Array.getElem?_eq_some_iff.1 hf0).2
      | 1, _ => simpa using (Array.getElem?_eq_some_iff.1 hf1).2
  obtain ⟨v0, v1, y0, y1, n, rfl, -, -, h0, h1⟩ := open_agg2 (hfs ▸ threadStruct) (hfs ▸ threadOne) threadCells hv h
  rw [ht0] at h0
  rw [ht1] at h1
  obtain ⟨A, n, cap, c, hA, rfl, hn, hVS, hI⟩ := open_pointsW h0
  obtain ⟨sp, hsp, hb⟩ := trod_floatW f32Under h1
  simp only [List.cons.injEq, and_true] at hA hsp
  subst hA hsp
  exact ⟨A, cap, sp, c, rfl, hn, hVS, hI, cn_lt hb⟩

end
end Go.Proofs.Ytbaohbpfnlicpaa
