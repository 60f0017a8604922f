/- What came in, opened: floats, ints, vectors, threads, lists of threads and of floats; and the row's last step where a call left new blocks. -/
import Derived.Test.YtbaohbpfnlicpaaRows
import Derived.WalkKit
import Derived.ProofKit
import Derived.Below
import Derived.Carry
import Derived.ChangeSame
import Derived.Lib.SmallJoins
import Derived.Deep.Slices
import Derived.Deep.Fields
import Derived.Test.YtbaohbpfnlicpaaMem
namespace Go.Proofs.Ytbaohbpfnlicpaa
open Go Go.RowKit Go.ChangeShapes Go.WideShapes Go.Deep Go.Joins
set_option linter.unusedVariables false

theorem laidOut : laidOutB Try.prog = true := by kernel_rfl

section
variable {H : Type} {enc : TypeId × Value → H} {P : Program} {w : World} {base : Nat} {spare : Nat → Bool} {held : Bool} {fuel : Nat} {t : TypeId} {cs : List Value} {x : DataW H × List MemPlace}
theorem trod_float {k : FloatKind} (ht : P.underlying t = some (.float k)) (h : DataW.trod enc P w base spare held fuel t cs = some x) : ∃ n, cs = [.float k n] := by
  cases fuel with
  | zero => simp [DataW.trod] at h
  | succ n =>
    unfold DataW.trod at h
    rw [ht] at h
    split at h <;> simp_all

/-- a slice of structs of one-cell fields: each field's cell, and its reading -/
theorem open_rows {e : TypeId} {fs : Array Field} (ht : P.underlying t = some (.slice e)) (he : P.underlying e = some (.struct fs))
    (hone : oneCellFields P fs = true) (hC : P.cellsOf e = fs.size) (h : DataW.trod enc P w base spare held fuel t cs = some x) :
    (cs = [.slice none 0 0]) ∨
    ∃ (a : Addr) (len cap : Nat), cs = [.slice (some a) len cap] ∧ len ≤ cap ∧ cap ≤ maxLen ∧
      ∀ i, i < len → ∀ (j : Nat) (f : Field), fs[j]? = some f → ∃ (v : Value) (y : DataW H × List MemPlace) (n : Nat), w.cell? (a.add (i * fs.size + j)) = some v ∧ DataW.trod enc P w base spare held n f.type [v] = some y := by
  rcases open_slice ht h with h0 | ⟨a, len, cap, m, n, D, Pl, hcs, hb, hl, hm, hmm, hx, hi⟩
  · exact .inl h0.1
  · refine .inr ⟨a, len, cap, hcs, hl, hm, fun i hil j f hj => ?_⟩
    obtain ⟨cs', hc, ht'⟩ := hi i (by rw [hmm]; split <;> omega)
    rw [hC] at hc
    obtain ⟨ys, n', hn', hy, hlen, hyl, hf⟩ := DataW.trod_struct he ht'
    obtain ⟨_, hcl, hat⟩ := World.cells?_some hc
    obtain ⟨ho, hk⟩ := hone_of hone j f hj
    have hjl : j < fs.size := (Array.getElem?_eq_some_iff.1 hj).1
    have hcell := hat j hjl
    have hv : cs'[j]? = some (cs'[j]'(by omega)) := List.getElem?_eq_getElem (by omega)
    have h1 := hf j f hj
    rw [ho, hk] at h1
    have hone' : (cs'.drop j).take 1 = [cs'[j]'(by omega)] := by
      rw [List.drop_eq_getElem_cons (by omega)]
      rfl
    rw [hone'] at h1
    have hys : ys[j]? = some (ys[j]'(by omega)) := List.getElem?_eq_getElem (by omega)
    exact ⟨_, _, n', by rw [← Go.Deep.add_add, hcell, hv], h1.trans hys⟩

theorem cell_lt {b o : Nat} {s : Option Nat} {v : Value} (h : w.cell? ⟨b, o, s⟩ = some v) : b < w.heap.size := by
  rcases Nat.lt_or_ge b w.heap.size with h' | h'
  · exact h'
  · rw [World.cell?, Array.getElem?_eq_none h'] at h; cases h
end

def fieldsOf (P : Program) (e : TypeId) : Array Field := match P.underlying e with | some (.struct fs) => fs | _ => #[]
theorem vecStruct : Try.prog.underlying 73 = some (.struct (fieldsOf Try.prog 73)) := by kernel_rfl
theorem vecOne : oneCellFields Try.prog (fieldsOf Try.prog 73) = true := by kernel_rfl
theorem vecTypes : (fieldsOf Try.prog 73).toList.map (·.type) = [22, 22, 22] := by kernel_rfl
theorem threadStruct : Try.prog.underlying 43 = some (.struct (fieldsOf Try.prog 43)) := by kernel_rfl
theorem threadOne : oneCellFields Try.prog (fieldsOf Try.prog 43) = true := by kernel_rfl
theorem threadTypes : (fieldsOf Try.prog 43).toList.map (·.type) = [41, 22] := by kernel_rfl
theorem f32Under : Try.prog.underlying 22 = some (.float .f32) := by kernel_rfl
theorem vecCells : Try.prog.cellsOf 73 = 3 := by kernel_rfl
theorem threadCells : Try.prog.cellsOf 43 = 2 := by kernel_rfl

theorem add_none (b o k : Nat) : (⟨b, o, none⟩ : Addr).add k = ⟨b, o + k, none⟩ := by
  unfold Addr.add
  split
  · rename_i h; subst h; rfl
  · rfl

theorem types_at {fs : Array Field} {l : List TypeId} (h : fs.toList.map (·.type) = l) (j : Nat) (hj : j < l.length) : ∃ f, fs[j]? = some f ∧ f.type = l[j] := by
  subst h
  simp only [List.length_map, Array.length_toList] at hj
  exact ⟨fs[j], Array.getElem?_eq_getElem hj, by simp⟩
theorem types_len {fs : Array Field} {l : List TypeId} (h : fs.toList.map (·.type) = l) : fs.size = l.length := by subst h; simp

theorem okWide_float {P : Program} {w : World} {r : Reach} {base : Nat} {t : TypeId} {v : Value} {k : FloatKind} (ht : P.underlying t = some (.float k)) (h : Value.okWide P w r base t v) : ∃ n, v = .float k n := by
  simp only [Value.okWide, ht, Cell.okWide] at h
  cases v <;> simp_all [Cell.ok]

section
variable {H : Type} {enc : TypeId × Value → H} {w : World} {base : Nat} {spare : Nat → Bool} {held : Bool} {fuel : Nat} {t : TypeId} {cs : List Value} {x : DataW H × List MemPlace}

set_option maxRecDepth 100000 in
theorem open_points (h : DataW.trod enc Try.prog w base spare held fuel 41 cs = some x) :
    ∃ (A : Option Addr) (n cap : Nat) (c : List V3), cs = [.slice A n cap] ∧ c.length = n ∧ n ≤ 9223372036854775807 ∧ VS w A c := by
  rcases open_rows (by kernel_rfl) vecStruct vecOne (vecCells.trans (types_len vecTypes).symm) h with h0 | ⟨a, len, cap, hcs, hl, hm, hc⟩
  · exact ⟨_, _, _, [], h0, rfl, by omega, VS.nil _ _⟩
  · have hsz : (fieldsOf Try.prog 73).size = 3 := types_len vecTypes
    have hcell : ∀ i, i < len → ∀ j, j < 3 → ∃ n, w.cell? (a.add (i * 3 + j)) = some (.float .f32 n) := by
      intro i hi j hj
      obtain ⟨f, hf, hft⟩ := types_at vecTypes j hj
      obtain ⟨v, y, n, h1, h2⟩ := hc i hi j f hf
      rw [hsz] at h1
      have hft' : f.type = 22 := by
        rw [hft]
        match j, hj with
        | 0, _ => rfl
        | 1, _ => rfl
        | 2, _ => rfl
      rw [hft'] at h2
      obtain ⟨m, hm⟩ := trod_float f32Under h2
      simp only [List.cons.injEq, and_true] at hm
      exact ⟨m, by rw [h1, hm]⟩
    have hfun : ∃ g : Nat → Nat → Nat, ∀ i, i < len → ∀ j, j < 3 → w.cell? (a.add (i * 3 + j)) = some (.float .f32 (g i j)) := by
      refine ⟨fun i j => match w.cell? (a.add (i * 3 + j)) with | some (.float .f32 n) => n | _ => 0, fun i hi j hj => ?_⟩
      obtain ⟨n, hn⟩ := hcell i hi j hj
      simp only [hn]
    obtain ⟨g, hg⟩ := hfun
    have hml : maxLen = 9223372036854775807 := by decide
    refine ⟨some a, len, cap, (List.range len).map fun i => cv (g i 0) (g i 1) (g i 2), hcs, by simp, by omega, fun hp => ?_⟩
    simp only [List.length_map, List.length_range] at hp
    have h0 := hg 0 hp 0 (by omega)
    obtain ⟨b, o, sp⟩ := a
    have hspot : sp = none := by simpa [Addr.add] using World.cell?_spot h0
    subst hspot
    refine ⟨b, o, rfl, cell_lt h0, fun i hi => ?_⟩
    simp only [List.length_map, List.length_range] at hi
    refine ⟨g i 0, g i 1, g i 2, ?_, ?_, ?_, ?_⟩
    · have := hg i hi 0 (by omega); rw [add_none] at this; simpa only [Nat.add_assoc, Nat.add_zero] using this
    · have := hg i hi 1 (by omega); rw [add_none] at this; simpa only [Nat.add_assoc, Nat.add_zero] using this
    · have := hg i hi 2 (by omega); rw [add_none] at this; simpa only [Nat.add_assoc, Nat.add_zero] using this
    · simp [List.getD_eq_getElem?_getD, hi]

set_option maxRecDepth 100000 in
theorem open_thread {r : Reach} {b0 : Nat} {v : Value} {d : DataW H} {p : List MemPlace} (hv : Value.okWide Try.prog w r b0 43 v) (h : DataW.Trod enc Try.prog w base spare held 43 v d p) :
    ∃ (A : Option Addr) (cap sp : Nat) (c : List V3), v = .agg #[.slice A c.length cap, .float .f32 sp] ∧ c.length ≤ 9223372036854775807 ∧ VS w A c := by
  obtain ⟨f0, hf0, ht0⟩ := types_at threadTypes 0 (by decide)
  obtain ⟨f1, hf1, ht1⟩ := types_at threadTypes 1 (by decide)
  have hfs : fieldsOf Try.prog 43 = #[f0, f1] := by
    have hsz := types_len threadTypes
    apply Array.ext
    · exact hsz
    · intro i h1 h2
      rw [hsz] at h1
      match i, h1 with
      | 0, _ => simpa using (Array.getElem?_eq_some_iff.1 hf0).2
      | 1, _ => simpa using (Array.getElem?_eq_some_iff.1 hf1).2
  obtain ⟨v0, v1, y0, y1, n, rfl, -, -, h0, h1⟩ := open_agg2 (hfs ▸ threadStruct) (hfs ▸ threadOne) threadCells hv h
  rw [ht0] at h0
  rw [ht1] at h1
  obtain ⟨A, n, cap, c, hA, rfl, hn, hVS⟩ := open_points h0
  obtain ⟨sp, hsp⟩ := trod_float f32Under h1
  simp only [List.cons.injEq, and_true] at hA hsp
  subst hA hsp
  exact ⟨A, cap, sp, c, rfl, hn, hVS⟩

set_option maxRecDepth 100000 in
theorem open_vector {r : Reach} {b0 : Nat} {v : Value} {d : DataW H} {p : List MemPlace} (hv : Value.okWide Try.prog w r b0 73 v) (h : DataW.Trod enc Try.prog w base spare held 73 v d p) :
    ∃ (x y z : Nat), v = .agg #[.float .f32 x, .float .f32 y, .float .f32 z] := by
  obtain ⟨cs, rfl, hsz⟩ := okWide_struct vecStruct hv
  rw [vecCells] at hsz
  obtain ⟨l⟩ := cs
  match l, hsz with
  | [c0, c1, c2], _ =>
    obtain ⟨fuel, hf⟩ := h
    obtain ⟨xs, n, _, hx, _, hlen, hg⟩ := DataW.trod_struct vecStruct hf
    have hk : ∀ j (hj : j < 3), ∃ m, [c0, c1, c2][j]'hj = .float .f32 m := by
      intro j hj
      obtain ⟨f, hfj, hft⟩ := types_at vecTypes j hj
      obtain ⟨ho, hc⟩ := hone_of vecOne j f hfj
      have := hg j f hfj
      have hft' : f.type = 22 := by
        rw [hft]
        match j, hj with
        | 0, _ => rfl
        | 1, _ => rfl
        | 2, _ => rfl
      rw [ho, hc, hft'] at this
      have hl := types_len vecTypes
      have hjx : j < xs.length := by rw [hlen, hl]; exact hj
      rw [List.getElem?_eq_getElem hjx] at this
      obtain ⟨m, hm⟩ := trod_float f32Under this
      refine ⟨m, ?_⟩
      match j, hj with
      | 0, _ => simpa [Value.cells] using hm
      | 1, _ => simpa [Value.cells] using hm
      | 2, _ => simpa [Value.cells] using hm
    obtain ⟨x, hx⟩ := hk 0 (by decide)
    obtain ⟨y, hy⟩ := hk 1 (by decide)
    obtain ⟨z, hz⟩ := hk 2 (by decide)
    simp only [List.getElem_cons_zero, List.getElem_cons_succ] at hx hy hz
    subst hx hy hz
    exact ⟨x, y, z, rfl⟩
end

theorem trod_in {H : Type} {enc : TypeId × Value → H} {P : Program} {t : TypeId} (hl : laidOutB P = true) (hr : P.readableRec t = true) (hrow : t < P.types.size) {W W' : World} {v : Value} {d : DataW H} {ps : List MemPlace} {sp : Nat → Bool}
    (h : DataW.Trod enc P W 0 (fun _ => true) true t v d ps) (hb : Below W.heap.size W W') (hlt : ∀ x ∈ ps, x.block < W.heap.size) (hs : ∀ x ∈ ps, sp x.block = true) : DataW.Trod enc P W' 0 sp true t v d ps :=
  WideElems.Trod_stays hl hr hrow h (fun x hx => hb.same (hlt x hx)) hs

/-- the row's last step, where the call left new blocks and changed nothing that was there -/
theorem post_ext {H : Type} {enc : TypeId × Value → H} {P : Program} {f : Func} {s : ChangeSpec} {apart fresh handsOn again : Bool} {W W' : World} {args : Array Value} {v : Value} {ds gs : List (DataW H)} {before pa pv : List MemPlace}
    (hW : DataW.Whole enc P f.params.toList s.vars apart W args.toList ds gs before)
    (hres : ∀ (b : Nat) (sp : Nat → Bool) (hd : Bool), DataW.TrodAll enc P W' b sp hd f.resultTypes.toList (v.resultList f.resultTypes.size) (s.fn H (ds ++ gs)).results [])
    (hargs : ∀ sp : Nat → Bool, (∀ p ∈ before, sp p.block = true) → DataW.TrodAll enc P W' 0 sp true f.params.toList args.toList (s.fn H (ds ++ gs)).args pa)
    (hvars : ∀ sp : Nat → Bool, (∀ p ∈ before, sp p.block = true) → DataW.TrodVars enc P W' sp s.vars (s.fn H (ds ++ gs)).vars pv)
    (hps : before = pa ++ pv) (hb : Below W.heap.size W W')
    (hok : ∀ (j : Nat) (t : TypeId) (r : Value), f.resultTypes[j]? = some t → (v.resultList f.resultTypes.size)[j]? = some r → Value.okWide P W' .any 0 t r) :
    s.post enc P f apart fresh handsOn again W args v W' := by
  have hlt : ∀ p ∈ before, p.block < W.heap.size := fun p hp => hW.lt p hp
  have hold : ∀ p ∈ before, (fun b => decide (b < W.heap.size)) p.block = true := fun p hp => by simpa using hlt p hp
  refine ⟨ds, gs, before, [], pa, pv, hW, hres _ _ _, hargs _ hold, hvars _ hold, World.keptBut_mono (fun p hp => ⟨hp, ?_⟩) (hb.frame (· ∈ before)), fun _ => ?_⟩
  · rw [hps, List.mem_append] at hp
    exact Or.inr hp
  · obtain ⟨_, _, _, _, _, hz, hn⟩ := hW
    refine ⟨hok, _, _, ([] ++ pa) ++ pv, ⟨[] ++ pa, pv, trodAll_append (hargs _ (fun _ _ => rfl)) (hres _ _ _), hvars _ (fun _ _ => rfl), rfl, ?_, ?_⟩, ?_⟩
    · intro b off hp
      have hin : MemPlace.cell b off ∈ before := by rw [hps]; simpa using hp
      rw [hb.frozen (hlt _ hin)]
      exact hz b off hin
    · intro ha
      have := hn ha
      rw [hps] at this
      simpa using this
    · intro p hp _
      rw [hps]
      simpa using hp
end Go.Proofs.Ytbaohbpfnlicpaa
