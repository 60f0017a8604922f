/- The row of FnFlatPlates, closed: what came in is opened, the walk is laid in, and what stood before the call stands behind it. -/
import Derived.Test.YtfehhbmmdbpdpaaG11
import Derived.Test.YtfehhbmmdbpdpaaG09
import Derived.Test.YtfehhbmmdbpdpaaG01
import Derived.OpenShut
import Derived.JoinedCond
namespace Go.Proofs.Ytfehhbmmdbpdpaa.rowFnFlatPlates
open Go Go.ChangeShapes Go.WideShapes Go.ChangeAt Go.RowKit
set_option linter.unusedVariables false
set_option linter.unusedSimpArgs false

theorem own : ownKnob Try.prog.godebug = none := by kernel_rfl
theorem rec0 : Try.prog.readableRec 22 = true := by kernel_rfl
theorem rec1 : Try.prog.readableRec 22 = true := by kernel_rfl
set_option maxRecDepth 100000 in
theorem contract (H : Type) (enc : TypeId × Value → H) (W : World) (base : Nat) (args : Array Value) (ds gs : List (DataW H)) (before : List MemPlace)
    (hval : ∀ (j : Nat) t v, Try.f5.params[j]? = some t → args[j]? = some v → Value.okWide Try.prog W .any base t v)
    (hW : DataW.Whole enc Try.prog Try.f5.params.toList Rows.fnFlatPlatesSpec.vars false W args.toList ds gs before) :
    Calls Try.prog 5 args W fun e W' => ∃ v, e = .returned v ∧ Rows.fnFlatPlatesSpec.post enc Try.prog Try.f5 false true false false W args v W' := by
  have hW' := hW
  obtain ⟨p, q, hA0, hV, rfl, hfz, hnd⟩ := hW
  have hA : DataW.TrodAll enc Try.prog W 0 (fun _ => true) true [22, 22] args.toList ds p := hA0
  obtain ⟨v0, vs0, d0, ds0, p0, q0, hargs, rfl, rfl, h0, r0⟩ := trodAll_cons hA
  obtain ⟨v1, vs1, d1, ds1, p1, q1, rfl, rfl, rfl, h1, r1⟩ := trodAll_cons r0
  obtain ⟨rfl, rfl, rfl⟩ := trodAll_nil r1
  obtain rfl : args = #[v0, v1] := by cases args; simp_all
  obtain ⟨rfl, rfl⟩ := trodVars_none hV
  simp only [List.append_nil] at hW'
  have hlt : ∀ x ∈ p0 ++ (p1 ++ []), x.block < W.heap.size := fun x hx => by have := hW'.lt x; simp only [List.append_nil] at this hx; exact this hx
  have k0 := h0
  have o0 : Value.okWide Try.prog W .any base 22 v0 := hval 0 _ v0 rfl rfl
  obtain ⟨A0, n0, cap0, rfl, hy0⟩ := open_bytesY o0 h0
  have k1 := h1
  have o1 : Value.okWide Try.prog W .any base 22 v1 := hval 1 _ v1 rfl rfl
  obtain ⟨A1, n1, cap1, rfl, hy1⟩ := open_bytesY o1 h1
  refine (lawFlat A0 A1 n0 n1 cap0 cap1 W hy0 hy1).mono fun e W' ⟨he, hr⟩ => ?_
  subst hr
  have hb := he
  refine ⟨_, rfl, post_ext hW' (fun _ _ _ => trodAll_cons_mk (shut_bool (t := 4) (by kernel_rfl) _) trodAll_mk0) (fun sp hsp => (trodAll_cons_mk (trod_in laidOut rec0 (of_decide_eq_true (by kernel_rfl)) k0 hb (fun x hx => hlt x (by first | (simp [hx]; done) | (simp at hx))) (fun x hx => hsp x (by first | (simp [hx]; done) | (simp at hx)))) (trodAll_cons_mk (trod_in laidOut rec1 (of_decide_eq_true (by kernel_rfl)) k1 hb (fun x hx => hlt x (by first | (simp [hx]; done) | (simp at hx))) (fun x hx => hsp x (by first | (simp [hx]; done) | (simp at hx)))) trodAll_mk0))) (fun _ _ => rfl) (by simp) hb (ok_one (t := 4) (by kernel_rfl) rfl (okWide_bool_mk (by kernel_rfl) _))⟩

set_option maxRecDepth 100000 in
theorem lifted (os : Os) (started : os.Started) (H : Type) (enc : TypeId × Value → H) :
    ReturnsInHanded {} Try.checked os 5 .any (Rows.fnFlatPlatesSpec.pre6 enc Try.prog Try.f5 Rows.fnFlatPlatesRow.domain false) (Rows.fnFlatPlatesSpec.post enc Try.prog Try.f5 false true false false) := by
  refine returnsInHanded_of_change (C := Try.checked) own started (by kernel_rfl) Try.func5
    (ChangeSpec.witness6 (enc := enc) (C := Try.checked) false ⟨#[], #[.slice none 0 0, .slice none 0 0], []⟩ 8 (by kernel_rfl) (by kernel_rfl) (by kernel_rfl) (by kernel_rfl)) ?_
  intro W base args ds gs before hval hW _ _
  exact contract H enc W base args ds gs before hval hW

set_option maxRecDepth 100000 in
set_option maxHeartbeats 1000000 in
theorem facts : joinedFacts Try.prog 5 Try.f5 Rows.fnFlatPlatesSpec Rows.fnFlatPlatesRow = true := by
  simp only [joinedFacts, Bool.and_eq_true]
  repeat' (with_reducible apply And.intro)
  all_goals first
    | with_reducible exact mayEnter_yes
    | (rw [make_cut]; as_aux_lemma => kernel_rfl)
    | (rw [liftsFinal_no]; as_aux_lemma => kernel_rfl)
    | as_aux_lemma => kernel_rfl
theorem over : Rows.fnFlatPlatesRow.holds Try.pinned (OpenSpec.ofChange Rows.fnFlatPlatesSpec) :=
  OpenClaim.holds_of_wide 5 Try.f5 rfl rfl rfl rfl rfl rfl rfl ⟨rfl, rfl, rfl, rfl, rfl⟩ rfl rfl rfl rfl rfl (by as_aux_lemma => kernel_rfl) Try.func5 facts
    (of_decide_eq_true (by as_aux_lemma => kernel_rfl)) (by unfold Func.isWrapper; rw [if_neg (of_decide_eq_false (by as_aux_lemma => kernel_rfl))]; exact ⟨rfl, rfl⟩)
    (fun os started H enc _ => lifted os started H enc)
theorem proved : Rows.FnFlatPlatesSaid :=
  over
end Go.Proofs.Ytfehhbmmdbpdpaa.rowFnFlatPlates
