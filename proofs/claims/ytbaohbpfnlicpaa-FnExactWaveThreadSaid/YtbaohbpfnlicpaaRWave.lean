/- The row of FnExactWaveThread, closed: what came in is opened, the walk is laid in, and what stood before the call stands behind it. -/
import Derived.Test.YtbaohbpfnlicpaaLWave
import Derived.Test.YtbaohbpfnlicpaaOpen
import Derived.Test.YtbaohbpfnlicpaaHead
import Derived.OpenShut
import Derived.JoinedCond
namespace Go.Proofs.Ytbaohbpfnlicpaa.rowWaveThread
open Go Go.ChangeShapes Go.WideShapes Go.ChangeAt Go.RowKit
set_option linter.unusedVariables false
set_option linter.unusedSimpArgs false

theorem own : ownKnob Try.prog.godebug = none := by kernel_rfl
theorem rec0 : Try.prog.readableRec 2 = true := by kernel_rfl
theorem rec1 : Try.prog.readableRec 2 = true := by kernel_rfl
theorem rec2 : Try.prog.readableRec 22 = true := by kernel_rfl
theorem rec3 : Try.prog.readableRec 22 = true := by kernel_rfl
theorem rec4 : Try.prog.readableRec 22 = true := by kernel_rfl
set_option maxRecDepth 100000 in
theorem contract (H : Type) (enc : TypeId × Value → H) (W : World) (base : Nat) (args : Array Value) (ds gs : List (DataW H)) (before : List MemPlace)
    (hval : ∀ (j : Nat) t v, Try.f20.params[j]? = some t → args[j]? = some v → Value.okWide Try.prog W .any base t v)
    (hW : DataW.Whole enc Try.prog Try.f20.params.toList Rows.fnExactWaveThreadSpec.vars false W args.toList ds gs before) :
    Calls Try.prog 20 args W fun e W' => ∃ v, e = .returned v ∧ Rows.fnExactWaveThreadSpec.post enc Try.prog Try.f20 false true false false W args v W' := by
  have hW' := hW
  obtain ⟨p, q, hA0, hV, rfl, hfz, hnd⟩ := hW
  have hA : DataW.TrodAll enc Try.prog W 0 (fun _ => true) true [2, 2, 22, 22, 22] args.toList ds p := hA0
  obtain ⟨v0, vs0, d0, ds0, p0, q0, hargs, rfl, rfl, h0, r0⟩ := trodAll_cons hA
  obtain ⟨v1, vs1, d1, ds1, p1, q1, rfl, rfl, rfl, h1, r1⟩ := trodAll_cons r0
  obtain ⟨v2, vs2, d2, ds2, p2, q2, rfl, rfl, rfl, h2, r2⟩ := trodAll_cons r1
  obtain ⟨v3, vs3, d3, ds3, p3, q3, rfl, rfl, rfl, h3, r3⟩ := trodAll_cons r2
  obtain ⟨v4, vs4, d4, ds4, p4, q4, rfl, rfl, rfl, h4, r4⟩ := trodAll_cons r3
  obtain ⟨rfl, rfl, rfl⟩ := trodAll_nil r4
  obtain rfl : args = #[v0, v1, v2, v3, v4] := by cases args; simp_all
  obtain ⟨rfl, rfl⟩ := trodVars_none hV
  simp only [List.append_nil] at hW'
  have hlt : ∀ x ∈ p0 ++ (p1 ++ (p2 ++ (p3 ++ (p4 ++ [])))), x.block < W.heap.size := fun x hx => by have := hW'.lt x; simp only [List.append_nil] at this hx; exact this hx
  have k0 := h0
  have o0 : Value.okWide Try.prog W .any base 2 v0 := hval 0 _ v0 rfl rfl
  obtain ⟨x0, rfl, rfl, rfl, w0⟩ := open_int (P := Try.prog) (k := .i64) (by kernel_rfl) o0 h0
  have b0 : -9223372036854775808 ≤ x0 ∧ x0 ≤ 9223372036854775807 := by simpa [Lit.wf, IntKind.min, IntKind.max, IntKind.signed, IntKind.bits] using w0
  have k1 := h1
  have o1 : Value.okWide Try.prog W .any base 2 v1 := hval 1 _ v1 rfl rfl
  obtain ⟨x1, rfl, rfl, rfl, w1⟩ := open_int (P := Try.prog) (k := .i64) (by kernel_rfl) o1 h1
  have b1 : -9223372036854775808 ≤ x1 ∧ x1 ≤ 9223372036854775807 := by simpa [Lit.wf, IntKind.min, IntKind.max, IntKind.signed, IntKind.bits] using w1
  have k2 := h2
  have o2 : Value.okWide Try.prog W .any base 22 v2 := hval 2 _ v2 rfl rfl
  obtain ⟨x2, rfl⟩ := okWide_float f32Under o2
  have k3 := h3
  have o3 : Value.okWide Try.prog W .any base 22 v3 := hval 3 _ v3 rfl rfl
  obtain ⟨x3, rfl⟩ := okWide_float f32Under o3
  have k4 := h4
  have o4 : Value.okWide Try.prog W .any base 22 v4 := hval 4 _ v4 rfl rfl
  obtain ⟨x4, rfl⟩ := okWide_float f32Under o4
  refine (lawWave x0 x1 x2 x3 x4 W b0 b1).mono fun e W' ⟨he, hr⟩ => ?_
  subst hr
  have hb := he
  refine ⟨_, rfl, post_ext hW' (fun _ _ _ => trodAll_cons_mk (shut_bool (t := 4) (by kernel_rfl) _) trodAll_mk0) (fun sp hsp => (trodAll_cons_mk (trod_in laidOut rec0 (of_decide_eq_true (by kernel_rfl)) k0 hb (fun x hx => hlt x (by first | (simp [hx]; done) | (simp at hx))) (fun x hx => hsp x (by first | (simp [hx]; done) | (simp at hx)))) (trodAll_cons_mk (trod_in laidOut rec1 (of_decide_eq_true (by kernel_rfl)) k1 hb (fun x hx => hlt x (by first | (simp [hx]; done) | (simp at hx))) (fun x hx => hsp x (by first | (simp [hx]; done) | (simp at hx)))) (trodAll_cons_mk (trod_in laidOut rec2 (of_decide_eq_true (by kernel_rfl)) k2 hb (fun x hx => hlt x (by first | (simp [hx]; done) | (simp at hx))) (fun x hx => hsp x (by first | (simp [hx]; done) | (simp at hx)))) (trodAll_cons_mk (trod_in laidOut rec3 (of_decide_eq_true (by kernel_rfl)) k3 hb (fun x hx => hlt x (by first | (simp [hx]; done) | (simp at hx))) (fun x hx => hsp x (by first | (simp [hx]; done) | (simp at hx)))) (trodAll_cons_mk (trod_in laidOut rec4 (of_decide_eq_true (by kernel_rfl)) k4 hb (fun x hx => hlt x (by first | (simp [hx]; done) | (simp at hx))) (fun x hx => hsp x (by first | (simp [hx]; done) | (simp at hx)))) trodAll_mk0)))))) (fun _ _ => rfl) (by simp) hb (ok_one (t := 4) (by kernel_rfl) rfl (okWide_bool_mk (by kernel_rfl) _))⟩

set_option maxRecDepth 100000 in
theorem lifted (os : Os) (started : os.Started) (H : Type) (enc : TypeId × Value → H) :
    ReturnsInHanded {} Try.checked os 20 .any (Rows.fnExactWaveThreadSpec.pre6 enc Try.prog Try.f20 Rows.fnExactWaveThreadRow.domain false) (Rows.fnExactWaveThreadSpec.post enc Try.prog Try.f20 false true false false) := by
  refine returnsInHanded_of_change (C := Try.checked) own started (by kernel_rfl) Try.func20
    (ChangeSpec.witness6 (enc := enc) (C := Try.checked) false ⟨#[], #[.int .i64 0, .int .i64 0, .float .f32 0, .float .f32 0, .float .f32 0], []⟩ 8 (by kernel_rfl) (by kernel_rfl) (by kernel_rfl) (by kernel_rfl)) ?_
  intro W base args ds gs before hval hW _ _
  exact contract H enc W base args ds gs before hval hW

set_option maxRecDepth 100000 in
set_option maxHeartbeats 1000000 in
theorem facts : joinedFacts Try.prog 20 Try.f20 Rows.fnExactWaveThreadSpec Rows.fnExactWaveThreadRow = true := by
  simp only [joinedFacts, Bool.and_eq_true]
  repeat' (with_reducible apply And.intro)
  all_goals first
    | with_reducible exact mayEnter_yes
    | (rw [make_cut]; as_aux_lemma => kernel_rfl)
    | (rw [liftsFinal_no]; as_aux_lemma => kernel_rfl)
    | as_aux_lemma => kernel_rfl
theorem over : Rows.fnExactWaveThreadRow.holds Try.pinned (OpenSpec.ofChange Rows.fnExactWaveThreadSpec) :=
  OpenClaim.holds_of_wide 20 Try.f20 rfl rfl rfl rfl rfl rfl rfl ⟨rfl, rfl, rfl, rfl, rfl⟩ rfl rfl rfl rfl rfl (by as_aux_lemma => kernel_rfl) Try.func20 facts
    (of_decide_eq_true (by as_aux_lemma => kernel_rfl)) (by unfold Func.isWrapper; rw [if_neg (of_decide_eq_false (by as_aux_lemma => kernel_rfl))]; exact ⟨rfl, rfl⟩)
    (fun os started H enc _ => lifted os started H enc)
theorem proved : Rows.FnExactWaveThreadSaid :=
  over
end Go.Proofs.Ytbaohbpfnlicpaa.rowWaveThread
