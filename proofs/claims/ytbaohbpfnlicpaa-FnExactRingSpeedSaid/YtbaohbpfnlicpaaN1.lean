/- The square root of a float32, and the length of a vector. -/
import Derived.Test.YtbaohbpfnlicpaaW4
import Derived.Test.YtbaohbpfnlicpaaW1
import Derived.Test.YtbaohbpfnlicpaaFb
import Derived.Laws.Externs
namespace Go.Proofs.Ytbaohbpfnlicpaa
open Go Go.RowKit
set_option linter.unusedVariables false
set_option linter.unusedSimpArgs false
attribute [local go_sem] run_store_float

/-- the square root of canonical bits -/
def csqrt (x : Nat) : Nat := match FloatKind.f64.format.sqrt x with | some r => r | none => qn .f64
def rootP (x : Nat) : Nat := fconv .f64 (csqrt (wid x)) .f32
def longP (v : V3) : Nat := rootP (vinner v v)

theorem rootFrom_sq (n : Nat) : ∀ (todo root : Nat), root * root ≤ n → Ieee.Datum.rootFrom n todo root * Ieee.Datum.rootFrom n todo root ≤ n
  | 0, root, h => by simpa [Ieee.Datum.rootFrom] using h
  | todo + 1, root, h => by
    unfold Ieee.Datum.rootFrom
    dsimp only
    split
    · rename_i h'
      exact rootFrom_sq n todo _ h'
    · exact rootFrom_sq n todo _ h
theorem le_of_sq {a b : Nat} (h : a * a ≤ b * b) : a ≤ b := Nat.mul_self_le_mul_self_iff.1 h

theorem root_mle {m : Nat} {i : Int} (hm : m ≠ 0) (h : mle m i 128) {d : Ieee.Datum} (digits : Nat) (hd : Ieee.Datum.root digits (.number false m i) = some d) :
    ∃ m' p', d = .number false m' p' ∧ mle m' p' 127 := by
  unfold Ieee.Datum.root at hd
  simp only [if_neg hm, Bool.false_eq_true, if_false, Option.some.injEq] at hd
  refine ⟨_, _, hd.symm, ?_⟩
  generalize hk : 2 * digits - m.log2 + ((i - ((2 * digits - m.log2 : Nat) : Int)) % 2).toNat = more
  generalize hw : Ieee.Datum.rootFrom (m <<< more) ((m <<< more).log2 / 2 + 1) 0 = whole
  have hsq : whole * whole ≤ m <<< more := by
    rw [← hw]
    exact rootFrom_sq _ _ _ (by simp)
  have hev : (i - (more : Int)) % 2 = 0 := by rw [← hk]; omega
  obtain ⟨hh, hhd⟩ : ∃ hh : Int, i - (more : Int) = 2 * hh := ⟨(i - more) / 2, by omega⟩
  have hdiv : (i - (more : Int)) / 2 = hh := by omega
  rw [hdiv]
  rcases h with h | ⟨h1, h2⟩
  · exact absurd h hm
  · refine .inr ⟨by omega, ?_⟩
    have h3 : m <<< more ≤ 2 ^ (64 - hh).toNat * 2 ^ (64 - hh).toNat := by
      rw [Nat.shiftLeft_eq, ← Nat.pow_add]
      refine Nat.le_trans (Nat.mul_le_mul_right _ h2) ?_
      rw [← Nat.pow_add]
      exact Nat.pow_le_pow_right (by decide) (by omega)
    have h4 : whole ≤ 2 ^ (64 - hh).toNat := le_of_sq (Nat.le_trans hsq h3)
    have h5 : 2 ^ (127 - (hh - 1)).toNat = 2 ^ (64 - hh).toNat * 2 ^ 64 := by rw [← Nat.pow_add]; congr 1; omega
    rw [h5]
    have h6 : 0 < 2 ^ (64 - hh).toNat := Nat.two_pow_pos _
    have h7 : ((whole * whole != m <<< more).toNat) ≤ 1 := by cases (whole * whole != m <<< more) <;> decide
    generalize 2 ^ (64 - hh).toNat = g at *
    have : g * 2 ^ 64 = g * 18446744073709551616 := rfl
    omega

theorem read_qn64 : FloatKind.f64.decode (qn .f64) = FloatKind.f64.decode (qn .f64) := rfl
theorem csqrt_mle (y : Nat) (hy : ∀ s m p, FloatKind.f64.decode y = .number s m p → mle m p 128) {s : Bool} {m : Nat} {p : Int} (h : FloatKind.f64.decode (csqrt y) = .number s m p) : mle m p 127 := by
  have hq : ∀ s m p, FloatKind.f64.decode (qn .f64) ≠ .number s m p := fun s m p he => by
    obtain ⟨s2, t2, e2⟩ := isNaN_iff.1 (isN_qn .f64)
    rw [show FloatKind.f64.decode (qn .f64) = _ from e2] at he
    cases he
  unfold csqrt at h
  unfold Ieee.Format.sqrt at h
  cases e : FloatKind.f64.format.read y with
  | nan s' t' =>
    rw [e] at h
    exact absurd h (hq _ _ _)
  | infinity s' =>
    rw [e] at h
    cases s' with
    | true => exact absurd h (hq _ _ _)
    | false =>
      exfalso
      have : FloatKind.f64.decode (FloatKind.f64.format.write (.infinity false)) = .infinity false := by decide
      simp only [Ieee.Datum.root, Option.map_some, Bool.false_eq_true, if_false] at h
      rw [this] at h
      cases h
  | number s' m' p' =>
    have hm := hy s' m' p' e
    rw [e] at h
    by_cases hz : m' = 0
    · simp only [Ieee.Datum.root, hz, if_true, Option.map_some] at h
      obtain ⟨m2, p2, hr, h2⟩ := nearest_mle Ieee.double (by decide) s' 0 p' 127 (.inl rfl) (by decide) (by decide)
      rw [show FloatKind.f64.decode (FloatKind.f64.format.write (.number s' 0 p')) = .number s' m2 p2 from hr] at h
      cases h
      exact h2
    · cases s' with
      | true =>
        simp only [Ieee.Datum.root, if_neg hz, if_true, Option.map_none] at h
        exact absurd h (hq _ _ _)
      | false =>
        cases hd : Ieee.Datum.root (FloatKind.f64.format.fractionBits + 2) (.number false m' p') with
        | none =>
          rw [hd] at h
          exact absurd h (hq _ _ _)
        | some d =>
          obtain ⟨m2, p2, rfl, h2⟩ := root_mle hz hm _ hd
          rw [hd] at h
          obtain ⟨m3, p3, hr, h3⟩ := nearest_mle Ieee.double (by decide) false m2 p2 127 h2 (by decide) (by decide)
          simp only [Option.map_some] at h
          rw [show FloatKind.f64.decode (FloatKind.f64.format.write (.number false m2 p2)) = .number false m3 p3 from hr] at h
          cases h
          exact h3
theorem wid_mle (c : Nat) (s : Bool) (m : Nat) (p : Int) (h : FloatKind.f64.decode (wid c) = .number s m p) : mle m p 128 := by
  unfold wid fconv at h
  rw [if_neg (by decide)] at h
  cases e : FloatKind.f32.decode c with
  | nan s' t' =>
    rw [e] at h
    obtain ⟨s2, t2, e2⟩ := isNaN_iff.1 (isN_qn .f64)
    dsimp only at h
    rw [show FloatKind.f64.decode (qn .f64) = _ from e2] at h
    cases h
  | infinity s' =>
    rw [e] at h
    have : FloatKind.f64.decode (FloatKind.f64.encode (.infinity s')) = .infinity s' := by cases s' <;> decide
    dsimp only at h
    rw [this] at h
    cases h
  | number s' m' p' =>
    rw [e] at h
    obtain ⟨_, _, h3⟩ := read_mle Ieee.single c e
    obtain ⟨m2, p2, hr, h2⟩ := nearest_mle Ieee.double (by decide) s' m' p' 128 (h3.mono (by decide)) (by decide) (by decide)
    dsimp only at h
    rw [show FloatKind.f64.decode (FloatKind.f64.encode (.number s' m' p')) = .number s' m2 p2 from hr] at h
    cases h
    exact h2
/-- the narrowing of a root is fixed -/
theorem ovf_root (c : Nat) : ovf .f64 (csqrt (wid c)) .f32 = false :=
  ovf_narrow _ fun s m p h => csqrt_mle _ (fun s m p h => wid_mle c s m p h) h

theorem sqrt_fun (X : Nat) : ∃ (r n : World → Nat), (∀ w, (callFunc 203 #[.float .f64 X]).run Try.prog w = .ok (.value (.float .f64 (r w))) (w.drewN (n w))) ∧ ∀ w, cn .f64 (r w) = csqrt (cn .f64 X) := by
  have hex : ∀ w, (callFunc 203 #[.float .f64 X]).run Try.prog w = ((Extern.MathSqrt.sqrt #[.float .f64 X]).run Try.prog w).andThen fun v w' => .ok (.value v) w' := fun w =>
    run_callFunc_extern Try.func203 (by kernel_rfl) (by kernel_rfl) (by kernel_rfl) (e := Extern.MathSqrt.sqrt) (by kernel_rfl) _ w
  have hun : Extern.MathSqrt.sqrt #[.float .f64 X] = (match FloatKind.f64.format.sqrt X with | some r => pure (.float .f64 r) | none => do pure (.float .f64 (← choose (.nanBits .f64 X X)))) := rfl
  have hch : ∀ w, ∃ r n, (callFunc 203 #[.float .f64 X]).run Try.prog w = .ok (.value (.float .f64 r)) (w.drewN n) ∧ cn .f64 r = csqrt (cn .f64 X) := by
    intro w
    rw [hex, hun]
    by_cases hn : isN .f64 X = true
    · obtain ⟨s, t, e⟩ := isNaN_iff.1 hn
      obtain ⟨s2, t2, e2⟩ := isNaN_iff.1 (isN_qn .f64)
      have hs : FloatKind.f64.format.sqrt X = none := by
        unfold Ieee.Format.sqrt
        rw [show FloatKind.f64.format.read X = _ from e]
        rfl
      have hs2 : FloatKind.f64.format.sqrt (qn .f64) = none := by
        unfold Ieee.Format.sqrt
        rw [show FloatKind.f64.format.read (qn .f64) = _ from e2]
        rfl
      refine ⟨(Question.nanBits .f64 X X).cut (w.tape w.drawn (.nanBits .f64 X X)), 1, ?_, ?_⟩
      · rw [← World.drew_is_drewN]
        simp [hs, Question.forced]
      · rw [cn_of (isN_choice .f64 X X _), cn_of hn]
        unfold csqrt
        rw [hs2]
    · have hn' : isN .f64 X = false := by simpa using hn
      rw [cn_of_not hn']
      cases hs : FloatKind.f64.format.sqrt X with
      | some r =>
        refine ⟨r, 0, by simp [hs, World.drewN_zero], ?_⟩
        unfold csqrt
        rw [hs]
        refine cn_of_not ?_
        unfold Ieee.Format.sqrt at hs
        cases hd : (FloatKind.f64.format.read X).root (FloatKind.f64.format.fractionBits + 2) with
        | none => rw [hd] at hs; cases hs
        | some d =>
          rw [hd] at hs
          simp only [Option.map_some, Option.some.injEq] at hs
          rw [← hs]
          refine read_write _ ?_
          cases hx : FloatKind.f64.format.read X with
          | nan s t => rw [hx] at hd; cases hd
          | infinity s => rw [hx] at hd; cases s <;> simp [Ieee.Datum.root] at hd; rw [← hd]; rfl
          | number s m p =>
            rw [hx] at hd
            simp only [Ieee.Datum.root] at hd
            split at hd
            · cases hd; rfl
            · split at hd
              · cases hd
              · cases hd; rfl
      | none =>
        refine ⟨(Question.nanBits .f64 X X).cut (w.tape w.drawn (.nanBits .f64 X X)), 1, ?_, ?_⟩
        · rw [← World.drew_is_drewN]
          simp [hs, Question.forced]
        · unfold csqrt
          rw [hs, cn_of (isN_choice .f64 X X _)]
  exact ⟨fun w => Classical.choose (hch w), fun w => Classical.choose (Classical.choose_spec (hch w)), fun w => (Classical.choose_spec (Classical.choose_spec (hch w))).1, fun w => (Classical.choose_spec (Classical.choose_spec (hch w))).2⟩

theorem Sqrt_any (X : Nat) (w : World) : Calls Try.prog 200 #[.float .f64 X] w fun e w' => Ext w w' ∧ ∃ r, e = .returned (.float .f64 r) ∧ cn .f64 r = csqrt (cn .f64 X) := by
  obtain ⟨r, n, hrun, hr⟩ := sqrt_fun X
  have HR := Lib.hid hr
  clear hr
  go_enter Try.func200, Try.ntmps200
  go_wp2_with fail
  go_ret
  exact ⟨by (repeat first | with_reducible exact Ext.rfl' _ | with_reducible refine Ext.drewN ?_ _ | with_reducible refine Ext.drew' ?_ | with_reducible refine Ext.alloc' ?_ _ | with_reducible refine Ext.setCell_at ?_ _ _ _ (by first | exact Nat.le_refl _ | omega) | with_reducible assumption | refine Ext.trans ?_ (by with_reducible assumption)), _, rfl, HR.out _⟩
end Go.Proofs.Ytbaohbpfnlicpaa
