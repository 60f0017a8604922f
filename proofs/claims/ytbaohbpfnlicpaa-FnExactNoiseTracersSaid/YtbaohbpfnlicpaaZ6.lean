/- Marks of complex numbers, and their lists: what complex64(complex(float64(k), 1)) is. -/
import Derived.Test.YtbaohbpfnlicpaaZ5
import Derived.Test.YtbaohbpfnlicpaaP5
namespace Go.Proofs.Ytbaohbpfnlicpaa
open Go Go.RowKit
set_option linter.unusedVariables false
set_option linter.unusedSimpArgs false
attribute [local go_sem] run_store_float

/-- the narrowed bits of a number -/
def nar (y : Nat) : Nat := FloatKind.f32.encode (FloatKind.f64.decode y)
/-- narrowing of a small whole number is fixed -/
theorem run_narrow (y : Nat) (hy : ∃ s m p, FloatKind.f64.decode y = .number s m p ∧ mle m p 127) : (∀ w, (Conv.floatToFloat .f64 y .f32).run Try.prog w = .ok (.float .f32 (nar y)) w) ∧ isN .f32 (nar y) = false := by
  obtain ⟨s, m, p, e, h⟩ := hy
  have ho : (FloatKind.f32.decode (FloatKind.f32.encode (.number s m p))).isInfinity = false := by
    have := ovf_narrow y (fun s' m' p' h' => by rw [e] at h'; cases h'; exact h)
    simpa [ovf, e] using this
  unfold nar
  rw [e]
  refine ⟨fun w => by simp [Conv.floatToFloat, e, ho], ?_⟩
  exact read_write FloatKind.f32.format (d := .number s m p) rfl
theorem of_int_mle (k : Int) (h0 : 0 ≤ k) (h1 : k ≤ 2147483648) : ∃ s m p, FloatKind.f64.decode (floatOfInt .f64 k) = .number s m p ∧ mle m p 127 := by
  obtain ⟨m', p', hr, h2⟩ := nearest_mle Ieee.double (by decide) (decide (k < 0)) k.natAbs 0 127 (.inr ⟨by decide, Nat.le_trans (show k.natAbs ≤ 2147483648 by omega) (by decide)⟩) (by decide) (by decide)
  exact ⟨_, m', p', hr, h2⟩
/-- the mark -/
def markC (k : Int) : Value := .complex .f32 (nar (floatOfInt .f64 k)) (nar 4607182418800017408)
theorem markC_run (k : Int) (h0 : 0 ≤ k) (h1 : k ≤ 2147483648) : (∀ w, (convert 100 96 (.complex .f64 (floatOfInt .f64 k) 4607182418800017408)).run Try.prog w = .ok (.complex .f32 (nar (floatOfInt .f64 k)) (nar 4607182418800017408)) w) ∧ isN .f32 (nar (floatOfInt .f64 k)) = false ∧ isN .f32 (nar 4607182418800017408) = false := by
  obtain ⟨hr, nr⟩ := run_narrow _ (of_int_mle k h0 h1)
  obtain ⟨hi, ni⟩ := run_narrow 4607182418800017408 ⟨false, 4503599627370496, -52, by decide, .inr ⟨by decide, by decide⟩⟩
  refine ⟨fun w => ?_, nr, ni⟩
  simp [convert, run_underlying under_c64, run_underlying under_c128, Conv.complexToComplex, hr, hi]
theorem run_store_complex (P : Program) (w : World) (a : Addr) (m : Mode) (k : FloatKind) (b c : Nat) : (store a (.complex k b c) m).run P w = stored P w a (.complex k b c) m := run_store P w a _ m rfl
attribute [local go_sem] run_store_complex
theorem neq_markC {r i : Nat} (hr : isN .f32 r = false) (hi : isN .f32 i = false) (w : World) : (binOp .neq 96 (.complex .f32 r i) (.complex .f32 r i)).run Try.prog w = .ok (.bool false) w := by
  have h1 := order_self .f32 r hr
  have h2 := order_self .f32 i hi
  simp [binOp, Op.complexOp, Op.Complex.cmp, Op.floatCmp, asBool, h1, h2]
/-- n cells hold the marks k, k + 1, .. -/
def MarkedC (w : World) (A : Option Addr) (n : Nat) (k : Int) : Prop :=
  0 < n → ∃ b o, A = some ⟨b, o, none⟩ ∧ b < w.heap.size ∧ ∀ j, j < n → w.cell? ⟨b, o + j, none⟩ = some (markC (k + j))
theorem MarkedC.ext {w w' : World} {A : Option Addr} {n : Nat} {k : Int} (h : MarkedC w A n k) (he : Ext w w') : MarkedC w' A n k := fun hp => by
  obtain ⟨b, o, hA, hb, hc⟩ := h hp
  exact ⟨b, o, hA, Nat.lt_of_lt_of_le hb he.size, fun j hj => (he.cell (p := ⟨b, o + j, none⟩) hb).trans (hc j hj)⟩
structure MarkingC (w : World) (b o n m : Nat) (k : Int) : Prop where
  done : ∀ j, j < m → w.cell? ⟨b, o + j, none⟩ = some (markC (k + j))
  all : ∀ j, j < n → ∃ v, w.cell? ⟨b, o + j, none⟩ = some v
  free : ∀ j, w.frozen? ⟨b, j, none⟩ = false
theorem MarkingC.step {w : World} {b o n m : Nat} {k : Int} (h : MarkingC w b o n m k) (hm : m < n) : MarkingC (w.setCell ⟨b, o + m, none⟩ (markC (k + m))) b o n (m + 1) k := by
  obtain ⟨v0, h0⟩ := h.all m hm
  have far : ∀ j, j ≠ m → (w.setCell ⟨b, o + m, none⟩ (markC (k + m))).cell? ⟨b, o + j, none⟩ = w.cell? ⟨b, o + j, none⟩ := fun j hj =>
    World.cell?_setCell_other w _ _ _ (by simp only [ne_eq, Addr.mk.injEq, not_and]; omega)
  refine ⟨fun j hj => ?_, fun j hj => ?_, fun j => by rw [frozen_setCell]; exact h.free j⟩
  · by_cases e : j = m
    · subst e; exact World.cell?_setCell_same w _ _ h0
    · rw [far j e]; exact h.done j (by omega)
  · by_cases e : j = m
    · subst e; exact ⟨_, World.cell?_setCell_same w _ _ h0⟩
    · rw [far j e]; exact h.all j hj
theorem markComplex64S_any (A : Option Addr) (cap : Nat) (xs : List C2) (k : Int) (B : Nat) (w : World) (hA : CO w B A xs) (h1 : 0 ≤ k) (h2 : k ≤ 1073741824) (hl : xs.length ≤ 1048576) :
    Calls Try.prog 25 #[.slice A xs.length cap, .int .i64 k] w fun e w' =>
      e = .returned (.int .i64 (k + xs.length)) ∧ MarkedC w' A xs.length k ∧ ∃ row, w.grownBy w' row ∧ (∀ g, row = some g → 0 < xs.length ∧ ∃ o, A = some ⟨g, o, none⟩ ∧ B ≤ g ∧ g < w.heap.size) := by
  have HL := Lib.hid hl
  have H1 := Lib.hid h1
  have H2 := Lib.hid h2
  clear hl h2
  by_cases hp : 0 < xs.length
  · obtain ⟨b, o, rfl, hB, hb, hf, hc⟩ := hA hp
    have HM := Lib.hid (show MarkingC w b o xs.length 0 k from ⟨fun j hj => absurd hj (Nat.not_lt_zero j), fun j hj => by obtain ⟨x, y, h, -⟩ := hc j hj; exact ⟨_, h⟩, hf⟩)
    clear hA hf hc
    go_enter Try.func25, Try.ntmps25
    go_wp2_with fail
    go_loopw [1, 5] (fun q i wr => ∃ (m : Nat), m ≤ xs.length ∧ i = .int .i64 m ∧ q = .int .i64 (k + m) ∧ MarkingC wr b o xs.length m k ∧ w.grownBy wr (some b)) (fun _ i _ => xs.length - (intOf i).toNat)
    case atStart => exact ⟨0, Nat.zero_le _, rfl, by simp, HM.out, only_refl _ _⟩
    case round =>
      obtain ⟨m, hm, rfl, rfl, hM, hg⟩ := hrel
      have HM' := Lib.hid hM
      have HG := Lib.hid hg
      clear hM hg
      have hm9 : m < 9223372036854775807 := by have := HL.out; omega
      have hkb : k + m + 1 ≤ 9223372036854775807 := by have := HL.out; have := H2.out; omega
      by_cases hlt : m < xs.length
      · obtain ⟨v0, e0⟩ := HM'.out.all m hlt
        have f0 := HM'.out.free (o + m)
        have hrun := (markC_run (k + m) (by have := H1.out; omega) (by have := H2.out; have := HL.out; omega)).1
        go_wp2_with fail
        exact ⟨⟨m + 1, by omega, by go_num, by go_num, HM'.out.step hlt, only_setCell HG.out rfl _⟩, by simp [intOf]; omega⟩
      · go_wp2_with fail
        have hml : m = xs.length := by omega
        subst hml
        go_ret
        exact ⟨rfl, fun _ => ⟨b, o, rfl, Nat.lt_of_lt_of_le hb HG.out.size, HM'.out.done⟩, some b, HG.out, fun g hg => by injection hg with hg; subst hg; exact ⟨hp, o, rfl, hB, hb⟩⟩
  · have h0 : ¬ (0 : Int) < (xs.length : Int) := by omega
    have H0 : Hid (xs.length = 0) := by show _ = _; omega
    clear hA hp
    go_enter Try.func25, Try.ntmps25
    go_wp2_with fail
    go_loopw [1, 5] (fun q i wr => i = .int .i64 0 ∧ q = .int .i64 k ∧ w = wr) (fun _ _ _ => 0)
    case atStart => exact ⟨rfl, rfl, rfl⟩
    case round =>
      obtain ⟨rfl, rfl, rfl⟩ := hrel
      go_wp2_with fail
      go_ret
      exact ⟨by rw [H0.out]; simp, fun hp => absurd hp (by rw [H0.out]; decide), none, only_refl _ _, fun g hg => by cases hg⟩

theorem heldComplex64S_any (A : Option Addr) (n cap : Nat) (k : Int) (w : World) (hA : MarkedC w A n k) (h1 : 0 ≤ k) (h2 : k ≤ 1073741824) (hl : n ≤ 1048576) :
    Calls Try.prog 26 #[.slice A n cap, .int .i64 k] w fun e w' => w = w' ∧ e = .returned (.int .i64 (k + n)) := by
  have HL := Lib.hid hl
  have H1 := Lib.hid h1
  have H2 := Lib.hid h2
  have HA := Lib.hid hA
  clear hl h2 hA
  go_enter Try.func26, Try.ntmps26
  go_wp2_with fail
  go_loop [1, 5] (fun q i => ∃ (m : Nat), m ≤ n ∧ i = .int .i64 m ∧ q = .int .i64 (k + m)) (fun _ i => n - (intOf i).toNat)
  case atStart => exact ⟨0, Nat.zero_le _, rfl, by simp⟩
  case round =>
    obtain ⟨m, hm, rfl, rfl⟩ := hrel
    have hm9 : m < 9223372036854775807 := by have := HL.out; omega
    have hkb : k + m + 1 ≤ 9223372036854775807 := by have := HL.out; have := H2.out; omega
    by_cases hlt : m < n
    · obtain ⟨b, o, rfl, hb, hc⟩ := HA.out (by omega)
      have c0 : w.cell? ⟨b, o + m, none⟩ = some (.complex .f32 (nar (floatOfInt .f64 (k + m))) (nar 4607182418800017408)) := hc m hlt
      obtain ⟨hrun, hn1, hn2⟩ := markC_run (k + m) (by have := H1.out; omega) (by have := H2.out; have := HL.out; omega)
      have hneq := neq_markC hn1 hn2
      clear hc
      go_wp2_with fail
      exact ⟨⟨m + 1, by omega, by go_num, by go_num⟩, by simp [intOf]; omega⟩
    · go_wp2_with fail
      have hml : m = n := by omega
      subst hml
      go_ret
      exact ⟨rfl, rfl⟩
end Go.Proofs.Ytbaohbpfnlicpaa
