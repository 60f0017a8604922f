/- Walks: lists of complex numbers found equal. -/
import Derived.Test.YtbaohbpfnlicpaaZ2
import Derived.Test.YtbaohbpfnlicpaaF1
namespace Go.Proofs.Ytbaohbpfnlicpaa
open Go Go.RowKit
set_option linter.unusedVariables false
set_option linter.unusedSimpArgs false
attribute [local go_sem] run_store_float

theorem under_c64 : Try.prog.underlying 96 = some (.complex .f32) := by kernel_rfl
theorem under_c128 : Try.prog.underlying 100 = some (.complex .f64) := by kernel_rfl
/-- the widening of a float32, as the conversion of a complex number does it -/
theorem run_f2f (x : Nat) (w : World) : ∃ r n, (Conv.floatToFloat .f32 x .f64).run Try.prog w = .ok (.float .f64 r) (w.drewN n) ∧ cn .f64 r = wid (cn .f32 x) := by
  obtain ⟨r, n, h1, h2⟩ := run_fconv Try.prog 22 38 .f32 .f64 isF32 Try.underlying38 x (fun _ => ovf_widen _) w
  refine ⟨r, n, ?_, h2⟩
  rw [← h1]
  obtain ⟨u, hs'⟩ := Option.isSome_iff_exists.1 isF32
  cases u <;> simp [convert, run_underlying hs', run_underlying Try.underlying38]
theorem widenC_fun (x y : Nat) : ∃ (r i n : World → Nat), (∀ w, (convert 96 100 (.complex .f32 x y)).run Try.prog w = .ok (.complex .f64 (r w) (i w)) (w.drewN (n w))) ∧ ∀ w, cn .f64 (r w) = wid (cn .f32 x) ∧ cn .f64 (i w) = wid (cn .f32 y) := by
  have h : ∀ w, ∃ r i n, (convert 96 100 (.complex .f32 x y)).run Try.prog w = .ok (.complex .f64 r i) (w.drewN n) ∧ cn .f64 r = wid (cn .f32 x) ∧ cn .f64 i = wid (cn .f32 y) := by
    intro w
    obtain ⟨r, n, h1, h2⟩ := run_f2f x w
    obtain ⟨i, m, h3, h4⟩ := run_f2f y (w.drewN n)
    refine ⟨r, i, n + m, ?_, h2, h4⟩
    simp [convert, run_underlying under_c64, run_underlying under_c128, Conv.complexToComplex, h1, h3]
  exact ⟨fun w => (h w).choose, fun w => (h w).choose_spec.choose, fun w => (h w).choose_spec.choose_spec.choose, fun w => (h w).choose_spec.choose_spec.choose_spec.1, fun w => (h w).choose_spec.choose_spec.choose_spec.2⟩
theorem sameComplex_any (a b c d : Nat) (h1 : cn .f64 c = cn .f64 a) (h2 : cn .f64 d = cn .f64 b) (w : World) :
    Calls Try.prog 85 #[.complex .f64 a b, .complex .f64 c d] w fun e w' => Ext w w' ∧ e = .returned (.bool true) := by
  have H1 := Lib.hid h1
  have H2 := Lib.hid h2
  clear h1 h2
  go_enter Try.func85, Try.ntmps85
  go_wp2_with fail
  refine (sameFloat_any a c H1.out _).mono ?_
  rintro e w1 ⟨he1, rfl⟩
  have HE1 := Lib.hid he1
  clear he1
  go_wp2_with fail
  refine (sameFloat_any b d H2.out _).mono ?_
  rintro e w2 ⟨he2, rfl⟩
  go_wp2_with fail
  go_ret
  exact ⟨Ext.trans HE1.out he2, rfl⟩

set_option maxRecDepth 100000 in
theorem eqComplex64S_any (B1 B2 : Nat) (A B : Option Addr) (ca cb : Nat) (xs : List C2) (w : World) (hA : CO w B1 A xs) (hB : CO w B2 B xs) (hl : xs.length ≤ 1048576) :
    Calls Try.prog 24 #[.slice A xs.length ca, .slice B xs.length cb] w fun e w' => Ext w w' ∧ e = .returned (.bool true) := by
  have HA := Lib.hid hA
  have HB := Lib.hid hB
  have HL := Lib.hid hl
  clear hA hB hl
  go_enter Try.func24, Try.ntmps24
  go_wp2_with fail
  go_loopw [5] (fun i wr => ∃ (k : Nat), k ≤ xs.length ∧ i = .int .i64 k ∧ Below w.heap.size w wr) (fun i _ => xs.length - (intOf i).toNat)
  case atStart => exact ⟨0, Nat.zero_le _, rfl, Ext.rfl' _⟩
  case round =>
    obtain ⟨k, hk, rfl, hbel⟩ := hrel
    have HE := Lib.hid hbel
    clear hbel
    have hk9 : k < 9223372036854775807 := by have := HL.out; omega
    by_cases hlt : k < xs.length
    · obtain ⟨b, o, rfl, -, hbw, -, hc⟩ := HA.out (by omega)
      obtain ⟨x, y, c0, hcv⟩ := hc k hlt
      obtain ⟨b', o', rfl, -, hbw', -, hc'⟩ := HB.out (by omega)
      obtain ⟨x', y', c0', hcv'⟩ := hc' k hlt
      have d0 := (HE.out.cell (p := ⟨b, o + k, none⟩) hbw).trans c0
      have d0' := (HE.out.cell (p := ⟨b', o' + k, none⟩) hbw').trans c0'
      have hxx := hcv'.trans hcv.symm
      simp only [Prod.mk.injEq] at hxx
      clear c0 hc hcv c0' hc' hcv'
      go_wp2_with fail
      obtain ⟨r1, i1, n1, hr1, hv1⟩ := widenC_fun x y
      obtain ⟨r2, i2, n2, hr2, hv2⟩ := widenC_fun x' y'
      have HV1 := Lib.hid hv1
      have HV2 := Lib.hid hv2
      have HXX := Lib.hid hxx
      clear hv1 hv2 hxx
      go_region_law (first
          | (go_simp; go_at_call 85; refine (sameComplex_any _ _ _ _ (by rw [(HV1.out _).1, (HV2.out _).1, HXX.out.1]) (by rw [(HV1.out _).2, (HV2.out _).2, HXX.out.2]) _).mono ?_; rintro e w5 ⟨he5, rfl⟩; have E5 : Ext wr w5 := (by (repeat first | with_reducible exact Ext.rfl' _ | with_reducible refine Ext.drewN ?_ _ | with_reducible refine Ext.drew' ?_ | with_reducible refine Ext.alloc' ?_ _ | with_reducible refine Ext.setCell_at ?_ _ _ _ (by first | exact Nat.le_refl _ | omega) | with_reducible assumption | refine Ext.trans ?_ (by with_reducible assumption)))))
      all_goals
        have HF := Lib.hid (show Below w.heap.size w w5 from HE.out.trans (E5.mono HE.out.size))
        clear E5 he5
        go_wp2_with fail
        exact ⟨⟨k + 1, by omega, by go_num, HF.out⟩, by simp [intOf]; omega⟩
    · go_wp2_with fail
      go_ret
      exact ⟨HE.out, rfl⟩
end Go.Proofs.Ytbaohbpfnlicpaa
