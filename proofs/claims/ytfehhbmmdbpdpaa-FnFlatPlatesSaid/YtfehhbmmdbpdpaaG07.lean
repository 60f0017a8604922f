/- Walks: lengths and products of complex numbers, nearly. -/
import Derived.Test.YtfehhbmmdbpdpaaG06
import Derived.Test.YtfehhbmmdbpdpaaG03
import Derived.Laws.Externs
import Derived.Laws.OwnMore
import Derived.BigRegion
import Derived.Deep.DeepCutAuto
import Derived.Deep.AppendLies
import Derived.Deep.RegionLaw
import Derived.Test.YtfehhbmmdbpdpaaG05
import Derived.Laws.BitsAllLaws
namespace Go.Proofs.Ytfehhbmmdbpdpaa
open Go Go.RowKit
set_option linter.unusedVariables false
set_option linter.unusedSimpArgs false
attribute [local go_sem] run_store_float run_store_complex

theorem write_nonneg {k : FloatKind} {s : Bool} {m : Nat} {p E : Int} {u : Rat} (hv : 0 ≤ rat s m p) (hu : Val k (k.format.nearest s m p) u) (h : (rat s m p).abs ≤ pw E) (hlo : -90 ≤ E) (hhi : E ≤ 127) : 0 ≤ u := by
  cases s
  · rw [rat_abs] at h
    exact read_nonneg (E := E) rfl hu (mle_rat.2 h) hlo hhi
  · have hm : m = 0 := by
      by_cases h0 : m = 0
      · exact h0
      · exfalso
        have h1 : (0 : Rat) < (m : Rat) := Rat.natCast_pos.2 (by omega)
        have h2 := Rat.mul_pos h1 (pw_pos p)
        unfold rat sgnM at hv
        simp only [if_true] at hv
        grind
    subst hm
    have hz := write_exact k true 0 0 (by decide) (by cases k <;> decide) (by decide)
    have e : rat true 0 0 = 0 := by decide +kernel
    have e2 : k.format.nearest true 0 p = k.format.nearest true 0 0 := by unfold Ieee.Format.nearest; rw [if_pos rfl, if_pos rfl]
    rw [e2] at hu
    have := hu.unique hz
    rw [this, e]
    exact Rat.le_refl
theorem val_sq {x : Nat} {a : Rat} (hx : Val .f64 x a) (E : Int) (h : (a * a).abs ≤ pw E) (hlo : -90 ≤ E) (hhi : E ≤ 127) :
    ∃ r u, floatBits .mul .f64 x x = some r ∧ Val .f64 r u ∧ (u - a * a).abs ≤ pw (E - 53) ∧ u.abs ≤ pw E ∧ 0 ≤ u := by
  obtain ⟨-, s, m, i, e1, rfl⟩ := hx
  obtain ⟨u, h1, h2, h3⟩ := datum_val .f64 (product_val s s m m i i) E h hlo hhi
  refine ⟨_, u, ?_, h1, h2, h3, ?_⟩
  · unfold floatBits Ieee.Format.mul
    rw [show FloatKind.f64.format.read x = _ from e1]
    rfl
  · refine write_nonneg (E := E) ?_ h1 (by rw [product_val]; exact h) hlo hhi
    rw [product_val]
    rcases Rat.le_total (a := 0) (b := rat s m i) with hc | hc
    · exact Rat.mul_nonneg hc hc
    · have := Rat.mul_nonneg (show 0 ≤ -rat s m i by grind) (show 0 ≤ -rat s m i by grind)
      grind
theorem val_add0 {x y : Nat} {a b : Rat} (hx : Val .f64 x a) (hy : Val .f64 y b) (ha : 0 ≤ a) (hb : 0 ≤ b) (E : Int) (h : (a + b).abs ≤ pw E) (hlo : -90 ≤ E) (hhi : E ≤ 127) :
    ∃ r u, floatBits .add .f64 x y = some r ∧ Val .f64 r u ∧ (u - (a + b)).abs ≤ pw (E - 53) ∧ u.abs ≤ pw E ∧ 0 ≤ u := by
  obtain ⟨-, s, m, i, e1, rfl⟩ := hx
  obtain ⟨-, t, n, j, e2, rfl⟩ := hy
  obtain ⟨z, M, p, hs, hv⟩ := sum_val s t m n i j
  obtain ⟨u, h1, h2, h3⟩ := datum_val .f64 hv E h hlo hhi
  refine ⟨_, u, ?_, h1, h2, h3, ?_⟩
  · unfold floatBits Ieee.Format.add
    rw [show FloatKind.f64.format.read x = _ from e1, show FloatKind.f64.format.read y = _ from e2, hs]
    rfl
  · exact write_nonneg (E := E) (by rw [hv]; grind) h1 (by rw [hv]; exact h) hlo hhi
/-- the sum of two squares -/
theorem val_power {x y : Nat} {a b : Rat} (hx : Val .f64 x a) (hy : Val .f64 y b) (ha : a.abs ≤ 4) (hb : b.abs ≤ 4) :
    ∃ p q r u, floatBits .mul .f64 x x = some p ∧ floatBits .mul .f64 y y = some q ∧ floatBits .add .f64 p q = some r ∧ Val .f64 r u ∧ 0 ≤ u ∧ u ≤ 64 ∧ (u - (a * a + b * b)).abs ≤ 1 / 35184372088832 := by
  have e4 : pw 4 = 16 := by decide +kernel
  obtain ⟨p, P, p1, p2, p3, p4, p5⟩ := val_sq hx 4 (by rw [e4]; have := mul_abs_le ha ha; grind) (by decide) (by decide)
  obtain ⟨q, Q, q1, q2, q3, q4, q5⟩ := val_sq hy 4 (by rw [e4]; have := mul_abs_le hb hb; grind) (by decide) (by decide)
  rw [e4] at p4 q4
  have k1 := abs_le.1 p4
  have k2 := abs_le.1 q4
  have e7 : pw 6 = 64 := by decide +kernel
  obtain ⟨r, u, r1, r2, r3, r4, r5⟩ := val_add0 p2 q2 p5 q5 6 (by rw [e7]; exact abs_le.2 ⟨by grind, by grind⟩) (by decide) (by decide)
  have e9 : pw (4 - 53) = 1 / 562949953421312 := by decide +kernel
  have e10 : pw (6 - 53) = 1 / 140737488355328 := by decide +kernel
  rw [e9] at p3 q3
  rw [e10] at r3
  rw [e7] at r4
  have k3 := abs_le.1 p3
  have k4 := abs_le.1 q3
  have k5 := abs_le.1 r3
  have k6 := abs_le.1 r4
  exact ⟨p, q, r, u, p1, q1, r1, r2, r5, by grind, abs_le.2 ⟨by grind, by grind⟩⟩
/-- a length, nearly: the root of nearly the power -/
def Long (a b u : Rat) : Prop := ∃ d : Rat, 0 ≤ d ∧ (d * d - (a * a + b * b)).abs ≤ 1 / 549755813888 ∧ (u - d).abs ≤ 1 / 1048576
theorem val_long {r : Nat} {a b u : Rat} (hr : Val .f64 r u) (h0 : 0 ≤ u) (h64 : u ≤ 64) (hp : (u - (a * a + b * b)).abs ≤ 1 / 35184372088832) :
    ∃ s t T, FloatKind.f64.format.sqrt r = some s ∧ Val .f32 t T ∧ Long a b T ∧ ∀ w, (convert 52 34 (.float .f64 s)).run Try.prog w = .ok (.float .f32 t) w := by
  have e8 : pw (2 * 3) = 64 := by decide +kernel
  obtain ⟨s, S, s1, s2, s3, s4⟩ := val_sqrt hr h0 3 (by rw [e8]; exact h64) (by decide) (by decide)
  have e9 : pw (2 * 3 - 48) = 1 / 4398046511104 := by decide +kernel
  rw [e9] at s4
  have hS : S ≤ 8 + 1 / 1024 := by
    refine sq_le s3 (by decide +kernel) ?_
    have := abs_le.1 s4
    grind
  have hS8 : S * S ≤ 64 + 1 / 4398046511104 := by
    have := abs_le.1 s4
    grind
  have e5 : pw 4 = 16 := by decide +kernel
  obtain ⟨t, T, t1, t2, -, t3⟩ := val_narrow s2 4 (by rw [e5, Rat.abs_of_nonneg s3]; grind) (by decide) (by decide)
  have e10 : pw (4 - 24) = 1 / 1048576 := by decide +kernel
  rw [e10] at t2
  refine ⟨s, t, T, s1, t1, ⟨S, s3, ?_, t2⟩, t3⟩
  have k1 := abs_le.1 s4
  have k2 := abs_le.1 hp
  exact abs_le.2 ⟨by grind, by grind⟩
theorem run_sqrt_V {x s : Nat} (h : FloatKind.f64.format.sqrt x = some s) (w : World) : (callFunc 119 #[.float .f64 x]).run Try.prog w = .ok (.value (.float .f64 s)) w := by
  rw [run_callFunc_extern Try.func119 (by kernel_rfl) (by kernel_rfl) (by kernel_rfl) (e := Extern.MathSqrt.sqrt) (by kernel_rfl)]
  have hun : Extern.MathSqrt.sqrt #[.float .f64 x] = (match FloatKind.f64.format.sqrt x with | some r => pure (.float .f64 r) | none => do pure (.float .f64 (← choose (.nanBits .f64 x x)))) := rfl
  rw [hun, h]
  rfl
theorem Sqrt_V {x s : Nat} (h : FloatKind.f64.format.sqrt x = some s) (w : World) : Calls Try.prog 101 #[.float .f64 x] w fun e w' => w' = w ∧ e = .returned (.float .f64 s) := by
  have h1 := fun w => run_sqrt_V h w
  clear h
  go_enter Try.func101, Try.ntmps101
  go_wp2_with fail
  go_ret
  exact ⟨rfl, rfl⟩
set_option maxRecDepth 100000 in
theorem wide_V {x y p q : Nat} (hp : ∀ w, (convert 34 52 (.float .f32 x)).run Try.prog w = .ok (.float .f64 p) w) (hq : ∀ w, (convert 34 52 (.float .f32 y)).run Try.prog w = .ok (.float .f64 q) w) (w : World) :
    Calls Try.prog 80 #[.complex .f32 x y] w fun e w' => w' = w ∧ e = .returned (.tuple #[.float .f64 p, .float .f64 q]) := by
  go_enter Try.func80, Try.ntmps80
  go_wp2_with fail
  go_ret2
  exact ⟨rfl, rfl⟩
set_option maxRecDepth 100000 in
theorem LongOf_V {x y : Nat} {a b : Rat} (hx : Val .f32 x a) (hy : Val .f32 y b) (ha : a.abs ≤ 4) (hb : b.abs ≤ 4) (w : World) :
    Calls Try.prog 60 #[.complex .f32 x y] w fun e w' => w' = w ∧ ∃ t T, e = .returned (.float .f32 t) ∧ Val .f32 t T ∧ Long a b T := by
  obtain ⟨p, p1, p2⟩ := val_wide hx
  obtain ⟨q, q1, q2⟩ := val_wide hy
  obtain ⟨m, n, r, u, m1, n1, r1, r2, r3, r4, r5⟩ := val_power p1 q1 ha hb
  obtain ⟨s, t, T, s1, t1, t2, t3⟩ := val_long r2 r3 r4 r5
  have HT := Lib.hid t1
  have HL := Lib.hid t2
  have hwide := fun w => wide_V p2 q2 w
  have HW := Lib.hid hwide
  have HS := Lib.hid (fun w => Sqrt_V s1 w)
  have hpow : ∀ w, Calls Try.prog 43 #[.complex .f32 x y] w fun e w' => w' = w ∧ e = .returned (.float .f64 r) := fun w => by
    clear hwide t3 t1 t2 r2 r3 r4 r5 p1 q1 s1
    go_enter Try.func43, Try.ntmps43
    go_wp2_with fail
    refine (HW.out _).mono ?_
    rintro e w1 ⟨rfl, rfl⟩
    go_wp2_with (first
      | (refine wpList_floatD rfl .mul _ _ _ _ rfl (by simp) _ _ _ rfl rfl _ m1 ?_)
      | (refine wpList_floatD rfl .mul _ _ _ _ rfl (by simp) _ _ _ rfl rfl _ n1 ?_)
      | (refine wpList_floatD rfl .add _ _ _ _ rfl (by simp) _ _ _ rfl rfl _ r1 ?_))
    go_ret
    exact ⟨rfl, rfl⟩
  have HP := Lib.hid hpow
  clear hwide t1 t2 r2 r3 r4 r5 p1 q1 s1 hpow m1 n1 r1 p2 q2 hx hy ha hb
  go_enter Try.func60, Try.ntmps60
  go_wp2_with fail
  refine (HP.out _).mono ?_
  rintro e w1 ⟨rfl, rfl⟩
  go_wp2_with fail
  refine (HS.out _).mono ?_
  rintro e w2 ⟨rfl, rfl⟩
  go_wp2_with fail
  go_ret
  exact ⟨rfl, t, T, rfl, HT.out, HL.out⟩
end Go.Proofs.Ytfehhbmmdbpdpaa
/- Walks: products of complex numbers, lengths by the reference, whether a length is right; nearly. -/
namespace Go.Proofs.Ytfehhbmmdbpdpaa
open Go Go.RowKit
set_option linter.unusedVariables false
set_option linter.unusedSimpArgs false
attribute [local go_sem] run_store_float run_store_complex

/-- one part of a product -/
theorem val_dotS {x y z t : Nat} {a b c d : Rat} (hx : Val .f64 x a) (hy : Val .f64 y b) (hz : Val .f64 z c) (ht : Val .f64 t d) (ha : a.abs ≤ 4) (hb : b.abs ≤ 2) (hc : c.abs ≤ 4) (hd : d.abs ≤ 2) :
    ∃ p q r n R, floatBits .mul .f64 x y = some p ∧ floatBits .mul .f64 z t = some q ∧ floatBits .sub .f64 p q = some r ∧ Val .f32 n R ∧ (R - (a * b - c * d)).abs ≤ 1 / 1000000 ∧ ∀ w, (convert 52 34 (.float .f64 r)).run Try.prog w = .ok (.float .f32 n) w := by
  have e3 : pw 3 = 8 := by decide +kernel
  obtain ⟨p, P, p1, p2, p3, p4⟩ := val_mul hx hy 3 (by rw [e3]; have := mul_abs_le ha hb; grind) (by decide) (by decide)
  obtain ⟨q, Q, q1, q2, q3, q4⟩ := val_mul hz ht 3 (by rw [e3]; have := mul_abs_le hc hd; grind) (by decide) (by decide)
  rw [e3] at p4 q4
  have k1 := abs_le.1 p4
  have k2 := abs_le.1 q4
  have e4 : pw 4 = 16 := by decide +kernel
  obtain ⟨r, U, r1, r2, r3, r4⟩ := val_sub p2 q2 4 (by rw [e4]; exact abs_le.2 ⟨by grind, by grind⟩) (by decide) (by decide)
  obtain ⟨n, R, n1, n2, -, n3⟩ := val_narrow r2 4 r4 (by decide) (by decide)
  have e5 : pw (3 - eps .f64) = 1 / 1125899906842624 := by decide +kernel
  have e6 : pw (4 - eps .f64) = 1 / 562949953421312 := by decide +kernel
  have e7 : pw (4 - 24) = 1 / 1048576 := by decide +kernel
  rw [e5] at p3 q3
  rw [e6] at r3
  rw [e7] at n2
  have k3 := abs_le.1 p3
  have k4 := abs_le.1 q3
  have k5 := abs_le.1 r3
  have k6 := abs_le.1 n2
  exact ⟨p, q, r, n, R, p1, q1, r1, n1, abs_le.2 ⟨by grind, by grind⟩, n3⟩
theorem val_dotA {x y z t : Nat} {a b c d : Rat} (hx : Val .f64 x a) (hy : Val .f64 y b) (hz : Val .f64 z c) (ht : Val .f64 t d) (ha : a.abs ≤ 4) (hb : b.abs ≤ 2) (hc : c.abs ≤ 4) (hd : d.abs ≤ 2) :
    ∃ p q r n R, floatBits .mul .f64 x y = some p ∧ floatBits .mul .f64 z t = some q ∧ floatBits .add .f64 p q = some r ∧ Val .f32 n R ∧ (R - (a * b + c * d)).abs ≤ 1 / 1000000 ∧ ∀ w, (convert 52 34 (.float .f64 r)).run Try.prog w = .ok (.float .f32 n) w := by
  have e3 : pw 3 = 8 := by decide +kernel
  obtain ⟨p, P, p1, p2, p3, p4⟩ := val_mul hx hy 3 (by rw [e3]; have := mul_abs_le ha hb; grind) (by decide) (by decide)
  obtain ⟨q, Q, q1, q2, q3, q4⟩ := val_mul hz ht 3 (by rw [e3]; have := mul_abs_le hc hd; grind) (by decide) (by decide)
  rw [e3] at p4 q4
  have k1 := abs_le.1 p4
  have k2 := abs_le.1 q4
  have e4 : pw 4 = 16 := by decide +kernel
  obtain ⟨r, U, r1, r2, r3, r4⟩ := val_add p2 q2 4 (by rw [e4]; exact abs_le.2 ⟨by grind, by grind⟩) (by decide) (by decide)
  obtain ⟨n, R, n1, n2, -, n3⟩ := val_narrow r2 4 r4 (by decide) (by decide)
  have e5 : pw (3 - eps .f64) = 1 / 1125899906842624 := by decide +kernel
  have e6 : pw (4 - eps .f64) = 1 / 562949953421312 := by decide +kernel
  have e7 : pw (4 - 24) = 1 / 1048576 := by decide +kernel
  rw [e5] at p3 q3
  rw [e6] at r3
  rw [e7] at n2
  have k3 := abs_le.1 p3
  have k4 := abs_le.1 q3
  have k5 := abs_le.1 r3
  have k6 := abs_le.1 n2
  exact ⟨p, q, r, n, R, p1, q1, r1, n1, abs_le.2 ⟨by grind, by grind⟩, n3⟩
set_option maxRecDepth 100000 in
theorem MulComplex_V {x y z t : Nat} {a b c d : Rat} (hx : Val .f32 x a) (hy : Val .f32 y b) (hz : Val .f32 z c) (ht : Val .f32 t d) (ha : a.abs ≤ 4) (hb : b.abs ≤ 4) (hc : c.abs ≤ 2) (hd : d.abs ≤ 2) (w : World) :
    Calls Try.prog 40 #[.complex .f32 x y, .complex .f32 z t] w fun e w' => w' = w ∧ ∃ m n R I, e = .returned (.complex .f32 m n) ∧ Val .f32 m R ∧ Val .f32 n I ∧ (R - (a * c - b * d)).abs ≤ 1 / 1000000 ∧ (I - (a * d + b * c)).abs ≤ 1 / 1000000 := by
  obtain ⟨x1, p1, p2⟩ := val_wide hx
  obtain ⟨y1, q1, q2⟩ := val_wide hy
  obtain ⟨z1, r1, r2⟩ := val_wide hz
  obtain ⟨t1, s1, s2⟩ := val_wide ht
  obtain ⟨m1, m2, m3, m, R, g1, g2, g3, g4, g5, g6⟩ := val_dotS p1 r1 q1 s1 ha hc hb hd
  obtain ⟨n1, n2, n3, n, I, h1, h2, h3, h4, h5, h6⟩ := val_dotA p1 s1 q1 r1 ha hd hb hc
  have HA := Lib.hid (fun w => wide_V p2 q2 w)
  have HB := Lib.hid (fun w => wide_V r2 s2 w)
  have HR := Lib.hid g4
  have HI := Lib.hid h4
  have HR2 := Lib.hid g5
  have HI2 := Lib.hid h5
  clear p1 p2 q1 q2 r1 r2 s1 s2 g4 g5 h4 h5 hx hy hz ht ha hb hc hd
  go_enter Try.func40, Try.ntmps40
  go_wp2_with fail
  refine (HA.out _).mono ?_
  rintro e w1 ⟨rfl, rfl⟩
  go_wp2_with fail
  refine (HB.out _).mono ?_
  rintro e w2 ⟨rfl, rfl⟩
  go_wp2_with (first
    | (refine wpList_floatD rfl .mul _ _ _ _ rfl (by simp) _ _ _ rfl rfl _ g1 ?_)
    | (refine wpList_floatD rfl .mul _ _ _ _ rfl (by simp) _ _ _ rfl rfl _ g2 ?_)
    | (refine wpList_floatD rfl .sub _ _ _ _ rfl (by simp) _ _ _ rfl rfl _ g3 ?_)
    | (refine wpList_floatD rfl .mul _ _ _ _ rfl (by simp) _ _ _ rfl rfl _ h1 ?_)
    | (refine wpList_floatD rfl .mul _ _ _ _ rfl (by simp) _ _ _ rfl rfl _ h2 ?_)
    | (refine wpList_floatD rfl .add _ _ _ _ rfl (by simp) _ _ _ rfl rfl _ h3 ?_))
  go_ret
  exact ⟨rfl, m, n, R, I, rfl, HR.out, HI.out, HR2.out, HI2.out⟩
set_option maxRecDepth 100000 in
theorem specLongOf_V {x y : Nat} {a b : Rat} (hx : Val .f32 x a) (hy : Val .f32 y b) (ha : a.abs ≤ 4) (hb : b.abs ≤ 4) (w : World) :
    Calls Try.prog 30 #[.complex .f32 x y] w fun e w' => w' = w ∧ ∃ t T, e = .returned (.float .f32 t) ∧ Val .f32 t T ∧ Long a b T := by
  obtain ⟨p, p1, p2⟩ := val_wide hx
  obtain ⟨q, q1, q2⟩ := val_wide hy
  obtain ⟨m, n, r, u, m1, n1, r1, r2, r3, r4, r5⟩ := val_power p1 q1 ha hb
  obtain ⟨s, t, T, s1, t1, t2, t3⟩ := val_long r2 r3 r4 r5
  have HT := Lib.hid t1
  have HL := Lib.hid t2
  have HS := Lib.hid (fun w => Sqrt_V s1 w)
  have hpow : ∀ w, Calls Try.prog 104 #[.complex .f32 x y] w fun e w' => w' = w ∧ e = .returned (.float .f64 r) := fun w => by
    clear t3 t1 t2 r2 r3 r4 r5 p1 q1 s1
    go_enter Try.func104, Try.ntmps104
    go_wp2_with (first
      | (refine wpList_floatD rfl .mul _ _ _ _ rfl (by simp) _ _ _ rfl rfl _ m1 ?_)
      | (refine wpList_floatD rfl .mul _ _ _ _ rfl (by simp) _ _ _ rfl rfl _ n1 ?_)
      | (refine wpList_floatD rfl .add _ _ _ _ rfl (by simp) _ _ _ rfl rfl _ r1 ?_))
    go_ret
    exact ⟨rfl, rfl⟩
  have hnar : ∀ w, Calls Try.prog 103 #[.float .f64 s] w fun e w' => w' = w ∧ e = .returned (.float .f32 t) := fun w => by
    clear hpow t1 t2 r2 r3 r4 r5 p1 q1 s1
    go_enter Try.func103, Try.ntmps103
    go_wp2_with fail
    go_ret
    exact ⟨rfl, rfl⟩
  have HP := Lib.hid hpow
  have HN := Lib.hid hnar
  clear hnar t1 t2 t3 r2 r3 r4 r5 p1 q1 s1 hpow m1 n1 r1 p2 q2 hx hy ha hb
  have hlong : ∀ w, Calls Try.prog 68 #[.complex .f32 x y] w fun e w' => w' = w ∧ e = .returned (.float .f32 t) := fun w => by
    go_enter Try.func68, Try.ntmps68
    go_wp2_with fail
    refine (HP.out _).mono ?_
    rintro e w1 ⟨rfl, rfl⟩
    go_wp2_with fail
    refine (HS.out _).mono ?_
    rintro e w2 ⟨rfl, rfl⟩
    go_wp2_with fail
    refine (HN.out _).mono ?_
    rintro e w3 ⟨rfl, rfl⟩
    go_wp2_with fail
    go_ret
    exact ⟨rfl, rfl⟩
  have HLG := Lib.hid hlong
  clear hlong
  go_enter Try.func30, Try.ntmps30
  go_wp2_with fail
  refine (HLG.out _).mono ?_
  rintro e w1 ⟨rfl, rfl⟩
  go_wp2_with fail
  go_ret
  exact ⟨rfl, t, T, rfl, HT.out, HL.out⟩
set_option maxRecDepth 100000 in
theorem Scale_V {x y s : Nat} {a b c : Rat} (hx : Val .f32 x a) (hy : Val .f32 y b) (hs : Val .f32 s c) (h1 : (a * c).abs ≤ 4) (h2 : (b * c).abs ≤ 4) (w : World) :
    Calls Try.prog 90 #[.complex .f32 x y, .float .f32 s] w fun e w' => w' = w ∧ ∃ m n R I, e = .returned (.complex .f32 m n) ∧ Val .f32 m R ∧ Val .f32 n I ∧ (R - a * c).abs ≤ 1 / 4194304 ∧ (I - b * c).abs ≤ 1 / 4194304 := by
  have e2 : pw 2 = 4 := by decide +kernel
  have e3 : pw (2 - eps .f32) = 1 / 4194304 := by decide +kernel
  obtain ⟨m, R, m1, m2, m3, -⟩ := val_mul hx hs 2 (by rw [e2]; exact h1) (by decide) (by decide)
  obtain ⟨n, I, n1, n2, n3, -⟩ := val_mul hy hs 2 (by rw [e2]; exact h2) (by decide) (by decide)
  rw [e3] at m3 n3
  have HR := Lib.hid m2
  have HI := Lib.hid n2
  have HR2 := Lib.hid m3
  have HI2 := Lib.hid n3
  clear m2 m3 n2 n3 hx hy hs h1 h2 e2 e3
  go_enter Try.func90, Try.ntmps90
  go_wp2_with (first
    | (refine wpList_floatD rfl .mul _ _ _ _ rfl (by simp) _ _ _ rfl rfl _ m1 ?_)
    | (refine wpList_floatD rfl .mul _ _ _ _ rfl (by simp) _ _ _ rfl rfl _ n1 ?_))
  go_ret
  exact ⟨rfl, m, n, R, I, rfl, HR.out, HI.out, HR2.out, HI2.out⟩
set_option maxRecDepth 100000 in
theorem toldNumber_V {x : Nat} (hx : Num x) (w : World) : Calls Try.prog 61 #[.float .f32 x] w fun e w' => Ext w w' ∧ e = .returned (.tuple #[.float .f32 x, .bool true]) := by
  go_enter Try.func61, Try.ntmps61
  go_wp2_with fail
  refine (IsFinite_V hx _).mono ?_
  rintro e w1 ⟨he, rfl⟩
  go_wp2_with fail
  go_ret2
  exact ⟨he, rfl⟩
end Go.Proofs.Ytfehhbmmdbpdpaa
/- Walks: the panels of a plate; whether a plate is right. -/
namespace Go.Proofs.Ytfehhbmmdbpdpaa
open Go Go.RowKit
set_option linter.unusedVariables false
set_option linter.unusedSimpArgs false
attribute [local go_sem] run_store_float run_store_complex

theorem under_cpxs : Try.prog.underlying 25 = some (.slice 27) := by kernel_rfl
theorem infoCp : (Try.prog.info? 27).map (fun i => (i.zero, i.size, i.bytes)) = some (some (.complex .f32 0 0), 1, 8) := by kernel_rfl
/-- complex numbers that are near -/
def Near (cs : List (Nat × Nat)) (X Y : Nat → Rat) (e : Rat) : Prop := ∀ i c, cs[i]? = some c → ∃ R I, Val .f32 c.1 R ∧ Val .f32 c.2 I ∧ (R - X i).abs ≤ e ∧ (I - Y i).abs ≤ e
theorem Near.num {cs : List (Nat × Nat)} {X Y : Nat → Rat} {e : Rat} (h : Near cs X Y e) : ∀ c ∈ cs, Num c.1 ∧ Num c.2 := fun c hc => by
  obtain ⟨i, hi, e1⟩ := List.mem_iff_getElem.1 hc
  obtain ⟨R, I, h1, h2, -⟩ := h i c (by rw [← e1]; exact List.getElem?_eq_getElem hi)
  exact ⟨⟨R, h1⟩, ⟨I, h2⟩⟩
theorem Near.snoc {cs : List (Nat × Nat)} {X Y : Nat → Rat} {e : Rat} {c : Nat × Nat} {n : Nat} (h : Near cs X Y e) (hn : cs.length = n) (hc : ∃ R I, Val .f32 c.1 R ∧ Val .f32 c.2 I ∧ (R - X n).abs ≤ e ∧ (I - Y n).abs ≤ e) : Near (cs ++ [c]) X Y e := fun i d hd => by
  by_cases hi : i < cs.length
  · rw [List.getElem?_append_left hi] at hd
    exact h i d hd
  · rw [List.getElem?_append_right (by omega)] at hd
    have : i = n := by
      by_cases h0 : i - cs.length = 0
      · omega
      · rw [List.getElem?_eq_none (by simp; omega)] at hd; cases hd
    subst this
    rw [show i - cs.length = 0 by omega] at hd
    injection hd with hd
    subst hd
    exact hc
theorem cpxB_append (cs ds : List (Nat × Nat)) : cpxB (cs ++ ds) = cpxB cs ++ cpxB ds := by unfold cpxB; rw [List.map_append]
/-- a difference of two complex numbers -/
theorem sub_V {a b c d : Nat} {A B C D : Rat} (ha : Val .f32 a A) (hb : Val .f32 b B) (hc : Val .f32 c C) (hd : Val .f32 d D) (h1 : A.abs ≤ 2) (h2 : B.abs ≤ 2) (h3 : C.abs ≤ 2) (h4 : D.abs ≤ 2) :
    ∃ r s R I, (∀ w, (binOp .sub 27 (.complex .f32 a b) (.complex .f32 c d)).run Try.prog w = .ok (.complex .f32 r s) w) ∧ Val .f32 r R ∧ Val .f32 s I ∧ (R - (A - C)).abs ≤ 1 / 4194304 ∧ (I - (B - D)).abs ≤ 1 / 4194304 := by
  have e2 : pw 2 = 4 := by decide +kernel
  have e3 : pw (2 - eps .f32) = 1 / 4194304 := by decide +kernel
  have k1 := abs_le.1 h1
  have k2 := abs_le.1 h2
  have k3 := abs_le.1 h3
  have k4 := abs_le.1 h4
  obtain ⟨r, R, r1, r2, r3, -⟩ := val_sub ha hc 2 (by rw [e2]; exact abs_le.2 ⟨by grind, by grind⟩) (by decide) (by decide)
  obtain ⟨s, I, s1, s2, s3, -⟩ := val_sub hb hd 2 (by rw [e2]; exact abs_le.2 ⟨by grind, by grind⟩) (by decide) (by decide)
  rw [e3] at r3 s3
  exact ⟨r, s, R, I, fun w => run_complex_arith Try.prog .sub (.inr rfl) 27 .f32 _ _ _ _ _ _ r1 s1 w, r2, s2, r3, s3⟩
theorem near_diff {a A x b B y e : Rat} (h1 : (a - x).abs ≤ e) (h2 : (b - y).abs ≤ e) {r : Rat} (h : (r - (a - b)).abs ≤ 1 / 4194304) : (r - (x - y)).abs ≤ 2 * e + 1 / 4194304 := by
  have k1 := abs_le.1 h1
  have k2 := abs_le.1 h2
  have k3 := abs_le.1 h
  exact abs_le.2 ⟨by grind, by grind⟩
theorem near_abs {a x e c : Rat} (h : (a - x).abs ≤ e) (hx : x.abs + e ≤ c) : a.abs ≤ c := by
  have k1 := abs_le.1 h
  have k2 := abs_le.1 (Rat.le_refl (a := x.abs))
  exact abs_le.2 ⟨by grind, by grind⟩
set_option maxRecDepth 100000 in
set_option maxHeartbeats 1600000 in
theorem panels_V (g : Nat) (A : Option Addr) (cap n : Nat) (cs : List (Nat × Nat)) (X Y : Nat → Rat) (e : Rat) (w : World) (hb : Blk w g 58 #[.slice A n cap]) (hA : Lies w 27 A (cpxB cs)) (hn : cs.length = n) (h1 : 1 ≤ n) (h17 : n ≤ 17)
    (hN : Near cs X Y e) (hX : ∀ i, i < n → (X i).abs + e ≤ 2 ∧ (Y i).abs + e ≤ 2) :
    Calls Try.prog 59 #[.pointer (some ⟨g, 0, none⟩)] w fun e' w' => Ext w w' ∧ ∃ g' c' ds, e' = .returned (.slice (some ⟨g', 0, none⟩) (n - 1) c') ∧ Lies w' 27 (some ⟨g', 0, none⟩) (cpxB ds) ∧ ds.length = n - 1 ∧ Near ds (fun i => X (i + 1) - X i) (fun i => Y (i + 1) - Y i) (2 * e + 1 / 4194304) := by
  obtain ⟨i1, hi1, jz0, jz1, jz2⟩ := parts_of infoCp
  have hz1 : (Value.complex .f32 0 0).cells.size = 1 := by decide
  have HBK := Lib.hid hb
  have HA := Lib.hid hA
  have HN := Lib.hid hN
  have HX := Lib.hid hX
  have HLN := Lib.hid hn
  have HOWN := Lib.hid (show (w.alloc (.cells #[] 27)).ownsRow w.heap.size 27 1 (.slice (some ⟨w.heap.size, 0, none⟩) 0 0) 0 [] from World.ownsRow_made (base := w.heap.size) (e := 27) (size := 1) w #[] 0 (Nat.le_refl _) (by decide) rfl)
  have HE0 := Lib.hid (show Ext w (w.alloc (.cells #[] 27)) by (repeat first | with_reducible exact Ext.rfl' _ | with_reducible refine Ext.drewN ?_ _ | with_reducible refine Ext.drew' ?_ | with_reducible refine Ext.alloc' ?_ _ | with_reducible refine Ext.setCell_at ?_ _ _ _ (by first | exact Nat.le_refl _ | omega) | with_reducible assumption | refine Ext.trans ?_ (by with_reducible assumption)))
  clear hb hA hN hX hn
  go_enter Try.func59, Try.ntmps59
  go_wp2_with fail
  generalize w.alloc (.cells #[] 27) = W0 at *
  go_loopw [3, 4] (fun v i wr => ∃ (k gg cq : Nat) (ds : List (Nat × Nat)), k + 1 ≤ n ∧ i = .int .i64 ((k + 1 : Nat) : Int) ∧ v = .slice (some ⟨gg, 0, none⟩) k cq ∧ wr.ownsRow w.heap.size 27 1 v k (cpxB ds) ∧ ds.length = k ∧ Near ds (fun i => X (i + 1) - X i) (fun i => Y (i + 1) - Y i) (2 * e + 1 / 4194304) ∧ Ext w wr) (fun _ i _ => n - (intOf i).toNat)
  case atStart => exact ⟨0, w.heap.size, 0, [], h1, rfl, rfl, HOWN.out, rfl, fun i c h => by simp at h, HE0.out⟩
  case round =>
    obtain ⟨k, gg, cq, ds, hk, rfl, rfl, hown, hds, hnear, hbel⟩ := hrel
    have HOW := Lib.hid hown
    have HE := Lib.hid hbel
    have HND := Lib.hid hnear
    have HDS := Lib.hid hds
    clear hown hbel HOWN HE0 hnear hds
    have hbg := HBK.out.ext HE.out
    have d0 : wr.cell? ⟨g, 0, none⟩ = some (.slice A n cap) := hbg.cell 0
    clear hbg
    by_cases hlt : k + 1 < n
    · obtain ⟨c0, hc0⟩ : ∃ c, cs[k]? = some c := ⟨cs[k]'(by have := HLN.out; omega), List.getElem?_eq_getElem _⟩
      obtain ⟨c1, hc1⟩ : ∃ c, cs[k + 1]? = some c := ⟨cs[k + 1]'(by have := HLN.out; omega), List.getElem?_eq_getElem _⟩
      obtain ⟨b, o, rfl, hbw, hcc⟩ := HA.out.cell (by rw [cpxB_len, HLN.out]; omega)
      have e0 := (HE.out.cell (p := ⟨b, o + k, none⟩) hbw).trans (hcc _ _ (cpxB_at hc0))
      have e1 := (HE.out.cell (p := ⟨b, o + (k + 1), none⟩) hbw).trans (hcc _ _ (cpxB_at hc1))
      obtain ⟨R0, I0, v0, u0, s0, t0⟩ := HN.out k c0 hc0
      obtain ⟨R1, I1, v1, u1, s1, t1⟩ := HN.out (k + 1) c1 hc1
      obtain ⟨x0, y0⟩ := HX.out k (by omega)
      obtain ⟨x1, y1⟩ := HX.out (k + 1) hlt
      obtain ⟨r, s, R, I, hsub, q1, q2, q3, q4⟩ := sub_V v1 u1 v0 u0 (near_abs s1 x1) (near_abs t1 y1) (near_abs s0 x0) (near_abs t0 y0)
      have HNN := Lib.hid (HND.out.snoc (c := (r, s)) HDS.out ⟨R, I, q1, q2, near_diff (A := 0) (B := 0) s1 s0 q3, near_diff (A := 0) (B := 0) t1 t0 q4⟩)
      have hw1 : IntKind.i64.wrap (((k : Int) + 1) - 1) = (k : Int) := by rw [IntWalk.i64_in _ (by omega)]; omega
      have hw2 : IntKind.i64.wrap ((((k + 1 : Nat) : Int)) - 1) = (k : Int) := by rw [IntWalk.i64_in _ (by omega)]; omega
      have hw3 : IntKind.i64.wrap (k : Int) = (k : Int) := IntWalk.i64_in _ (by omega)
      have hk0 : (0 : Int) ≤ (k : Int) + 1 := by omega
      have hk00 : (0 : Int) ≤ (k : Int) := by omega
      have hk1 : ((k : Int) + 1) < (n : Int) := by omega
      have hk2 : (k : Int) < (n : Int) := by omega
      clear hcc hc0 hc1 v0 u0 s0 t0 v1 u1 s1 t1 x0 y0 x1 y1 q1 q2 q3 q4
      go_wp2_with fail
      go_region_law (first
        | (refine step_append_lies _ (by rfl) _ _ _ (by rfl) w.heap.size 27 i1 _ 1 8 under_cpxs hi1 jz0 jz1 jz2 hz1 (by omega) (.slice (some ⟨gg, 0, none⟩) k cq) k (cpxB ds) (by rfl) ((show wr.drew.ownsRow _ _ _ _ _ _ from HOW.out).alloc _) ⟨wr.heap.size, 0, none⟩ 1 1 [.complex .f32 r s] (by rfl) rfl (World.news_of_block (cs := #[.complex .f32 r s]) (t := 27) (fr := (0, 0)) (heap_alloc_new wr.drew _)) (by simp [Value.oneCell']) (by omega) (by unfold maxLen; omega) (by omega) (by have := HE.out.size; (try simp only [World.size_alloc, World.size_drew]); omega) _ rfl ?_; intro g2 c2 w6 hown6 hgrow hat6 hlt6; (have hgl := HOW.out.lt); (have HE6 := Lib.hid (Ext.grown (Ext.trans HE.out (Ext.alloc' (Ext.drew' (Ext.rfl' wr)) _)) hgrow (fun k hk => (hgl k hk).1))); have HO6 := Lib.hid hown6; clear hown6 hgrow hat6 hlt6 hgl e0 e1 d0))
      all_goals
        clear hw1 hw2 hw3
        have hw1 : IntKind.i64.wrap (((k : Int) + 1) + 1) = ((k + 1 + 1 : Nat) : Int) := by rw [IntWalk.i64_in _ (by omega)]; omega
        go_wp2_with fail
        refine ⟨⟨k + 1, g2, c2, ds ++ [(r, s)], by omega, by go_num, rfl, by rw [cpxB_append]; exact HO6.out, by rw [List.length_append, HDS.out]; rfl, HNN.out, HE6.out⟩, by simp [intOf]; omega⟩
    · have hkn : n - 1 = k := by omega
      go_wp2_with fail
      go_ret
      refine ⟨HE.out, ?_⟩
      rw [hkn]
      exact ⟨gg, cq, ds, rfl, (lies_of_owns HOW.out).1, HDS.out, HND.out⟩
end Go.Proofs.Ytfehhbmmdbpdpaa
/- Walks: whether a plate is right. -/
namespace Go.Proofs.Ytfehhbmmdbpdpaa
open Go Go.RowKit
set_option linter.unusedVariables false
set_option linter.unusedSimpArgs false
attribute [local go_sem] run_store_float run_store_complex

set_option maxRecDepth 100000 in
theorem IndexL_V (A : Option Addr) (cap n : Nat) (ks : List Nat) (w : World) (hA : Lies w 34 A (fltB ks)) (hn : ks.length = n) (hl : n ≤ 1000)
    (hp : ∀ (k : Nat) (v : Nat), ks[k]? = some v → ∀ w, Calls Try.prog 94 #[.float .f32 v] w fun e w' => Ext w w' ∧ e = .returned (.bool false)) :
    Calls Try.prog 113 #[.slice A n cap, .func (.func 94) #[] #[]] w fun e w' => Ext w w' ∧ e = .returned (.int .i64 (-1)) := by
  have HA := Lib.hid hA
  have HL := Lib.hid hl
  have HP := Lib.hid hp
  clear hA hl hp
  go_enter Try.func113, Try.ntmps113
  go_wp2_with fail
  go_loopw [8] (fun i wr => ∃ (k : Nat), k ≤ n ∧ i = .int .i64 k ∧ Ext w wr) (fun i _ => n - (intOf i).toNat)
  case atStart => exact ⟨0, Nat.zero_le _, rfl, Ext.rfl' _⟩
  case round =>
    obtain ⟨k, hk, rfl, hbel⟩ := hrel
    have HE := Lib.hid hbel
    clear hbel
    have hk9 : k < 9223372036854775807 := by have := HL.out; omega
    by_cases hlt : k < n
    · obtain ⟨v, hv⟩ : ∃ v, ks[k]? = some v := ⟨ks[k]'(by omega), List.getElem?_eq_getElem (by omega)⟩
      obtain ⟨b, o, rfl, hbw, hcc⟩ := HA.out.cell (by unfold fltB; rw [List.length_map]; omega)
      have d0 := (HE.out.cell (p := ⟨b, o + k, none⟩) hbw).trans (hcc k (.float .f32 v) (by unfold fltB; rw [List.getElem?_map, hv]; rfl))
      have HV := Lib.hid hv
      clear hcc hv
      go_wp2_with fail
      refine (HP.out k v HV.out _).mono ?_
      rintro e w1 ⟨he, rfl⟩
      have HF := Lib.hid (Ext.trans HE.out (Ext.trans (by (repeat first | with_reducible exact Ext.rfl' _ | with_reducible refine Ext.drewN ?_ _ | with_reducible refine Ext.drew' ?_ | with_reducible refine Ext.alloc' ?_ _ | with_reducible refine Ext.setCell_at ?_ _ _ _ (by first | exact Nat.le_refl _ | omega) | with_reducible assumption | refine Ext.trans ?_ (by with_reducible assumption))) he))
      clear he d0
      go_wp2_with fail
      exact ⟨⟨k + 1, by omega, by go_num, HF.out⟩, by simp [intOf]; omega⟩
    · go_wp2_with fail
      go_ret
      exact ⟨HE.out, rfl⟩
set_option maxRecDepth 100000 in
theorem ContainsL_V (A : Option Addr) (cap n : Nat) (ks : List Nat) (w : World) (hA : Lies w 34 A (fltB ks)) (hn : ks.length = n) (hl : n ≤ 1000)
    (hp : ∀ (k : Nat) (v : Nat), ks[k]? = some v → ∀ w, Calls Try.prog 94 #[.float .f32 v] w fun e w' => Ext w w' ∧ e = .returned (.bool false)) :
    Calls Try.prog 93 #[.slice A n cap, .func (.func 94) #[] #[]] w fun e w' => Ext w w' ∧ e = .returned (.bool false) := by
  have HC := Lib.hid (IndexL_V A cap n ks w hA hn hl hp)
  clear hA hl hp
  go_enter Try.func93, Try.ntmps93
  go_wp2_with fail
  refine HC.out.mono ?_
  rintro e w1 ⟨he, rfl⟩
  go_wp2_with fail
  go_ret
  exact ⟨he, rfl⟩

set_option maxRecDepth 100000 in
theorem IndexP_V (A : Option Addr) (cap n : Nat) (cs : List (Nat × Nat)) (w : World) (hA : Lies w 27 A (cpxB cs)) (hn : cs.length = n) (hl : n ≤ 1000)
    (hp : ∀ (k : Nat) (v : Nat × Nat), cs[k]? = some v → ∀ w, Calls Try.prog 100 #[.complex .f32 v.1 v.2] w fun e w' => Ext w w' ∧ e = .returned (.bool false)) :
    Calls Try.prog 118 #[.slice A n cap, .func (.func 100) #[] #[]] w fun e w' => Ext w w' ∧ e = .returned (.int .i64 (-1)) := by
  have HA := Lib.hid hA
  have HL := Lib.hid hl
  have HP := Lib.hid hp
  clear hA hl hp
  go_enter Try.func118, Try.ntmps118
  go_wp2_with fail
  go_loopw [8] (fun i wr => ∃ (k : Nat), k ≤ n ∧ i = .int .i64 k ∧ Ext w wr) (fun i _ => n - (intOf i).toNat)
  case atStart => exact ⟨0, Nat.zero_le _, rfl, Ext.rfl' _⟩
  case round =>
    obtain ⟨k, hk, rfl, hbel⟩ := hrel
    have HE := Lib.hid hbel
    clear hbel
    have hk9 : k < 9223372036854775807 := by have := HL.out; omega
    by_cases hlt : k < n
    · obtain ⟨v, hv⟩ : ∃ v, cs[k]? = some v := ⟨cs[k]'(by omega), List.getElem?_eq_getElem (by omega)⟩
      obtain ⟨b, o, rfl, hbw, hcc⟩ := HA.out.cell (by unfold cpxB; rw [List.length_map]; omega)
      have d0 := (HE.out.cell (p := ⟨b, o + k, none⟩) hbw).trans (hcc k (.complex .f32 v.1 v.2) (by unfold cpxB; rw [List.getElem?_map, hv]; rfl))
      have HV := Lib.hid hv
      clear hcc hv
      go_wp2_with fail
      refine (HP.out k v HV.out _).mono ?_
      rintro e w1 ⟨he, rfl⟩
      have HF := Lib.hid (Ext.trans HE.out (Ext.trans (by (repeat first | with_reducible exact Ext.rfl' _ | with_reducible refine Ext.drewN ?_ _ | with_reducible refine Ext.drew' ?_ | with_reducible refine Ext.alloc' ?_ _ | with_reducible refine Ext.setCell_at ?_ _ _ _ (by first | exact Nat.le_refl _ | omega) | with_reducible assumption | refine Ext.trans ?_ (by with_reducible assumption))) he))
      clear he d0
      go_wp2_with fail
      exact ⟨⟨k + 1, by omega, by go_num, HF.out⟩, by simp [intOf]; omega⟩
    · go_wp2_with fail
      go_ret
      exact ⟨HE.out, rfl⟩
set_option maxRecDepth 100000 in
theorem ContainsP_V (A : Option Addr) (cap n : Nat) (cs : List (Nat × Nat)) (w : World) (hA : Lies w 27 A (cpxB cs)) (hn : cs.length = n) (hl : n ≤ 1000)
    (hp : ∀ (k : Nat) (v : Nat × Nat), cs[k]? = some v → ∀ w, Calls Try.prog 100 #[.complex .f32 v.1 v.2] w fun e w' => Ext w w' ∧ e = .returned (.bool false)) :
    Calls Try.prog 99 #[.slice A n cap, .func (.func 100) #[] #[]] w fun e w' => Ext w w' ∧ e = .returned (.bool false) := by
  have HC := Lib.hid (IndexP_V A cap n cs w hA hn hl hp)
  clear hA hl hp
  go_enter Try.func99, Try.ntmps99
  go_wp2_with fail
  refine HC.out.mono ?_
  rintro e w1 ⟨he, rfl⟩
  go_wp2_with fail
  go_ret
  exact ⟨he, rfl⟩

theorem lengthOk1_V {x : Nat} {a : Rat} (hx : Val .f32 x a) (h0 : 0 < a) (w : World) : Calls Try.prog 94 #[.float .f32 x] w fun e w' => Ext w w' ∧ e = .returned (.bool false) := by
  have hc : fcmp .leq .f32 x 0 = false := (val_leq hx num_zero).trans (by simp; grind)
  clear hx h0
  go_enter Try.func94, Try.ntmps94
  go_wp2_with (first | (refine wpList_fcmpD rfl .leq _ _ _ _ rfl rfl _ _ _ rfl rfl _ hc ?_))
  go_ret
  exact ⟨Ext.rfl' _, rfl⟩
theorem lengthOk_V {x : Nat} {a : Rat} (hx : Val .f32 x a) (h0 : 0 < a) (A : Option Addr) (cap : Nat) (w : World) (hA : Lies w 34 A (fltB [x])) : Calls Try.prog 53 #[.slice A 1 cap] w fun e w' => Ext w w' ∧ e = .returned (.bool true) := by
  have HF := Lib.hid (finite_V A cap 1 [x] w hA rfl (by decide) (fun y hy => by rw [List.mem_singleton] at hy; subst hy; exact ⟨a, hx⟩))
  have HC := Lib.hid (fun w' (he : Ext w w') => ContainsL_V A cap 1 [x] w' (hA.ext he) rfl (by decide) (fun k v hv w => by
    match k, hv with
    | 0, hv => injection hv with hv; subst hv; exact lengthOk1_V hx h0 w))
  clear hA hx h0
  go_enter Try.func53, Try.ntmps53
  go_wp2_with fail
  refine HF.out.mono ?_
  rintro e w1 ⟨he, rfl⟩
  have HE := Lib.hid he
  clear he
  go_wp2_with fail
  refine (HC.out _ HE.out).mono ?_
  rintro e w2 ⟨he, rfl⟩
  go_wp2_with fail
  go_ret
  exact ⟨Ext.trans HE.out he, rfl⟩
theorem Long.pos {a b u : Rat} (h : Long a b u) (hp : 1 / 4096 ≤ a * a + b * b) : 0 < u := by
  obtain ⟨d, h0, h1, h2⟩ := h
  have k1 := abs_le.1 h1
  have k2 := abs_le.1 h2
  have hd : 1 / 128 ≤ d := by
    refine sq_le (by decide +kernel) h0 ?_
    grind
  grind
set_option maxRecDepth 100000 in
theorem Valid1_V {x y : Nat} {a b : Rat} (hx : Val .f32 x a) (hy : Val .f32 y b) (ha : a.abs ≤ 4) (hb : b.abs ≤ 4) (hp : 1 / 4096 ≤ a * a + b * b) (w : World) :
    Calls Try.prog 100 #[.complex .f32 x y] w fun e w' => Ext w w' ∧ e = .returned (.bool false) := by
  have HL := Lib.hid (fun w => LongOf_V hx hy ha hb w)
  have HP := Lib.hid hp
  clear hx hy ha hb hp
  go_enter Try.func100, Try.ntmps100
  go_wp2_with fail
  refine (HL.out _).mono ?_
  rintro e w1 ⟨rfl, t, T, rfl, hv, hl⟩
  have hpos := hl.pos HP.out
  have HV := Lib.hid hv
  clear hv hl
  go_wp2_with fail
  refine (lengthOk_V HV.out hpos _ _ _ (lies_newY w1 34 #[.float .f32 t])).mono ?_
  rintro e w2 ⟨he, rfl⟩
  have HE := Lib.hid he
  clear he
  go_wp2_with fail
  go_ret
  exact ⟨Ext.trans (by (repeat first | with_reducible exact Ext.rfl' _ | with_reducible refine Ext.drewN ?_ _ | with_reducible refine Ext.drew' ?_ | with_reducible refine Ext.alloc' ?_ _ | with_reducible refine Ext.setCell_at ?_ _ _ _ (by first | exact Nat.le_refl _ | omega) | with_reducible assumption | refine Ext.trans ?_ (by with_reducible assumption))) HE.out, rfl⟩
theorem panel_big {a px b py e : Rat} (h1 : (a - px).abs ≤ e) (h2 : (b - py).abs ≤ e) (he : e ≤ 1 / 40000) (hx : px.abs ≤ 4) (hy : py.abs ≤ 4) (hp : 1 / 1300 ≤ px * px + py * py) : 1 / 4096 ≤ a * a + b * b := by
  have k1 := abs_le.1 (mul_abs_le hx (Rat.le_trans h1 he))
  have k2 := abs_le.1 (mul_abs_le hy (Rat.le_trans h2 he))
  have e1 : a * a = px * px + 2 * (px * (a - px)) + (a - px) * (a - px) := by grind
  have e2 : b * b = py * py + 2 * (py * (b - py)) + (b - py) * (b - py) := by grind
  have s1 : 0 ≤ (a - px) * (a - px) := by
    rcases Rat.le_total (a := 0) (b := a - px) with hc | hc
    · exact Rat.mul_nonneg hc hc
    · have := Rat.mul_nonneg (show 0 ≤ -(a - px) by grind) (show 0 ≤ -(a - px) by grind)
      grind
  have s2 : 0 ≤ (b - py) * (b - py) := by
    rcases Rat.le_total (a := 0) (b := b - py) with hc | hc
    · exact Rat.mul_nonneg hc hc
    · have := Rat.mul_nonneg (show 0 ≤ -(b - py) by grind) (show 0 ≤ -(b - py) by grind)
      grind
  rw [e1, e2]
  generalize (a - px) * (a - px) = s at *
  generalize (b - py) * (b - py) = t at *
  generalize px * (a - px) = u at *
  generalize py * (b - py) = v at *
  grind
/-- a plate whose corners are near -/
structure Flat (w : World) (A : Option Addr) (cs : List (Nat × Nat)) (n : Nat) (X Y : Nat → Rat) (e : Rat) : Prop where
  lies : Lies w 27 A (cpxB cs)
  len : cs.length = n
  n2 : 2 ≤ n
  n9 : n ≤ 10
  near : Near cs X Y e
  small : e ≤ 1 / 100000
  nonneg : 0 ≤ e
  bound : ∀ i, i < n → (X i).abs ≤ 19 / 10 ∧ (Y i).abs ≤ 19 / 10
  far : ∀ i, i + 1 < n → 1 / 1300 ≤ (X (i + 1) - X i) * (X (i + 1) - X i) + (Y (i + 1) - Y i) * (Y (i + 1) - Y i)
theorem Flat.ext {w w' : World} {A : Option Addr} {cs : List (Nat × Nat)} {n : Nat} {X Y : Nat → Rat} {e : Rat} (h : Flat w A cs n X Y e) (he : Ext w w') : Flat w' A cs n X Y e :=
  ⟨h.lies.ext he, h.len, h.n2, h.n9, h.near, h.small, h.nonneg, h.bound, h.far⟩
theorem diff_abs {a b c : Rat} (h1 : a.abs ≤ c) (h2 : b.abs ≤ c) : (a - b).abs ≤ 2 * c := by
  have k1 := abs_le.1 h1
  have k2 := abs_le.1 h2
  exact abs_le.2 ⟨by grind, by grind⟩
set_option maxRecDepth 100000 in
theorem ValidPlate_V (A : Option Addr) (cap n : Nat) (cs : List (Nat × Nat)) (X Y : Nat → Rat) (e : Rat) (w : World) (hF : Flat w A cs n X Y e) :
    Calls Try.prog 58 #[.agg #[.slice A n cap]] w fun e' w' => Ext w w' ∧ e' = .returned (.bool true) := by
  have HF := Lib.hid hF
  have h1 : (2 : Int) ≤ (n : Int) := by have := hF.n2; omega
  have h2 : (n : Int) ≤ 17 := by have := hF.n9; omega
  have HB := Lib.hid (Blk.new w 58 #[.slice A n cap])
  have HE0 := Lib.hid (show Ext w (w.alloc (.cells #[.slice A n cap] 58)) by (repeat first | with_reducible exact Ext.rfl' _ | with_reducible refine Ext.drewN ?_ _ | with_reducible refine Ext.drew' ?_ | with_reducible refine Ext.alloc' ?_ _ | with_reducible refine Ext.setCell_at ?_ _ _ _ (by first | exact Nat.le_refl _ | omega) | with_reducible assumption | refine Ext.trans ?_ (by with_reducible assumption)))
  have d0 : (w.alloc (.cells #[.slice A n cap] 58)).cell? ⟨w.heap.size, 0, none⟩ = some (.slice A n cap) := HB.out.cell 0
  have d00 := d0
  have hbw : w.heap.size < (w.alloc (.cells #[.slice A n cap] 58)).heap.size := HB.out.lt
  clear hF
  go_enter Try.func58, Try.ntmps58
  go_wp2_with fail
  generalize w.alloc (.cells #[.slice A n cap] 58) = W1 at *
  generalize w.heap.size = g at *
  refine (in_V n 2 17 h1 h2 _).mono ?_
  rintro e' w1 ⟨rfl, rfl⟩
  go_wp2_with fail
  refine (finiteAll_V A cap n cs _ (HF.out.lies.ext HE0.out) HF.out.len (by have := HF.out.n9; omega) HF.out.near.num).mono ?_
  rintro e' w2 ⟨he, rfl⟩
  have HE2 := Lib.hid (Ext.trans HE0.out he)
  have HB2 := Lib.hid (HB.out.ext he)
  clear he d0 d00
  go_wp2_with fail
  refine (panels_V g A cap n cs X Y e _ HB2.out (HF.out.lies.ext HE2.out) HF.out.len (by have := HF.out.n2; omega) (by have := HF.out.n9; omega) HF.out.near (fun i hi => by
    obtain ⟨b1, b2⟩ := HF.out.bound i hi
    have := HF.out.small
    exact ⟨by grind, by grind⟩)).mono ?_
  rintro e' w3 ⟨he, g', c', ds, rfl, hl, hds, hnd⟩
  have HE3 := Lib.hid (Ext.trans HE2.out he)
  have HL3 := Lib.hid hl
  have HD3 := Lib.hid hds
  have HN3 := Lib.hid hnd
  clear he hl hds hnd
  go_wp2_with fail
  have hnn : ((n - 1 : Nat) : Int) = (n : Int) - 1 := by have := HF.out.n2; omega
  refine (ContainsP_V (some ⟨g', 0, none⟩) c' (n - 1) ds _ HL3.out HD3.out (by have := HF.out.n9; omega) (fun k v hv w => by
    obtain ⟨R, I, q1, q2, q3, q4⟩ := HN3.out k v hv
    have hk : k + 1 < n := by
      have := HD3.out
      by_cases hk : k < ds.length
      · omega
      · rw [List.getElem?_eq_none (by omega)] at hv; cases hv
    obtain ⟨b1, b2⟩ := HF.out.bound k (by omega)
    obtain ⟨b3, b4⟩ := HF.out.bound (k + 1) hk
    have hs := HF.out.small
    have c1 := diff_abs b3 b1
    have c2 := diff_abs b4 b2
    exact Valid1_V q1 q2 (near_abs q3 (by grind)) (near_abs q4 (by grind)) (panel_big q3 q4 (by grind) (by grind) (by grind) (HF.out.far k hk)) w)).mono ?_
  rintro e' w4 ⟨he, rfl⟩
  have HE4 := Lib.hid (Ext.trans HE3.out he)
  clear he
  go_wp2_with fail
  go_ret
  exact ⟨HE4.out, rfl⟩
end Go.Proofs.Ytfehhbmmdbpdpaa
/- Walks: plates told; corners of flat plates. -/
namespace Go.Proofs.Ytfehhbmmdbpdpaa
open Go Go.RowKit
set_option linter.unusedVariables false
set_option linter.unusedSimpArgs false
attribute [local go_sem] run_store_float run_store_complex

set_option maxRecDepth 100000 in
theorem toldPlate_V (A : Option Addr) (cap n : Nat) (cs : List (Nat × Nat)) (X Y : Nat → Rat) (e : Rat) (w : World) (hF : Flat w A cs n X Y e) :
    Calls Try.prog 55 #[.slice A n cap] w fun e' w' => Ext w w' ∧ e' = .returned (.tuple #[.agg #[.slice A n cap], .bool true]) := by
  have HF := Lib.hid hF
  clear hF
  have HB0 := Lib.hid (Blk.new w 58 #[.slice none 0 0])
  have hz0 : (w.alloc (.cells #[.slice none 0 0] 58)).heap.size = w.heap.size + 1 := by simp
  have HB1 := Lib.hid (show Blk ((w.alloc (.cells #[.slice none 0 0] 58)).alloc (.cells #[.slice A n cap] 58)) (w.heap.size + 1) 58 #[.slice A n cap] by
    have := Blk.new (w.alloc (.cells #[.slice none 0 0] 58)) 58 #[.slice A n cap]
    rwa [hz0] at this)
  have HE1 := Lib.hid (show Ext w ((w.alloc (.cells #[.slice none 0 0] 58)).alloc (.cells #[.slice A n cap] 58)) by (repeat first | with_reducible exact Ext.rfl' _ | with_reducible refine Ext.drewN ?_ _ | with_reducible refine Ext.drew' ?_ | with_reducible refine Ext.alloc' ?_ _ | with_reducible refine Ext.setCell_at ?_ _ _ _ (by first | exact Nat.le_refl _ | omega) | with_reducible assumption | refine Ext.trans ?_ (by with_reducible assumption)))
  have HB01 := Lib.hid (HB0.out.ext (show Ext (w.alloc (.cells #[.slice none 0 0] 58)) ((w.alloc (.cells #[.slice none 0 0] 58)).alloc (.cells #[.slice A n cap] 58)) by (repeat first | with_reducible exact Ext.rfl' _ | with_reducible refine Ext.drewN ?_ _ | with_reducible refine Ext.drew' ?_ | with_reducible refine Ext.alloc' ?_ _ | with_reducible refine Ext.setCell_at ?_ _ _ _ (by first | exact Nat.le_refl _ | omega) | with_reducible assumption | refine Ext.trans ?_ (by with_reducible assumption))))
  clear hz0 HB0
  go_enter Try.func55, Try.ntmps55
  go_wp2_with fail
  generalize ((w.alloc (.cells #[.slice none 0 0] 58)).alloc (.cells #[.slice A n cap] 58)) = W1 at *
  have hws : w.heap.size = w.heap.size := rfl
  refine (ValidPlate_V A cap n cs X Y e _ (HF.out.ext HE1.out)).mono ?_
  rintro e' w2 ⟨he, rfl⟩
  have HE2 := Lib.hid (Ext.trans HE1.out he)
  have HB2 := Lib.hid (HB1.out.ext he)
  have HB3 := Lib.hid (HB01.out.ext he)
  clear he
  have d1 : w2.cell? ⟨w.heap.size + 1, 0, none⟩ = some (.slice A n cap) := HB2.out.cell 0
  have d0 : w2.cell? ⟨w.heap.size, 0, none⟩ = some (.slice none 0 0) := HB3.out.cell 0
  have f0 := HB3.out.frozen 0
  go_wp2_with fail
  have HB4 := Lib.hid (HB3.out.set_ 0 (.slice A n cap))
  have HE4 := Lib.hid (Ext.setCell_at HE2.out w.heap.size 0 (.slice A n cap) (Nat.le_refl _))
  generalize w2.setCell ⟨w.heap.size, 0, none⟩ (.slice A n cap) = W3 at *
  have q0 : W3.cell? ⟨w.heap.size, 0, none⟩ = some (.slice A n cap) := HB4.out.cell 0
  exact bodyPost_ret (v := .tuple #[.agg #[.slice A n cap], .bool true]) (by simp [results, Try.results55, go_sem, q0]) rfl ⟨HE4.out, rfl⟩
end Go.Proofs.Ytfehhbmmdbpdpaa
/- Walks: corners of flat plates. -/
namespace Go.Proofs.Ytfehhbmmdbpdpaa
open Go Go.RowKit
set_option linter.unusedVariables false
set_option linter.unusedSimpArgs false
attribute [local go_sem] run_store_float run_store_complex

theorem half_val : Val .f32 1056964608 (1 / 2) := by
  refine ⟨by decide, false, 8388608, -24, by decide, by decide +kernel⟩
/-- the share of a corner, less a half -/
def share (k n : Nat) : Rat := (k : Rat) / (n : Rat) - 1 / 2
theorem share_bound {k n : Nat} (hk : k ≤ n) (hn : 0 < n) : (share k n).abs ≤ 1 / 2 ∧ 0 ≤ (k : Rat) / (n : Rat) ∧ (k : Rat) / (n : Rat) ≤ 1 := by
  have h0 : (0 : Rat) < (n : Rat) := Rat.natCast_pos.2 hn
  have h1 : (0 : Rat) ≤ (k : Rat) := Rat.natCast_nonneg
  have h2 : (k : Rat) ≤ (n : Rat) := Rat.natCast_le_natCast.2 hk
  have hq : (k : Rat) / (n : Rat) * (n : Rat) = (k : Rat) := Rat.div_mul_cancel (Rat.ne_of_gt h0)
  have q1 : 0 ≤ (k : Rat) / (n : Rat) := Rat.le_of_mul_le_mul_right (by rw [hq, Rat.zero_mul]; exact h1) h0
  have q2 : (k : Rat) / (n : Rat) ≤ 1 := Rat.le_of_mul_le_mul_right (by rw [hq, Rat.one_mul]; exact h2) h0
  exact ⟨abs_le.2 ⟨by unfold share; grind, by unfold share; grind⟩, q1, q2⟩
/-- the share and the place of a corner, in floats -/
theorem share_val {L : Rat} {lb : Nat} (hL : Val .f32 lb L) (h0 : 0 ≤ L) (h3 : L ≤ 3) {k n : Nat} (hk : k ≤ n) (hn : 0 < n) (h9 : n ≤ 9) :
    ∃ p q x Q P, floatBits .quo .f32 (floatOfInt .f32 (k : Int)) (floatOfInt .f32 (n : Int)) = some p ∧ floatBits .sub .f32 p 1056964608 = some q ∧ floatBits .mul .f32 lb q = some x ∧ Val .f32 q Q ∧ Val .f32 x P ∧ (Q - share k n).abs ≤ 1 / 3000000 ∧ (P - L * share k n).abs ≤ 1 / 800000 := by
  obtain ⟨s1, s2, s3⟩ := share_bound hk hn
  have hnp : (0 : Rat) < (n : Rat) := Rat.natCast_pos.2 hn
  have vk := val_int .f32 (k : Int) (by omega)
  have vn := val_int .f32 (n : Int) (by omega)
  rw [Rat.intCast_natCast] at vk vn
  have hq : (k : Rat) / (n : Rat) * (n : Rat) = (k : Rat) := Rat.div_mul_cancel (Rat.ne_of_gt hnp)
  have e0 : pw 0 = 1 := by decide +kernel
  obtain ⟨p, P, p1, p2, p3, -⟩ := val_quo vk vn (Rat.ne_of_gt hnp) hq 0 (by rw [e0, Rat.abs_of_nonneg s2]; exact s3) (by decide) (by decide)
  have e1 : pw (0 + 2 - eps .f32) = 1 / 4194304 := by decide +kernel
  rw [e1] at p3
  have k1 := abs_le.1 p3
  obtain ⟨q, Q, q1, q2, q3, -⟩ := val_sub p2 half_val 0 (by rw [e0]; exact abs_le.2 ⟨by grind, by grind⟩) (by decide) (by decide)
  have e2 : pw (0 - eps .f32) = 1 / 16777216 := by decide +kernel
  rw [e2] at q3
  have k2 := abs_le.1 q3
  have hQ : (Q - share k n).abs ≤ 1 / 3000000 := abs_le.2 ⟨by unfold share; grind, by unfold share; grind⟩
  have k3 := abs_le.1 hQ
  have k4 := abs_le.1 s1
  have hLa : L.abs ≤ 3 := by rw [Rat.abs_of_nonneg h0]; exact h3
  have hQa : Q.abs ≤ 51 / 100 := abs_le.2 ⟨by grind, by grind⟩
  have hLQ := mul_abs_le hLa hQa
  have e3 : pw 1 = 2 := by decide +kernel
  obtain ⟨x, X, x1, x2, x3, -⟩ := val_mul hL q2 1 (by rw [e3]; grind) (by decide) (by decide)
  have e4 : pw (1 - eps .f32) = 1 / 8388608 := by decide +kernel
  rw [e4] at x3
  refine ⟨p, q, x, Q, X, p1, q1, x1, q2, x2, hQ, ?_⟩
  have hd := mul_abs_le hLa hQ
  have e5 : L * (Q - share k n) = L * Q - L * share k n := by grind
  rw [e5] at hd
  have k5 := abs_le.1 hd
  have k6 := abs_le.1 x3
  exact abs_le.2 ⟨by grind, by grind⟩
set_option maxRecDepth 100000 in
set_option maxHeartbeats 1600000 in
theorem corners_Flat (pb : Option Addr) (n lb : Nat) (L : Rat) (X Y : Nat → Rat) (e : Rat) (w : World) (hL : Val .f32 lb L) (h0 : 0 ≤ L) (h3 : L ≤ 3) (hn : 0 < n) (h8 : n ≤ 9)
    (hput : ∀ (k q x : Nat) (Q P : Rat) (w' : World), k ≤ n → Ext w w' → Val .f32 q Q → Val .f32 x P → (Q - share k n).abs ≤ 1 / 3000000 → (P - L * share k n).abs ≤ 1 / 800000 →
      Calls Try.prog 57 #[.float .f32 q, .complex .f32 x 0, .pointer pb] w' fun e' w'' => Ext w' w'' ∧ ∃ m m' R I, e' = .returned (.complex .f32 m m') ∧ Val .f32 m R ∧ Val .f32 m' I ∧ (R - X k).abs ≤ e ∧ (I - Y k).abs ≤ e) :
    Calls Try.prog 56 #[.int .i64 n, .float .f32 lb, .func (.func 57) #[] #[.pointer pb]] w fun e' w' => Ext w w' ∧ ∃ g c cs, e' = .returned (.slice (some ⟨g, 0, none⟩) (n + 1) c) ∧ Lies w' 27 (some ⟨g, 0, none⟩) (cpxB cs) ∧ cs.length = n + 1 ∧ Near cs X Y e := by
  obtain ⟨i1, hi1, jz0, jz1, jz2⟩ := parts_of infoCp
  have hz1 : (Value.complex .f32 0 0).cells.size = 1 := by decide
  have HL := Lib.hid hL
  have HP := Lib.hid hput
  have H0 := Lib.hid h0
  have H3 := Lib.hid h3
  have HOWN := Lib.hid (show (w.alloc (.cells #[] 27)).ownsRow w.heap.size 27 1 (.slice (some ⟨w.heap.size, 0, none⟩) 0 0) 0 [] from World.ownsRow_made (base := w.heap.size) (e := 27) (size := 1) w #[] 0 (Nat.le_refl _) (by decide) rfl)
  have HE0 := Lib.hid (show Ext w (w.alloc (.cells #[] 27)) by (repeat first | with_reducible exact Ext.rfl' _ | with_reducible refine Ext.drewN ?_ _ | with_reducible refine Ext.drew' ?_ | with_reducible refine Ext.alloc' ?_ _ | with_reducible refine Ext.setCell_at ?_ _ _ _ (by first | exact Nat.le_refl _ | omega) | with_reducible assumption | refine Ext.trans ?_ (by with_reducible assumption)))
  have hn1 : IntKind.i64.wrap ((n : Int) + 1) = ((n + 1 : Nat) : Int) := by rw [IntWalk.i64_in _ (by omega)]; omega
  clear hL hput h0 h3
  go_enter Try.func56, Try.ntmps56
  go_wp2_with fail
  generalize w.alloc (.cells #[] 27) = W0 at *
  go_loopw [7, 13] (fun v i wr => ∃ (k gg cq : Nat) (cs : List (Nat × Nat)), k ≤ n + 1 ∧ i = .int .i64 k ∧ v = .slice (some ⟨gg, 0, none⟩) k cq ∧ wr.ownsRow w.heap.size 27 1 v k (cpxB cs) ∧ cs.length = k ∧ Near cs X Y e ∧ Ext w wr) (fun _ i _ => n + 1 - (intOf i).toNat)
  case atStart => exact ⟨0, w.heap.size, 0, [], by omega, rfl, rfl, HOWN.out, rfl, fun i c h => by simp at h, HE0.out⟩
  case round =>
    clear hn1
    obtain ⟨k, gg, cq, cs, hk, rfl, rfl, hown, hcs, hnear, hbel⟩ := hrel
    have HOW := Lib.hid hown
    have HE := Lib.hid hbel
    have HND := Lib.hid hnear
    have HCS := Lib.hid hcs
    clear hown hbel HOWN HE0 hnear hcs
    by_cases hlt : k < n + 1
    · obtain ⟨p, q, x, Q, P, a1, a2, a3, b1, b2, b3, b4⟩ := share_val HL.out H0.out H3.out (k := k) (n := n) (by omega) hn h8
      have HB1 := Lib.hid b1
      have HB2 := Lib.hid b2
      have HB3 := Lib.hid b3
      have HB4 := Lib.hid b4
      have hkn : (k : Int) < (n : Int) + 1 := by omega
      clear b1 b2 b3 b4
      go_wp2_with (first
        | (refine wpList_floatD rfl .quo _ _ _ _ rfl (by simp) _ _ _ rfl rfl _ a1 ?_)
        | (refine wpList_floatD rfl .sub _ _ _ _ rfl (by simp) _ _ _ rfl rfl _ a2 ?_)
        | (refine wpList_floatD rfl .mul _ _ _ _ rfl (by simp) _ _ _ rfl rfl _ a3 ?_))
      refine (HP.out k q x Q P _ (by omega) HE.out HB1.out HB2.out HB3.out HB4.out).mono ?_
      rintro e' w6 ⟨he, m, m', R, I, rfl, r1, r2, r3, r4⟩
      have HE6 := Lib.hid (Ext.trans HE.out he)
      have HO6 := Lib.hid (HOW.out.kept (row := none) ⟨he.os, he.tape, he.output, he.size, fun q hq _ => he.block q hq⟩ (.inr (by simp [Value.ownBlock])))
      have HNN := Lib.hid (HND.out.snoc (c := (m, m')) HCS.out ⟨R, I, r1, r2, r3, r4⟩)
      clear he r1 r2 r3 r4 a1 a2 a3 HOW HE
      go_wp2_with (first | (at_builtin; refine Stand.of ?_))
      refine Stand.out ?_
      refine wpList_append_lies _ rfl _ _ 25 rfl w.heap.size 27 i1 _ 1 8 under_cpxs hi1 jz0 jz1 jz2 hz1 (by omega) (.slice (some ⟨gg, 0, none⟩) k cq) k (cpxB cs) rfl (HO6.out.alloc _) ⟨w6.heap.size, 0, none⟩ 1 1 [.complex .f32 m m'] rfl rfl (World.news_of_block (cs := #[.complex .f32 m m']) (t := 27) (fr := (0, 0)) (heap_alloc_new w6 _)) (by simp [Value.oneCell']) (by omega) (by unfold maxLen; omega) (by omega) (by have := HE6.out.size; simp; omega) _ rfl ?_
      intro g2 c2 w8 hown8 hgrow hat8 hlt8
      have hgl := HO6.out.lt
      have HE8 := Lib.hid (Ext.grown (Ext.trans HE6.out (Ext.alloc' (Ext.rfl' w6) _)) hgrow (fun k hk => (hgl k hk).1))
      have HO8 := Lib.hid hown8
      clear hown8 hgrow hat8 hlt8 hgl
      have hk1 : IntKind.i64.wrap ((k : Int) + 1) = ((k + 1 : Nat) : Int) := by rw [IntWalk.i64_in _ (by omega)]; omega
      go_wp2_with fail
      exact ⟨⟨k + 1, g2, c2, cs ++ [(m, m')], by omega, by go_num, rfl, by rw [cpxB_append]; exact HO8.out, by rw [List.length_append, HCS.out]; rfl, HNN.out, HE8.out⟩, by simp [intOf]; omega⟩
    · have hkn : k = n + 1 := by omega
      subst hkn
      have hkn2 : ¬ ((n + 1 : Nat) : Int) < (n : Int) + 1 := by omega
      go_wp2_with fail
      go_ret
      exact ⟨HE.out, gg, ⟨cq, rfl⟩, cs, (lies_of_owns HOW.out).1, HCS.out, HND.out⟩
set_option maxRecDepth 100000 in
set_option maxHeartbeats 1600000 in
theorem corners_Arc (pb pr : Option Addr) (n lb : Nat) (L : Rat) (X Y : Nat → Rat) (e : Rat) (w : World) (hL : Val .f32 lb L) (h0 : 0 ≤ L) (h3 : L ≤ 3) (hn : 0 < n) (h8 : n ≤ 9)
    (hput : ∀ (k q x : Nat) (Q P : Rat) (w' : World), k ≤ n → Ext w w' → Val .f32 q Q → Val .f32 x P → (Q - share k n).abs ≤ 1 / 3000000 → (P - L * share k n).abs ≤ 1 / 800000 →
      Calls Try.prog 69 #[.float .f32 q, .complex .f32 x 0, .pointer pb, .pointer pr] w' fun e' w'' => Ext w' w'' ∧ ∃ m m' R I, e' = .returned (.complex .f32 m m') ∧ Val .f32 m R ∧ Val .f32 m' I ∧ (R - X k).abs ≤ e ∧ (I - Y k).abs ≤ e) :
    Calls Try.prog 56 #[.int .i64 n, .float .f32 lb, .func (.func 69) #[] #[.pointer pb, .pointer pr]] w fun e' w' => Ext w w' ∧ ∃ g c cs, e' = .returned (.slice (some ⟨g, 0, none⟩) (n + 1) c) ∧ Lies w' 27 (some ⟨g, 0, none⟩) (cpxB cs) ∧ cs.length = n + 1 ∧ Near cs X Y e := by
  obtain ⟨i1, hi1, jz0, jz1, jz2⟩ := parts_of infoCp
  have hz1 : (Value.complex .f32 0 0).cells.size = 1 := by decide
  have HL := Lib.hid hL
  have HP := Lib.hid hput
  have H0 := Lib.hid h0
  have H3 := Lib.hid h3
  have HOWN := Lib.hid (show (w.alloc (.cells #[] 27)).ownsRow w.heap.size 27 1 (.slice (some ⟨w.heap.size, 0, none⟩) 0 0) 0 [] from World.ownsRow_made (base := w.heap.size) (e := 27) (size := 1) w #[] 0 (Nat.le_refl _) (by decide) rfl)
  have HE0 := Lib.hid (show Ext w (w.alloc (.cells #[] 27)) by (repeat first | with_reducible exact Ext.rfl' _ | with_reducible refine Ext.drewN ?_ _ | with_reducible refine Ext.drew' ?_ | with_reducible refine Ext.alloc' ?_ _ | with_reducible refine Ext.setCell_at ?_ _ _ _ (by first | exact Nat.le_refl _ | omega) | with_reducible assumption | refine Ext.trans ?_ (by with_reducible assumption)))
  have hn1 : IntKind.i64.wrap ((n : Int) + 1) = ((n + 1 : Nat) : Int) := by rw [IntWalk.i64_in _ (by omega)]; omega
  clear hL hput h0 h3
  go_enter Try.func56, Try.ntmps56
  go_wp2_with fail
  generalize w.alloc (.cells #[] 27) = W0 at *
  go_loopw [7, 13] (fun v i wr => ∃ (k gg cq : Nat) (cs : List (Nat × Nat)), k ≤ n + 1 ∧ i = .int .i64 k ∧ v = .slice (some ⟨gg, 0, none⟩) k cq ∧ wr.ownsRow w.heap.size 27 1 v k (cpxB cs) ∧ cs.length = k ∧ Near cs X Y e ∧ Ext w wr) (fun _ i _ => n + 1 - (intOf i).toNat)
  case atStart => exact ⟨0, w.heap.size, 0, [], by omega, rfl, rfl, HOWN.out, rfl, fun i c h => by simp at h, HE0.out⟩
  case round =>
    clear hn1
    obtain ⟨k, gg, cq, cs, hk, rfl, rfl, hown, hcs, hnear, hbel⟩ := hrel
    have HOW := Lib.hid hown
    have HE := Lib.hid hbel
    have HND := Lib.hid hnear
    have HCS := Lib.hid hcs
    clear hown hbel HOWN HE0 hnear hcs
    by_cases hlt : k < n + 1
    · obtain ⟨p, q, x, Q, P, a1, a2, a3, b1, b2, b3, b4⟩ := share_val HL.out H0.out H3.out (k := k) (n := n) (by omega) hn h8
      have HB1 := Lib.hid b1
      have HB2 := Lib.hid b2
      have HB3 := Lib.hid b3
      have HB4 := Lib.hid b4
      have hkn : (k : Int) < (n : Int) + 1 := by omega
      clear b1 b2 b3 b4
      go_wp2_with (first
        | (refine wpList_floatD rfl .quo _ _ _ _ rfl (by simp) _ _ _ rfl rfl _ a1 ?_)
        | (refine wpList_floatD rfl .sub _ _ _ _ rfl (by simp) _ _ _ rfl rfl _ a2 ?_)
        | (refine wpList_floatD rfl .mul _ _ _ _ rfl (by simp) _ _ _ rfl rfl _ a3 ?_))
      refine (HP.out k q x Q P _ (by omega) HE.out HB1.out HB2.out HB3.out HB4.out).mono ?_
      rintro e' w6 ⟨he, m, m', R, I, rfl, r1, r2, r3, r4⟩
      have HE6 := Lib.hid (Ext.trans HE.out he)
      have HO6 := Lib.hid (HOW.out.kept (row := none) ⟨he.os, he.tape, he.output, he.size, fun q hq _ => he.block q hq⟩ (.inr (by simp [Value.ownBlock])))
      have HNN := Lib.hid (HND.out.snoc (c := (m, m')) HCS.out ⟨R, I, r1, r2, r3, r4⟩)
      clear he r1 r2 r3 r4 a1 a2 a3 HOW HE
      go_wp2_with (first | (at_builtin; refine Stand.of ?_))
      refine Stand.out ?_
      refine wpList_append_lies _ rfl _ _ 25 rfl w.heap.size 27 i1 _ 1 8 under_cpxs hi1 jz0 jz1 jz2 hz1 (by omega) (.slice (some ⟨gg, 0, none⟩) k cq) k (cpxB cs) rfl (HO6.out.alloc _) ⟨w6.heap.size, 0, none⟩ 1 1 [.complex .f32 m m'] rfl rfl (World.news_of_block (cs := #[.complex .f32 m m']) (t := 27) (fr := (0, 0)) (heap_alloc_new w6 _)) (by simp [Value.oneCell']) (by omega) (by unfold maxLen; omega) (by omega) (by have := HE6.out.size; simp; omega) _ rfl ?_
      intro g2 c2 w8 hown8 hgrow hat8 hlt8
      have hgl := HO6.out.lt
      have HE8 := Lib.hid (Ext.grown (Ext.trans HE6.out (Ext.alloc' (Ext.rfl' w6) _)) hgrow (fun k hk => (hgl k hk).1))
      have HO8 := Lib.hid hown8
      clear hown8 hgrow hat8 hlt8 hgl
      have hk1 : IntKind.i64.wrap ((k : Int) + 1) = ((k + 1 : Nat) : Int) := by rw [IntWalk.i64_in _ (by omega)]; omega
      go_wp2_with fail
      exact ⟨⟨k + 1, g2, c2, cs ++ [(m, m')], by omega, by go_num, rfl, by rw [cpxB_append]; exact HO8.out, by rw [List.length_append, HCS.out]; rfl, HNN.out, HE8.out⟩, by simp [intOf]; omega⟩
    · have hkn : k = n + 1 := by omega
      subst hkn
      have hkn2 : ¬ ((n + 1 : Nat) : Int) < (n : Int) + 1 := by omega
      go_wp2_with fail
      go_ret
      exact ⟨HE.out, gg, ⟨cq, rfl⟩, cs, (lies_of_owns HOW.out).1, HCS.out, HND.out⟩
end Go.Proofs.Ytfehhbmmdbpdpaa
/- Walks: the program's sine. -/
namespace Go.Proofs.Ytfehhbmmdbpdpaa
open Go Go.RowKit
set_option linter.unusedVariables false
set_option linter.unusedSimpArgs false
attribute [local go_sem] run_store_float

theorem roundP_int (u q : Nat) (K : Nat) (h1 : 1 ≤ K) (h8 : K ≤ 8) (a b : Nat) (ha : cn .f64 a = fop .mul .f64 u (polyP u (8 - K))) (hb : cn .f64 b = fop .quo .f64 (cn .f64 a) (cn .f64 (floatOfInt .f64 (2 * (K : Int) * (2 * (K : Int) + 1))))) (hq : cn .f64 q = fop .sub .f64 (cn .f64 4607182418800017408) (cn .f64 b)) : cn .f64 q = polyP u (8 - (K - 1)) := by
  rw [show 8 - (K - 1) = (8 - K) + 1 by omega]
  unfold polyP roundP
  have hcf : ∀ m : Int, cn .f64 (floatOfInt .f64 m) = floatOfInt .f64 m := fun m => cn_of_not (read_write_nearest Ieee.double _ _ _)
  rw [hq, hb, ha, cn_one64, show 8 - (8 - K) = K by omega, hcf]
  rw [show ((2 * K * (2 * K + 1) : Nat) : Int) = 2 * (K : Int) * (2 * (K : Int) + 1) by simp only [Int.natCast_mul, Int.natCast_add]; rfl]
theorem mul_bnd {K : Nat} (h8 : K ≤ 8) : 0 ≤ 2 * (K : Int) * (2 * (K : Int) + 1) ∧ 2 * (K : Int) * (2 * (K : Int) + 1) ≤ 272 := by
  have : 2 * K * (2 * K + 1) ≤ 16 * 17 := Nat.mul_le_mul (by omega) (by omega)
  have e : ((2 * K * (2 * K + 1) : Nat) : Int) = 2 * (K : Int) * (2 * (K : Int) + 1) := by simp only [Int.natCast_mul, Int.natCast_add]; rfl
  omega

set_option maxRecDepth 100000 in
theorem sine_any {y : Nat} {s : Bool} {m : Nat} {p : Int} (h : FloatKind.f64.decode y = .number s m p) (hb : isBig y = false) (w : World) : Calls Try.prog 98 #[.float .f64 y] w fun e w' => Ext w w' ∧ ∃ r, e = .returned (.float .f64 r) ∧ cn .f64 r = sinW y := by
  have HY := Lib.hid h
  have HB := Lib.hid hb
  obtain ⟨F, hF⟩ : ∃ F, upP (fracP y) = F := ⟨_, rfl⟩
  obtain ⟨B, hB⟩ : ∃ B, isBelow F = B := ⟨_, rfl⟩
  have HF := Lib.hid hF
  have HBW := Lib.hid hB
  clear h hb hF hB
  go_enter Try.func98, Try.ntmps98
  go_wp2_with fail
  refine (partOf_any HY.out HB.out _).mono ?_
  rintro e w1 ⟨he1, r0, rfl, hr0⟩
  have HE1 := Lib.hid he1
  have HR0 := Lib.hid (hr0.trans HF.out)
  clear he1 hr0
  go_upto_if 13 with (first
    | (have hk1 : fcmp .geq .f64 (cn .f64 r0) (cn .f64 4602678819172646912) = B := (by rw [HR0.out, cn_half64]; exact HBW.out); refine wpList_fcmp rfl _ _ _ _ _ rfl rfl _ _ _ rfl rfl _ hk1 ?_; clear hk1))
  go_cut [3, 4] (fun v b wx => ∃ r, v = .float .f64 r ∧ cn .f64 r = downP F ∧ b = .bool B ∧ Ext w wx)
  case first =>
    cases B with
    | true =>
      go_wp2_with (first | (refine wpList_float rfl _ _ _ _ _ rfl (by decide) _ _ _ rfl rfl ?_; intro r1 n1 q1) | (refine wpList_fcmp rfl _ _ _ _ _ rfl rfl _ _ _ rfl rfl _ (by first | with_reducible assumption | rfl) ?_) | (refine wpList_fneg rfl _ _ rfl _ _ rfl ?_; intro r1 q1))
      go_meet
      case rel => exact ⟨_, rfl, by unfold downP; rw [HBW.out, if_pos rfl, show cn .f64 r1 = _ from q1, HR0.out, cn_half64], rfl, by have := HE1.out; (repeat first | with_reducible exact Ext.rfl' _ | with_reducible refine Ext.drewN ?_ _ | with_reducible refine Ext.drew' ?_ | with_reducible refine Ext.alloc' ?_ _ | with_reducible refine Ext.setCell_at ?_ _ _ _ (by first | exact Nat.le_refl _ | omega) | with_reducible assumption | refine Ext.trans ?_ (by with_reducible assumption))⟩
    | false =>
      go_wp2_with (first | (refine wpList_float rfl _ _ _ _ _ rfl (by decide) _ _ _ rfl rfl ?_; intro r1 n1 q1) | (refine wpList_fcmp rfl _ _ _ _ _ rfl rfl _ _ _ rfl rfl _ (by first | with_reducible assumption | rfl) ?_) | (refine wpList_fneg rfl _ _ rfl _ _ rfl ?_; intro r1 q1))
      go_meet
      case rel => exact ⟨_, rfl, by unfold downP; rw [HBW.out]; exact HR0.out, rfl, HE1.out⟩
  case rest =>
    obtain ⟨r2, rfl, hr2, rfl, he2⟩ := hcut
    have HR2 := Lib.hid hr2
    have HE2 := Lib.hid he2
    obtain ⟨C, hC⟩ : ∃ C, fcmp .gtr .f64 (downP F) quart64 = C := ⟨_, rfl⟩
    have HC := Lib.hid hC
    clear hr2 he2 HE1 hC
    go_upto_if 17 with (first
      | (have hk1 : fcmp .gtr .f64 (cn .f64 r2) (cn .f64 4598175219545276416) = C := (by rw [HR2.out, cn_quart64]; exact HC.out); refine wpList_fcmp rfl _ _ _ _ _ rfl rfl _ _ _ rfl rfl _ hk1 ?_; clear hk1))
    go_simp
    go_cut [3] (fun v wx => ∃ r, v = .float .f64 r ∧ cn .f64 r = foldP (downP F) ∧ Ext w wx)
    case first =>
      cases C with
      | true =>
        go_wp2_with (first | (refine wpList_float rfl _ _ _ _ _ rfl (by decide) _ _ _ rfl rfl ?_; intro r1 n1 q1) | (refine wpList_fcmp rfl _ _ _ _ _ rfl rfl _ _ _ rfl rfl _ (by first | with_reducible assumption | rfl) ?_) | (refine wpList_fneg rfl _ _ rfl _ _ rfl ?_; intro r1 q1))
        go_meet
        case rel => exact ⟨_, rfl, by unfold foldP; rw [HC.out, if_pos rfl, show cn .f64 r1 = _ from q1, HR2.out, cn_half64], by have := HE2.out; (repeat first | with_reducible exact Ext.rfl' _ | with_reducible refine Ext.drewN ?_ _ | with_reducible refine Ext.drew' ?_ | with_reducible refine Ext.alloc' ?_ _ | with_reducible refine Ext.setCell_at ?_ _ _ _ (by first | exact Nat.le_refl _ | omega) | with_reducible assumption | refine Ext.trans ?_ (by with_reducible assumption))⟩
      | false =>
        go_wp2_with (first | (refine wpList_float rfl _ _ _ _ _ rfl (by decide) _ _ _ rfl rfl ?_; intro r1 n1 q1) | (refine wpList_fcmp rfl _ _ _ _ _ rfl rfl _ _ _ rfl rfl _ (by first | with_reducible assumption | rfl) ?_) | (refine wpList_fneg rfl _ _ rfl _ _ rfl ?_; intro r1 q1))
        go_meet
        case rel => exact ⟨_, rfl, by unfold foldP; rw [HC.out]; exact HR2.out, HE2.out⟩
    case rest =>
      obtain ⟨r3, rfl, hr3, he3⟩ := hcut
      have HR3 := Lib.hid hr3
      have HE3 := Lib.hid he3
      clear hr3 he3 HE2 HR2 HC
      go_wp2_with (first | (refine wpList_float rfl _ _ _ _ _ rfl (by decide) _ _ _ rfl rfl ?_; intro r4 n4 q4; have HQ := Lib.hid q4; clear q4))
      rename_i z5 n5 HZ KK hKK
      have HZ2 := Lib.hid (show cn .f64 z5 = tailZ F by unfold tailZ; rw [← HR3.out, ← cn_turn64]; exact HZ.out)
      have HU := Lib.hid (show cn .f64 r4 = fop .mul .f64 (tailZ F) (tailZ F) by rw [← HZ2.out]; exact HQ.out)
      have HX := Lib.hid (show Ext w (wc.drewN (n5 + n4)) by have := HE3.out; (repeat first | with_reducible exact Ext.rfl' _ | with_reducible refine Ext.drewN ?_ _ | with_reducible refine Ext.drew' ?_ | with_reducible refine Ext.alloc' ?_ _ | with_reducible refine Ext.setCell_at ?_ _ _ _ (by first | exact Nat.le_refl _ | omega) | with_reducible assumption | refine Ext.trans ?_ (by with_reducible assumption)))
      clear HZ HQ
      go_loopw [7, 8] (fun q i wr => ∃ (K : Nat) (r : Nat), K ≤ 8 ∧ i = .int .i64 K ∧ q = .float .f64 r ∧ cn .f64 r = polyP (fop .mul .f64 (tailZ F) (tailZ F)) (8 - K) ∧ Ext w wr) (fun _ i _ => (intOf i).toNat)
      case atStart => exact ⟨8, _, by omega, rfl, rfl, cn_one64, HX.out⟩
      case round =>
        obtain ⟨K, r5, hK, rfl, rfl, hr5, he5⟩ := hrel
        have HR5 := Lib.hid hr5
        have HE5 := Lib.hid he5
        clear hr5 he5
        by_cases hk : (1 : Int) ≤ K
        · obtain ⟨m0, m1⟩ := mul_bnd hK
          have x1 : IntKind.i64.wrap (2 * (K : Int)) = 2 * (K : Int) := IntWalk.i64_in _ (by omega)
          have x2 : IntKind.i64.wrap (2 * (K : Int) + 1) = 2 * (K : Int) + 1 := IntWalk.i64_in _ (by omega)
          have x3 : IntKind.i64.wrap (2 * (K : Int) * (2 * (K : Int) + 1)) = 2 * (K : Int) * (2 * (K : Int) + 1) := IntWalk.i64_in _ (by omega)
          have x4 : IntKind.i64.wrap ((K : Int) - 1) = ((K - 1 : Nat) : Int) := by rw [IntWalk.i64_in _ (by omega)]; omega
          clear m0 m1
          go_wp2_with (first | (refine wpList_float rfl _ _ _ _ _ rfl (by decide) _ _ _ rfl rfl ?_; intro r6 n6 q6; have HQ := Lib.hid q6; clear q6))
          rename_i a1 k1 HA1 a2 k2 HA2
          have hfin := roundP_int (fop .mul .f64 (tailZ F) (tailZ F)) r6 K (by omega) hK a1 a2 (by rw [← HR5.out, ← HU.out]; exact HA1.out) HA2.out HQ.out
          have HFIN := Lib.hid hfin
          clear hfin HA1 HA2 HQ
          go_roundw
          case rel => exact ⟨K - 1, r6, by omega, rfl, rfl, HFIN.out, by have := HE5.out; (repeat first | with_reducible exact Ext.rfl' _ | with_reducible refine Ext.drewN ?_ _ | with_reducible refine Ext.drew' ?_ | with_reducible refine Ext.alloc' ?_ _ | with_reducible refine Ext.setCell_at ?_ _ _ _ (by first | exact Nat.le_refl _ | omega) | with_reducible assumption | refine Ext.trans ?_ (by with_reducible assumption))⟩
          case measure => simp only [intOf]; omega
        · have HK0 := Lib.hid (show K = 0 by omega)
          have HFR := Lib.hid (show ∀ r, cn .f64 r = fop .mul .f64 (cn .f64 z5) (cn .f64 r5) → cn .f64 r = tailR F by
            intro r hr
            unfold tailR
            rw [hr, HZ2.out, HR5.out, HK0.out])
          cases B with
          | true =>
            go_wp2_with (first
              | (refine wpList_fneg rfl _ _ rfl _ _ rfl ?_; intro r7 q7; have HN := Lib.hid q7; clear q7)
              | (refine wpList_float rfl _ _ _ _ _ rfl (by decide) _ _ _ rfl rfl ?_; intro r6 n6 q6; have HQ := Lib.hid q6; clear q6))
            go_ret
            refine ⟨by have := HE5.out; (repeat first | with_reducible exact Ext.rfl' _ | with_reducible refine Ext.drewN ?_ _ | with_reducible refine Ext.drew' ?_ | with_reducible refine Ext.alloc' ?_ _ | with_reducible refine Ext.setCell_at ?_ _ _ _ (by first | exact Nat.le_refl _ | omega) | with_reducible assumption | refine Ext.trans ?_ (by with_reducible assumption)), _, rfl, ?_⟩
            show _ = sinW y; unfold sinW; rw [HF.out]
            unfold tailP
            rw [HBW.out, if_pos rfl, show cn .f64 r7 = _ from HN.out, HFR.out _ HQ.out]
          | false =>
            go_wp2_with (first
              | (refine wpList_float rfl _ _ _ _ _ rfl (by decide) _ _ _ rfl rfl ?_; intro r6 n6 q6; have HQ := Lib.hid q6; clear q6))
            go_ret
            refine ⟨by have := HE5.out; (repeat first | with_reducible exact Ext.rfl' _ | with_reducible refine Ext.drewN ?_ _ | with_reducible refine Ext.drew' ?_ | with_reducible refine Ext.alloc' ?_ _ | with_reducible refine Ext.setCell_at ?_ _ _ _ (by first | exact Nat.le_refl _ | omega) | with_reducible assumption | refine Ext.trans ?_ (by with_reducible assumption)), _, rfl, ?_⟩
            show _ = sinW y; unfold sinW; rw [HF.out]
            unfold tailP
            rw [HBW.out, HFR.out _ HQ.out]
            rfl
end Go.Proofs.Ytfehhbmmdbpdpaa
/- Phasors: a table of 34 turns, by evaluation. -/
namespace Go.Proofs.Ytfehhbmmdbpdpaa
open Go Go.RowKit
set_option linter.unusedVariables false
set_option linter.unusedSimpArgs false

/-- the part of a turn, less quarters -/
def fsP (y : Nat) : Nat → Nat
  | 0 => upP (fracP y)
  | j + 1 => fop .sub .f64 (fsP y j) quart64
def geqQ (x : Nat) : Bool := fcmp .geq .f64 x quart64
def qP (y : Nat) : Nat := if geqQ (fsP y 0) then if geqQ (fsP y 1) then if geqQ (fsP y 2) then 3 else 2 else 1 else 0
def cArg (y : Nat) : Nat := fop .sub .f64 quart64 (fsP y (qP y))
def rotC (y : Nat) : Nat := match qP y with
  | 0 => sinW (cArg y)
  | 1 => fop .sub .f64 0 (sinW (fsP y (qP y)))
  | 2 => fop .sub .f64 0 (sinW (cArg y))
  | _ => sinW (fsP y (qP y))
def rotS (y : Nat) : Nat := match qP y with
  | 0 => sinW (fsP y (qP y))
  | 1 => sinW (cArg y)
  | 2 => fop .sub .f64 0 (sinW (fsP y (qP y)))
  | _ => fop .sub .f64 0 (sinW (cArg y))
def isNum (x : Nat) : Bool := decide (x < 18446744073709551616) && match FloatKind.f64.decode x with | .number _ _ _ => true | _ => false
def valQ (x : Nat) : Rat := match FloatKind.f64.decode x with | .number s m p => rat s m p | _ => 0
theorem val_of_num {x : Nat} (h : isNum x = true) : Val .f64 x (valQ x) := by
  unfold isNum at h
  rw [Bool.and_eq_true] at h
  refine ⟨of_decide_eq_true h.1, ?_⟩
  unfold valQ
  cases e : FloatKind.f64.decode x with
  | number s m p => exact ⟨s, m, p, rfl, rfl⟩
  | infinity s => rw [e] at h; exact absurd h.2 Bool.false_ne_true
  | nan s t => rw [e] at h; exact absurd h.2 Bool.false_ne_true
def okP (y : Nat) : Bool :=
  isNum y && !isBig y && isNum (fsP y 0) && isNum (fsP y 1) && isNum (fsP y 2) && isNum (fsP y 3) && !geqQ (fsP y (qP y)) && isNum (cArg y) && !isBig (cArg y) && !isBig (fsP y (qP y)) && isNum (sinW (cArg y)) && isNum (sinW (fsP y (qP y))) && isNum (rotC y) && isNum (rotS y) &&
    decide ((valQ (rotC y)).abs ≤ 10001 / 10000) && decide ((valQ (rotS y)).abs ≤ 10001 / 10000) && decide ((valQ (rotC y) * valQ (rotC y) + valQ (rotS y) * valQ (rotS y) - 1).abs ≤ 1 / 100000000)
/-- turns in 32nds, from -16 on -/
def turnY (t : Nat) : Nat := G (32 * ((t : Int) - 16))
/-- .. turned back -/
def backY (t : Nat) : Nat := if t = 16 then 9223372036854775808 else G (32 * (16 - (t : Int)))
theorem phasors_ok : (List.range 33).all (fun t => okP (turnY t)) = true := by kernel_rfl
theorem backs_ok : okP 9223372036854775808 = true := by kernel_rfl
theorem back_near : (List.range 33).all (fun t => decide ((valQ (rotC (turnY t)) * valQ (rotC (backY t)) - valQ (rotS (turnY t)) * valQ (rotS (backY t)) - 1).abs ≤ 1 / 100000000) && decide ((valQ (rotC (turnY t)) * valQ (rotS (backY t)) + valQ (rotS (turnY t)) * valQ (rotC (backY t))).abs ≤ 1 / 100000000)) = true := by kernel_rfl
end Go.Proofs.Ytfehhbmmdbpdpaa
/- Walks: the phasor of a turn, nearly. -/
namespace Go.Proofs.Ytfehhbmmdbpdpaa
open Go Go.RowKit
set_option linter.unusedVariables false
set_option linter.unusedSimpArgs false
attribute [local go_sem] run_store_float run_store_complex

theorem run_bits64 (x : Nat) (w : World) : (callFunc 116 #[.float .f64 x]).run Try.prog w = .ok (.value (.int .u64 x)) w := by
  rw [run_callFunc_extern Try.func116 (by kernel_rfl) (by kernel_rfl) (by kernel_rfl) (e := Extern.MathFloatBits.float64bits) (by kernel_rfl)]
  rfl
theorem run_from64 (x : Nat) (w : World) : (callFunc 115 #[.int .u64 x]).run Try.prog w = .ok (.value (.float .f64 x)) w := by
  rw [run_callFunc_extern Try.func115 (by kernel_rfl) (by kernel_rfl) (by kernel_rfl) (e := Extern.MathFloatBits.float64frombits) (by kernel_rfl)]
  rfl
theorem abs_bits (X : Nat) (hX : X < 18446744073709551616) : bits .andNot .u64 (X : Int) 9223372036854775808 = ((X % 9223372036854775808 : Nat) : Int) := by
  rw [u64_andNot _ _ (by omega) (by omega) (by decide) (by decide)]
  congr 1
  exact Nat.and_two_pow_sub_one_eq_mod X 63
theorem Abs_any (X : Nat) (hX : X < 18446744073709551616) (w : World) : Calls Try.prog 96 #[.float .f64 X] w fun e w' => Ext w w' ∧ e = .returned (.float .f64 (X % 9223372036854775808)) := by
  have h1 := fun w => run_bits64 X w
  have h2 := abs_bits X hX
  have h3 := fun w => run_from64 (X % 9223372036854775808) w
  clear hX
  generalize X % 9223372036854775808 = M at *
  go_enter Try.func96, Try.ntmps96
  go_wp2_with fail
  go_ret
  exact ⟨by (repeat first | with_reducible exact Ext.rfl' _ | with_reducible refine Ext.drewN ?_ _ | with_reducible refine Ext.drew' ?_ | with_reducible refine Ext.alloc' ?_ _ | with_reducible refine Ext.setCell_at ?_ _ _ _ (by first | exact Nat.le_refl _ | omega) | with_reducible assumption | refine Ext.trans ?_ (by with_reducible assumption)), rfl⟩
/-- what the table says of a turn -/
structure OkT (y : Nat) : Prop where
  num : isNum y = true
  big : isBig y = false
  f0 : isNum (fsP y 0) = true
  f1 : isNum (fsP y 1) = true
  f2 : isNum (fsP y 2) = true
  f3 : isNum (fsP y 3) = true
  below : geqQ (fsP y (qP y)) = false
  carg : isNum (cArg y) = true
  cbig : isBig (cArg y) = false
  fbig : isBig (fsP y (qP y)) = false
  sc : isNum (sinW (cArg y)) = true
  ss : isNum (sinW (fsP y (qP y))) = true
  rc : isNum (rotC y) = true
  rs : isNum (rotS y) = true
  bc : (valQ (rotC y)).abs ≤ 10001 / 10000
  bs : (valQ (rotS y)).abs ≤ 10001 / 10000
  one : (valQ (rotC y) * valQ (rotC y) + valQ (rotS y) * valQ (rotS y) - 1).abs ≤ 1 / 100000000
theorem okT {y : Nat} (h : okP y = true) : OkT y := by
  unfold okP at h
  simp only [Bool.and_eq_true, Bool.not_eq_true', decide_eq_true_eq] at h
  obtain ⟨⟨⟨⟨⟨⟨⟨⟨⟨⟨⟨⟨⟨⟨⟨⟨h1, h2⟩, h3⟩, h4⟩, h5⟩, h6⟩, h7⟩, h8⟩, h9⟩, h10⟩, h11⟩, h12⟩, h13⟩, h14⟩, h15⟩, h16⟩, h17⟩ := h
  exact ⟨h1, h2, h3, h4, h5, h6, h7, h8, h9, h10, h11, h12, h13, h14, h15, h16, h17⟩
theorem cn_back {r x : Nat} (h : cn .f64 r = x) (hx : isNum x = true) : r = x := by
  have hv := (val_of_num hx).isN
  by_cases hn : isN .f64 r = true
  · rw [cn_of hn] at h
    rw [← h, isN_qn] at hv
    cases hv
  · rw [cn_of_not (by simpa using hn)] at h
    exact h
theorem fop_bits {op : BinOp} {x y : Nat} (h : isNum (fop op .f64 x y) = true) : floatBits op .f64 x y = some (fop op .f64 x y) := by
  unfold fop at h ⊢
  cases e : floatBits op .f64 x y with
  | some r => rfl
  | none =>
    rw [e] at h
    exfalso
    have hv := (val_of_num h).isN
    rw [show (none : Option Nat).getD (qn .f64) = qn .f64 from rfl, isN_qn] at hv
    cases hv
end Go.Proofs.Ytfehhbmmdbpdpaa
/- Walks: the phasor of a turn, nearly. -/
namespace Go.Proofs.Ytfehhbmmdbpdpaa
open Go Go.RowKit
set_option linter.unusedVariables false
set_option linter.unusedSimpArgs false
attribute [local go_sem] run_store_float run_store_complex

theorem isNum_dec {x : Nat} (h : isNum x = true) : ∃ s m p, FloatKind.f64.decode x = .number s m p := by
  obtain ⟨-, s, m, p, e, -⟩ := val_of_num h
  exact ⟨s, m, p, e⟩
theorem num0_64 : Val .f64 0 0 := by
  have h := val_of_num (x := 0) (by decide +kernel)
  have e : valQ 0 = 0 := by decide +kernel
  rw [e] at h
  exact h
def absSmall (y : Nat) : Bool := !fcmp .geq .f64 (y % 9223372036854775808) 4841369599423283200
theorem turns_small : (List.range 33).all (fun t => absSmall (turnY t)) = true := by kernel_rfl
theorem qP_le (y : Nat) : qP y ≤ 3 := by unfold qP; split <;> (try split) <;> (try split) <;> omega
theorem qP_step {y k : Nat} (h : k < qP y) : geqQ (fsP y k) = true := by
  unfold qP at h
  by_cases h0 : geqQ (fsP y 0) = true
  · rw [if_pos h0] at h
    by_cases h1 : geqQ (fsP y 1) = true
    · rw [if_pos h1] at h
      by_cases h2 : geqQ (fsP y 2) = true
      · rw [if_pos h2] at h
        rcases k with _ | _ | _ | k
        · exact h0
        · exact h1
        · exact h2
        · omega
      · rw [if_neg h2] at h
        rcases k with _ | _ | k
        · exact h0
        · exact h1
        · omega
    · rw [if_neg h1] at h
      rcases k with _ | k
      · exact h0
      · omega
  · rw [if_neg h0] at h
    omega
theorem OkT.isNum_fs {y : Nat} (h : OkT y) {k : Nat} (hk : k ≤ 3) : isNum (fsP y k) = true := by
  rcases k with _ | _ | _ | _ | k
  · exact h.f0
  · exact h.f1
  · exact h.f2
  · exact h.f3
  · omega
theorem OkT.step {y : Nat} (h : OkT y) {k : Nat} (hk : k < qP y) : floatBits .sub .f64 (fsP y k) 4598175219545276416 = some (fsP y (k + 1)) := by
  have hq := qP_le y
  have e : fop .sub .f64 (fsP y k) 4598175219545276416 = fsP y (k + 1) := rfl
  rw [← e]
  exact fop_bits (by rw [e]; exact h.isNum_fs (by omega))
theorem sine_num {y : Nat} (hn : isNum y = true) (hb : isBig y = false) (hs : isNum (sinW y) = true) (w : World) : Calls Try.prog 98 #[.float .f64 y] w fun e w' => Ext w w' ∧ e = .returned (.float .f64 (sinW y)) := by
  obtain ⟨s, m, p, d⟩ := isNum_dec hn
  refine (sine_any d hb w).mono ?_
  rintro e w' ⟨he, r, rfl, hr⟩
  obtain rfl := cn_back hr hs
  exact ⟨he, rfl⟩
set_option maxRecDepth 100000 in
set_option maxHeartbeats 800000 in
theorem PhasorOf_V {y : Nat} (hk : OkT y) (hab : absSmall y = true) (w : World) : Calls Try.prog 54 #[.float .f64 y] w fun e w' => Ext w w' ∧ ∃ m n R I, e = .returned (.complex .f32 m n) ∧ Val .f32 m R ∧ Val .f32 n I ∧ (R - valQ (rotC y)).abs ≤ 1 / 8388608 ∧ (I - valQ (rotS y)).abs ≤ 1 / 8388608 := by
  obtain ⟨z, hz1, hz2⟩ := val_sub_self (val_of_num hk.num)
  have hz3 : fcmp .neq .f64 z 0 = false := (val_neq hz2 num0_64).trans (by simp)
  have hz4 : fcmp .geq .f64 (y % 9223372036854775808) 4841369599423283200 = false := by unfold absSmall at hab; simpa using hab
  obtain ⟨s, m, p, hdy⟩ := isNum_dec hk.num
  have hylt : y < 18446744073709551616 := (val_of_num hk.num).1
  have HK := Lib.hid hk
  have HDY := Lib.hid hdy
  have HYL := Lib.hid hylt
  have e1 : pw 1 = 2 := by decide +kernel
  have e23 : pw (1 - 24) = 1 / 8388608 := by decide +kernel
  obtain ⟨a, A, a1, a2, -, a3⟩ := val_narrow (val_of_num hk.rc) 1 (by rw [e1]; exact Rat.le_trans hk.bc (by decide +kernel)) (by decide) (by decide)
  obtain ⟨b, B, b1, b2, -, b3⟩ := val_narrow (val_of_num hk.rs) 1 (by rw [e1]; exact Rat.le_trans hk.bs (by decide +kernel)) (by decide) (by decide)
  rw [e23] at a2 b2
  have HA := Lib.hid a3
  have HB := Lib.hid b3
  have HFIN := Lib.hid (show Val .f32 a A ∧ Val .f32 b B ∧ (A - valQ (rotC y)).abs ≤ 1 / 8388608 ∧ (B - valQ (rotS y)).abs ≤ 1 / 8388608 from ⟨a1, b1, a2, b2⟩)
  clear hk hab hz2 hdy hylt e1 e23 a1 a2 a3 b1 b2 b3
  go_enter Try.func54, Try.ntmps54
  go_wp2_with (first
    | (refine wpList_floatD rfl .sub _ _ _ _ rfl (by simp) _ _ _ rfl rfl _ hz1 ?_)
    | (refine wpList_fcmpD rfl .neq _ _ _ _ rfl rfl _ _ _ rfl rfl _ hz3 ?_)
    | (refine wpList_fcmpD rfl .geq _ _ _ _ rfl rfl _ _ _ rfl rfl _ hz4 ?_)
    | (go_at_call 96; refine (Abs_any _ HYL.out _).mono ?_; rintro e w2 ⟨he2, rfl⟩)
    | (go_at_call 97; refine (partOf_any HDY.out HK.out.big _).mono ?_; rintro e w3 ⟨he3, r0, rfl, hr0⟩; obtain rfl := cn_back hr0 HK.out.f0; clear hr0))
  clear hz1 hz3 hz4
  have HE3 := Lib.hid (show Ext w w3 by (repeat first | with_reducible exact Ext.rfl' _ | with_reducible refine Ext.drewN ?_ _ | with_reducible refine Ext.drew' ?_ | with_reducible refine Ext.alloc' ?_ _ | with_reducible refine Ext.setCell_at ?_ _ _ _ (by first | exact Nat.le_refl _ | omega) | with_reducible assumption | refine Ext.trans ?_ (by with_reducible assumption)))
  clear he2 he3
  go_loopw [3, 4] (fun v i wr => ∃ k, k ≤ qP y ∧ v = .float .f64 (fsP y k) ∧ i = .int .i64 (k : Int) ∧ Ext w wr) (fun _ i _ => 3 - (intOf i).toNat)
  case atStart => exact ⟨0, Nat.zero_le _, rfl, rfl, HE3.out⟩
  case round =>
    obtain ⟨k, hkq, rfl, rfl, hew⟩ := hrel
    have HE := Lib.hid hew
    have hq3 := qP_le y
    clear hew HE3
    by_cases hlt : k < qP y
    · have c1 : fcmp .geq .f64 (fsP y k) 4598175219545276416 = true := qP_step hlt
      have c2 : floatBits .sub .f64 (fsP y k) 4598175219545276416 = some (fsP y (k + 1)) := HK.out.step hlt
      have hk1 : IntKind.i64.wrap ((k : Int) + 1) = ((k + 1 : Nat) : Int) := by rw [IntWalk.i64_in _ (by omega)]; omega
      go_wp2_with (first
        | (refine wpList_fcmpD rfl .geq _ _ _ _ rfl rfl _ _ _ rfl rfl _ c1 ?_)
        | (refine wpList_floatD rfl .sub _ _ _ _ rfl (by simp) _ _ _ rfl rfl _ c2 ?_))
      exact ⟨⟨k + 1, by omega, rfl, by go_num, HE.out⟩, by simp [intOf]; omega⟩
    · have hkn : k = qP y := by omega
      have c1 : fcmp .geq .f64 (fsP y k) 4598175219545276416 = false := by rw [hkn]; exact HK.out.below
      have c2 : floatBits .sub .f64 4598175219545276416 (fsP y k) = some (cArg y) := by rw [hkn]; exact fop_bits HK.out.carg
      have S1 := Lib.hid (sine_num HK.out.carg HK.out.cbig HK.out.sc)
      have S2 := Lib.hid (sine_num (y := fsP y k) (HK.out.isNum_fs (by omega)) (by rw [hkn]; exact HK.out.fbig) (by rw [hkn]; exact HK.out.ss))
      have D5 := Lib.hid (show k = 0 → rotC y = sinW (cArg y) ∧ rotS y = sinW (fsP y k) by intro h; unfold rotC rotS; rw [← hkn, h]; exact ⟨rfl, rfl⟩)
      have D6 := Lib.hid (show k = 1 → floatBits .sub .f64 0 (sinW (fsP y k)) = some (rotC y) ∧ rotS y = sinW (cArg y) by
        intro h
        have e : fop .sub .f64 0 (sinW (fsP y k)) = rotC y := by unfold rotC; rw [← hkn, h]; rfl
        refine ⟨by rw [← e]; exact fop_bits (by rw [e]; exact HK.out.rc), by unfold rotS; rw [← hkn, h]; rfl⟩)
      have D7 := Lib.hid (show k = 2 → floatBits .sub .f64 0 (sinW (cArg y)) = some (rotC y) ∧ floatBits .sub .f64 0 (sinW (fsP y k)) = some (rotS y) by
        intro h
        have e : fop .sub .f64 0 (sinW (cArg y)) = rotC y := by unfold rotC; rw [← hkn, h]; rfl
        have e' : fop .sub .f64 0 (sinW (fsP y k)) = rotS y := by unfold rotS; rw [← hkn, h]; rfl
        exact ⟨by rw [← e]; exact fop_bits (by rw [e]; exact HK.out.rc), by rw [← e']; exact fop_bits (by rw [e']; exact HK.out.rs)⟩)
      have D8 := Lib.hid (show k = 3 → rotC y = sinW (fsP y k) ∧ floatBits .sub .f64 0 (sinW (cArg y)) = some (rotS y) by
        intro h
        have e' : fop .sub .f64 0 (sinW (cArg y)) = rotS y := by unfold rotS; rw [← hkn, h]; rfl
        exact ⟨by unfold rotC; rw [← hkn, h]; rfl, by rw [← e']; exact fop_bits (by rw [e']; exact HK.out.rs)⟩)
      have hk3 : k ≤ 3 := by omega
      clear hkn hkq hlt hq3 HK HDY HYL
      generalize sinW (fsP y k) = SF at *
      generalize fsP y k = F at *
      generalize sinW (cArg y) = SC at *
      generalize cArg y = C at *
      generalize hRC : rotC y = RC at *
      generalize hRS : rotS y = RS at *
      rcases (show k = 0 ∨ k = 1 ∨ k = 2 ∨ k = 3 by omega) with rfl | rfl | rfl | rfl
      · obtain ⟨rfl, rfl⟩ := D5.out rfl
        have hA := HA.out
        have hB := HB.out
        go_wp2_with (first
          | (refine wpList_fcmpD rfl .geq _ _ _ _ rfl rfl _ _ _ rfl rfl _ c1 ?_)
          | (refine wpList_floatD rfl .sub _ _ _ _ rfl (by simp) _ _ _ rfl rfl _ c2 ?_))
        refine (S1.out _).mono ?_
        rintro e w4 ⟨he4, rfl⟩
        go_wp2_with fail
        refine (S2.out _).mono ?_
        rintro e w5 ⟨he5, rfl⟩
        go_wp2_with (first
          | (refine wpList_floatD rfl .sub _ _ _ _ rfl (by simp) _ _ _ rfl rfl _ f1 ?_)
          | (refine wpList_floatD rfl .sub _ _ _ _ rfl (by simp) _ _ _ rfl rfl _ f2 ?_))
        go_ret
        exact ⟨by have := HE.out; (repeat first | with_reducible exact Ext.rfl' _ | with_reducible refine Ext.drewN ?_ _ | with_reducible refine Ext.drew' ?_ | with_reducible refine Ext.alloc' ?_ _ | with_reducible refine Ext.setCell_at ?_ _ _ _ (by first | exact Nat.le_refl _ | omega) | with_reducible assumption | refine Ext.trans ?_ (by with_reducible assumption)), a, b, A, B, rfl, by rw [hRC, hRS]; exact HFIN.out⟩
      · obtain ⟨f1, rfl⟩ := D6.out rfl
        have hA := HA.out
        have hB := HB.out
        go_wp2_with (first
          | (refine wpList_fcmpD rfl .geq _ _ _ _ rfl rfl _ _ _ rfl rfl _ c1 ?_)
          | (refine wpList_floatD rfl .sub _ _ _ _ rfl (by simp) _ _ _ rfl rfl _ c2 ?_))
        refine (S1.out _).mono ?_
        rintro e w4 ⟨he4, rfl⟩
        go_wp2_with fail
        refine (S2.out _).mono ?_
        rintro e w5 ⟨he5, rfl⟩
        go_wp2_with (first
          | (refine wpList_floatD rfl .sub _ _ _ _ rfl (by simp) _ _ _ rfl rfl _ f1 ?_)
          | (refine wpList_floatD rfl .sub _ _ _ _ rfl (by simp) _ _ _ rfl rfl _ f2 ?_))
        go_ret
        exact ⟨by have := HE.out; (repeat first | with_reducible exact Ext.rfl' _ | with_reducible refine Ext.drewN ?_ _ | with_reducible refine Ext.drew' ?_ | with_reducible refine Ext.alloc' ?_ _ | with_reducible refine Ext.setCell_at ?_ _ _ _ (by first | exact Nat.le_refl _ | omega) | with_reducible assumption | refine Ext.trans ?_ (by with_reducible assumption)), a, b, A, B, rfl, by rw [hRC, hRS]; exact HFIN.out⟩
      · obtain ⟨f1, f2⟩ := D7.out rfl
        have hA := HA.out
        have hB := HB.out
        go_wp2_with (first
          | (refine wpList_fcmpD rfl .geq _ _ _ _ rfl rfl _ _ _ rfl rfl _ c1 ?_)
          | (refine wpList_floatD rfl .sub _ _ _ _ rfl (by simp) _ _ _ rfl rfl _ c2 ?_))
        refine (S1.out _).mono ?_
        rintro e w4 ⟨he4, rfl⟩
        go_wp2_with fail
        refine (S2.out _).mono ?_
        rintro e w5 ⟨he5, rfl⟩
        go_wp2_with (first
          | (refine wpList_floatD rfl .sub _ _ _ _ rfl (by simp) _ _ _ rfl rfl _ f1 ?_)
          | (refine wpList_floatD rfl .sub _ _ _ _ rfl (by simp) _ _ _ rfl rfl _ f2 ?_))
        go_ret
        exact ⟨by have := HE.out; (repeat first | with_reducible exact Ext.rfl' _ | with_reducible refine Ext.drewN ?_ _ | with_reducible refine Ext.drew' ?_ | with_reducible refine Ext.alloc' ?_ _ | with_reducible refine Ext.setCell_at ?_ _ _ _ (by first | exact Nat.le_refl _ | omega) | with_reducible assumption | refine Ext.trans ?_ (by with_reducible assumption)), a, b, A, B, rfl, by rw [hRC, hRS]; exact HFIN.out⟩
      · obtain ⟨rfl, f1⟩ := D8.out rfl
        have hA := HA.out
        have hB := HB.out
        go_wp2_with (first
          | (refine wpList_fcmpD rfl .geq _ _ _ _ rfl rfl _ _ _ rfl rfl _ c1 ?_)
          | (refine wpList_floatD rfl .sub _ _ _ _ rfl (by simp) _ _ _ rfl rfl _ c2 ?_))
        refine (S1.out _).mono ?_
        rintro e w4 ⟨he4, rfl⟩
        go_wp2_with fail
        refine (S2.out _).mono ?_
        rintro e w5 ⟨he5, rfl⟩
        go_wp2_with (first
          | (refine wpList_floatD rfl .sub _ _ _ _ rfl (by simp) _ _ _ rfl rfl _ f1 ?_)
          | (refine wpList_floatD rfl .sub _ _ _ _ rfl (by simp) _ _ _ rfl rfl _ f2 ?_))
        go_ret
        exact ⟨by have := HE.out; (repeat first | with_reducible exact Ext.rfl' _ | with_reducible refine Ext.drewN ?_ _ | with_reducible refine Ext.drew' ?_ | with_reducible refine Ext.alloc' ?_ _ | with_reducible refine Ext.setCell_at ?_ _ _ _ (by first | exact Nat.le_refl _ | omega) | with_reducible assumption | refine Ext.trans ?_ (by with_reducible assumption)), a, b, A, B, rfl, by rw [hRC, hRS]; exact HFIN.out⟩
end Go.Proofs.Ytfehhbmmdbpdpaa
/- Walks: the closures of FlatPlate and TurnPlate. -/
namespace Go.Proofs.Ytfehhbmmdbpdpaa
open Go Go.RowKit
set_option linter.unusedVariables false
set_option linter.unusedSimpArgs false
attribute [local go_sem] run_store_float run_store_complex

set_option maxHeartbeats 800000 in
/-- the corner of a flat plate: its place times the phasor kept -/
theorem put_V {g q x m n : Nat} {P c d : Rat} (w : World) (hb : Blk w g 27 #[.complex .f32 m n]) (hx : Val .f32 x P) (hm : Val .f32 m c) (hn : Val .f32 n d) (hP : P.abs ≤ 4) (hc : c.abs ≤ 2) (hd : d.abs ≤ 2) :
    Calls Try.prog 57 #[.float .f32 q, .complex .f32 x 0, .pointer (some ⟨g, 0, none⟩)] w fun e w' => Ext w w' ∧ ∃ m m' R I, e = .returned (.complex .f32 m m') ∧ Val .f32 m R ∧ Val .f32 m' I ∧ (R - P * c).abs ≤ 1 / 1000000 ∧ (I - P * d).abs ≤ 1 / 1000000 := by
  have hcell : w.cell? ⟨g, 0, none⟩ = some (.complex .f32 m n) := by
    unfold Blk at hb
    simp [World.cell?, hb]
  have h0 := num_zero
  have hM := fun w => MulComplex_V hx h0 hm hn hP (by decide +kernel) hc hd w
  rw [show P * c - 0 * d = P * c by grind, show P * d + 0 * c = P * d by grind] at hM
  have HM := Lib.hid hM
  clear hM hx hm hn hP hc hd h0 hb
  go_enter Try.func57, Try.ntmps57
  go_wp2_with fail
  refine (HM.out _).mono ?_
  rintro e w4 ⟨rfl, a, b, R, I, rfl, r⟩
  have HR := Lib.hid r
  clear r
  go_wp2_with fail
  go_ret
  exact ⟨by (repeat first | with_reducible exact Ext.rfl' _ | with_reducible refine Ext.drewN ?_ _ | with_reducible refine Ext.drew' ?_ | with_reducible refine Ext.alloc' ?_ _ | with_reducible refine Ext.setCell_at ?_ _ _ _ (by first | exact Nat.le_refl _ | omega) | with_reducible assumption | refine Ext.trans ?_ (by with_reducible assumption)), a, b, R, I, rfl, HR.out⟩
set_option maxHeartbeats 800000 in
/-- a corner turned -/
theorem turn_V {g x y m n : Nat} {P Q c d : Rat} (w : World) (hb : Blk w g 27 #[.complex .f32 m n]) (hx : Val .f32 x P) (hy : Val .f32 y Q) (hm : Val .f32 m c) (hn : Val .f32 n d) (hP : P.abs ≤ 4) (hQ : Q.abs ≤ 4) (hc : c.abs ≤ 2) (hd : d.abs ≤ 2) :
    Calls Try.prog 63 #[.complex .f32 x y, .pointer (some ⟨g, 0, none⟩)] w fun e w' => Ext w w' ∧ ∃ m m' R I, e = .returned (.complex .f32 m m') ∧ Val .f32 m R ∧ Val .f32 m' I ∧ (R - (P * c - Q * d)).abs ≤ 1 / 1000000 ∧ (I - (P * d + Q * c)).abs ≤ 1 / 1000000 := by
  have hcell : w.cell? ⟨g, 0, none⟩ = some (.complex .f32 m n) := by
    unfold Blk at hb
    simp [World.cell?, hb]
  have hM := fun w => MulComplex_V hx hy hm hn hP hQ hc hd w
  have HM := Lib.hid hM
  clear hM hx hy hm hn hP hQ hc hd hb
  go_enter Try.func63, Try.ntmps63
  go_wp2_with fail
  refine (HM.out _).mono ?_
  rintro e w4 ⟨rfl, a, b, R, I, rfl, r⟩
  have HR := Lib.hid r
  clear r
  go_wp2_with fail
  go_ret
  exact ⟨by (repeat first | with_reducible exact Ext.rfl' _ | with_reducible refine Ext.drewN ?_ _ | with_reducible refine Ext.drew' ?_ | with_reducible refine Ext.alloc' ?_ _ | with_reducible refine Ext.setCell_at ?_ _ _ _ (by first | exact Nat.le_refl _ | omega) | with_reducible assumption | refine Ext.trans ?_ (by with_reducible assumption)), a, b, R, I, rfl, HR.out⟩
end Go.Proofs.Ytfehhbmmdbpdpaa
/- The numbers of a flat plate: its corners' errors and bounds. -/
namespace Go.Proofs.Ytfehhbmmdbpdpaa
open Go Go.RowKit
set_option linter.unusedVariables false
set_option linter.unusedSimpArgs false

/-- a product of two near numbers -/
theorem near_mul {P P' c c' e f A B : Rat} (h1 : (P' - P).abs ≤ e) (h2 : (c' - c).abs ≤ f) (hP : P.abs ≤ A) (hc : c'.abs ≤ B) : (P' * c' - P * c).abs ≤ e * B + A * f := by
  have e1 : P' * c' - P * c = (P' - P) * c' + P * (c' - c) := by grind
  rw [e1]
  have k0 := abs_add ((P' - P) * c') (P * (c' - c))
  have k1 : ((P' - P) * c').abs ≤ e * B := by
    rw [abs_mul]
    exact Rat.le_trans (Rat.mul_le_mul_of_nonneg_right h1 (Rat.abs_nonneg)) (Rat.mul_le_mul_of_nonneg_left hc (Rat.le_trans Rat.abs_nonneg h1))
  have k2 : (P * (c' - c)).abs ≤ A * f := by
    rw [abs_mul]
    exact Rat.le_trans (Rat.mul_le_mul_of_nonneg_right hP (Rat.abs_nonneg)) (Rat.mul_le_mul_of_nonneg_left h2 (Rat.le_trans Rat.abs_nonneg hP))
  grind
theorem share_step (k n : Nat) (hn : 0 < n) : share (k + 1) n - share k n = 1 / (n : Rat) := by
  have h0 : (0 : Rat) < (n : Rat) := Rat.natCast_pos.2 hn
  unfold share
  have e : ((k + 1 : Nat) : Rat) = (k : Rat) + 1 := by push_cast; rfl
  rw [e]
  have e2 : ((k : Rat) + 1) / (n : Rat) = (k : Rat) / (n : Rat) + 1 / (n : Rat) := by
    rw [Rat.div_def, Rat.div_def, Rat.div_def, Rat.add_mul]
  rw [e2]
  grind
theorem inv_bound {n : Nat} (hn : 0 < n) (h8 : n ≤ 9) : (1 : Rat) / 9 ≤ 1 / (n : Rat) := by
  rcases (show n = 1 ∨ n = 2 ∨ n = 3 ∨ n = 4 ∨ n = 5 ∨ n = 6 ∨ n = 7 ∨ n = 8 ∨ n = 9 by omega) with rfl | rfl | rfl | rfl | rfl | rfl | rfl | rfl | rfl <;> decide +kernel
theorem sq_bound {d : Rat} (hd : 1 / 36 ≤ d) : 1 / 1296 ≤ d * d := by
  have h1 : (1 / 36 : Rat) * (1 / 36) ≤ d * (1 / 36) := Rat.mul_le_mul_of_nonneg_right hd (by decide +kernel)
  have h2 : d * (1 / 36 : Rat) ≤ d * d := Rat.mul_le_mul_of_nonneg_left hd (by grind)
  grind
theorem flat_far {L C S : Rat} {n : Nat} (hL : 1 / 4 ≤ L) (hn : 0 < n) (h8 : n ≤ 9) (ho : (C * C + S * S - 1).abs ≤ 1 / 100000000) (k : Nat) :
    1 / 1300 ≤ (L * share (k + 1) n * C - L * share k n * C) * (L * share (k + 1) n * C - L * share k n * C) + (L * share (k + 1) n * S - L * share k n * S) * (L * share (k + 1) n * S - L * share k n * S) := by
  have e := share_step k n hn
  have hi := inv_bound hn h8
  generalize (1 : Rat) / (n : Rat) = q at *
  have hd : 1 / 36 ≤ L * q := by
    have h1 : (1 / 4 : Rat) * (1 / 9) ≤ L * (1 / 9) := Rat.mul_le_mul_of_nonneg_right hL (by decide +kernel)
    have h2 : L * (1 / 9 : Rat) ≤ L * q := Rat.mul_le_mul_of_nonneg_left hi (by grind)
    grind
  have h3 := sq_bound hd
  have k1 := abs_le.1 ho
  have e2 : (L * share (k + 1) n * C - L * share k n * C) * (L * share (k + 1) n * C - L * share k n * C) + (L * share (k + 1) n * S - L * share k n * S) * (L * share (k + 1) n * S - L * share k n * S) = (L * q) * (L * q) * (C * C + S * S) := by
    rw [← e]; grind
  rw [e2]
  generalize L * q * (L * q) = D at *
  generalize C * C + S * S = O at *
  have h4 : (1 / 1296 : Rat) * (99999999 / 100000000) ≤ D * (99999999 / 100000000) := Rat.mul_le_mul_of_nonneg_right h3 (by decide +kernel)
  have h5 : D * (99999999 / 100000000 : Rat) ≤ D * O := Rat.mul_le_mul_of_nonneg_left (by grind) (by grind)
  grind
end Go.Proofs.Ytfehhbmmdbpdpaa
/- Walks: FlatPlate. -/
namespace Go.Proofs.Ytfehhbmmdbpdpaa
open Go Go.RowKit
set_option linter.unusedVariables false
set_option linter.unusedSimpArgs false
attribute [local go_sem] run_store_float run_store_complex

theorem Lies.set_plate {w : World} {r off : Nat} {u : Value} {cur : Array Value} {A : Option Addr} {xs : List Value} (h : Lies w 27 A xs) (hb : Blk w r 58 cur) : Lies (w.setCell ⟨r, off, none⟩ u) 27 A xs := fun hp => by
  obtain ⟨b, o, c, a1, a2, a3⟩ := h hp
  refine ⟨b, o, c, a1, ?_, a3⟩
  refine (heap_setCell_other w ⟨r, off, none⟩ b u (fun e => ?_)).trans a2
  have e' : b = r := by simpa using e
  subst e'
  exact absurd (a2.type hb) (by decide)
theorem share_abs {L : Rat} {k n : Nat} (h0 : 0 ≤ L) (h3 : L ≤ 3) (hk : k ≤ n) (hn : 0 < n) : (L * share k n).abs ≤ 3 / 2 := by
  obtain ⟨s1, -, -⟩ := share_bound hk hn
  rw [abs_mul, Rat.abs_of_nonneg h0]
  have h1 : L * (share k n).abs ≤ L * (1 / 2) := Rat.mul_le_mul_of_nonneg_left s1 h0
  grind
theorem corner_near {P Q c C R : Rat} (hQ : Q.abs ≤ 3 / 2) (hP : (P - Q).abs ≤ 1 / 800000) (hc : (c - C).abs ≤ 1 / 8388608) (hC : C.abs ≤ 10001 / 10000) (hR : (R - P * c).abs ≤ 1 / 1000000) : (R - Q * C).abs ≤ 1 / 400000 := by
  have h2 : c.abs ≤ 10002 / 10000 := by
    have k1 := abs_le.1 hc
    have k2 := abs_le.1 hC
    exact abs_le.2 ⟨by grind, by grind⟩
  have h := near_mul hP hc hQ h2
  have k1 := abs_le.1 h
  have k2 := abs_le.1 hR
  exact abs_le.2 ⟨by grind, by grind⟩
theorem place_abs {P Q : Rat} (hQ : Q.abs ≤ 3 / 2) (hP : (P - Q).abs ≤ 1 / 800000) : P.abs ≤ 4 := by
  have k1 := abs_le.1 hP
  have k2 := abs_le.1 hQ
  exact abs_le.2 ⟨by grind, by grind⟩
theorem unit_abs {c C : Rat} (hc : (c - C).abs ≤ 1 / 8388608) (hC : C.abs ≤ 10001 / 10000) : c.abs ≤ 2 := by
  have k1 := abs_le.1 hc
  have k2 := abs_le.1 hC
  exact abs_le.2 ⟨by grind, by grind⟩
theorem prod_abs {Q C : Rat} (hQ : Q.abs ≤ 3 / 2) (hC : C.abs ≤ 10001 / 10000) : (Q * C).abs ≤ 19 / 10 := by
  rw [abs_mul]
  have h1 : Q.abs * C.abs ≤ Q.abs * (10001 / 10000) := Rat.mul_le_mul_of_nonneg_left hC Rat.abs_nonneg
  grind
theorem flat_flat {w : World} {A : Option Addr} {cs : List (Nat × Nat)} {n : Nat} {L C S : Rat} (hl : Lies w 27 A (cpxB cs)) (hlen : cs.length = n + 1) (hn : 0 < n) (h8 : n ≤ 9) (hL : 1 / 4 ≤ L) (h3 : L ≤ 3)
    (ho : (C * C + S * S - 1).abs ≤ 1 / 100000000) (hC : C.abs ≤ 10001 / 10000) (hS : S.abs ≤ 10001 / 10000) (hnear : Near cs (fun k => L * share k n * C) (fun k => L * share k n * S) (1 / 400000)) :
    Flat w A cs (n + 1) (fun k => L * share k n * C) (fun k => L * share k n * S) (1 / 400000) :=
  ⟨hl, hlen, by omega, by omega, hnear, by decide +kernel, by decide +kernel,
    fun i hi => ⟨prod_abs (share_abs (by grind) h3 (by omega) hn) hC, prod_abs (share_abs (by grind) h3 (by omega) hn) hS⟩,
    fun i hi => flat_far hL hn h8 ho i⟩
set_option maxRecDepth 100000 in
set_option maxHeartbeats 1600000 in
theorem FlatPlate_V {n lb sb yb : Nat} {L : Rat} (w : World) (hn : 0 < n) (h8 : n ≤ 9) (hL : Val .f32 lb L) (hl : 1 / 4 ≤ L) (h3 : L ≤ 3) (hs : Num sb) (hwd : ∀ w, (convert 34 52 (.float .f32 sb)).run Try.prog w = .ok (.float .f64 yb) w) (hk : OkT yb) (hab : absSmall yb = true) :
    Calls Try.prog 24 #[.int .i64 n, .float .f32 lb, .float .f32 sb] w fun e w' => Ext w w' ∧ ∃ g c cs, e = .returned (.tuple #[.agg #[.slice (some ⟨g, 0, none⟩) (n + 1) c], .bool true]) ∧ Flat w' (some ⟨g, 0, none⟩) cs (n + 1) (fun k => L * share k n * valQ (rotC yb)) (fun k => L * share k n * valQ (rotS yb)) (1 / 400000) := by
  have HN := Lib.hid hn
  have H8 := Lib.hid h8
  have HL := Lib.hid hL
  have HL0 := Lib.hid hl
  have H3 := Lib.hid h3
  have HS := Lib.hid hs
  have HK := Lib.hid hk
  have HAB := Lib.hid hab
  have HIN := Lib.hid (in_V n 1 16 (by omega) (by omega))
  have HB0 := Lib.hid (Blk.new w 58 #[.slice none 0 0])
  have HE0 := Lib.hid (show Ext w (w.alloc (.cells #[.slice none 0 0] 58)) by (repeat first | with_reducible exact Ext.rfl' _ | with_reducible refine Ext.drewN ?_ _ | with_reducible refine Ext.drew' ?_ | with_reducible refine Ext.alloc' ?_ _ | with_reducible refine Ext.setCell_at ?_ _ _ _ (by first | exact Nat.le_refl _ | omega) | with_reducible assumption | refine Ext.trans ?_ (by with_reducible assumption)))
  clear hn h8 hL hl h3 hs hk hab
  go_enter Try.func24, Try.ntmps24
  go_wp2_with fail
  generalize (w.alloc (.cells #[.slice none 0 0] 58)) = W1 at *
  refine (HIN.out _).mono ?_
  rintro e' w2 ⟨rfl, rfl⟩
  go_wp2_with fail
  refine (lengthOk_V HL.out (by have := HL0.out; grind) _ _ _ (lies_newY w2 34 #[.float .f32 lb])).mono ?_
  rintro e' w3 ⟨he3, rfl⟩
  have HE3 := Lib.hid (show Ext w w3 by have := HE0.out; (repeat first | with_reducible exact Ext.rfl' _ | with_reducible refine Ext.drewN ?_ _ | with_reducible refine Ext.drew' ?_ | with_reducible refine Ext.alloc' ?_ _ | with_reducible refine Ext.setCell_at ?_ _ _ _ (by first | exact Nat.le_refl _ | omega) | with_reducible assumption | refine Ext.trans ?_ (by with_reducible assumption)))
  have HB3 := Lib.hid (HB0.out.ext (show Ext w2 w3 by (repeat first | with_reducible exact Ext.rfl' _ | with_reducible refine Ext.drewN ?_ _ | with_reducible refine Ext.drew' ?_ | with_reducible refine Ext.alloc' ?_ _ | with_reducible refine Ext.setCell_at ?_ _ _ _ (by first | exact Nat.le_refl _ | omega) | with_reducible assumption | refine Ext.trans ?_ (by with_reducible assumption))))
  clear he3
  go_wp2_with fail
  refine (IsFinite_V HS.out _).mono ?_
  rintro e' w4 ⟨he4, rfl⟩
  have HE4 := Lib.hid (Ext.trans HE3.out he4)
  have HB4 := Lib.hid (HB3.out.ext he4)
  clear he4
  go_wp2_with fail
  refine (PhasorOf_V HK.out HAB.out _).mono ?_
  rintro e' w5 ⟨he5, pm, pn, c, d, rfl, c1, c2, c3, c4⟩
  have HC := Lib.hid (show Val .f32 pm c ∧ Val .f32 pn d ∧ _ ∧ _ from ⟨c1, c2, c3, c4⟩)
  have HE5 := Lib.hid (Ext.trans HE4.out he5)
  have HB5 := Lib.hid (HB4.out.ext he5)
  clear he5 c1 c2 c3 c4
  go_wp2_with fail
  have HP := Lib.hid (Blk.new w5 27 #[.complex .f32 pm pn])
  have HE6 := Lib.hid (show Ext w (w5.alloc (.cells #[.complex .f32 pm pn] 27)) by have := HE5.out; (repeat first | with_reducible exact Ext.rfl' _ | with_reducible refine Ext.drewN ?_ _ | with_reducible refine Ext.drew' ?_ | with_reducible refine Ext.alloc' ?_ _ | with_reducible refine Ext.setCell_at ?_ _ _ _ (by first | exact Nat.le_refl _ | omega) | with_reducible assumption | refine Ext.trans ?_ (by with_reducible assumption)))
  have HB6 := Lib.hid (HB5.out.ext (show Ext w5 (w5.alloc (.cells #[.complex .f32 pm pn] 27)) by (repeat first | with_reducible exact Ext.rfl' _ | with_reducible refine Ext.drewN ?_ _ | with_reducible refine Ext.drew' ?_ | with_reducible refine Ext.alloc' ?_ _ | with_reducible refine Ext.setCell_at ?_ _ _ _ (by first | exact Nat.le_refl _ | omega) | with_reducible assumption | refine Ext.trans ?_ (by with_reducible assumption))))
  generalize (w5.alloc (.cells #[.complex .f32 pm pn] 27)) = W6 at *
  generalize w5.heap.size = g5 at *
  refine (corners_Flat (some ⟨g5, 0, none⟩) n lb L (fun k => L * share k n * valQ (rotC yb)) (fun k => L * share k n * valQ (rotS yb)) (1 / 400000) W6 HL.out (by have := HL0.out; grind) H3.out HN.out (by have := H8.out; omega) (fun k q x Q P w' hkn he hq hx hQ hP => by
    obtain ⟨c1, c2, c3, c4⟩ := HC.out
    have a0 := share_abs (k := k) (n := n) (by have := HL0.out; grind : 0 ≤ L) H3.out hkn HN.out
    refine (put_V w' (HP.out.ext he) hx c1 c2 (place_abs a0 hP) (unit_abs c3 HK.out.bc) (unit_abs c4 HK.out.bs)).mono ?_
    rintro e'' w'' ⟨h1, m, m', R, I, h2, h3, h4, h5, h6⟩
    exact ⟨h1, m, m', R, I, h2, h3, h4, corner_near a0 hP c3 HK.out.bc h5, corner_near a0 hP c4 HK.out.bs h6⟩)).mono ?_
  rintro e' w7 ⟨he7, g7, cap7, cs, rfl, hl7, hlen7, hnear7⟩
  have HF := Lib.hid (flat_flat hl7 hlen7 HN.out H8.out HL0.out H3.out HK.out.one HK.out.bc HK.out.bs hnear7)
  have HE7 := Lib.hid (Ext.trans HE6.out he7)
  have HB7 := Lib.hid (HB6.out.ext he7)
  clear he7 hl7 hlen7 hnear7
  go_wp2_with fail
  refine (toldPlate_V _ cap7 (n + 1) cs _ _ _ _ HF.out).mono ?_
  rintro e' w8 ⟨he8, rfl⟩
  have HF8 := Lib.hid (HF.out.ext he8)
  have HE8 := Lib.hid (Ext.trans HE7.out he8)
  have HB8 := Lib.hid (HB7.out.ext he8)
  clear he8
  have d0 : w8.cell? ⟨w.heap.size, 0, none⟩ = some (.slice none 0 0) := HB8.out.cell 0
  have f0 := HB8.out.frozen 0
  go_wp2_with fail
  have HF9 := Lib.hid (HF8.out.lies.set_plate (off := 0) (u := .slice (some ⟨g7, 0, none⟩) (n + 1) cap7) HB8.out)
  have HB9 := Lib.hid (HB8.out.set_ 0 (.slice (some ⟨g7, 0, none⟩) (n + 1) cap7))
  have HE9 := Lib.hid (Ext.setCell_at HE8.out w.heap.size 0 (.slice (some ⟨g7, 0, none⟩) (n + 1) cap7) (Nat.le_refl _))
  have HG := Lib.hid (show Flat (w8.setCell ⟨w.heap.size, 0, none⟩ (.slice (some ⟨g7, 0, none⟩) (n + 1) cap7)) (some ⟨g7, 0, none⟩) cs (n + 1) _ _ (1 / 400000) from ⟨HF9.out, HF8.out.len, HF8.out.n2, HF8.out.n9, HF8.out.near, HF8.out.small, HF8.out.nonneg, HF8.out.bound, HF8.out.far⟩)
  generalize w8.setCell ⟨w.heap.size, 0, none⟩ (.slice (some ⟨g7, 0, none⟩) (n + 1) cap7) = W9 at *
  have q0 : W9.cell? ⟨w.heap.size, 0, none⟩ = some (.slice (some ⟨g7, 0, none⟩) (n + 1) cap7) := HB9.out.cell 0
  exact bodyPost_ret (v := .tuple #[.agg #[.slice (some ⟨g7, 0, none⟩) (n + 1) cap7], .bool true]) (by simp [results, Try.results24, go_sem, q0]) rfl ⟨HE9.out, g7, cap7, cs, rfl, HG.out⟩
end Go.Proofs.Ytfehhbmmdbpdpaa
