/- Walks: which basins are right, and what lies in a cell, by the program. -/
import Derived.Test.YtbaohbpfnlicpaaF2
namespace Go.Proofs.Ytbaohbpfnlicpaa
open Go Go.RowKit
set_option linter.unusedVariables false
set_option linter.unusedSimpArgs false
attribute [local go_sem] run_store_float

theorem sideOk_any (a : Int) (b : Bool) (hb : sideP a = b) (w : World) : Calls Try.prog 193 #[.int .i64 a] w fun e w' => w = w' ∧ e = .returned (.bool b) := by
  have HB := Lib.hid hb
  clear hb
  go_enter Try.func193, Try.ntmps193
  go_wp2_with (go_at_call 82; refine (in_any _ _ _ b HB.out _).mono ?_; rintro e w1 ⟨rfl, rfl⟩)
  go_ret
  exact ⟨rfl, rfl⟩

set_option maxRecDepth 100000 in
theorem ValidBasin_any (a h : Int) (A : Option Addr) (cap : Nat) (xs : List Nat) (w : World) (hA : FS w A xs) (hl : xs.length ≤ 1048576) (b : Bool) (hb : isB a h xs = b) :
    Calls Try.prog 162 #[.agg #[.int .i64 a, .int .i64 h, .slice A xs.length cap]] w fun e w' => Ext w w' ∧ e = .returned (.bool b) := by
  have HA := Lib.hid hA
  have HL := Lib.hid hl
  have HB := Lib.hid hb
  clear hA hl hb
  cases h1 : sideP a with
  | false =>
    have H1 := Lib.hid h1
    clear h1
    go_enter Try.func162, Try.ntmps162
    go_wp2_with (go_at_call 193; refine (sideOk_any _ false H1.out _).mono ?_; rintro e w1 ⟨rfl, rfl⟩)
    go_ret
    refine ⟨by (repeat first | with_reducible exact Ext.rfl' _ | with_reducible refine Ext.drewN ?_ _ | with_reducible refine Ext.drew' ?_ | with_reducible refine Ext.alloc' ?_ _ | with_reducible refine Ext.setCell_at ?_ _ _ _ (by first | exact Nat.le_refl _ | omega) | with_reducible assumption | refine Ext.trans ?_ (by with_reducible assumption)), ret_bool ?_⟩
    rw [← HB.out]
    simp [isB, sizeP, H1.out]
  | true =>
    have H1 := Lib.hid h1
    cases h2 : sideP h with
    | false =>
      have H2 := Lib.hid h2
      clear h1 h2
      go_enter Try.func162, Try.ntmps162
      go_wp2_with fail
      refine (sideOk_any _ true H1.out _).mono ?_
      rintro e w1 ⟨rfl, rfl⟩
      go_wp2_with fail
      refine (sideOk_any _ false H2.out _).mono ?_
      rintro e w1 ⟨rfl, rfl⟩
      go_wp2_with fail
      go_ret
      refine ⟨by (repeat first | with_reducible exact Ext.rfl' _ | with_reducible refine Ext.drewN ?_ _ | with_reducible refine Ext.drew' ?_ | with_reducible refine Ext.alloc' ?_ _ | with_reducible refine Ext.setCell_at ?_ _ _ _ (by first | exact Nat.le_refl _ | omega) | with_reducible assumption | refine Ext.trans ?_ (by with_reducible assumption)), ret_bool ?_⟩
      rw [← HB.out]
      simp [isB, sizeP, H1.out, H2.out]
    | true =>
      have H2 := Lib.hid h2
      have hsz := mul_bounds (sizeP_bounds (show sizeP a h = true by unfold sizeP; rw [h1, h2]; rfl))
      have hw : IntKind.i64.wrap (a * h) = a * h := IntWalk.i64_in _ (by omega)
      clear h1 h2 hsz
      by_cases hm : (xs.length : Int) = a * h
      · have hne : decide ((xs.length : Int) = a * h) = true := by simp [hm]
        have hbe : ((xs.length : Int) == a * h) = true := by simp [hm]
        have HM := Lib.hid hm
        obtain ⟨c, hc⟩ : ∃ c, xs.all finF = c := ⟨_, rfl⟩
        have HC := Lib.hid hc
        clear hc
        go_enter Try.func162, Try.ntmps162
        go_wp2_with fail
        refine (sideOk_any _ true H1.out _).mono ?_
        rintro e w1 ⟨rfl, rfl⟩
        go_wp2_with fail
        refine (sideOk_any _ true H2.out _).mono ?_
        rintro e w1 ⟨rfl, rfl⟩
        go_wp2_with fail
        refine (finite_any A cap xs _ (HA.out.ext (by (repeat first | with_reducible exact Ext.rfl' _ | with_reducible refine Ext.drewN ?_ _ | with_reducible refine Ext.drew' ?_ | with_reducible refine Ext.alloc' ?_ _ | with_reducible refine Ext.setCell_at ?_ _ _ _ (by first | exact Nat.le_refl _ | omega) | with_reducible assumption | refine Ext.trans ?_ (by with_reducible assumption)))) HL.out c HC.out).mono ?_
        rintro e w1 ⟨he1, rfl⟩
        go_wp2_with fail
        go_ret
        refine ⟨by (repeat first | with_reducible exact Ext.rfl' _ | with_reducible refine Ext.drewN ?_ _ | with_reducible refine Ext.drew' ?_ | with_reducible refine Ext.alloc' ?_ _ | with_reducible refine Ext.setCell_at ?_ _ _ _ (by first | exact Nat.le_refl _ | omega) | with_reducible assumption | refine Ext.trans ?_ (by with_reducible assumption)), ret_bool ?_⟩
        rw [← HB.out]
        simp [isB, sizeP, H1.out, H2.out, HM.out, HC.out]
      · have hne : decide ((xs.length : Int) = a * h) = false := by simp [hm]
        have hbe : ((xs.length : Int) == a * h) = false := by simp [hm]
        go_enter Try.func162, Try.ntmps162
        go_wp2_with fail
        refine (sideOk_any _ true H1.out _).mono ?_
        rintro e w1 ⟨rfl, rfl⟩
        go_wp2_with fail
        refine (sideOk_any _ true H2.out _).mono ?_
        rintro e w1 ⟨rfl, rfl⟩
        go_wp2_with fail
        go_ret
        refine ⟨by (repeat first | with_reducible exact Ext.rfl' _ | with_reducible refine Ext.drewN ?_ _ | with_reducible refine Ext.drew' ?_ | with_reducible refine Ext.alloc' ?_ _ | with_reducible refine Ext.setCell_at ?_ _ _ _ (by first | exact Nat.le_refl _ | omega) | with_reducible assumption | refine Ext.trans ?_ (by with_reducible assumption)), ret_bool ?_⟩
        rw [← HB.out]
        simp [isB, hne]

set_option maxRecDepth 100000 in
theorem bhas_any (g o : Nat) (a h : Int) (A : Option Addr) (cap : Nat) (xs : List Nat) (x y : Int) (w : World) (hT : BAt w g o a h A xs.length cap) (hA : FS w A xs) (hl : xs.length ≤ 1048576) (b : Bool) (hb : bHas a h xs x y = b) :
    Calls Try.prog 90 #[.pointer (some ⟨g, o, none⟩), .int .i64 x, .int .i64 y] w fun e w' => Ext w w' ∧ e = .returned (.bool b) := by
  have HA := Lib.hid hA
  have HL := Lib.hid hl
  have HT := Lib.hid hT
  obtain ⟨tg, t0, t1, t2⟩ := hT
  unfold bHas at hb
  clear hA hl
  cases h0 : isB a h xs with
  | false =>
    rw [h0] at hb
    simp only [Bool.false_and] at hb
    subst hb
    have H0 := Lib.hid h0
    clear h0
    go_enter Try.func90, Try.ntmps90
    go_wp2_with (go_at_call 162; refine (ValidBasin_any a h A cap xs _ HA.out HL.out false H0.out).mono ?_; rintro e w1 ⟨he1, rfl⟩)
    go_ret
    exact ⟨he1, rfl⟩
  | true =>
    rw [h0] at hb
    simp only [Bool.true_and] at hb
    have hi := h0
    unfold isB at hi
    simp only [Bool.and_eq_true] at hi
    obtain ⟨ha1, ha2, hh1, hh2⟩ := sizeP_bounds hi.1
    have hwa : IntKind.i64.wrap (a - 1) = a - 1 := IntWalk.i64_in _ (by omega)
    have hwh : IntKind.i64.wrap (h - 1) = h - 1 := IntWalk.i64_in _ (by omega)
    have H0 := Lib.hid h0
    clear h0 hi ha1 ha2 hh1 hh2
    cases h1 : inP x a with
    | false =>
      rw [h1] at hb
      simp only [Bool.false_and] at hb
      subst hb
      have H1 := Lib.hid h1
      clear h1
      go_enter Try.func90, Try.ntmps90
      go_wp2_with fail
      refine (ValidBasin_any a h A cap xs _ HA.out HL.out true H0.out).mono ?_
      rintro e w1 ⟨he1, rfl⟩
      obtain ⟨tl', t0', t1', t2'⟩ := HT.out.ext he1
      go_wp2_with (go_at_call 82; refine (in_any _ _ _ false H1.out _).mono ?_; rintro e w2 ⟨rfl, rfl⟩)
      go_ret
      exact ⟨he1, rfl⟩
    | true =>
      rw [h1] at hb
      simp only [Bool.true_and] at hb
      have H1 := Lib.hid h1
      have H2 := Lib.hid hb
      clear h1 hb
      go_enter Try.func90, Try.ntmps90
      go_wp2_with fail
      refine (ValidBasin_any a h A cap xs _ HA.out HL.out true H0.out).mono ?_
      rintro e w1 ⟨he1, rfl⟩
      obtain ⟨tl', t0', t1', t2'⟩ := HT.out.ext he1
      go_wp2_with fail
      refine (in_any _ _ _ true H1.out _).mono ?_
      rintro e w2 ⟨rfl, rfl⟩
      go_wp2_with fail
      refine (in_any _ _ _ b H2.out _).mono ?_
      rintro e w2 ⟨rfl, rfl⟩
      go_wp2_with fail
      go_ret
      exact ⟨he1, rfl⟩

theorem mods (x a : Int) (h0 : 0 ≤ x) (h1 : x ≤ a - 1) (h2 : a ≤ 16) : (¬ a = 0) ∧ x.tmod a = x ∧ x % a = x ∧ (x + a).tmod a = x ∧ (x + a) % a = x ∧ IntKind.i64.wrap x = x ∧ IntKind.i64.wrap (x + a) = x + a := by
  have ht2 : x % a = x := Int.emod_eq_of_lt h0 (by omega)
  refine ⟨by omega, Int.tmod_eq_of_lt h0 (by omega), ht2, ?_, ?_, IntWalk.i64_in _ (by omega), IntWalk.i64_in _ (by omega)⟩
  · rw [Int.tmod_eq_emod_of_nonneg (by omega), Int.add_emod_right]; exact ht2
  · rw [Int.add_emod_right]; exact ht2

set_option maxRecDepth 100000 in
theorem place_any (g o : Nat) (a h : Int) (A : Option Addr) (n cap : Nat) (x y : Int) (k : Nat) (w : World) (hT : BAt w g o a h A n cap) (hx : 0 ≤ x ∧ x ≤ a - 1) (hy : 0 ≤ y ∧ y ≤ h - 1) (ha : a ≤ 16) (hh : h ≤ 16) (hk : x + a * y = k) :
    Calls Try.prog 125 #[.pointer (some ⟨g, o, none⟩), .int .i64 x, .int .i64 y] w fun e w' => e = .returned (.int .i64 k) ∧ ∃ m, w' = w.drewN m := by
  obtain ⟨tl, t0, t1, t2⟩ := hT
  obtain ⟨a1, a2, a3, a4, a5, a6, a7⟩ := mods x a hx.1 hx.2 ha
  obtain ⟨b1, b2, b3, b4, b5, b6, b7⟩ := mods y h hy.1 hy.2 hh
  have h1 : 0 ≤ a * y := Int.mul_nonneg (by omega) hy.1
  have h2 : a * y ≤ 16 * 16 := Int.mul_le_mul ha (by omega) hy.1 (by omega)
  have hwm : IntKind.i64.wrap (a * y) = a * y := IntWalk.i64_in _ (by omega)
  have hws : IntKind.i64.wrap (x + a * y) = (k : Int) := by rw [hk]; exact IntWalk.i64_in _ (by omega)
  clear hx hy ha hh hk h1 h2
  go_enter Try.func125, Try.ntmps125
  go_wp2_with fail
  go_quiet (fail)
  go_wp2_with fail
  go_ret
  exact ⟨rfl, _, rfl⟩

set_option maxRecDepth 100000 in
theorem bat_any (g o : Nat) (a h : Int) (A : Option Addr) (cap : Nat) (xs : List Nat) (x y : Int) (k : Nat) (w : World) (hT : BAt w g o a h A xs.length cap) (hA : FS w A xs) (hl : xs.length ≤ 256) (hx : 0 ≤ x ∧ x ≤ a - 1) (hy : 0 ≤ y ∧ y ≤ h - 1) (ha : a ≤ 16) (hh : h ≤ 16) (hk : x + a * y = k) (hkl : k < xs.length) :
    Calls Try.prog 91 #[.pointer (some ⟨g, o, none⟩), .int .i64 x, .int .i64 y] w fun e w' => Ext w w' ∧ ∃ r, e = .returned (.float .f32 r) ∧ cn .f32 r = xs.getD k 0 := by
  have HT := Lib.hid hT
  obtain ⟨tl, t0, t1, t2⟩ := hT
  obtain ⟨b, p, rfl, hb, hc⟩ := hA (by omega)
  obtain ⟨r, c0, hr⟩ := hc k hkl
  have hk0 : (0 : Int) ≤ (k : Int) := by omega
  have hk1 : (k : Int) < (xs.length : Int) := by omega
  have HR := Lib.hid hr
  have HX := Lib.hid hx
  have HY := Lib.hid hy
  have HAA := Lib.hid ha
  have HHH := Lib.hid hh
  have HK := Lib.hid hk
  clear hA hc hr hx hy ha hh hk
  go_enter Try.func91, Try.ntmps91
  go_wp2_with fail
  go_quiet ((go_at_call 125; exact Calls.quiet_of (place_any g o a h _ xs.length cap x y k _ HT.out HX.out HY.out HAA.out HHH.out HK.out)))
  go_wp2_with fail
  go_ret
  exact ⟨by (repeat first | with_reducible exact Ext.rfl' _ | with_reducible refine Ext.drewN ?_ _ | with_reducible refine Ext.drew' ?_ | with_reducible refine Ext.alloc' ?_ _ | with_reducible refine Ext.setCell_at ?_ _ _ _ (by first | exact Nat.le_refl _ | omega) | with_reducible assumption | refine Ext.trans ?_ (by with_reducible assumption)), r, rfl, HR.out⟩

set_option maxRecDepth 100000 in
theorem implSpin_any (a h : Int) (A : Option Addr) (cap : Nat) (xs : List Nat) (x y : Int) (w : World) (hA : FS w A xs) (hl : xs.length ≤ 1048576) :
    Calls Try.prog 30 #[.agg #[.int .i64 a, .int .i64 h, .slice A xs.length cap], .int .i64 x, .int .i64 y] w fun e w' => Ext w w' ∧ ∃ r b, e = .returned (.tuple #[.float .f32 r, .bool b]) ∧ (b, cn .f32 r) = spinP a h xs x y := by
  have HA := Lib.hid hA
  have HL := Lib.hid hl
  have HT := Lib.hid (show BAt (w.alloc (.cells #[.int .i64 a, .int .i64 h, .slice A xs.length cap] 35)) w.heap.size 0 a h A xs.length cap from ⟨by simp, by go_simp, by go_simp, by go_simp⟩)
  have HE := Lib.hid (show Ext w (w.alloc (.cells #[.int .i64 a, .int .i64 h, .slice A xs.length cap] 35)) by (repeat first | with_reducible exact Ext.rfl' _ | with_reducible refine Ext.drewN ?_ _ | with_reducible refine Ext.drew' ?_ | with_reducible refine Ext.alloc' ?_ _ | with_reducible refine Ext.setCell_at ?_ _ _ _ (by first | exact Nat.le_refl _ | omega) | with_reducible assumption | refine Ext.trans ?_ (by with_reducible assumption)))
  clear hA hl
  cases hb : bHas a h xs x y with
  | false =>
    have HB := Lib.hid hb
    clear hb
    go_enter Try.func30, Try.ntmps30
    go_wp2_with (go_at_call 90; refine (bhas_any w.heap.size 0 a h A cap xs x y _ HT.out (HA.out.ext HE.out) HL.out false HB.out).mono ?_; rintro e w1 ⟨he1, rfl⟩)
    go_ret2
    exact ⟨Ext.trans HE.out he1, 0, false, rfl, by unfold spinP; rw [HB.out]; simp [cn_zero32]⟩
  | true =>
    obtain ⟨hi, hsz, hlen, hx0, hx1, hy0, hy1⟩ := bHas_bounds hb
    have hm := mul_bounds hsz
    have h1 : 0 ≤ a * y := Int.mul_nonneg (by omega) hy0
    have h2 : a * y ≤ a * (h - 1) := Int.mul_le_mul_of_nonneg_left hy1 (by omega)
    have h3 : a * (h - 1) = a * h - a := by rw [Int.mul_sub, Int.mul_one]
    obtain ⟨k, hk⟩ : ∃ k : Nat, x + a * y = k := ⟨(x + a * y).toNat, by omega⟩
    have hkt : (x + a * y).toNat = k := by omega
    have HKL := Lib.hid (show k < xs.length by omega)
    have HXL := Lib.hid (show xs.length ≤ 256 by omega)
    have HB := Lib.hid hb
    have HK := Lib.hid hk
    have HKT := Lib.hid hkt
    have HX := Lib.hid (show 0 ≤ x ∧ x ≤ a - 1 from ⟨hx0, hx1⟩)
    have HY := Lib.hid (show 0 ≤ y ∧ y ≤ h - 1 from ⟨hy0, hy1⟩)
    have HS := Lib.hid hsz
    clear hb hi hsz hlen hx0 hx1 hy0 hy1 hm h1 h2 h3 hk hkt
    go_enter Try.func30, Try.ntmps30
    go_wp2_with (first
      | (go_at_call 90; refine (bhas_any w.heap.size 0 a h A cap xs x y _ HT.out (HA.out.ext HE.out) HL.out true HB.out).mono ?_; rintro e w1 ⟨he1, rfl⟩)
      | (go_at_call 91; refine (bat_any w.heap.size 0 a h A cap xs x y k _ (HT.out.ext he1) (HA.out.ext (Ext.trans HE.out he1)) HXL.out HX.out HY.out HS.out.2.1 HS.out.2.2.2 HK.out HKL.out).mono ?_; rintro e w2 ⟨he2, r, rfl, hr⟩))
    go_ret2
    exact ⟨Ext.trans HE.out (Ext.trans he1 he2), r, true, rfl, by unfold spinP; rw [HB.out]; simp [hr, HKT.out]⟩
end Go.Proofs.Ytbaohbpfnlicpaa
