/- Walks: which basins are right, and what lies in a cell, by the reference. -/
import Derived.Test.YtbaohbpfnlicpaaW3
import Derived.Test.YtbaohbpfnlicpaaF1
import Derived.Deep.QuietTactic
import Derived.BigQuiet
namespace Go.Proofs.Ytbaohbpfnlicpaa
open Go Go.RowKit
set_option linter.unusedVariables false
set_option linter.unusedSimpArgs false
attribute [local go_sem] run_store_float

/-- a side of a basin -/
def sideP (a : Int) : Bool := decide (3 ≤ a) && decide (a ≤ 16)
def sizeP (a h : Int) : Bool := sideP a && sideP h
/-- a right basin -/
def isB (a h : Int) (xs : List Nat) : Bool := sizeP a h && (decide ((xs.length : Int) = a * h) && xs.all finF)
def inP (x a : Int) : Bool := decide (0 ≤ x) && decide (x ≤ a - 1)
def bHas (a h : Int) (xs : List Nat) (x y : Int) : Bool := isB a h xs && (inP x a && inP y h)
def spinP (a h : Int) (xs : List Nat) (x y : Int) : Bool × Nat := if bHas a h xs x y then (true, xs.getD (x + a * y).toNat 0) else (false, 0)
/-- a basin behind a pointer -/
def BAt (w : World) (g o : Nat) (a h : Int) (A : Option Addr) (n cap : Nat) : Prop :=
  g < w.heap.size ∧ w.cell? ⟨g, o, none⟩ = some (.int .i64 a) ∧ w.cell? ⟨g, o + 1, none⟩ = some (.int .i64 h) ∧ w.cell? ⟨g, o + 2, none⟩ = some (.slice A n cap)
theorem BAt.ext {w w' : World} {g o n cap : Nat} {a h : Int} {A : Option Addr} (H : BAt w g o a h A n cap) (he : Ext w w') : BAt w' g o a h A n cap :=
  ⟨Nat.lt_of_lt_of_le H.1 he.size, (he.cell (p := ⟨g, o, none⟩) H.1).trans H.2.1, (he.cell (p := ⟨g, o + 1, none⟩) H.1).trans H.2.2.1, (he.cell (p := ⟨g, o + 2, none⟩) H.1).trans H.2.2.2⟩
theorem sizeP_bounds {a h : Int} (hs : sizeP a h = true) : 3 ≤ a ∧ a ≤ 16 ∧ 3 ≤ h ∧ h ≤ 16 := by
  unfold sizeP sideP at hs
  simp only [Bool.and_eq_true, decide_eq_true_eq] at hs
  omega
theorem mul_bounds {a h : Int} (hs : 3 ≤ a ∧ a ≤ 16 ∧ 3 ≤ h ∧ h ≤ 16) : 0 ≤ a * h ∧ a * h ≤ 256 := by
  have h1 : 0 ≤ a * h := Int.mul_nonneg (by omega) (by omega)
  have h2 : a * h ≤ 16 * 16 := Int.mul_le_mul hs.2.1 hs.2.2.2 (by omega) (by omega)
  omega
theorem bHas_bounds {a h : Int} {xs : List Nat} {x y : Int} (hb : bHas a h xs x y = true) : isB a h xs = true ∧ (3 ≤ a ∧ a ≤ 16 ∧ 3 ≤ h ∧ h ≤ 16) ∧ (xs.length : Int) = a * h ∧ 0 ≤ x ∧ x ≤ a - 1 ∧ 0 ≤ y ∧ y ≤ h - 1 := by
  unfold bHas at hb
  simp only [Bool.and_eq_true] at hb
  have hi := hb.1
  unfold isB at hi
  simp only [Bool.and_eq_true, decide_eq_true_eq] at hi
  unfold inP at hb
  simp only [Bool.and_eq_true, decide_eq_true_eq] at hb
  exact ⟨hb.1, sizeP_bounds hi.1, hi.2.1, hb.2.1.1, hb.2.1.2, hb.2.2.1, hb.2.2.2⟩

theorem l04Size_any (a h : Int) (b : Bool) (hb : sizeP a h = b) (w : World) : Calls Try.prog 192 #[.int .i64 a, .int .i64 h] w fun e w' => w = w' ∧ e = .returned (.bool b) := by
  unfold sizeP at hb
  cases h1 : sideP a with
  | false =>
    rw [h1] at hb
    simp only [Bool.false_and] at hb
    subst hb
    have H1 := Lib.hid h1
    clear h1
    go_enter Try.func192, Try.ntmps192
    go_wp2_with (go_at_call 79; refine (l00In_any _ _ _ false H1.out _).mono ?_; rintro e w1 ⟨rfl, rfl⟩)
    go_ret
    exact ⟨rfl, rfl⟩
  | true =>
    rw [h1] at hb
    simp only [Bool.true_and] at hb
    have H1 := Lib.hid h1
    have HB := Lib.hid hb
    clear h1 hb
    go_enter Try.func192, Try.ntmps192
    go_wp2_with fail
    refine (l00In_any _ _ _ true H1.out _).mono ?_
    rintro e w1 ⟨rfl, rfl⟩
    go_wp2_with fail
    refine (l00In_any _ _ _ b HB.out _).mono ?_
    rintro e w1 ⟨rfl, rfl⟩
    go_wp2_with fail
    go_ret
    exact ⟨rfl, rfl⟩

set_option maxRecDepth 100000 in
theorem l04Is_any (g o : Nat) (a h : Int) (A : Option Addr) (cap : Nat) (xs : List Nat) (w : World) (hT : BAt w g o a h A xs.length cap) (hA : FS w A xs) (hl : xs.length ≤ 1048576) (b : Bool) (hb : isB a h xs = b) :
    Calls Try.prog 160 #[.pointer (some ⟨g, o, none⟩)] w fun e w' => Ext w w' ∧ e = .returned (.bool b) := by
  have HA := Lib.hid hA
  have HL := Lib.hid hl
  have HB := Lib.hid hb
  have HT := Lib.hid hT
  obtain ⟨hg, t0, t1, t2⟩ := hT
  clear hA hl hb
  cases hs : sizeP a h with
  | false =>
    have HS := Lib.hid hs
    clear hs
    go_enter Try.func160, Try.ntmps160
    go_wp2_with fail
    go_quiet ((go_at_call 192; exact Calls.quiet_of_same ((l04Size_any _ _ false HS.out _).mono fun e w' h => ⟨h.2, h.1.symm⟩)))
    go_wp2_with fail
    go_ret
    refine ⟨by (repeat first | with_reducible exact Ext.rfl' _ | with_reducible refine Ext.drewN ?_ _ | with_reducible refine Ext.drew' ?_ | with_reducible refine Ext.alloc' ?_ _ | with_reducible refine Ext.setCell_at ?_ _ _ _ (by first | exact Nat.le_refl _ | omega) | with_reducible assumption | refine Ext.trans ?_ (by with_reducible assumption)), ret_bool ?_⟩
    rw [← HB.out]
    simp [isB, HS.out]
  | true =>
    have hsz := mul_bounds (sizeP_bounds hs)
    have hw : IntKind.i64.wrap (a * h) = a * h := IntWalk.i64_in _ (by omega)
    have HSZ := Lib.hid hsz
    have HS := Lib.hid hs
    clear hs hsz
    by_cases hm : (xs.length : Int) = a * h
    · have hne : decide ((xs.length : Int) = a * h) = true := by simp [hm]
      have HM := Lib.hid hm
      go_enter Try.func160, Try.ntmps160
      go_wp2_with fail
      go_quiet ((go_at_call 192; exact Calls.quiet_of_same ((l04Size_any _ _ true HS.out _).mono fun e w' h => ⟨h.2, h.1.symm⟩)))
      go_wp2_with fail
      go_loopw [3] (fun i wr => ∃ (k : Nat), k ≤ xs.length ∧ i = .int .i64 k ∧ (xs.take k).all finF = true ∧ Below w.heap.size w wr) (fun i _ => xs.length - (intOf i).toNat)
      case atStart => exact ⟨0, Nat.zero_le _, rfl, by simp, by (repeat first | with_reducible exact Ext.rfl' _ | with_reducible refine Ext.drewN ?_ _ | with_reducible refine Ext.drew' ?_ | with_reducible refine Ext.alloc' ?_ _ | with_reducible refine Ext.setCell_at ?_ _ _ _ (by first | exact Nat.le_refl _ | omega) | with_reducible assumption | refine Ext.trans ?_ (by with_reducible assumption))⟩
      case round =>
        clear t0 t1 t2 hne hw hm
        obtain ⟨k, hk, rfl, hno, hbel⟩ := hrel
        have HE := Lib.hid hbel
        have HN := Lib.hid hno
        clear hbel hno
        have hk9 : k < 9223372036854775807 := by have := HL.out; omega
        obtain ⟨_, s0, s1, s2⟩ := HT.out.ext HE.out
        by_cases hlt : k < xs.length
        · obtain ⟨b', o', rfl, hbw, hcc⟩ := HA.out (by omega)
          obtain ⟨x, c0, hcv⟩ := hcc k hlt
          have d0 := (HE.out.cell (p := ⟨b', o' + k, none⟩) hbw).trans c0
          have HC := Lib.hid hcv
          have HTk := Lib.hid (all_take_succ finF xs 0 k hlt)
          clear c0 hcc hcv
          go_wp2_with fail
          cases hpv : finF (xs.getD k 0) with
          | true =>
            refine (l01Finite_any _ true (by rw [HC.out]; exact hpv) _).mono ?_
            rintro e w1 ⟨he, rfl⟩
            have HF := Lib.hid (HE.out.trans (he.mono HE.out.size))
            have HQ := Lib.hid hpv
            clear he hpv d0 s0 s1 s2
            go_wp2_with fail
            exact ⟨⟨k + 1, by omega, by go_num, by rw [HTk.out, HN.out, HQ.out]; rfl, HF.out⟩, by simp [intOf]; omega⟩
          | false =>
            refine (l01Finite_any _ false (by rw [HC.out]; exact hpv) _).mono ?_
            rintro e w1 ⟨he, rfl⟩
            have HF := Lib.hid (HE.out.trans (he.mono HE.out.size))
            have HQ := Lib.hid hpv
            clear he hpv d0 s0 s1 s2
            go_wp2_with fail
            go_ret
            refine ⟨HF.out, ret_bool ?_⟩
            rw [← HB.out]
            have hall : xs.all finF = false := List.all_eq_false.2 ⟨xs.getD k 0, by rw [List.getD_eq_getElem?_getD, List.getElem?_eq_getElem hlt]; simp, by rw [HQ.out]; decide⟩
            simp [isB, hall]
        · go_wp2_with fail
          have hkl : k = xs.length := by omega
          go_ret
          refine ⟨HE.out, ret_bool ?_⟩
          have hall := HN.out
          rw [hkl, List.take_length] at hall
          rw [← HB.out]
          simp only [isB, HS.out, hall, Bool.true_and, Bool.and_true]
          simp [HM.out]
    · have hne : decide ((xs.length : Int) = a * h) = false := by simp [hm]
      go_enter Try.func160, Try.ntmps160
      go_wp2_with fail
      go_quiet ((go_at_call 192; exact Calls.quiet_of_same ((l04Size_any _ _ true HS.out _).mono fun e w' h => ⟨h.2, h.1.symm⟩)))
      go_wp2_with fail
      go_ret
      refine ⟨by (repeat first | with_reducible exact Ext.rfl' _ | with_reducible refine Ext.drewN ?_ _ | with_reducible refine Ext.drew' ?_ | with_reducible refine Ext.alloc' ?_ _ | with_reducible refine Ext.setCell_at ?_ _ _ _ (by first | exact Nat.le_refl _ | omega) | with_reducible assumption | refine Ext.trans ?_ (by with_reducible assumption)), ret_bool ?_⟩
      rw [← HB.out]
      simp [isB, hne]

theorem l04Place_any (x a : Int) (h0 : 0 ≤ x) (h1 : x ≤ a - 1) (h2 : a ≤ 16) (w : World) : Calls Try.prog 161 #[.int .i64 x, .int .i64 a] w fun e w' => e = .returned (.int .i64 x) ∧ w' = w := by
  have hz : ¬ a = 0 := by omega
  have ht : x.tmod a = x := Int.tmod_eq_of_lt h0 (by omega)
  have ht2 : x % a = x := Int.emod_eq_of_lt h0 (by omega)
  have hu : (x + a).tmod a = x := by rw [Int.tmod_eq_emod_of_nonneg (by omega), Int.add_emod_right]; exact ht2
  have hu2 : (x + a) % a = x := by rw [Int.add_emod_right]; exact ht2
  have hw1 : IntKind.i64.wrap x = x := IntWalk.i64_in _ (by omega)
  have hw2 : IntKind.i64.wrap (x + a) = x + a := IntWalk.i64_in _ (by omega)
  go_enter Try.func161, Try.ntmps161
  go_wp2_with fail
  go_ret
  exact ⟨rfl, rfl⟩

set_option maxRecDepth 100000 in
theorem l04Cell_any (g o : Nat) (a h : Int) (A : Option Addr) (cap : Nat) (xs : List Nat) (x y : Int) (w : World) (hT : BAt w g o a h A xs.length cap) (hA : FS w A xs) (hl : xs.length ≤ 1048576) (b : Bool) (hb : bHas a h xs x y = b) :
    Calls Try.prog 87 #[.pointer (some ⟨g, o, none⟩), .int .i64 x, .int .i64 y] w fun e w' => Ext w w' ∧ e = .returned (.bool b) := by
  have HA := Lib.hid hA
  have HL := Lib.hid hl
  have HT := Lib.hid hT
  unfold bHas at hb
  clear hA hl hT
  cases h0 : isB a h xs with
  | false =>
    rw [h0] at hb
    simp only [Bool.false_and] at hb
    subst hb
    have H0 := Lib.hid h0
    clear h0
    go_enter Try.func87, Try.ntmps87
    go_wp2_with (go_at_call 160; refine (l04Is_any g o a h A cap xs _ HT.out HA.out HL.out false H0.out).mono ?_; rintro e w1 ⟨he1, rfl⟩)
    go_ret
    exact ⟨he1, rfl⟩
  | true =>
    rw [h0] at hb
    simp only [Bool.true_and] at hb
    have hi := h0
    unfold isB at hi
    simp only [Bool.and_eq_true] at hi
    obtain ⟨ha1, ha2, hh1, hh2⟩ := sizeP_bounds hi.1
    have hwa : IntKind.i64.wrap (a - 1) = a - 1 := IntWalk.i64_in _ (by omega)
    have hwh : IntKind.i64.wrap (h - 1) = h - 1 := IntWalk.i64_in _ (by omega)
    have H0 := Lib.hid h0
    clear h0 hi ha1 ha2 hh1 hh2
    cases h1 : inP x a with
    | false =>
      rw [h1] at hb
      simp only [Bool.false_and] at hb
      subst hb
      have H1 := Lib.hid h1
      clear h1
      go_enter Try.func87, Try.ntmps87
      go_wp2_with (first
        | (go_at_call 160; refine (l04Is_any g o a h A cap xs _ HT.out HA.out HL.out true H0.out).mono ?_; rintro e w1 ⟨he1, rfl⟩; obtain ⟨tl, t0, t1, t2⟩ := HT.out.ext he1)
        | (go_at_call 79; refine (l00In_any _ _ _ false H1.out _).mono ?_; rintro e w2 ⟨rfl, rfl⟩))
      go_ret
      exact ⟨he1, rfl⟩
    | true =>
      rw [h1] at hb
      simp only [Bool.true_and] at hb
      have H1 := Lib.hid h1
      have H2 := Lib.hid hb
      clear h1 hb
      go_enter Try.func87, Try.ntmps87
      go_wp2_with fail
      refine (l04Is_any g o a h A cap xs _ HT.out HA.out HL.out true H0.out).mono ?_
      rintro e w1 ⟨he1, rfl⟩
      obtain ⟨tl, t0, t1, t2⟩ := HT.out.ext he1
      go_wp2_with fail
      refine (l00In_any _ _ _ true H1.out _).mono ?_
      rintro e w2 ⟨rfl, rfl⟩
      go_wp2_with fail
      refine (l00In_any _ _ _ b H2.out _).mono ?_
      rintro e w2 ⟨rfl, rfl⟩
      go_wp2_with fail
      go_ret
      exact ⟨he1, rfl⟩

set_option maxRecDepth 100000 in
theorem l04At_any (g o : Nat) (a h : Int) (A : Option Addr) (cap : Nat) (xs : List Nat) (x y : Int) (k : Nat) (w : World) (hT : BAt w g o a h A xs.length cap) (hA : FS w A xs) (hl : xs.length ≤ 256) (hx : 0 ≤ x ∧ x ≤ a - 1) (hy : 0 ≤ y ∧ y ≤ h - 1) (ha : a ≤ 16) (hh : h ≤ 16) (hk : x + a * y = k) (hkl : k < xs.length) :
    Calls Try.prog 88 #[.pointer (some ⟨g, o, none⟩), .int .i64 x, .int .i64 y] w fun e w' => Ext w w' ∧ ∃ r, e = .returned (.float .f32 r) ∧ cn .f32 r = xs.getD k 0 := by
  obtain ⟨tl, t0, t1, t2⟩ := hT
  obtain ⟨b, p, rfl, hb, hc⟩ := hA (by omega)
  obtain ⟨r, c0, hr⟩ := hc k hkl
  have h1 : 0 ≤ a * y := Int.mul_nonneg (by omega) hy.1
  have h2 : a * y ≤ 16 * 16 := Int.mul_le_mul ha (by omega) hy.1 (by omega)
  have hwm : IntKind.i64.wrap (a * y) = a * y := IntWalk.i64_in _ (by omega)
  have hws : IntKind.i64.wrap (x + a * y) = (k : Int) := by rw [hk]; exact IntWalk.i64_in _ (by omega)
  have hk0 : (0 : Int) ≤ (k : Int) := by omega
  have hk1 : (k : Int) < (xs.length : Int) := by omega
  have HR := Lib.hid hr
  have HX := Lib.hid hx
  have HY := Lib.hid hy
  have HAA := Lib.hid ha
  have HHH := Lib.hid hh
  clear hA hc hr hx hy ha hh hk h1 h2
  go_enter Try.func88, Try.ntmps88
  go_wp2_with fail
  go_quiet ((first
    | (go_at_call_of 161 (Value.int .i64 x); exact Calls.quiet_of_same (l04Place_any x a HX.out.1 HX.out.2 HAA.out _))
    | (go_at_call_of 161 (Value.int .i64 y); exact Calls.quiet_of_same (l04Place_any y h HY.out.1 HY.out.2 HHH.out _))))
  go_wp2_with fail
  go_ret
  exact ⟨by (repeat first | with_reducible exact Ext.rfl' _ | with_reducible refine Ext.drewN ?_ _ | with_reducible refine Ext.drew' ?_ | with_reducible refine Ext.alloc' ?_ _ | with_reducible refine Ext.setCell_at ?_ _ _ _ (by first | exact Nat.le_refl _ | omega) | with_reducible assumption | refine Ext.trans ?_ (by with_reducible assumption)), r, rfl, HR.out⟩

set_option maxRecDepth 100000 in
theorem specSpin_any (a h : Int) (A : Option Addr) (cap : Nat) (xs : List Nat) (x y : Int) (w : World) (hA : FS w A xs) (hl : xs.length ≤ 1048576) :
    Calls Try.prog 28 #[.agg #[.int .i64 a, .int .i64 h, .slice A xs.length cap], .int .i64 x, .int .i64 y] w fun e w' => Ext w w' ∧ ∃ r b, e = .returned (.tuple #[.float .f32 r, .bool b]) ∧ (b, cn .f32 r) = spinP a h xs x y := by
  have HA := Lib.hid hA
  have HL := Lib.hid hl
  have HT := Lib.hid (show BAt (w.alloc (.cells #[.int .i64 a, .int .i64 h, .slice A xs.length cap] 35)) w.heap.size 0 a h A xs.length cap from ⟨by simp, by go_simp, by go_simp, by go_simp⟩)
  have HE := Lib.hid (show Ext w (w.alloc (.cells #[.int .i64 a, .int .i64 h, .slice A xs.length cap] 35)) by (repeat first | with_reducible exact Ext.rfl' _ | with_reducible refine Ext.drewN ?_ _ | with_reducible refine Ext.drew' ?_ | with_reducible refine Ext.alloc' ?_ _ | with_reducible refine Ext.setCell_at ?_ _ _ _ (by first | exact Nat.le_refl _ | omega) | with_reducible assumption | refine Ext.trans ?_ (by with_reducible assumption)))
  clear hA hl
  cases hb : bHas a h xs x y with
  | false =>
    have HB := Lib.hid hb
    clear hb
    go_enter Try.func28, Try.ntmps28
    go_wp2_with (go_at_call 87; refine (l04Cell_any w.heap.size 0 a h A cap xs x y _ HT.out (HA.out.ext HE.out) HL.out false HB.out).mono ?_; rintro e w1 ⟨he1, rfl⟩)
    go_ret2
    exact ⟨Ext.trans HE.out he1, 0, false, rfl, by unfold spinP; rw [HB.out]; simp [cn_zero32]⟩
  | true =>
    obtain ⟨hi, hsz, hlen, hx0, hx1, hy0, hy1⟩ := bHas_bounds hb
    have hm := mul_bounds hsz
    have h1 : 0 ≤ a * y := Int.mul_nonneg (by omega) hy0
    have h2 : a * y ≤ a * (h - 1) := Int.mul_le_mul_of_nonneg_left hy1 (by omega)
    have h3 : a * (h - 1) = a * h - a := by rw [Int.mul_sub, Int.mul_one]
    obtain ⟨k, hk⟩ : ∃ k : Nat, x + a * y = k := ⟨(x + a * y).toNat, by omega⟩
    have hkt : (x + a * y).toNat = k := by omega
    have HKL := Lib.hid (show k < xs.length by omega)
    have HXL := Lib.hid (show xs.length ≤ 256 by omega)
    have HB := Lib.hid hb
    have HK := Lib.hid hk
    have HKT := Lib.hid hkt
    have HX := Lib.hid (show 0 ≤ x ∧ x ≤ a - 1 from ⟨hx0, hx1⟩)
    have HY := Lib.hid (show 0 ≤ y ∧ y ≤ h - 1 from ⟨hy0, hy1⟩)
    have HS := Lib.hid hsz
    clear hb hi hsz hlen hx0 hx1 hy0 hy1 hm h1 h2 h3 hk hkt
    go_enter Try.func28, Try.ntmps28
    go_wp2_with (first
      | (go_at_call 87; refine (l04Cell_any w.heap.size 0 a h A cap xs x y _ HT.out (HA.out.ext HE.out) HL.out true HB.out).mono ?_; rintro e w1 ⟨he1, rfl⟩)
      | (go_at_call 88; refine (l04At_any w.heap.size 0 a h A cap xs x y k _ (HT.out.ext he1) (HA.out.ext (Ext.trans HE.out he1)) HXL.out HX.out HY.out HS.out.2.1 HS.out.2.2.2 HK.out HKL.out).mono ?_; rintro e w2 ⟨he2, r, rfl, hr⟩))
    go_ret2
    exact ⟨Ext.trans HE.out (Ext.trans he1 he2), r, true, rfl, by unfold spinP; rw [HB.out]; simp [hr, HKT.out]⟩
end Go.Proofs.Ytbaohbpfnlicpaa
