/- Walks: which numbers, vectors and threads are right. -/
import Derived.Test.YtbaohbpfnlicpaaProg
import Derived.Test.YtbaohbpfnlicpaaPure
import Derived.Test.YtbaohbpfnlicpaaFb
import Derived.Handy
namespace Go.Proofs.Ytbaohbpfnlicpaa
open Go Go.RowKit
set_option linter.unusedVariables false
set_option linter.unusedSimpArgs false
attribute [local go_sem] run_store_float

theorem l01Finite_any (X : Nat) (b : Bool) (hb : finF (cn .f32 X) = b) (w : World) : Calls Try.prog 101 #[.float .f32 X] w fun e w' => Ext w w' ∧ e = .returned (.bool b) := by
  go_enter Try.func101, Try.ntmps101
  go_wp2_with (first
    | (refine wpList_float rfl _ _ _ _ _ rfl (by decide) _ _ _ rfl rfl ?_; intro r1 n1 q1) | (refine wpList_fcmp rfl _ _ _ _ _ rfl rfl _ _ _ rfl rfl _ (by first | with_reducible assumption | rfl) ?_) | (refine wpList_fneg rfl _ _ rfl _ _ rfl ?_; intro r1 q1))
  go_ret
  unfold FR at q1
  exact ⟨(Ext.rfl' _).drewN _, ret_bool (by rw [q1, cn_zero32]; exact hb)⟩
theorem IsFinite_any (X : Nat) (b : Bool) (hb : finF (cn .f32 X) = b) (w : World) : Calls Try.prog 105 #[.float .f32 X] w fun e w' => Ext w w' ∧ e = .returned (.bool b) := by
  go_enter Try.func105, Try.ntmps105
  go_wp2_with (first
    | (refine wpList_float rfl _ _ _ _ _ rfl (by decide) _ _ _ rfl rfl ?_; intro r1 n1 q1) | (refine wpList_fcmp rfl _ _ _ _ _ rfl rfl _ _ _ rfl rfl _ (by first | with_reducible assumption | rfl) ?_) | (refine wpList_fneg rfl _ _ rfl _ _ rfl ?_; intro r1 q1))
  go_ret
  unfold FR at q1
  exact ⟨(Ext.rfl' _).drewN _, ret_bool (by rw [q1, cn_zero32]; exact hb)⟩

theorem finite1_any (X : Nat) (b : Bool) (hb : finF (cn .f32 X) = b) (w : World) : Calls Try.prog 190 #[.float .f32 X] w fun e w' => Ext w w' ∧ e = .returned (.bool (!b)) := by
  go_enter Try.func190, Try.ntmps190
  go_wp2_with (go_at_call 105; refine (IsFinite_any _ _ hb _).mono ?_; rintro e w1 ⟨he1, rfl⟩; obtain ⟨hc1, hf1⟩ := bcell he1; (try simp only [World.heap_drewN, World.cell?_drewN, World.frozen?_drewN] at hc1 hf1))
  go_ret
  exact ⟨he1, rfl⟩

theorem l01VFinite_any (x y z : Nat) (b : Bool) (hb : vfin (cv x y z) = b) (w : World) : Calls Try.prog 133 #[.agg #[.float .f32 x, .float .f32 y, .float .f32 z]] w fun e w' => Ext w w' ∧ e = .returned (.bool b) := by
  have HB := Lib.hid hb
  clear hb
  cases h0 : finF (cn .f32 x)
  · go_enter Try.func133, Try.ntmps133
    go_wp2_with (go_at_call 101; refine (l01Finite_any _ _ (by first | with_reducible assumption | rfl) _).mono ?_; rintro e w1 ⟨he1, rfl⟩; obtain ⟨hc1, hf1⟩ := bcell he1; (try simp only [World.heap_drewN, World.cell?_drewN, World.frozen?_drewN] at hc1 hf1); (have hz0 : w.heap.size < w1.heap.size := (by have := he1.size; (try simp only [World.heap_drewN, World.size_alloc] at this); omega)))
    go_ret
    exact ⟨by (repeat first | with_reducible exact Ext.rfl' _ | with_reducible refine Ext.drewN ?_ _ | with_reducible refine Ext.drew' ?_ | with_reducible refine Ext.alloc' ?_ _ | with_reducible refine Ext.setCell_at ?_ _ _ _ (by first | exact Nat.le_refl _ | omega) | with_reducible assumption | refine Ext.trans ?_ (by with_reducible assumption)), ret_bool (by rw [← HB.out]; simp [vfin, cv, h0])⟩
  · cases h1 : finF (cn .f32 y)
    · go_enter Try.func133, Try.ntmps133
      go_wp2_with (go_at_call 101; refine (l01Finite_any _ _ (by first | with_reducible assumption | rfl) _).mono ?_; rintro e w1 ⟨he1, rfl⟩; obtain ⟨hc1, hf1⟩ := bcell he1; (try simp only [World.heap_drewN, World.cell?_drewN, World.frozen?_drewN] at hc1 hf1); (have hz0 : w.heap.size < w1.heap.size := (by have := he1.size; (try simp only [World.heap_drewN, World.size_alloc] at this); omega)))
      go_ret
      exact ⟨by (repeat first | with_reducible exact Ext.rfl' _ | with_reducible refine Ext.drewN ?_ _ | with_reducible refine Ext.drew' ?_ | with_reducible refine Ext.alloc' ?_ _ | with_reducible refine Ext.setCell_at ?_ _ _ _ (by first | exact Nat.le_refl _ | omega) | with_reducible assumption | refine Ext.trans ?_ (by with_reducible assumption)), ret_bool (by rw [← HB.out]; simp [vfin, cv, h1])⟩
    · go_enter Try.func133, Try.ntmps133
      go_wp2_with (go_at_call 101; refine (l01Finite_any _ _ (by first | with_reducible assumption | rfl) _).mono ?_; rintro e w1 ⟨he1, rfl⟩; obtain ⟨hc1, hf1⟩ := bcell he1; (try simp only [World.heap_drewN, World.cell?_drewN, World.frozen?_drewN] at hc1 hf1); (have hz0 : w.heap.size < w1.heap.size := (by have := he1.size; (try simp only [World.heap_drewN, World.size_alloc] at this); omega)))
      go_ret
      exact ⟨by (repeat first | with_reducible exact Ext.rfl' _ | with_reducible refine Ext.drewN ?_ _ | with_reducible refine Ext.drew' ?_ | with_reducible refine Ext.alloc' ?_ _ | with_reducible refine Ext.setCell_at ?_ _ _ _ (by first | exact Nat.le_refl _ | omega) | with_reducible assumption | refine Ext.trans ?_ (by with_reducible assumption)), ret_bool (by rw [← HB.out]; simp [vfin, cv, h0, h1])⟩

theorem l00In_yes (n l h : Int) (w : World) (h1 : l ≤ n) (h2 : n ≤ h) : Calls Try.prog 79 #[.int .i64 n, .int .i64 l, .int .i64 h] w fun e w' => w = w' ∧ e = .returned (.bool true) := by
  go_enter Try.func79, Try.ntmps79
  go_wp2
  go_ret
  exact ⟨rfl, rfl⟩
theorem l00In_no (n l h : Int) (w : World) (h1 : n < l ∨ h < n) : Calls Try.prog 79 #[.int .i64 n, .int .i64 l, .int .i64 h] w fun e w' => w = w' ∧ e = .returned (.bool false) := by
  by_cases hl : n < l
  · have hd : decide (l ≤ n) = false := by simp; omega
    clear h1
    go_enter Try.func79, Try.ntmps79
    go_wp2
    go_ret
    exact ⟨rfl, rfl⟩
  · have h2 : h < n := by omega
    have h3 : l ≤ n := by omega
    have hd : decide (n ≤ h) = false := by simp; omega
    clear h1 hl
    go_enter Try.func79, Try.ntmps79
    go_wp2
    go_ret
    exact ⟨rfl, rfl⟩
/-- 'in' as one contract -/
theorem l00In_any (n l h : Int) (b : Bool) (hb : (decide (l ≤ n) && decide (n ≤ h)) = b) (w : World) : Calls Try.prog 79 #[.int .i64 n, .int .i64 l, .int .i64 h] w fun e w' => w = w' ∧ e = .returned (.bool b) := by
  by_cases h1 : l ≤ n ∧ n ≤ h
  · have : b = true := by rw [← hb]; simp [h1.1, h1.2]
    subst this
    exact l00In_yes n l h w h1.1 h1.2
  · have : b = false := by rw [← hb]; simp; omega
    subst this
    exact l00In_no n l h w (by omega)
theorem in_yes (n l h : Int) (w : World) (h1 : l ≤ n) (h2 : n ≤ h) : Calls Try.prog 82 #[.int .i64 n, .int .i64 l, .int .i64 h] w fun e w' => w = w' ∧ e = .returned (.bool true) := by
  go_enter Try.func82, Try.ntmps82
  go_wp2
  go_ret
  exact ⟨rfl, rfl⟩
theorem in_no (n l h : Int) (w : World) (h1 : n < l ∨ h < n) : Calls Try.prog 82 #[.int .i64 n, .int .i64 l, .int .i64 h] w fun e w' => w = w' ∧ e = .returned (.bool false) := by
  by_cases hl : n < l
  · have hd : decide (l ≤ n) = false := by simp; omega
    clear h1
    go_enter Try.func82, Try.ntmps82
    go_wp2
    go_ret
    exact ⟨rfl, rfl⟩
  · have h2 : h < n := by omega
    have h3 : l ≤ n := by omega
    have hd : decide (n ≤ h) = false := by simp; omega
    clear h1 hl
    go_enter Try.func82, Try.ntmps82
    go_wp2
    go_ret
    exact ⟨rfl, rfl⟩
/-- 'in' as one contract -/
theorem in_any (n l h : Int) (b : Bool) (hb : (decide (l ≤ n) && decide (n ≤ h)) = b) (w : World) : Calls Try.prog 82 #[.int .i64 n, .int .i64 l, .int .i64 h] w fun e w' => w = w' ∧ e = .returned (.bool b) := by
  by_cases h1 : l ≤ n ∧ n ≤ h
  · have : b = true := by rw [← hb]; simp [h1.1, h1.2]
    subst this
    exact in_yes n l h w h1.1 h1.2
  · have : b = false := by rw [← hb]; simp; omega
    subst this
    exact in_no n l h w (by omega)

/-! ## slices.ContainsFunc over floats and over vectors -/
/-- a function value that answers p of a number -/
def Asks1 (c : Nat) (p : Nat → Bool) : Prop :=
  (∀ args w, (callFunc c args).run Try.prog w = .ok (.enter c args) w) ∧
  ∀ X b, p (cn .f32 X) = b → ∀ w, Calls Try.prog c #[.float .f32 X] w fun e w' => Ext w w' ∧ e = .returned (.bool b)

theorem IndexFuncF_any (c : Nat) (p : Nat → Bool) (hc : Asks1 c p) (A : Option Addr) (cap : Nat) (xs : List Nat) (w : World) (hA : FS w A xs) (hl : xs.length ≤ 1048576) :
    Calls Try.prog 191 #[.slice A xs.length cap, .func (.func c) #[] #[]] w fun e w' => Ext w w' ∧ ∃ r : Int, e = .returned (.int .i64 r) ∧ decide (0 ≤ r) = xs.any p := by
  have HA := Lib.hid hA
  have HL := Lib.hid hl
  obtain ⟨hcall, hp⟩ := hc
  have HP := Lib.hid hp
  clear hA hl hp
  go_enter Try.func191, Try.ntmps191
  go_wp2_with fail
  go_loopw [8] (fun i wr => ∃ (k : Nat), k ≤ xs.length ∧ i = .int .i64 k ∧ (xs.take k).any p = false ∧ Below w.heap.size w wr) (fun i _ => xs.length - (intOf i).toNat)
  case atStart => exact ⟨0, Nat.zero_le _, rfl, by simp, Ext.rfl' _⟩
  case round =>
    obtain ⟨k, hk, rfl, hno, hbel⟩ := hrel
    have HE := Lib.hid hbel
    have HN := Lib.hid hno
    clear hbel hno
    have hk9 : k < 9223372036854775807 := by have := HL.out; omega
    by_cases hlt : k < xs.length
    · obtain ⟨b, o, rfl, hbw, hcc⟩ := HA.out (by omega)
      obtain ⟨x, c0, hcv⟩ := hcc k hlt
      have d0 := (HE.out.cell (p := ⟨b, o + k, none⟩) hbw).trans c0
      have HC := Lib.hid hcv
      have HT := Lib.hid (any_take_succ p xs 0 k hlt)
      clear c0 hcc hcv
      go_wp2_with fail
      cases hpv : p (xs.getD k 0)
      · refine (HP.out _ false (by rw [HC.out]; exact hpv) _).mono ?_
        rintro e w1 ⟨he, rfl⟩
        have HF := Lib.hid (HE.out.trans (he.mono HE.out.size))
        have HQ := Lib.hid hpv
        clear he hpv d0
        go_wp2_with fail
        exact ⟨⟨k + 1, by omega, by go_num, by rw [HT.out, HN.out, HQ.out]; rfl, HF.out⟩, by simp [intOf]; omega⟩
      · refine (HP.out _ true (by rw [HC.out]; exact hpv) _).mono ?_
        rintro e w1 ⟨he, rfl⟩
        have HF := Lib.hid (HE.out.trans (he.mono HE.out.size))
        have HQ := Lib.hid hpv
        clear he hpv d0
        go_wp2_with fail
        go_ret
        refine ⟨HF.out, _, rfl, ?_⟩
        have hany : xs.any p = true := List.any_eq_true.2 ⟨xs.getD k 0, by rw [List.getD_eq_getElem?_getD, List.getElem?_eq_getElem hlt]; simp, HQ.out⟩
        rw [hany]; simp
    · go_wp2_with fail
      have hkl : k = xs.length := by omega
      go_ret
      refine ⟨HE.out, _, rfl, ?_⟩
      have hany : xs.any p = false := by have := HN.out; rw [hkl, List.take_length] at this; exact this
      rw [hany]; rfl

theorem ContainsFuncF_any (c : Nat) (p : Nat → Bool) (hc : Asks1 c p) (A : Option Addr) (cap : Nat) (xs : List Nat) (w : World) (hA : FS w A xs) (hl : xs.length ≤ 1048576) (b : Bool) (hb : xs.any p = b) :
    Calls Try.prog 158 #[.slice A xs.length cap, .func (.func c) #[] #[]] w fun e w' => Ext w w' ∧ e = .returned (.bool b) := by
  have HA := Lib.hid hA
  have HL := Lib.hid hl
  have HB := Lib.hid hb
  have HCC := Lib.hid hc
  clear hA hl hb hc
  go_enter Try.func158, Try.ntmps158
  go_wp2_with fail
  refine (IndexFuncF_any c p HCC.out _ _ _ _ HA.out HL.out).mono ?_
  rintro e w1 ⟨he, r, rfl, hr⟩
  have HR := Lib.hid hr
  clear hr
  go_wp2_with fail
  go_ret
  exact ⟨he, ret_bool (by rw [← HB.out, ← HR.out])⟩

/-- a function value that answers p of a vector -/
def Asks3 (c : Nat) (p : V3 → Bool) : Prop :=
  (∀ args w, (callFunc c args).run Try.prog w = .ok (.enter c args) w) ∧
  ∀ x y z b, p (cv x y z) = b → ∀ w, Calls Try.prog c #[.agg #[.float .f32 x, .float .f32 y, .float .f32 z]] w fun e w' => Ext w w' ∧ e = .returned (.bool b)

theorem IndexFuncV_any (c : Nat) (p : V3 → Bool) (hc : Asks3 c p) (A : Option Addr) (cap : Nat) (xs : List V3) (w : World) (hA : VS w A xs) (hl : xs.length ≤ 1048576) :
    Calls Try.prog 199 #[.slice A xs.length cap, .func (.func c) #[] #[]] w fun e w' => Ext w w' ∧ ∃ r : Int, e = .returned (.int .i64 r) ∧ decide (0 ≤ r) = xs.any p := by
  have HA := Lib.hid hA
  have HL := Lib.hid hl
  obtain ⟨hcall, hp⟩ := hc
  have HP := Lib.hid hp
  clear hA hl hp
  go_enter Try.func199, Try.ntmps199
  go_wp2_with fail
  go_loopw [8] (fun i wr => ∃ (k : Nat), k ≤ xs.length ∧ i = .int .i64 k ∧ (xs.take k).any p = false ∧ Below w.heap.size w wr) (fun i _ => xs.length - (intOf i).toNat)
  case atStart => exact ⟨0, Nat.zero_le _, rfl, by simp, Ext.rfl' _⟩
  case round =>
    obtain ⟨k, hk, rfl, hno, hbel⟩ := hrel
    have HE := Lib.hid hbel
    have HN := Lib.hid hno
    clear hbel hno
    have hk9 : k < 9223372036854775807 := by have := HL.out; omega
    by_cases hlt : k < xs.length
    · obtain ⟨b, o, rfl, hbw, hcc⟩ := HA.out (by omega)
      obtain ⟨x, y, z, c0, c1, c2, hcv⟩ := hcc k hlt
      have d0 := (HE.out.cell (p := ⟨b, o + k * 3, none⟩) hbw).trans c0
      have d1 := (HE.out.cell (p := ⟨b, o + k * 3 + 1, none⟩) hbw).trans c1
      have d2 := (HE.out.cell (p := ⟨b, o + k * 3 + 2, none⟩) hbw).trans c2
      have HC := Lib.hid hcv
      have HT := Lib.hid (any_take_succ p xs (0, 0, 0) k hlt)
      clear c0 c1 c2 hcc hcv
      go_wp2_with fail
      cases hpv : p (xs.getD k (0, 0, 0))
      · refine (HP.out _ _ _ false (by rw [HC.out]; exact hpv) _).mono ?_
        rintro e w1 ⟨he, rfl⟩
        have HF := Lib.hid (HE.out.trans (he.mono HE.out.size))
        have HQ := Lib.hid hpv
        clear he hpv d0 d1 d2
        go_wp2_with fail
        exact ⟨⟨k + 1, by omega, by go_num, by rw [HT.out, HN.out, HQ.out]; rfl, HF.out⟩, by simp [intOf]; omega⟩
      · refine (HP.out _ _ _ true (by rw [HC.out]; exact hpv) _).mono ?_
        rintro e w1 ⟨he, rfl⟩
        have HF := Lib.hid (HE.out.trans (he.mono HE.out.size))
        have HQ := Lib.hid hpv
        clear he hpv d0 d1 d2
        go_wp2_with fail
        go_ret
        refine ⟨HF.out, _, rfl, ?_⟩
        have hany : xs.any p = true := List.any_eq_true.2 ⟨xs.getD k (0, 0, 0), by rw [List.getD_eq_getElem?_getD, List.getElem?_eq_getElem hlt]; simp, HQ.out⟩
        rw [hany]; simp
    · go_wp2_with fail
      have hkl : k = xs.length := by omega
      go_ret
      refine ⟨HE.out, _, rfl, ?_⟩
      have hany : xs.any p = false := by have := HN.out; rw [hkl, List.take_length] at this; exact this
      rw [hany]; rfl

theorem ContainsFuncV_any (c : Nat) (p : V3 → Bool) (hc : Asks3 c p) (A : Option Addr) (cap : Nat) (xs : List V3) (w : World) (hA : VS w A xs) (hl : xs.length ≤ 1048576) (b : Bool) (hb : xs.any p = b) :
    Calls Try.prog 175 #[.slice A xs.length cap, .func (.func c) #[] #[]] w fun e w' => Ext w w' ∧ e = .returned (.bool b) := by
  have HA := Lib.hid hA
  have HL := Lib.hid hl
  have HB := Lib.hid hb
  have HCC := Lib.hid hc
  clear hA hl hb hc
  go_enter Try.func175, Try.ntmps175
  go_wp2_with fail
  refine (IndexFuncV_any c p HCC.out _ _ _ _ HA.out HL.out).mono ?_
  rintro e w1 ⟨he, r, rfl, hr⟩
  have HR := Lib.hid hr
  clear hr
  go_wp2_with fail
  go_ret
  exact ⟨he, ret_bool (by rw [← HB.out, ← HR.out])⟩

theorem asks_finite1 : Asks1 190 fun x => !finF x :=
  ⟨fun args w => by go_simp, fun X b hb w => (finite1_any X (!b) (by rw [← hb, Bool.not_not]) w).mono fun e w' ⟨h1, h2⟩ => ⟨h1, by rw [h2, Bool.not_not]⟩⟩
end Go.Proofs.Ytbaohbpfnlicpaa
