/- Walks: whether vectors and threads are the same. -/
import Derived.Test.YtbaohbpfnlicpaaS1
import Derived.Test.YtbaohbpfnlicpaaW3
import Derived.Deep.RegionLaw
namespace Go.Proofs.Ytbaohbpfnlicpaa
open Go Go.RowKit
set_option linter.unusedVariables false
set_option linter.unusedSimpArgs false
attribute [local go_sem] run_store_float

def In3 (c : V3) : Prop := In32 c.1 ∧ In32 c.2.1 ∧ In32 c.2.2
theorem callSame : ∀ args w, (callFunc 98 args).run Try.prog w = .ok (.enter 98 args) w := fun args w => by go_simp
theorem callSameV : ∀ args w, (callFunc 97 args).run Try.prog w = .ok (.enter 97 args) w := fun args w => by go_simp
theorem take_succ_eq {α : Type} (xs ys : List α) (d : α) (k : Nat) (h1 : k < xs.length) (h2 : k < ys.length) (h : xs.take k = ys.take k) (he : xs.getD k d = ys.getD k d) : xs.take (k + 1) = ys.take (k + 1) := by
  rw [List.take_succ_eq_append_getElem h1, List.take_succ_eq_append_getElem h2, h]
  rw [List.getD_eq_getElem?_getD, List.getElem?_eq_getElem h1, List.getD_eq_getElem?_getD, List.getElem?_eq_getElem h2] at he
  simp only [Option.getD_some] at he
  rw [he]
theorem getD_ne {α : Type} (xs ys : List α) (d : α) (k : Nat) (he : ¬ xs.getD k d = ys.getD k d) : ¬ xs = ys := fun h => he (by rw [h])

theorem numbers_any (x y z : Nat) (w : World) : Calls Try.prog 166 #[.agg #[.float .f32 x, .float .f32 y, .float .f32 z]] w fun e w' => Ext w w' ∧ ∃ A, e = .returned (.slice A 3 3) ∧ FS w' A [cn .f32 x, cn .f32 y, cn .f32 z] := by
  go_enter Try.func166, Try.ntmps166
  go_wp2_with fail
  go_ret
  exact ⟨by (repeat first | with_reducible exact Ext.rfl' _ | with_reducible refine Ext.drewN ?_ _ | with_reducible refine Ext.drew' ?_ | with_reducible refine Ext.alloc' ?_ _ | with_reducible refine Ext.setCell_at ?_ _ _ _ (by first | exact Nat.le_refl _ | omega) | with_reducible assumption | refine Ext.trans ?_ (by with_reducible assumption)), _, rfl, FS.three _ _ _ _ _ _ (by simp)⟩

theorem sameN_any (x y : Nat) (b : Bool) (hb : decide (cn .f32 x = cn .f32 y) = b) (w : World) : Calls Try.prog 98 #[.float .f32 x, .float .f32 y] w fun e w' => Ext w w' ∧ e = .returned (.bool b) := SameNumber_any x y b hb w
theorem EqualFuncF_any (A B : Option Addr) (ca cb : Nat) (xs ys : List Nat) (w : World) (hA : FS w A xs) (hB : FS w B ys) (hlen : ys.length = xs.length) (hl : xs.length ≤ 1048576) (r : Bool) (hr : decide (xs = ys) = r) :
    Calls Try.prog 195 #[.slice A xs.length ca, .slice B xs.length cb, .func (.func 98) #[] #[]] w fun e w' => Ext w w' ∧ e = .returned (.bool r) := by
  have HA := Lib.hid hA
  have HB := Lib.hid hB
  have HL := Lib.hid hl
  have HLE := Lib.hid hlen
  have HR := Lib.hid hr
  have hcall := callSame
  clear hA hB hl hlen hr
  go_enter Try.func195, Try.ntmps195
  go_wp2_with fail
  go_loopw [17] (fun i wr => ∃ (k : Nat), k ≤ xs.length ∧ i = .int .i64 k ∧ xs.take k = ys.take k ∧ Below w.heap.size w wr) (fun i _ => xs.length - (intOf i).toNat)
  case atStart => exact ⟨0, Nat.zero_le _, rfl, by simp, Ext.rfl' _⟩
  case round =>
    obtain ⟨k, hk, rfl, hno, hbel⟩ := hrel
    have HE := Lib.hid hbel
    have HN := Lib.hid hno
    clear hbel hno
    have hk9 : k < 9223372036854775807 := by have := HL.out; omega
    by_cases hlt : k < xs.length
    · obtain ⟨b, o, rfl, hbw, hcc⟩ := HA.out (by omega)
      obtain ⟨b', o', rfl, hbw', hcc'⟩ := HB.out (by have := HLE.out; omega)
      obtain ⟨x, c0, hcv⟩ := hcc k hlt
      obtain ⟨x', c0', hcv'⟩ := hcc' k (by have := HLE.out; omega)
      have d0 := (HE.out.cell (p := ⟨b, o + k, none⟩) hbw).trans c0
      have d0' := (HE.out.cell (p := ⟨b', o' + k, none⟩) hbw').trans c0'
      clear c0 c0'
      have HC := Lib.hid hcv
      have HC' := Lib.hid hcv'
      clear hcc hcv hcc' hcv'
      go_wp2_with fail
      by_cases hpv : xs.getD k 0 = ys.getD k 0
      · refine (sameN_any x x' true (by rw [HC.out, HC'.out]; simpa using hpv) _).mono ?_
        rintro e w1 ⟨he, rfl⟩
        have HF := Lib.hid (HE.out.trans (he.mono HE.out.size))
        have HQ := Lib.hid hpv
        clear he hpv
        go_wp2_with fail
        exact ⟨⟨k + 1, by omega, by go_num, take_succ_eq xs ys 0 k hlt (by have := HLE.out; omega) HN.out HQ.out, HF.out⟩, by simp [intOf]; omega⟩
      · refine (sameN_any x x' false (by rw [HC.out, HC'.out]; simpa using hpv) _).mono ?_
        rintro e w1 ⟨he, rfl⟩
        have HF := Lib.hid (HE.out.trans (he.mono HE.out.size))
        have HQ := Lib.hid hpv
        clear he hpv
        go_wp2_with fail
        go_ret
        exact ⟨HF.out, ret_bool (by rw [← HR.out, decide_eq_false (getD_ne xs ys 0 k HQ.out)])⟩
    · go_wp2_with fail
      have hkl : k = xs.length := by omega
      go_ret
      refine ⟨HE.out, ret_bool ?_⟩
      rw [← HR.out, decide_eq_true]
      have := HN.out
      rw [hkl, List.take_length, ← HLE.out, List.take_length] at this
      exact this
theorem sameList_any (A B : Option Addr) (x y z x' y' z' : Nat) (w : World) (hA : FS w A [cn .f32 x, cn .f32 y, cn .f32 z]) (hB : FS w B [cn .f32 x', cn .f32 y', cn .f32 z']) (r : Bool) (hr : decide (cv x y z = cv x' y' z') = r) :
    Calls Try.prog 165 #[.slice A 3 3, .slice B 3 3] w fun e w' => Ext w w' ∧ e = .returned (.bool r) := by
  have HA := Lib.hid hA
  have HB := Lib.hid hB
  have HR := Lib.hid hr
  clear hA hB hr
  go_enter Try.func165, Try.ntmps165
  go_wp2_with fail
  refine (EqualFuncF_any A B 3 3 [cn .f32 x, cn .f32 y, cn .f32 z] [cn .f32 x', cn .f32 y', cn .f32 z'] _ HA.out HB.out rfl (by show 3 ≤ 1048576; omega) r (by rw [← HR.out]; simp [cv, Prod.ext_iff])).mono ?_
  rintro e w1 ⟨he, rfl⟩
  go_wp2_with fail
  go_ret
  exact ⟨by (repeat first | with_reducible exact Ext.rfl' _ | with_reducible refine Ext.drewN ?_ _ | with_reducible refine Ext.drew' ?_ | with_reducible refine Ext.alloc' ?_ _ | with_reducible refine Ext.setCell_at ?_ _ _ _ (by first | exact Nat.le_refl _ | omega) | with_reducible assumption | refine Ext.trans ?_ (by with_reducible assumption)), rfl⟩
theorem SameVector_any (x y z x' y' z' : Nat) (r : Bool) (hr : decide (cv x y z = cv x' y' z') = r) (w : World) : Calls Try.prog 97 #[.agg #[.float .f32 x, .float .f32 y, .float .f32 z], .agg #[.float .f32 x', .float .f32 y', .float .f32 z']] w fun e w' => Ext w w' ∧ e = .returned (.bool r) := by
  have HR := Lib.hid hr
  clear hr
  go_enter Try.func97, Try.ntmps97
  go_wp2_with fail
  have HP := Blk.alloc (Blk.new w 54 #[.float .f32 x, .float .f32 y, .float .f32 z]) (.cells #[.float .f32 x', .float .f32 y', .float .f32 z'] 54)
  have HQ := Blk.at_ (w.alloc (.cells #[.float .f32 x, .float .f32 y, .float .f32 z] 54)) 54 #[.float .f32 x', .float .f32 y', .float .f32 z'] (w.heap.size + 1) (by simp)
  have HE := Lib.hid (show Ext w ((w.alloc (.cells #[.float .f32 x, .float .f32 y, .float .f32 z] 54)).alloc (.cells #[.float .f32 x', .float .f32 y', .float .f32 z'] 54)) by (repeat first | with_reducible exact Ext.rfl' _ | with_reducible refine Ext.drewN ?_ _ | with_reducible refine Ext.drew' ?_ | with_reducible refine Ext.alloc' ?_ _ | with_reducible refine Ext.setCell_at ?_ _ _ _ (by first | exact Nat.le_refl _ | omega) | with_reducible assumption | refine Ext.trans ?_ (by with_reducible assumption)))
  generalize ((w.alloc (.cells #[.float .f32 x, .float .f32 y, .float .f32 z] 54)).alloc (.cells #[.float .f32 x', .float .f32 y', .float .f32 z'] 54)) = W1 at *
  (have p0 : W1.cell? ⟨w.heap.size, 0, none⟩ = some (.float .f32 x) := HP.cell 0); (have p1 : W1.cell? ⟨w.heap.size, 1, none⟩ = some (.float .f32 y) := HP.cell 1); (have p2 : W1.cell? ⟨w.heap.size, 2, none⟩ = some (.float .f32 z) := HP.cell 2)
  (have q0 : W1.cell? ⟨w.heap.size + 1, 0, none⟩ = some (.float .f32 x') := HQ.cell 0); (have q1 : W1.cell? ⟨w.heap.size + 1, 1, none⟩ = some (.float .f32 y') := HQ.cell 1); (have q2 : W1.cell? ⟨w.heap.size + 1, 2, none⟩ = some (.float .f32 z') := HQ.cell 2)
  have HPh := Lib.hid HP
  have HQh := Lib.hid HQ
  clear HP HQ
  go_region_law (first
    | (go_simp; go_at_call 165; refine (sameList_any _ _ x y z x' y' z' _ (HN1.out.ext HE2.out) HN2.out r HR.out).mono ?_; rintro e w3 ⟨he3, rfl⟩; have HX3 := Lib.hid he3; clear he3)
    | (go_simp; go_at_call 166; have hh1 := HE1; refine (numbers_any _ _ _ _).mono ?_; rintro e w2 ⟨he2, A2, rfl, hn2⟩; have HN2 := Lib.hid hn2; have HE2 := Lib.hid he2; clear he2 hn2 hh1)
    | (go_simp; go_at_call 166; refine (numbers_any _ _ _ _).mono ?_; rintro e w1 ⟨he1, A1, rfl, hn1⟩; have HN1 := Lib.hid hn1; have HE1 := Lib.hid (show Ext W1 w1 from Ext.trans (Ext.drew' (Ext.rfl' _)) he1); clear he1 hn1; have HQ1 := HQh.out.ext HE1.out; (have k0 : w1.cell? ⟨w.heap.size + 1, 0, none⟩ = some (.float .f32 x') := HQ1.cell 0); (have k1 : w1.cell? ⟨w.heap.size + 1, 1, none⟩ = some (.float .f32 y') := HQ1.cell 1); (have k2 : w1.cell? ⟨w.heap.size + 1, 2, none⟩ = some (.float .f32 z') := HQ1.cell 2); clear HQ1))
  all_goals
    go_wp2_with fail
    go_ret
    exact ⟨Ext.trans HE.out (Ext.trans HE1.out (Ext.trans HE2.out HX3.out)), rfl⟩
theorem EqualFuncV_any (A B : Option Addr) (ca cb : Nat) (xs ys : List V3) (w : World) (hA : VS w A xs) (hB : VS w B ys) (hlen : ys.length = xs.length) (hl : xs.length ≤ 1048576) (r : Bool) (hr : decide (xs = ys) = r) :
    Calls Try.prog 96 #[.slice A xs.length ca, .slice B xs.length cb, .func (.func 97) #[] #[]] w fun e w' => Ext w w' ∧ e = .returned (.bool r) := by
  have HA := Lib.hid hA
  have HB := Lib.hid hB
  have HL := Lib.hid hl
  have HLE := Lib.hid hlen
  have HR := Lib.hid hr
  have hcall := callSameV
  clear hA hB hl hlen hr
  go_enter Try.func96, Try.ntmps96
  go_wp2_with fail
  go_loopw [17] (fun i wr => ∃ (k : Nat), k ≤ xs.length ∧ i = .int .i64 k ∧ xs.take k = ys.take k ∧ Below w.heap.size w wr) (fun i _ => xs.length - (intOf i).toNat)
  case atStart => exact ⟨0, Nat.zero_le _, rfl, by simp, Ext.rfl' _⟩
  case round =>
    obtain ⟨k, hk, rfl, hno, hbel⟩ := hrel
    have HE := Lib.hid hbel
    have HN := Lib.hid hno
    clear hbel hno
    have hk9 : k < 9223372036854775807 := by have := HL.out; omega
    by_cases hlt : k < xs.length
    · obtain ⟨b, o, rfl, hbw, hcc⟩ := HA.out (by omega)
      obtain ⟨b', o', rfl, hbw', hcc'⟩ := HB.out (by have := HLE.out; omega)
      obtain ⟨x, y, z, c0, c1, c2, hcv⟩ := hcc k hlt
      obtain ⟨x', y', z', c0', c1', c2', hcv'⟩ := hcc' k (by have := HLE.out; omega)
      have d0 := (HE.out.cell (p := ⟨b, o + k * 3, none⟩) hbw).trans c0
      have d1 := (HE.out.cell (p := ⟨b, o + k * 3 + 1, none⟩) hbw).trans c1
      have d2 := (HE.out.cell (p := ⟨b, o + k * 3 + 2, none⟩) hbw).trans c2
      have d0' := (HE.out.cell (p := ⟨b', o' + k * 3, none⟩) hbw').trans c0'
      have d1' := (HE.out.cell (p := ⟨b', o' + k * 3 + 1, none⟩) hbw').trans c1'
      have d2' := (HE.out.cell (p := ⟨b', o' + k * 3 + 2, none⟩) hbw').trans c2'
      clear c0 c0' c1 c1' c2 c2'
      have hb1 : b < wr.heap.size := by have := HE.out.size; omega
      have hb1' : b' < wr.heap.size := by have := HE.out.size; omega
      have HC := Lib.hid hcv
      have HC' := Lib.hid hcv'
      clear hcc hcv hcc' hcv'
      go_wp2_with fail
      by_cases hpv : xs.getD k (0, 0, 0) = ys.getD k (0, 0, 0)
      · refine (SameVector_any x y z x' y' z' true (by rw [HC.out, HC'.out]; simpa using hpv) _).mono ?_
        rintro e w1 ⟨he, rfl⟩
        have HF := Lib.hid (HE.out.trans ((show Ext wr w1 from Ext.trans (by (repeat first | with_reducible exact Ext.rfl' _ | with_reducible refine Ext.drewN ?_ _ | with_reducible refine Ext.drew' ?_ | with_reducible refine Ext.alloc' ?_ _ | with_reducible refine Ext.setCell_at ?_ _ _ _ (by first | exact Nat.le_refl _ | omega) | with_reducible assumption | refine Ext.trans ?_ (by with_reducible assumption))) he).mono HE.out.size))
        have HQ := Lib.hid hpv
        clear he hpv
        go_wp2_with fail
        exact ⟨⟨k + 1, by omega, by go_num, take_succ_eq xs ys (0, 0, 0) k hlt (by have := HLE.out; omega) HN.out HQ.out, HF.out⟩, by simp [intOf]; omega⟩
      · refine (SameVector_any x y z x' y' z' false (by rw [HC.out, HC'.out]; simpa using hpv) _).mono ?_
        rintro e w1 ⟨he, rfl⟩
        have HF := Lib.hid (HE.out.trans ((show Ext wr w1 from Ext.trans (by (repeat first | with_reducible exact Ext.rfl' _ | with_reducible refine Ext.drewN ?_ _ | with_reducible refine Ext.drew' ?_ | with_reducible refine Ext.alloc' ?_ _ | with_reducible refine Ext.setCell_at ?_ _ _ _ (by first | exact Nat.le_refl _ | omega) | with_reducible assumption | refine Ext.trans ?_ (by with_reducible assumption))) he).mono HE.out.size))
        have HQ := Lib.hid hpv
        clear he hpv
        go_wp2_with fail
        go_ret
        exact ⟨HF.out, ret_bool (by rw [← HR.out, decide_eq_false (getD_ne xs ys (0, 0, 0) k HQ.out)])⟩
    · go_wp2_with fail
      have hkl : k = xs.length := by omega
      go_ret
      refine ⟨HE.out, ret_bool ?_⟩
      rw [← HR.out, decide_eq_true]
      have := HN.out
      rw [hkl, List.take_length, ← HLE.out, List.take_length] at this
      exact this
end Go.Proofs.Ytbaohbpfnlicpaa
