/- Walks: right threads, the program's and the reference's. -/
import Derived.Test.YtbaohbpfnlicpaaW2
namespace Go.Proofs.Ytbaohbpfnlicpaa
open Go Go.RowKit
set_option linter.unusedVariables false
set_option linter.unusedSimpArgs false
attribute [local go_sem] run_store_float

theorem all_take_succ {α : Type} (p : α → Bool) (xs : List α) (d : α) (k : Nat) (h : k < xs.length) : (xs.take (k + 1)).all p = ((xs.take k).all p && p (xs.getD k d)) := by
  rw [List.take_succ_eq_append_getElem h, List.all_append]
  simp [h]
theorem all_not_any {α : Type} (p : α → Bool) (xs : List α) : (xs.any fun x => !p x) = !xs.all p := by
  induction xs with
  | nil => rfl
  | cons x xs ih => simp [ih]

theorem finite_any (A : Option Addr) (cap : Nat) (xs : List Nat) (w : World) (hA : FS w A xs) (hl : xs.length ≤ 1048576) (b : Bool) (hb : xs.all finF = b) :
    Calls Try.prog 157 #[.slice A xs.length cap] w fun e w' => Ext w w' ∧ e = .returned (.bool b) := by
  have HA := Lib.hid hA
  have HL := Lib.hid hl
  have HB := Lib.hid hb
  clear hA hl hb
  go_enter Try.func157, Try.ntmps157
  go_wp2_with fail
  refine (ContainsFuncF_any _ _ asks_finite1 _ _ _ _ HA.out HL.out (!b) (by rw [all_not_any, HB.out])).mono ?_
  rintro e w1 ⟨he, rfl⟩
  go_wp2_with fail
  go_ret
  exact ⟨he, ret_bool (by simp)⟩

theorem finite3_any (A : Option Addr) (x y z : Nat) (w : World) (hA : FS w A [x, y, z]) (b : Bool) (hb : [x, y, z].all finF = b) :
    Calls Try.prog 157 #[.slice A 3 3] w fun e w' => Ext w w' ∧ e = .returned (.bool b) := by
  have hl : [x, y, z].length = 3 := rfl
  have h := finite_any A 3 [x, y, z] w hA (by rw [hl]; omega) b hb
  rw [hl] at h
  exact h
theorem finite1v_any (A : Option Addr) (x : Nat) (w : World) (hA : FS w A [x]) (b : Bool) (hb : [x].all finF = b) :
    Calls Try.prog 157 #[.slice A 1 1] w fun e w' => Ext w w' ∧ e = .returned (.bool b) := by
  have hl : [x].length = 1 := rfl
  have h := finite_any A 1 [x] w hA (by rw [hl]; omega) b hb
  rw [hl] at h
  exact h
theorem finite2_any (A : Option Addr) (x y : Nat) (w : World) (hA : FS w A [x, y]) (b : Bool) (hb : [x, y].all finF = b) :
    Calls Try.prog 157 #[.slice A 2 2] w fun e w' => Ext w w' ∧ e = .returned (.bool b) := by
  have hl : [x, y].length = 2 := rfl
  have h := finite_any A 2 [x, y] w hA (by rw [hl]; omega) b hb
  rw [hl] at h
  exact h

theorem finiteVector_any (x y z : Nat) (b : Bool) (hb : vfin (cv x y z) = b) (w : World) : Calls Try.prog 136 #[.agg #[.float .f32 x, .float .f32 y, .float .f32 z]] w fun e w' => Ext w w' ∧ e = .returned (.bool b) := by
  have HB := Lib.hid hb
  clear hb
  go_enter Try.func136, Try.ntmps136
  go_wp2_with fail
  refine (finite3_any _ (cn .f32 x) (cn .f32 y) (cn .f32 z) _ (FS.three _ _ _ _ _ _ (by simp)) b (by rw [← HB.out]; simp [vfin, cv, Bool.and_assoc])).mono ?_
  rintro e w1 ⟨he, rfl⟩
  go_wp2_with fail
  go_ret
  exact ⟨by (repeat first | with_reducible exact Ext.rfl' _ | with_reducible refine Ext.drewN ?_ _ | with_reducible refine Ext.drew' ?_ | with_reducible refine Ext.alloc' ?_ _ | with_reducible refine Ext.setCell_at ?_ _ _ _ (by first | exact Nat.le_refl _ | omega) | with_reducible assumption | refine Ext.trans ?_ (by with_reducible assumption)), rfl⟩

theorem IsThread1_any (x y z : Nat) (b : Bool) (hb : vfin (cv x y z) = b) (w : World) : Calls Try.prog 176 #[.agg #[.float .f32 x, .float .f32 y, .float .f32 z]] w fun e w' => Ext w w' ∧ e = .returned (.bool (!b)) := by
  have HB := Lib.hid hb
  clear hb
  go_enter Try.func176, Try.ntmps176
  go_wp2_with (go_at_call 136; refine (finiteVector_any _ _ _ _ HB.out _).mono ?_; rintro e w1 ⟨he1, rfl⟩; obtain ⟨hc1, hf1⟩ := bcell he1; (try simp only [World.heap_drewN, World.cell?_drewN, World.frozen?_drewN] at hc1 hf1))
  go_ret
  exact ⟨by (repeat first | with_reducible exact Ext.rfl' _ | with_reducible refine Ext.drewN ?_ _ | with_reducible refine Ext.drew' ?_ | with_reducible refine Ext.alloc' ?_ _ | with_reducible refine Ext.setCell_at ?_ _ _ _ (by first | exact Nat.le_refl _ | omega) | with_reducible assumption | refine Ext.trans ?_ (by with_reducible assumption)), rfl⟩
theorem asks_IsThread1 : Asks3 176 fun c => !vfin c :=
  ⟨fun args w => by go_simp, fun x y z b hb w => (IsThread1_any x y z (!b) (by rw [← hb, Bool.not_not]) w).mono fun e w' ⟨h1, h2⟩ => ⟨h1, by rw [h2, Bool.not_not]⟩⟩

theorem IsThread_any (A : Option Addr) (cap sp : Nat) (cs : List V3) (w : World) (hA : VS w A cs) (hl : cs.length ≤ 1048576) (b : Bool) (hb : isTh cs (cn .f32 sp) = b) :
    Calls Try.prog 112 #[.agg #[.slice A cs.length cap, .float .f32 sp]] w fun e w' => Ext w w' ∧ e = .returned (.bool b) := by
  have HA := Lib.hid hA
  have HL := Lib.hid hl
  have HB := Lib.hid hb
  clear hA hl hb
  cases h1 : (decide ((3 : Int) ≤ (cs.length : Int)) && decide ((cs.length : Int) ≤ 32)) with
  | false =>
    have HQ := Lib.hid h1
    clear h1
    go_enter Try.func112, Try.ntmps112
    go_wp2_with (first
      | (go_at_call 175; refine (ContainsFuncV_any _ _ asks_IsThread1 _ _ _ _ (HA.out.ext (by (repeat first | with_reducible exact Ext.rfl' _ | with_reducible refine Ext.drewN ?_ _ | with_reducible refine Ext.drew' ?_ | with_reducible refine Ext.alloc' ?_ _ | with_reducible refine Ext.setCell_at ?_ _ _ _ (by first | exact Nat.le_refl _ | omega) | with_reducible assumption | refine Ext.trans ?_ (by with_reducible assumption)))) HL.out (!cs.all vfin) (all_not_any _ _)).mono ?_; rintro e w1 ⟨he1, rfl⟩; obtain ⟨hc1, hf1⟩ := bcell he1; (try simp only [World.heap_drewN, World.cell?_drewN, World.frozen?_drewN] at hc1 hf1); (have hz0 : w.heap.size < w1.heap.size := (by have := he1.size; (try simp only [World.heap_drewN, World.size_alloc] at this); omega)))
      | (go_at_call 82; refine (in_any _ _ _ false HQ.out _).mono ?_; rintro e w1 ⟨rfl, rfl⟩; obtain ⟨hc1, hf1⟩ := bcell he1; (try simp only [World.heap_drewN, World.cell?_drewN, World.frozen?_drewN] at hc1 hf1)))
    go_ret
    refine ⟨by (repeat first | with_reducible exact Ext.rfl' _ | with_reducible refine Ext.drewN ?_ _ | with_reducible refine Ext.drew' ?_ | with_reducible refine Ext.alloc' ?_ _ | with_reducible refine Ext.setCell_at ?_ _ _ _ (by first | exact Nat.le_refl _ | omega) | with_reducible assumption | refine Ext.trans ?_ (by with_reducible assumption)), ret_bool ?_⟩
    rw [← HB.out]
    have h2 : (decide (3 ≤ cs.length) && decide (cs.length ≤ 32)) = false := by
      have := HQ.out
      simp only [Bool.and_eq_false_iff, decide_eq_false_iff_not] at this ⊢; omega
    simp [isTh, h2]
  | true =>
    have HQ := Lib.hid h1
    clear h1
    have h2 : (decide (3 ≤ cs.length) && decide (cs.length ≤ 32)) = true := by
      have := HQ.out
      simp only [Bool.and_eq_true, decide_eq_true_eq] at this ⊢; omega
    have H2 := Lib.hid h2
    clear h2
    cases h3 : cs.all vfin with
    | false =>
      have H3 := Lib.hid h3
      clear h3
      go_enter Try.func112, Try.ntmps112
      go_wp2_with (first
        | (go_at_call 175; refine (ContainsFuncV_any _ _ asks_IsThread1 _ _ _ _ (HA.out.ext (by (repeat first | with_reducible exact Ext.rfl' _ | with_reducible refine Ext.drewN ?_ _ | with_reducible refine Ext.drew' ?_ | with_reducible refine Ext.alloc' ?_ _ | with_reducible refine Ext.setCell_at ?_ _ _ _ (by first | exact Nat.le_refl _ | omega) | with_reducible assumption | refine Ext.trans ?_ (by with_reducible assumption)))) HL.out true (by rw [all_not_any, H3.out]; rfl)).mono ?_; rintro e w1 ⟨he1, rfl⟩; obtain ⟨hc1, hf1⟩ := bcell he1; (try simp only [World.heap_drewN, World.cell?_drewN, World.frozen?_drewN] at hc1 hf1); (have hz0 : w.heap.size < w1.heap.size := (by have := he1.size; (try simp only [World.heap_drewN, World.size_alloc] at this); omega)))
        | (go_at_call 82; refine (in_any _ _ _ true HQ.out _).mono ?_; rintro e w1 ⟨rfl, rfl⟩; obtain ⟨hc1, hf1⟩ := bcell he1; (try simp only [World.heap_drewN, World.cell?_drewN, World.frozen?_drewN] at hc1 hf1)))
      go_ret
      refine ⟨by (repeat first | with_reducible exact Ext.rfl' _ | with_reducible refine Ext.drewN ?_ _ | with_reducible refine Ext.drew' ?_ | with_reducible refine Ext.alloc' ?_ _ | with_reducible refine Ext.setCell_at ?_ _ _ _ (by first | exact Nat.le_refl _ | omega) | with_reducible assumption | refine Ext.trans ?_ (by with_reducible assumption)), ret_bool ?_⟩
      rw [← HB.out]
      simp [isTh, H3.out]
    | true =>
      have H3 := Lib.hid h3
      clear h3
      go_enter Try.func112, Try.ntmps112
      go_wp2_with (first
        | (go_at_call 175; refine (ContainsFuncV_any _ _ asks_IsThread1 _ _ _ _ (HA.out.ext (by (repeat first | with_reducible exact Ext.rfl' _ | with_reducible refine Ext.drewN ?_ _ | with_reducible refine Ext.drew' ?_ | with_reducible refine Ext.alloc' ?_ _ | with_reducible refine Ext.setCell_at ?_ _ _ _ (by first | exact Nat.le_refl _ | omega) | with_reducible assumption | refine Ext.trans ?_ (by with_reducible assumption)))) HL.out false (by rw [all_not_any, H3.out]; rfl)).mono ?_; rintro e w1 ⟨he1, rfl⟩; obtain ⟨hc1, hf1⟩ := bcell he1; (try simp only [World.heap_drewN, World.cell?_drewN, World.frozen?_drewN] at hc1 hf1); (have hz0 : w.heap.size < w1.heap.size := (by have := he1.size; (try simp only [World.heap_drewN, World.size_alloc] at this); omega)))
        | (go_at_call 82; refine (in_any _ _ _ true HQ.out _).mono ?_; rintro e w1 ⟨rfl, rfl⟩; obtain ⟨hc1, hf1⟩ := bcell he1; (try simp only [World.heap_drewN, World.cell?_drewN, World.frozen?_drewN] at hc1 hf1))
        | (go_at_call 105; refine (IsFinite_any _ _ rfl _).mono ?_; rintro e w1 ⟨he1, rfl⟩; obtain ⟨hc1, hf1⟩ := bcell he1; (try simp only [World.heap_drewN, World.cell?_drewN, World.frozen?_drewN] at hc1 hf1); (have hz0 : w.heap.size < w1.heap.size := (by have := he1.size; (try simp only [World.heap_drewN, World.size_alloc] at this); omega))))
      go_ret
      refine ⟨by (repeat first | with_reducible exact Ext.rfl' _ | with_reducible refine Ext.drewN ?_ _ | with_reducible refine Ext.drew' ?_ | with_reducible refine Ext.alloc' ?_ _ | with_reducible refine Ext.setCell_at ?_ _ _ _ (by first | exact Nat.le_refl _ | omega) | with_reducible assumption | refine Ext.trans ?_ (by with_reducible assumption)), ret_bool ?_⟩
      rw [← HB.out]
      simp only [isTh, H2.out, H3.out, Bool.true_and]

/-- A pointer to a thread: its two cells. -/
def TAt (w : World) (g o : Nat) (A : Option Addr) (n cap sp : Nat) : Prop :=
  g < w.heap.size ∧ w.cell? ⟨g, o, none⟩ = some (.slice A n cap) ∧ w.cell? ⟨g, o + 1, none⟩ = some (.float .f32 sp)
theorem TAt.ext {w w' : World} {g o n cap sp : Nat} {A : Option Addr} (h : TAt w g o A n cap sp) (he : Ext w w') : TAt w' g o A n cap sp :=
  ⟨Nat.lt_of_lt_of_le h.1 he.size, (he.cell (p := ⟨g, o, none⟩) h.1).trans h.2.1, (he.cell (p := ⟨g, o + 1, none⟩) h.1).trans h.2.2⟩

theorem l06Is_any (g o : Nat) (A : Option Addr) (cap sp : Nat) (cs : List V3) (w : World) (hT : TAt w g o A cs.length cap sp) (hA : VS w A cs) (hl : cs.length ≤ 1048576) (b : Bool) (hb : isTh cs (cn .f32 sp) = b) :
    Calls Try.prog 108 #[.pointer (some ⟨g, o, none⟩)] w fun e w' => Ext w w' ∧ e = .returned (.bool b) := by
  have HA := Lib.hid hA
  have HL := Lib.hid hl
  have HB := Lib.hid hb
  have HT := Lib.hid hT
  obtain ⟨hg, t0, t1⟩ := hT
  clear hA hl hb
  by_cases h3 : cs.length < 3
  · have d3 : decide ((cs.length : Int) < 3) = true := by simp; omega
    go_enter Try.func108, Try.ntmps108
    go_wp2_with fail
    go_ret
    refine ⟨by (repeat first | with_reducible exact Ext.rfl' _ | with_reducible refine Ext.drewN ?_ _ | with_reducible refine Ext.drew' ?_ | with_reducible refine Ext.alloc' ?_ _ | with_reducible refine Ext.setCell_at ?_ _ _ _ (by first | exact Nat.le_refl _ | omega) | with_reducible assumption | refine Ext.trans ?_ (by with_reducible assumption)), ret_bool ?_⟩
    rw [← HB.out]
    have : decide (3 ≤ cs.length) = false := by simp; omega
    simp [isTh, this]
  · have d3 : decide ((cs.length : Int) < 3) = false := by simp; omega
    by_cases h32 : 32 < cs.length
    · have d32 : decide ((32 : Int) < (cs.length : Int)) = true := by simp; omega
      go_enter Try.func108, Try.ntmps108
      go_wp2_with fail
      go_ret
      refine ⟨by (repeat first | with_reducible exact Ext.rfl' _ | with_reducible refine Ext.drewN ?_ _ | with_reducible refine Ext.drew' ?_ | with_reducible refine Ext.alloc' ?_ _ | with_reducible refine Ext.setCell_at ?_ _ _ _ (by first | exact Nat.le_refl _ | omega) | with_reducible assumption | refine Ext.trans ?_ (by with_reducible assumption)), ret_bool ?_⟩
      rw [← HB.out]
      have : decide (cs.length ≤ 32) = false := by simp; omega
      simp [isTh, this]
    · have d32 : decide ((32 : Int) < (cs.length : Int)) = false := by simp; omega
      have h2 : (decide (3 ≤ cs.length) && decide (cs.length ≤ 32)) = true := by simp; omega
      have H2 := Lib.hid h2
      clear h2
      cases hs : finF (cn .f32 sp) with
      | false =>
        go_enter Try.func108, Try.ntmps108
        go_wp2_with (go_at_call 101; refine (l01Finite_any _ _ (by first | with_reducible assumption | rfl) _).mono ?_; rintro e w1 ⟨he1, rfl⟩; obtain ⟨hc1, hf1⟩ := bcell he1; (try simp only [World.heap_drewN, World.cell?_drewN, World.frozen?_drewN] at hc1 hf1))
        go_ret
        refine ⟨by (repeat first | with_reducible exact Ext.rfl' _ | with_reducible refine Ext.drewN ?_ _ | with_reducible refine Ext.drew' ?_ | with_reducible refine Ext.alloc' ?_ _ | with_reducible refine Ext.setCell_at ?_ _ _ _ (by first | exact Nat.le_refl _ | omega) | with_reducible assumption | refine Ext.trans ?_ (by with_reducible assumption)), ret_bool ?_⟩
        rw [← HB.out]
        simp [isTh, hs]
      | true =>
        have HS := Lib.hid hs
        clear hs
        go_enter Try.func108, Try.ntmps108
        go_wp2_with (go_at_call 101; refine (l01Finite_any _ _ HS.out _).mono ?_; rintro e w1 ⟨he1, rfl⟩; obtain ⟨hc1, hf1⟩ := bcell he1; (try simp only [World.heap_drewN, World.cell?_drewN, World.frozen?_drewN] at hc1 hf1))
        have HE1 := Lib.hid he1
        clear he1 hc1 hf1
        go_loopw [3] (fun i wr => ∃ (k : Nat), k ≤ cs.length ∧ i = .int .i64 k ∧ (cs.take k).all vfin = true ∧ Below w.heap.size w wr) (fun i _ => cs.length - (intOf i).toNat)
        case atStart => exact ⟨0, Nat.zero_le _, rfl, by simp, HE1.out⟩
        case round =>
          obtain ⟨k, hk, rfl, hno, hbel⟩ := hrel
          have HE := Lib.hid hbel
          have HN := Lib.hid hno
          clear hbel hno
          have hk9 : k < 9223372036854775807 := by have := HL.out; omega
          obtain ⟨_, s0, s1⟩ := HT.out.ext HE.out
          by_cases hlt : k < cs.length
          · obtain ⟨b', o', rfl, hbw, hcc⟩ := HA.out (by omega)
            obtain ⟨x, y, z, c0, c1, c2, hcv⟩ := hcc k hlt
            have d0 := (HE.out.cell (p := ⟨b', o' + k * 3, none⟩) hbw).trans c0
            have d1 := (HE.out.cell (p := ⟨b', o' + k * 3 + 1, none⟩) hbw).trans c1
            have d2 := (HE.out.cell (p := ⟨b', o' + k * 3 + 2, none⟩) hbw).trans c2
            have HC := Lib.hid hcv
            have HTk := Lib.hid (all_take_succ vfin cs (0, 0, 0) k hlt)
            clear c0 c1 c2 hcc hcv t0 t1
            go_wp2_with fail
            cases hpv : vfin (cs.getD k (0, 0, 0)) with
            | true =>
              refine (l01VFinite_any _ _ _ true (by rw [HC.out]; exact hpv) _).mono ?_
              rintro e w1 ⟨he, rfl⟩
              have HF := Lib.hid (HE.out.trans (he.mono HE.out.size))
              have HQ := Lib.hid hpv
              clear he hpv d0 d1 d2 s0 s1
              go_wp2_with fail
              exact ⟨⟨k + 1, by omega, by go_num, by rw [HTk.out, HN.out, HQ.out]; rfl, HF.out⟩, by simp [intOf]; omega⟩
            | false =>
              refine (l01VFinite_any _ _ _ false (by rw [HC.out]; exact hpv) _).mono ?_
              rintro e w1 ⟨he, rfl⟩
              have HF := Lib.hid (HE.out.trans (he.mono HE.out.size))
              have HQ := Lib.hid hpv
              clear he hpv d0 d1 d2 s0 s1
              go_wp2_with fail
              go_ret
              refine ⟨HF.out, ret_bool ?_⟩
              rw [← HB.out]
              have hall : cs.all vfin = false := List.all_eq_false.2 ⟨cs.getD k (0, 0, 0), by rw [List.getD_eq_getElem?_getD, List.getElem?_eq_getElem hlt]; simp, by rw [HQ.out]; decide⟩
              simp [isTh, hall]
          · go_wp2_with fail
            have hkl : k = cs.length := by omega
            go_ret
            refine ⟨HE.out, ret_bool ?_⟩
            have hall := HN.out
            rw [hkl, List.take_length] at hall
            rw [← HB.out]
            simp only [isTh, H2.out, HS.out, hall, Bool.true_and]
end Go.Proofs.Ytbaohbpfnlicpaa
