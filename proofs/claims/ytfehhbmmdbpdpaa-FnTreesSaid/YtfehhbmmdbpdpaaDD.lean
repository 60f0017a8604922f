/- Walks: the middle of whirls. -/
import Derived.Test.YtfehhbmmdbpdpaaDC
import Derived.Deep.QuietTactic
namespace Go.Proofs.Ytfehhbmmdbpdpaa
open Go Go.RowKit
set_option linter.unusedVariables false
set_option linter.unusedSimpArgs false
attribute [local go_sem] run_store_float run_store_complex

def lowF (sel : Wh → Int) (us : List Wh) (a : Int) : Int := us.foldl (fun a u => if sel u < a then sel u else a) a
def highF (sel : Wh → Int) (us : List Wh) (a : Int) : Int := us.foldl (fun a u => if a < sel u then sel u else a) a
theorem lowF_take (sel : Wh → Int) (us : List Wh) (a : Int) (k : Nat) (u : Wh) (h : us[k]? = some u) : lowF sel (us.take (k + 1)) a = if sel u < lowF sel (us.take k) a then sel u else lowF sel (us.take k) a := by
  obtain ⟨hk, hu⟩ := List.getElem?_eq_some_iff.1 h
  unfold lowF
  rw [List.take_succ_eq_append_getElem hk, List.foldl_append, hu]
  rfl
theorem highF_take (sel : Wh → Int) (us : List Wh) (a : Int) (k : Nat) (u : Wh) (h : us[k]? = some u) : highF sel (us.take (k + 1)) a = if highF sel (us.take k) a < sel u then sel u else highF sel (us.take k) a := by
  obtain ⟨hk, hu⟩ := List.getElem?_eq_some_iff.1 h
  unfold highF
  rw [List.take_succ_eq_append_getElem hk, List.foldl_append, hu]
  rfl
theorem lowF_facts (sel : Wh → Int) : ∀ (us : List Wh) (a : Int), lowF sel us a ≤ a ∧ (∀ u ∈ us, lowF sel us a ≤ sel u) ∧ (lowF sel us a = a ∨ ∃ u ∈ us, lowF sel us a = sel u)
  | [], a => ⟨Int.le_refl _, (fun u h => by cases h), .inl rfl⟩
  | v :: us, a => by
    obtain ⟨h1, h2, h3⟩ := lowF_facts sel us (if sel v < a then sel v else a)
    have e : lowF sel (v :: us) a = lowF sel us (if sel v < a then sel v else a) := rfl
    rw [e]
    refine ⟨by by_cases hv : sel v < a; (· rw [if_pos hv] at h1 ⊢; omega); (· rw [if_neg hv] at h1 ⊢; omega), fun u hu => ?_, ?_⟩
    · rcases List.mem_cons.1 hu with rfl | hu
      · by_cases hv : sel u < a
        · rw [if_pos hv] at h1 ⊢; omega
        · rw [if_neg hv] at h1 ⊢; omega
      · exact h2 u hu
    · rcases h3 with h3 | ⟨u, hu, h3⟩
      · rw [h3]
        split
        · exact .inr ⟨v, List.mem_cons_self .., rfl⟩
        · exact .inl rfl
      · exact .inr ⟨u, List.mem_cons_of_mem _ hu, h3⟩
theorem highF_facts (sel : Wh → Int) : ∀ (us : List Wh) (a : Int), a ≤ highF sel us a ∧ (∀ u ∈ us, sel u ≤ highF sel us a) ∧ (highF sel us a = a ∨ ∃ u ∈ us, highF sel us a = sel u)
  | [], a => ⟨Int.le_refl _, (fun u h => by cases h), .inl rfl⟩
  | v :: us, a => by
    obtain ⟨h1, h2, h3⟩ := highF_facts sel us (if a < sel v then sel v else a)
    have e : highF sel (v :: us) a = highF sel us (if a < sel v then sel v else a) := rfl
    rw [e]
    refine ⟨by by_cases hv : a < sel v; (· rw [if_pos hv] at h1 ⊢; omega); (· rw [if_neg hv] at h1 ⊢; omega), fun u hu => ?_, ?_⟩
    · rcases List.mem_cons.1 hu with rfl | hu
      · by_cases hv : a < sel u
        · rw [if_pos hv] at h1 ⊢; omega
        · rw [if_neg hv] at h1 ⊢; omega
      · exact h2 u hu
    · rcases h3 with h3 | ⟨u, hu, h3⟩
      · rw [h3]
        split
        · exact .inr ⟨v, List.mem_cons_self .., rfl⟩
        · exact .inl rfl
      · exact .inr ⟨u, List.mem_cons_of_mem _ hu, h3⟩
/-- numbers of quarters -/
def Qs (sel : Wh → Int) (us : List Wh) : Prop := ∀ u ∈ us, ∃ x : Int, sel u = 256 * x ∧ -16 ≤ x ∧ x ≤ 16
theorem lowF_q {sel : Wh → Int} {us : List Wh} (h : Qs sel us) {a : Int} (ha : ∃ x : Int, a = 256 * x ∧ -16 ≤ x ∧ x ≤ 16) : ∃ x : Int, lowF sel us a = 256 * x ∧ -16 ≤ x ∧ x ≤ 16 := by
  rcases (lowF_facts sel us a).2.2 with e | ⟨u, hu, e⟩
  · rw [e]; exact ha
  · rw [e]; exact h u hu
theorem highF_q {sel : Wh → Int} {us : List Wh} (h : Qs sel us) {a : Int} (ha : ∃ x : Int, a = 256 * x ∧ -16 ≤ x ∧ x ≤ 16) : ∃ x : Int, highF sel us a = 256 * x ∧ -16 ≤ x ∧ x ≤ 16 := by
  rcases (highF_facts sel us a).2.2 with e | ⟨u, hu, e⟩
  · rw [e]; exact ha
  · rw [e]; exact h u hu
theorem Qs.take {sel : Wh → Int} {us : List Wh} (h : Qs sel us) (k : Nat) : Qs sel (us.take k) := fun u hu => h u (List.mem_of_mem_take hu)
theorem Qs.x {us : List Wh} (h : ∀ u ∈ us, OkW u) : Qs (fun u => u.1) us := fun u hu => by
  obtain ⟨x, y, s, rfl, h1, h2, -⟩ := h u hu
  exact ⟨x, rfl, h1, h2⟩
theorem Qs.y {us : List Wh} (h : ∀ u ∈ us, OkW u) : Qs (fun u => u.2.1) us := fun u hu => by
  obtain ⟨x, y, s, rfl, -, -, h1, h2, -⟩ := h u hu
  exact ⟨y, rfl, h1, h2⟩
theorem tree1_any (a b : Nat) (w : World) : Calls Try.prog 84 #[.complex .f32 a b] w fun e w' => w' = w ∧ e = .returned (.float .f32 a) := by
  go_enter Try.func84, Try.ntmps84
  go_wp2_with fail
  go_ret
  exact ⟨rfl, rfl⟩
theorem tree2_any (a b : Nat) (w : World) : Calls Try.prog 85 #[.complex .f32 a b] w fun e w' => w' = w ∧ e = .returned (.float .f32 b) := by
  go_enter Try.func85, Try.ntmps85
  go_wp2_with fail
  go_ret
  exact ⟨rfl, rfl⟩

set_option maxRecDepth 100000 in
set_option maxHeartbeats 800000 in
theorem middleOf1_any (A : Option Addr) (cap n : Nat) (us : List Wh) (u0 : Wh) (w : World) (hA : Lies w 51 A (whVals us)) (hn : us.length = n) (h0 : us[0]? = some u0) (hl : n ≤ 12) (hok : ∀ u ∈ us, OkW u) :
    Calls Try.prog 83 #[.slice A n cap, .func (.func 84) #[] #[]] w fun e w' => Ext w w' ∧ e = .returned (.tuple #[.float .f32 (F ((lowF (fun u => u.1) us u0.1 + highF (fun u => u.1) us u0.1) / 2)), .float .f32 (F (highF (fun u => u.1) us u0.1 - lowF (fun u => u.1) us u0.1))]) := by
  have HQ := Lib.hid (Qs.x hok)
  have hq0 := (Qs.x hok) u0 (List.mem_of_getElem? h0)
  have HQ0 := Lib.hid hq0
  have HA := Lib.hid hA
  have HL := Lib.hid hl
  have HNN := Lib.hid hn
  have h0n : 0 < n := by
    obtain ⟨h, -⟩ := List.getElem?_eq_some_iff.1 h0
    omega
  obtain ⟨b, o, rfl, hbw, hcc⟩ := HA.out.cell (by rw [whVals_len]; omega)
  obtain ⟨v1, v2⟩ := whVals_at us 0 u0 h0
  have d0 : w.cell? ⟨b, o, none⟩ = some (.complex .f32 (F u0.1) (F u0.2.1)) := hcc _ _ v1
  have HCC := Lib.hid hcc
  clear hA hl hok hq0 v1 v2 hcc hn
  go_enter Try.func83, Try.ntmps83
  go_wp2_with fail
  go_quiet ((go_at_call 84; exact Calls.quiet_of_same ((tree1_any _ _ _).mono fun e w' h => ⟨h.2, h.1⟩)))
  go_wp2_with fail
  have HE0 := Lib.hid (show Ext w (w.drewN nq) from (Ext.rfl' w).drewN nq)
  generalize w.drewN nq = W0 at *
  go_loopw [6, 7, 25] (fun lo hi i wr => ∃ k : Nat, k ≤ n ∧ i = .int .i64 k ∧ lo = .float .f32 (F (lowF (fun u => u.1) (us.take k) u0.1)) ∧ hi = .float .f32 (F (highF (fun u => u.1) (us.take k) u0.1)) ∧ Ext w wr) (fun _ _ i _ => n - (intOf i).toNat)
  case atStart => exact ⟨0, Nat.zero_le _, rfl, rfl, rfl, HE0.out⟩
  case round =>
    obtain ⟨k, hk, rfl, rfl, rfl, hbel⟩ := hrel
    have HE := Lib.hid hbel
    clear hbel d0
    have hk9 : k < 9223372036854775807 := by have := HL.out; omega
    by_cases hlt : k < n
    · obtain ⟨v, hv⟩ : ∃ v, us[k]? = some v := ⟨us[k]'(by have := HNN.out; omega), List.getElem?_eq_getElem _⟩
      obtain ⟨v1, v2⟩ := whVals_at us k v hv
      have d0 := (HE.out.cell (p := ⟨b, o + k * 2, none⟩) hbw).trans (HCC.out _ _ v1)
      have d1 := (HE.out.cell (p := ⟨b, o + k * 2 + 1, none⟩) hbw).trans (HCC.out _ _ v2)
      have hqv := HQ.out v (List.mem_of_getElem? hv)
      have hql := lowF_q (HQ.out.take k) HQ0.out
      have hqh := highF_q (HQ.out.take k) HQ0.out
      have c1 := F_cmp .f32 .lss (v.1) (lowF (fun u => u.1) (us.take k) u0.1) (by obtain ⟨x, e, e1, e2⟩ := hqv; dsimp only at e; omega) (by obtain ⟨x, e, e1, e2⟩ := hql; omega)
      have c2 := F_cmp .f32 .gtr (v.1) (highF (fun u => u.1) (us.take k) u0.1) (by obtain ⟨x, e, e1, e2⟩ := hqv; dsimp only at e; omega) (by obtain ⟨x, e, e1, e2⟩ := hqh; omega)
      dsimp only at c1 c2
      have t1 := lowF_take (fun u => u.1) us u0.1 k v hv
      have t2 := highF_take (fun u => u.1) us u0.1 k v hv
      generalize lowF (fun u => u.1) (us.take k) u0.1 = lo at *
      generalize highF (fun u => u.1) (us.take k) u0.1 = hi at *
      obtain ⟨b1, hb1⟩ : ∃ b, decide (v.1 < lo) = b := ⟨_, rfl⟩
      obtain ⟨b2, hb2⟩ : ∃ b, decide (hi < v.1) = b := ⟨_, rfl⟩
      rw [hb1] at c1
      rw [show (decide (v.1 > hi)) = b2 from hb2] at c2
      have T1 := Lib.hid (t1.trans (show _ = bif b1 then v.1 else lo by rw [← hb1]; by_cases h : v.1 < lo <;> simp [h]))
      have T2 := Lib.hid (t2.trans (show _ = bif b2 then v.1 else hi by rw [← hb2]; by_cases h : hi < v.1 <;> simp [h]))
      clear hqv hql hqh t1 t2 hb1 hb2 v1 v2 hv
      go_wp2_with fail
      refine (tree1_any _ _ _).mono ?_
      rintro e w1 ⟨rfl, rfl⟩
      cases b1 <;> cases b2
      all_goals
        go_wp2_with (first
          | (refine wpList_fcmpD rfl .lss _ _ _ _ rfl rfl _ _ _ rfl rfl _ c1 ?_)
          | (refine wpList_fcmpD rfl .gtr _ _ _ _ rfl rfl _ _ _ rfl rfl _ c2 ?_))
        exact ⟨⟨k + 1, by omega, by go_num, by rw [T1.out]; rfl, by rw [T2.out]; rfl, Ext.trans HE.out (by (repeat first | with_reducible exact Ext.rfl' _ | with_reducible refine Ext.drewN ?_ _ | with_reducible refine Ext.drew' ?_ | with_reducible refine Ext.alloc' ?_ _ | with_reducible refine Ext.setCell_at ?_ _ _ _ (by first | exact Nat.le_refl _ | omega) | with_reducible assumption | refine Ext.trans ?_ (by with_reducible assumption)))⟩, by simp [intOf]; omega⟩
    · have hkn : k = n := by omega
      have hkt : us.take k = us := by rw [hkn, ← HNN.out, List.take_length]
      rw [hkt]
      obtain ⟨x1, e1, l1, l2⟩ := lowF_q HQ.out HQ0.out
      obtain ⟨x2, e2, l3, l4⟩ := highF_q HQ.out HQ0.out
      rw [e1, e2]
      have E1 := Lib.hid e1
      have E2 := Lib.hid e2
      clear e1 e2
      have s1 := F_add .f32 (256 * x1) (256 * x2) (by omega) (by omega) (by omega)
      have s2 := F_sub .f32 (256 * x2) (256 * x1) (by omega) (by omega) (by omega)
      have e3 : 256 * x1 + 256 * x2 = 256 * (x1 + x2) := by omega
      rw [e3] at s1
      have s3 := F_mid (s := x1 + x2) (by omega) (by omega)
      have s4 : floatBits .add .f32 (F (128 * (x1 + x2))) 0 = some (F (128 * (x1 + x2))) := by
        have := F_add .f32 (128 * (x1 + x2)) 0 (by omega) (by decide) (by omega)
        rw [F_zero, Int.add_zero] at this
        exact this
      have s5 : (256 * x1 + 256 * x2) / 2 = 128 * (x1 + x2) := by omega
      have S5 := Lib.hid s5
      clear l1 l2 l3 l4 e3 s5
      go_wp2_with (first
        | (refine wpList_floatD rfl _ _ _ _ _ rfl (by decide) _ _ _ rfl rfl _ s1 ?_)
        | (refine wpList_floatD rfl _ _ _ _ _ rfl (by decide) _ _ _ rfl rfl _ s3 ?_)
        | (refine wpList_floatD rfl _ _ _ _ _ rfl (by decide) _ _ _ rfl rfl _ s4 ?_)
        | (refine wpList_floatD rfl _ _ _ _ _ rfl (by decide) _ _ _ rfl rfl _ s2 ?_))
      go_ret2
      exact ⟨HE.out, by first | (rw [E1.out, E2.out, S5.out]; rfl) | (rw [S5.out]; rfl)⟩

set_option maxRecDepth 100000 in
set_option maxHeartbeats 800000 in
theorem middleOf2_any (A : Option Addr) (cap n : Nat) (us : List Wh) (u0 : Wh) (w : World) (hA : Lies w 51 A (whVals us)) (hn : us.length = n) (h0 : us[0]? = some u0) (hl : n ≤ 12) (hok : ∀ u ∈ us, OkW u) :
    Calls Try.prog 83 #[.slice A n cap, .func (.func 85) #[] #[]] w fun e w' => Ext w w' ∧ e = .returned (.tuple #[.float .f32 (F ((lowF (fun u => u.2.1) us u0.2.1 + highF (fun u => u.2.1) us u0.2.1) / 2)), .float .f32 (F (highF (fun u => u.2.1) us u0.2.1 - lowF (fun u => u.2.1) us u0.2.1))]) := by
  have HQ := Lib.hid (Qs.y hok)
  have hq0 := (Qs.y hok) u0 (List.mem_of_getElem? h0)
  have HQ0 := Lib.hid hq0
  have HA := Lib.hid hA
  have HL := Lib.hid hl
  have HNN := Lib.hid hn
  have h0n : 0 < n := by
    obtain ⟨h, -⟩ := List.getElem?_eq_some_iff.1 h0
    omega
  obtain ⟨b, o, rfl, hbw, hcc⟩ := HA.out.cell (by rw [whVals_len]; omega)
  obtain ⟨v1, v2⟩ := whVals_at us 0 u0 h0
  have d0 : w.cell? ⟨b, o, none⟩ = some (.complex .f32 (F u0.1) (F u0.2.1)) := hcc _ _ v1
  have HCC := Lib.hid hcc
  clear hA hl hok hq0 v1 v2 hcc hn
  go_enter Try.func83, Try.ntmps83
  go_wp2_with fail
  go_quiet ((go_at_call 85; exact Calls.quiet_of_same ((tree2_any _ _ _).mono fun e w' h => ⟨h.2, h.1⟩)))
  go_wp2_with fail
  have HE0 := Lib.hid (show Ext w (w.drewN nq) from (Ext.rfl' w).drewN nq)
  generalize w.drewN nq = W0 at *
  go_loopw [6, 7, 25] (fun lo hi i wr => ∃ k : Nat, k ≤ n ∧ i = .int .i64 k ∧ lo = .float .f32 (F (lowF (fun u => u.2.1) (us.take k) u0.2.1)) ∧ hi = .float .f32 (F (highF (fun u => u.2.1) (us.take k) u0.2.1)) ∧ Ext w wr) (fun _ _ i _ => n - (intOf i).toNat)
  case atStart => exact ⟨0, Nat.zero_le _, rfl, rfl, rfl, HE0.out⟩
  case round =>
    obtain ⟨k, hk, rfl, rfl, rfl, hbel⟩ := hrel
    have HE := Lib.hid hbel
    clear hbel d0
    have hk9 : k < 9223372036854775807 := by have := HL.out; omega
    by_cases hlt : k < n
    · obtain ⟨v, hv⟩ : ∃ v, us[k]? = some v := ⟨us[k]'(by have := HNN.out; omega), List.getElem?_eq_getElem _⟩
      obtain ⟨v1, v2⟩ := whVals_at us k v hv
      have d0 := (HE.out.cell (p := ⟨b, o + k * 2, none⟩) hbw).trans (HCC.out _ _ v1)
      have d1 := (HE.out.cell (p := ⟨b, o + k * 2 + 1, none⟩) hbw).trans (HCC.out _ _ v2)
      have hqv := HQ.out v (List.mem_of_getElem? hv)
      have hql := lowF_q (HQ.out.take k) HQ0.out
      have hqh := highF_q (HQ.out.take k) HQ0.out
      have c1 := F_cmp .f32 .lss (v.2.1) (lowF (fun u => u.2.1) (us.take k) u0.2.1) (by obtain ⟨x, e, e1, e2⟩ := hqv; dsimp only at e; omega) (by obtain ⟨x, e, e1, e2⟩ := hql; omega)
      have c2 := F_cmp .f32 .gtr (v.2.1) (highF (fun u => u.2.1) (us.take k) u0.2.1) (by obtain ⟨x, e, e1, e2⟩ := hqv; dsimp only at e; omega) (by obtain ⟨x, e, e1, e2⟩ := hqh; omega)
      dsimp only at c1 c2
      have t1 := lowF_take (fun u => u.2.1) us u0.2.1 k v hv
      have t2 := highF_take (fun u => u.2.1) us u0.2.1 k v hv
      generalize lowF (fun u => u.2.1) (us.take k) u0.2.1 = lo at *
      generalize highF (fun u => u.2.1) (us.take k) u0.2.1 = hi at *
      obtain ⟨b1, hb1⟩ : ∃ b, decide (v.2.1 < lo) = b := ⟨_, rfl⟩
      obtain ⟨b2, hb2⟩ : ∃ b, decide (hi < v.2.1) = b := ⟨_, rfl⟩
      rw [hb1] at c1
      rw [show (decide (v.2.1 > hi)) = b2 from hb2] at c2
      have T1 := Lib.hid (t1.trans (show _ = bif b1 then v.2.1 else lo by rw [← hb1]; by_cases h : v.2.1 < lo <;> simp [h]))
      have T2 := Lib.hid (t2.trans (show _ = bif b2 then v.2.1 else hi by rw [← hb2]; by_cases h : hi < v.2.1 <;> simp [h]))
      clear hqv hql hqh t1 t2 hb1 hb2 v1 v2 hv
      go_wp2_with fail
      refine (tree2_any _ _ _).mono ?_
      rintro e w1 ⟨rfl, rfl⟩
      cases b1 <;> cases b2
      all_goals
        go_wp2_with (first
          | (refine wpList_fcmpD rfl .lss _ _ _ _ rfl rfl _ _ _ rfl rfl _ c1 ?_)
          | (refine wpList_fcmpD rfl .gtr _ _ _ _ rfl rfl _ _ _ rfl rfl _ c2 ?_))
        exact ⟨⟨k + 1, by omega, by go_num, by rw [T1.out]; rfl, by rw [T2.out]; rfl, Ext.trans HE.out (by (repeat first | with_reducible exact Ext.rfl' _ | with_reducible refine Ext.drewN ?_ _ | with_reducible refine Ext.drew' ?_ | with_reducible refine Ext.alloc' ?_ _ | with_reducible refine Ext.setCell_at ?_ _ _ _ (by first | exact Nat.le_refl _ | omega) | with_reducible assumption | refine Ext.trans ?_ (by with_reducible assumption)))⟩, by simp [intOf]; omega⟩
    · have hkn : k = n := by omega
      have hkt : us.take k = us := by rw [hkn, ← HNN.out, List.take_length]
      rw [hkt]
      obtain ⟨x1, e1, l1, l2⟩ := lowF_q HQ.out HQ0.out
      obtain ⟨x2, e2, l3, l4⟩ := highF_q HQ.out HQ0.out
      rw [e1, e2]
      have E1 := Lib.hid e1
      have E2 := Lib.hid e2
      clear e1 e2
      have s1 := F_add .f32 (256 * x1) (256 * x2) (by omega) (by omega) (by omega)
      have s2 := F_sub .f32 (256 * x2) (256 * x1) (by omega) (by omega) (by omega)
      have e3 : 256 * x1 + 256 * x2 = 256 * (x1 + x2) := by omega
      rw [e3] at s1
      have s3 := F_mid (s := x1 + x2) (by omega) (by omega)
      have s4 : floatBits .add .f32 (F (128 * (x1 + x2))) 0 = some (F (128 * (x1 + x2))) := by
        have := F_add .f32 (128 * (x1 + x2)) 0 (by omega) (by decide) (by omega)
        rw [F_zero, Int.add_zero] at this
        exact this
      have s5 : (256 * x1 + 256 * x2) / 2 = 128 * (x1 + x2) := by omega
      have S5 := Lib.hid s5
      clear l1 l2 l3 l4 e3 s5
      go_wp2_with (first
        | (refine wpList_floatD rfl _ _ _ _ _ rfl (by decide) _ _ _ rfl rfl _ s1 ?_)
        | (refine wpList_floatD rfl _ _ _ _ _ rfl (by decide) _ _ _ rfl rfl _ s3 ?_)
        | (refine wpList_floatD rfl _ _ _ _ _ rfl (by decide) _ _ _ rfl rfl _ s4 ?_)
        | (refine wpList_floatD rfl _ _ _ _ _ rfl (by decide) _ _ _ rfl rfl _ s2 ?_))
      go_ret2
      exact ⟨HE.out, by first | (rw [E1.out, E2.out, S5.out]; rfl) | (rw [S5.out]; rfl)⟩
end Go.Proofs.Ytfehhbmmdbpdpaa
