/- Walks: the middle of whirls. -/
import Derived.Test.YtfehhbmmdbpdpaaG06
import Derived.Deep.QuietTactic
import Derived.Laws.Externs
import Derived.Laws.FloatBits
namespace Go.Proofs.Ytfehhbmmdbpdpaa
open Go Go.RowKit
set_option linter.unusedVariables false
set_option linter.unusedSimpArgs false
attribute [local go_sem] run_store_float run_store_complex

def lowF (sel : Wh → Int) (us : List Wh) (a : Int) : Int := us.foldl (fun a u => if sel u < a then sel u else a) a
def highF (sel : Wh → Int) (us : List Wh) (a : Int) : Int := us.foldl (fun a u => if a < sel u then sel u else a) a
theorem lowF_take (sel : Wh → Int) (us : List Wh) (a : Int) (k : Nat) (u : Wh) (h : us[k]? = some u) : lowF sel (us.take (k + 1)) a = if sel u < lowF sel (us.take k) a then sel u else lowF sel (us.take k) a := by
  obtain ⟨hk, hu⟩ := List.getElem?_eq_some_iff.1 h
  unfold lowF
  rw [List.take_succ_eq_append_getElem hk, List.foldl_append, hu]
  rfl
theorem highF_take (sel : Wh → Int) (us : List Wh) (a : Int) (k : Nat) (u : Wh) (h : us[k]? = some u) : highF sel (us.take (k + 1)) a = if highF sel (us.take k) a < sel u then sel u else highF sel (us.take k) a := by
  obtain ⟨hk, hu⟩ := List.getElem?_eq_some_iff.1 h
  unfold highF
  rw [List.take_succ_eq_append_getElem hk, List.foldl_append, hu]
  rfl
theorem lowF_facts (sel : Wh → Int) : ∀ (us : List Wh) (a : Int), lowF sel us a ≤ a ∧ (∀ u ∈ us, lowF sel us a ≤ sel u) ∧ (lowF sel us a = a ∨ ∃ u ∈ us, lowF sel us a = sel u)
  | [], a => ⟨Int.le_refl _, (fun u h => by cases h), .inl rfl⟩
  | v :: us, a => by
    obtain ⟨h1, h2, h3⟩ := lowF_facts sel us (if sel v < a then sel v else a)
    have e : lowF sel (v :: us) a = lowF sel us (if sel v < a then sel v else a) := rfl
    rw [e]
    refine ⟨by by_cases hv : sel v < a; (· rw [if_pos hv] at h1 ⊢; omega); (· rw [if_neg hv] at h1 ⊢; omega), fun u hu => ?_, ?_⟩
    · rcases List.mem_cons.1 hu with rfl | hu
      · by_cases hv : sel u < a
        · rw [if_pos hv] at h1 ⊢; omega
        · rw [if_neg hv] at h1 ⊢; omega
      · exact h2 u hu
    · rcases h3 with h3 | ⟨u, hu, h3⟩
      · rw [h3]
        split
        · exact .inr ⟨v, List.mem_cons_self .., rfl⟩
        · exact .inl rfl
      · exact .inr ⟨u, List.mem_cons_of_mem _ hu, h3⟩
theorem highF_facts (sel : Wh → Int) : ∀ (us : List Wh) (a : Int), a ≤ highF sel us a ∧ (∀ u ∈ us, sel u ≤ highF sel us a) ∧ (highF sel us a = a ∨ ∃ u ∈ us, highF sel us a = sel u)
  | [], a => ⟨Int.le_refl _, (fun u h => by cases h), .inl rfl⟩
  | v :: us, a => by
    obtain ⟨h1, h2, h3⟩ := highF_facts sel us (if a < sel v then sel v else a)
    have e : highF sel (v :: us) a = highF sel us (if a < sel v then sel v else a) := rfl
    rw [e]
    refine ⟨by by_cases hv : a < sel v; (· rw [if_pos hv] at h1 ⊢; omega); (· rw [if_neg hv] at h1 ⊢; omega), fun u hu => ?_, ?_⟩
    · rcases List.mem_cons.1 hu with rfl | hu
      · by_cases hv : a < sel u
        · rw [if_pos hv] at h1 ⊢; omega
        · rw [if_neg hv] at h1 ⊢; omega
      · exact h2 u hu
    · rcases h3 with h3 | ⟨u, hu, h3⟩
      · rw [h3]
        split
        · exact .inr ⟨v, List.mem_cons_self .., rfl⟩
        · exact .inl rfl
      · exact .inr ⟨u, List.mem_cons_of_mem _ hu, h3⟩
/-- numbers of quarters -/
def Qs (sel : Wh → Int) (us : List Wh) : Prop := ∀ u ∈ us, ∃ x : Int, sel u = 256 * x ∧ -16 ≤ x ∧ x ≤ 16
theorem lowF_q {sel : Wh → Int} {us : List Wh} (h : Qs sel us) {a : Int} (ha : ∃ x : Int, a = 256 * x ∧ -16 ≤ x ∧ x ≤ 16) : ∃ x : Int, lowF sel us a = 256 * x ∧ -16 ≤ x ∧ x ≤ 16 := by
  rcases (lowF_facts sel us a).2.2 with e | ⟨u, hu, e⟩
  · rw [e]; exact ha
  · rw [e]; exact h u hu
theorem highF_q {sel : Wh → Int} {us : List Wh} (h : Qs sel us) {a : Int} (ha : ∃ x : Int, a = 256 * x ∧ -16 ≤ x ∧ x ≤ 16) : ∃ x : Int, highF sel us a = 256 * x ∧ -16 ≤ x ∧ x ≤ 16 := by
  rcases (highF_facts sel us a).2.2 with e | ⟨u, hu, e⟩
  · rw [e]; exact ha
  · rw [e]; exact h u hu
theorem Qs.take {sel : Wh → Int} {us : List Wh} (h : Qs sel us) (k : Nat) : Qs sel (us.take k) := fun u hu => h u (List.mem_of_mem_take hu)
theorem Qs.x {us : List Wh} (h : ∀ u ∈ us, OkW u) : Qs (fun u => u.1) us := fun u hu => by
  obtain ⟨x, y, s, rfl, h1, h2, -⟩ := h u hu
  exact ⟨x, rfl, h1, h2⟩
theorem Qs.y {us : List Wh} (h : ∀ u ∈ us, OkW u) : Qs (fun u => u.2.1) us := fun u hu => by
  obtain ⟨x, y, s, rfl, -, -, h1, h2, -⟩ := h u hu
  exact ⟨y, rfl, h1, h2⟩
theorem tree1_any (a b : Nat) (w : World) : Calls Try.prog 84 #[.complex .f32 a b] w fun e w' => w' = w ∧ e = .returned (.float .f32 a) := by
  go_enter Try.func84, Try.ntmps84
  go_wp2_with fail
  go_ret
  exact ⟨rfl, rfl⟩
theorem tree2_any (a b : Nat) (w : World) : Calls Try.prog 85 #[.complex .f32 a b] w fun e w' => w' = w ∧ e = .returned (.float .f32 b) := by
  go_enter Try.func85, Try.ntmps85
  go_wp2_with fail
  go_ret
  exact ⟨rfl, rfl⟩

set_option maxRecDepth 100000 in
set_option maxHeartbeats 800000 in
theorem middleOf1_any (A : Option Addr) (cap n : Nat) (us : List Wh) (u0 : Wh) (w : World) (hA : Lies w 51 A (whVals us)) (hn : us.length = n) (h0 : us[0]? = some u0) (hl : n ≤ 12) (hok : ∀ u ∈ us, OkW u) :
    Calls Try.prog 83 #[.slice A n cap, .func (.func 84) #[] #[]] w fun e w' => Ext w w' ∧ e = .returned (.tuple #[.float .f32 (F ((lowF (fun u => u.1) us u0.1 + highF (fun u => u.1) us u0.1) / 2)), .float .f32 (F (highF (fun u => u.1) us u0.1 - lowF (fun u => u.1) us u0.1))]) := by
  have HQ := Lib.hid (Qs.x hok)
  have hq0 := (Qs.x hok) u0 (List.mem_of_getElem? h0)
  have HQ0 := Lib.hid hq0
  have HA := Lib.hid hA
  have HL := Lib.hid hl
  have HNN := Lib.hid hn
  have h0n : 0 < n := by
    obtain ⟨h, -⟩ := List.getElem?_eq_some_iff.1 h0
    omega
  obtain ⟨b, o, rfl, hbw, hcc⟩ := HA.out.cell (by rw [whVals_len]; omega)
  obtain ⟨v1, v2⟩ := whVals_at us 0 u0 h0
  have d0 : w.cell? ⟨b, o, none⟩ = some (.complex .f32 (F u0.1) (F u0.2.1)) := hcc _ _ v1
  have HCC := Lib.hid hcc
  clear hA hl hok hq0 v1 v2 hcc hn
  go_enter Try.func83, Try.ntmps83
  go_wp2_with fail
  go_quiet ((go_at_call 84; exact Calls.quiet_of_same ((tree1_any _ _ _).mono fun e w' h => ⟨h.2, h.1⟩)))
  go_wp2_with fail
  have HE0 := Lib.hid (show Ext w (w.drewN nq) from (Ext.rfl' w).drewN nq)
  generalize w.drewN nq = W0 at *
  go_loopw [6, 7, 25] (fun lo hi i wr => ∃ k : Nat, k ≤ n ∧ i = .int .i64 k ∧ lo = .float .f32 (F (lowF (fun u => u.1) (us.take k) u0.1)) ∧ hi = .float .f32 (F (highF (fun u => u.1) (us.take k) u0.1)) ∧ Ext w wr) (fun _ _ i _ => n - (intOf i).toNat)
  case atStart => exact ⟨0, Nat.zero_le _, rfl, rfl, rfl, HE0.out⟩
  case round =>
    obtain ⟨k, hk, rfl, rfl, rfl, hbel⟩ := hrel
    have HE := Lib.hid hbel
    clear hbel d0
    have hk9 : k < 9223372036854775807 := by have := HL.out; omega
    by_cases hlt : k < n
    · obtain ⟨v, hv⟩ : ∃ v, us[k]? = some v := ⟨us[k]'(by have := HNN.out; omega), List.getElem?_eq_getElem _⟩
      obtain ⟨v1, v2⟩ := whVals_at us k v hv
      have d0 := (HE.out.cell (p := ⟨b, o + k * 2, none⟩) hbw).trans (HCC.out _ _ v1)
      have d1 := (HE.out.cell (p := ⟨b, o + k * 2 + 1, none⟩) hbw).trans (HCC.out _ _ v2)
      have hqv := HQ.out v (List.mem_of_getElem? hv)
      have hql := lowF_q (HQ.out.take k) HQ0.out
      have hqh := highF_q (HQ.out.take k) HQ0.out
      have c1 := F_cmp .f32 .lss (v.1) (lowF (fun u => u.1) (us.take k) u0.1) (by obtain ⟨x, e, e1, e2⟩ := hqv; dsimp only at e; omega) (by obtain ⟨x, e, e1, e2⟩ := hql; omega)
      have c2 := F_cmp .f32 .gtr (v.1) (highF (fun u => u.1) (us.take k) u0.1) (by obtain ⟨x, e, e1, e2⟩ := hqv; dsimp only at e; omega) (by obtain ⟨x, e, e1, e2⟩ := hqh; omega)
      dsimp only at c1 c2
      have t1 := lowF_take (fun u => u.1) us u0.1 k v hv
      have t2 := highF_take (fun u => u.1) us u0.1 k v hv
      generalize lowF (fun u => u.1) (us.take k) u0.1 = lo at *
      generalize highF (fun u => u.1) (us.take k) u0.1 = hi at *
      obtain ⟨b1, hb1⟩ : ∃ b, decide (v.1 < lo) = b := ⟨_, rfl⟩
      obtain ⟨b2, hb2⟩ : ∃ b, decide (hi < v.1) = b := ⟨_, rfl⟩
      rw [hb1] at c1
      rw [show (decide (v.1 > hi)) = b2 from hb2] at c2
      have T1 := Lib.hid (t1.trans (show _ = bif b1 then v.1 else lo by rw [← hb1]; by_cases h : v.1 < lo <;> simp [h]))
      have T2 := Lib.hid (t2.trans (show _ = bif b2 then v.1 else hi by rw [← hb2]; by_cases h : hi < v.1 <;> simp [h]))
      clear hqv hql hqh t1 t2 hb1 hb2 v1 v2 hv
      go_wp2_with fail
      refine (tree1_any _ _ _).mono ?_
      rintro e w1 ⟨rfl, rfl⟩
      cases b1 <;> cases b2
      all_goals
        go_wp2_with (first
          | (refine wpList_fcmpD rfl .lss _ _ _ _ rfl rfl _ _ _ rfl rfl _ c1 ?_)
          | (refine wpList_fcmpD rfl .gtr _ _ _ _ rfl rfl _ _ _ rfl rfl _ c2 ?_))
        exact ⟨⟨k + 1, by omega, by go_num, by rw [T1.out]; rfl, by rw [T2.out]; rfl, Ext.trans HE.out (by (repeat first | with_reducible exact Ext.rfl' _ | with_reducible refine Ext.drewN ?_ _ | with_reducible refine Ext.drew' ?_ | with_reducible refine Ext.alloc' ?_ _ | with_reducible refine Ext.setCell_at ?_ _ _ _ (by first | exact Nat.le_refl _ | omega) | with_reducible assumption | refine Ext.trans ?_ (by with_reducible assumption)))⟩, by simp [intOf]; omega⟩
    · have hkn : k = n := by omega
      have hkt : us.take k = us := by rw [hkn, ← HNN.out, List.take_length]
      rw [hkt]
      obtain ⟨x1, e1, l1, l2⟩ := lowF_q HQ.out HQ0.out
      obtain ⟨x2, e2, l3, l4⟩ := highF_q HQ.out HQ0.out
      rw [e1, e2]
      have E1 := Lib.hid e1
      have E2 := Lib.hid e2
      clear e1 e2
      have s1 := F_add .f32 (256 * x1) (256 * x2) (by omega) (by omega) (by omega)
      have s2 := F_sub .f32 (256 * x2) (256 * x1) (by omega) (by omega) (by omega)
      have e3 : 256 * x1 + 256 * x2 = 256 * (x1 + x2) := by omega
      rw [e3] at s1
      have s3 := F_mid (s := x1 + x2) (by omega) (by omega)
      have s4 : floatBits .add .f32 (F (128 * (x1 + x2))) 0 = some (F (128 * (x1 + x2))) := by
        have := F_add .f32 (128 * (x1 + x2)) 0 (by omega) (by decide) (by omega)
        rw [F_zero, Int.add_zero] at this
        exact this
      have s5 : (256 * x1 + 256 * x2) / 2 = 128 * (x1 + x2) := by omega
      have S5 := Lib.hid s5
      clear l1 l2 l3 l4 e3 s5
      go_wp2_with (first
        | (refine wpList_floatD rfl _ _ _ _ _ rfl (by decide) _ _ _ rfl rfl _ s1 ?_)
        | (refine wpList_floatD rfl _ _ _ _ _ rfl (by decide) _ _ _ rfl rfl _ s3 ?_)
        | (refine wpList_floatD rfl _ _ _ _ _ rfl (by decide) _ _ _ rfl rfl _ s4 ?_)
        | (refine wpList_floatD rfl _ _ _ _ _ rfl (by decide) _ _ _ rfl rfl _ s2 ?_))
      go_ret2
      exact ⟨HE.out, by first | (rw [E1.out, E2.out, S5.out]; rfl) | (rw [S5.out]; rfl)⟩

set_option maxRecDepth 100000 in
set_option maxHeartbeats 800000 in
theorem middleOf2_any (A : Option Addr) (cap n : Nat) (us : List Wh) (u0 : Wh) (w : World) (hA : Lies w 51 A (whVals us)) (hn : us.length = n) (h0 : us[0]? = some u0) (hl : n ≤ 12) (hok : ∀ u ∈ us, OkW u) :
    Calls Try.prog 83 #[.slice A n cap, .func (.func 85) #[] #[]] w fun e w' => Ext w w' ∧ e = .returned (.tuple #[.float .f32 (F ((lowF (fun u => u.2.1) us u0.2.1 + highF (fun u => u.2.1) us u0.2.1) / 2)), .float .f32 (F (highF (fun u => u.2.1) us u0.2.1 - lowF (fun u => u.2.1) us u0.2.1))]) := by
  have HQ := Lib.hid (Qs.y hok)
  have hq0 := (Qs.y hok) u0 (List.mem_of_getElem? h0)
  have HQ0 := Lib.hid hq0
  have HA := Lib.hid hA
  have HL := Lib.hid hl
  have HNN := Lib.hid hn
  have h0n : 0 < n := by
    obtain ⟨h, -⟩ := List.getElem?_eq_some_iff.1 h0
    omega
  obtain ⟨b, o, rfl, hbw, hcc⟩ := HA.out.cell (by rw [whVals_len]; omega)
  obtain ⟨v1, v2⟩ := whVals_at us 0 u0 h0
  have d0 : w.cell? ⟨b, o, none⟩ = some (.complex .f32 (F u0.1) (F u0.2.1)) := hcc _ _ v1
  have HCC := Lib.hid hcc
  clear hA hl hok hq0 v1 v2 hcc hn
  go_enter Try.func83, Try.ntmps83
  go_wp2_with fail
  go_quiet ((go_at_call 85; exact Calls.quiet_of_same ((tree2_any _ _ _).mono fun e w' h => ⟨h.2, h.1⟩)))
  go_wp2_with fail
  have HE0 := Lib.hid (show Ext w (w.drewN nq) from (Ext.rfl' w).drewN nq)
  generalize w.drewN nq = W0 at *
  go_loopw [6, 7, 25] (fun lo hi i wr => ∃ k : Nat, k ≤ n ∧ i = .int .i64 k ∧ lo = .float .f32 (F (lowF (fun u => u.2.1) (us.take k) u0.2.1)) ∧ hi = .float .f32 (F (highF (fun u => u.2.1) (us.take k) u0.2.1)) ∧ Ext w wr) (fun _ _ i _ => n - (intOf i).toNat)
  case atStart => exact ⟨0, Nat.zero_le _, rfl, rfl, rfl, HE0.out⟩
  case round =>
    obtain ⟨k, hk, rfl, rfl, rfl, hbel⟩ := hrel
    have HE := Lib.hid hbel
    clear hbel d0
    have hk9 : k < 9223372036854775807 := by have := HL.out; omega
    by_cases hlt : k < n
    · obtain ⟨v, hv⟩ : ∃ v, us[k]? = some v := ⟨us[k]'(by have := HNN.out; omega), List.getElem?_eq_getElem _⟩
      obtain ⟨v1, v2⟩ := whVals_at us k v hv
      have d0 := (HE.out.cell (p := ⟨b, o + k * 2, none⟩) hbw).trans (HCC.out _ _ v1)
      have d1 := (HE.out.cell (p := ⟨b, o + k * 2 + 1, none⟩) hbw).trans (HCC.out _ _ v2)
      have hqv := HQ.out v (List.mem_of_getElem? hv)
      have hql := lowF_q (HQ.out.take k) HQ0.out
      have hqh := highF_q (HQ.out.take k) HQ0.out
      have c1 := F_cmp .f32 .lss (v.2.1) (lowF (fun u => u.2.1) (us.take k) u0.2.1) (by obtain ⟨x, e, e1, e2⟩ := hqv; dsimp only at e; omega) (by obtain ⟨x, e, e1, e2⟩ := hql; omega)
      have c2 := F_cmp .f32 .gtr (v.2.1) (highF (fun u => u.2.1) (us.take k) u0.2.1) (by obtain ⟨x, e, e1, e2⟩ := hqv; dsimp only at e; omega) (by obtain ⟨x, e, e1, e2⟩ := hqh; omega)
      dsimp only at c1 c2
      have t1 := lowF_take (fun u => u.2.1) us u0.2.1 k v hv
      have t2 := highF_take (fun u => u.2.1) us u0.2.1 k v hv
      generalize lowF (fun u => u.2.1) (us.take k) u0.2.1 = lo at *
      generalize highF (fun u => u.2.1) (us.take k) u0.2.1 = hi at *
      obtain ⟨b1, hb1⟩ : ∃ b, decide (v.2.1 < lo) = b := ⟨_, rfl⟩
      obtain ⟨b2, hb2⟩ : ∃ b, decide (hi < v.2.1) = b := ⟨_, rfl⟩
      rw [hb1] at c1
      rw [show (decide (v.2.1 > hi)) = b2 from hb2] at c2
      have T1 := Lib.hid (t1.trans (show _ = bif b1 then v.2.1 else lo by rw [← hb1]; by_cases h : v.2.1 < lo <;> simp [h]))
      have T2 := Lib.hid (t2.trans (show _ = bif b2 then v.2.1 else hi by rw [← hb2]; by_cases h : hi < v.2.1 <;> simp [h]))
      clear hqv hql hqh t1 t2 hb1 hb2 v1 v2 hv
      go_wp2_with fail
      refine (tree2_any _ _ _).mono ?_
      rintro e w1 ⟨rfl, rfl⟩
      cases b1 <;> cases b2
      all_goals
        go_wp2_with (first
          | (refine wpList_fcmpD rfl .lss _ _ _ _ rfl rfl _ _ _ rfl rfl _ c1 ?_)
          | (refine wpList_fcmpD rfl .gtr _ _ _ _ rfl rfl _ _ _ rfl rfl _ c2 ?_))
        exact ⟨⟨k + 1, by omega, by go_num, by rw [T1.out]; rfl, by rw [T2.out]; rfl, Ext.trans HE.out (by (repeat first | with_reducible exact Ext.rfl' _ | with_reducible refine Ext.drewN ?_ _ | with_reducible refine Ext.drew' ?_ | with_reducible refine Ext.alloc' ?_ _ | with_reducible refine Ext.setCell_at ?_ _ _ _ (by first | exact Nat.le_refl _ | omega) | with_reducible assumption | refine Ext.trans ?_ (by with_reducible assumption)))⟩, by simp [intOf]; omega⟩
    · have hkn : k = n := by omega
      have hkt : us.take k = us := by rw [hkn, ← HNN.out, List.take_length]
      rw [hkt]
      obtain ⟨x1, e1, l1, l2⟩ := lowF_q HQ.out HQ0.out
      obtain ⟨x2, e2, l3, l4⟩ := highF_q HQ.out HQ0.out
      rw [e1, e2]
      have E1 := Lib.hid e1
      have E2 := Lib.hid e2
      clear e1 e2
      have s1 := F_add .f32 (256 * x1) (256 * x2) (by omega) (by omega) (by omega)
      have s2 := F_sub .f32 (256 * x2) (256 * x1) (by omega) (by omega) (by omega)
      have e3 : 256 * x1 + 256 * x2 = 256 * (x1 + x2) := by omega
      rw [e3] at s1
      have s3 := F_mid (s := x1 + x2) (by omega) (by omega)
      have s4 : floatBits .add .f32 (F (128 * (x1 + x2))) 0 = some (F (128 * (x1 + x2))) := by
        have := F_add .f32 (128 * (x1 + x2)) 0 (by omega) (by decide) (by omega)
        rw [F_zero, Int.add_zero] at this
        exact this
      have s5 : (256 * x1 + 256 * x2) / 2 = 128 * (x1 + x2) := by omega
      have S5 := Lib.hid s5
      clear l1 l2 l3 l4 e3 s5
      go_wp2_with (first
        | (refine wpList_floatD rfl _ _ _ _ _ rfl (by decide) _ _ _ rfl rfl _ s1 ?_)
        | (refine wpList_floatD rfl _ _ _ _ _ rfl (by decide) _ _ _ rfl rfl _ s3 ?_)
        | (refine wpList_floatD rfl _ _ _ _ _ rfl (by decide) _ _ _ rfl rfl _ s4 ?_)
        | (refine wpList_floatD rfl _ _ _ _ _ rfl (by decide) _ _ _ rfl rfl _ s2 ?_))
      go_ret2
      exact ⟨HE.out, by first | (rw [E1.out, E2.out, S5.out]; rfl) | (rw [S5.out]; rfl)⟩
end Go.Proofs.Ytfehhbmmdbpdpaa
/- Walks: the nodes of a tree are finite. -/
namespace Go.Proofs.Ytfehhbmmdbpdpaa
open Go Go.RowKit
set_option linter.unusedVariables false
set_option linter.unusedSimpArgs false
attribute [local go_sem] run_store_float run_store_complex

/-- all numbers of a node are small -/
def NdOk (wd : Nat) (nd : Nd) : Prop := nd.cx.natAbs < 16777216 ∧ nd.cy.natAbs < 16777216 ∧ (hP nd.d wd).natAbs < 16777216 ∧ nd.sp.natAbs < 16777216 ∧ nd.mx.natAbs < 16777216 ∧ nd.my.natAbs < 16777216
theorem sorted_len (N : Nat) : ∀ (ws : List Nat) (lo : Nat), ws.Pairwise (· < ·) → (∀ i ∈ ws, lo ≤ i ∧ i < N) → lo ≤ N → ws.length + lo ≤ N
  | [], lo, _, _, h => by simpa using h
  | a :: ws, lo, hp, hb, h => by
    rw [List.pairwise_cons] at hp
    have h1 := hb a (List.mem_cons_self ..)
    have := sorted_len N ws (a + 1) hp.2 (fun i hi => ⟨hp.1 i hi, (hb i (List.mem_cons_of_mem _ hi)).2⟩) h1.2
    rw [List.length_cons]
    omega
theorem Alone.len {ps : List Wh} {w N : Nat} {nd : Nd} (h : Alone ps w N nd) : nd.ws.length ≤ N := by
  have := sorted_len N nd.ws 0 h.sorted (fun i hi => ⟨Nat.zero_le _, h.below i hi⟩) (Nat.zero_le _)
  simpa using this
theorem Alone.ok {ps : List Wh} {wd : Nat} {nd : Nd} (h : Alone ps wd ps.length nd) (hps : OkPs ps) : NdOk wd nd := by
  have hl := h.len
  have h12 := hps.1
  have hok := hps.map h.below
  have hb1 := h.bx
  have hb2 := h.by_
  have f1 : (spinP ps nd.ws).natAbs ≤ nd.ws.length * 2048 := by
    rw [spinP_L]
    have := fold_bound (fun u => u.2.2) 2048 (nd.ws.map (atW ps)) (fun u hu => ((hok u hu).term (c := 0) (by decide) (by decide)).2.2.2.2.2.2)
    rw [List.length_map] at this
    exact this
  have f2 : (momX ps nd.cx nd.ws).natAbs ≤ nd.ws.length * 24576 := by
    rw [momX_L]
    have := fold_bound (fun u => (u.1 - nd.cx) * u.2.2 / 1024) 24576 (nd.ws.map (atW ps)) (fun u hu => ((hok u hu).term (c := nd.cx) (by omega) h.ex).1.2)
    rw [List.length_map] at this
    exact this
  have f3 : (momY ps nd.cy nd.ws).natAbs ≤ nd.ws.length * 24576 := by
    rw [momY_L]
    have := fold_bound (fun u => (u.2.1 - nd.cy) * u.2.2 / 1024) 24576 (nd.ws.map (atW ps)) (fun u hu => ((hok u hu).term (c := nd.cy) (by omega) h.ey).2.1.2)
    rw [List.length_map] at this
    exact this
  refine ⟨by omega, by omega, by omega, ?_, ?_, ?_⟩
  · rw [h.sp_]; omega
  · rw [h.mx_]; omega
  · rw [h.my_]; omega

theorem lies_new' (w : World) (t : TypeId) (xs : Array Value) (g : Nat) (hg : g = w.heap.size) : Lies (w.alloc (.cells xs t)) t (some ⟨g, 0, none⟩) xs.toList := by
  subst hg
  exact lies_new w t xs
set_option maxRecDepth 100000 in
set_option maxHeartbeats 800000 in
theorem tree3_F (wd : Nat) (nd : Nd) (hok : NdOk wd nd) (A1 A2 : Option Addr) (c1 c2 : Nat) (w : World) :
    Calls Try.prog 88 #[.agg #[.complex .f32 (F nd.cx) (F nd.cy), .float .f32 (F (hP nd.d wd)), .int .i64 nd.d, .slice A1 nd.ws.length c1, .slice A2 nd.nx.length c2, .float .f32 (F nd.sp), .complex .f32 (F nd.mx) (F nd.my)]] w fun e w' => Ext w w' ∧ e = .returned (.bool false) := by
  have HB := Lib.hid (Blk.new w 49 #[.complex .f32 (F nd.cx) (F nd.cy), .float .f32 (F (hP nd.d wd)), .int .i64 nd.d, .slice A1 nd.ws.length c1, .slice A2 nd.nx.length c2, .float .f32 (F nd.sp), .complex .f32 (F nd.mx) (F nd.my)])
  have HE0 := Lib.hid (show Ext w (w.alloc (.cells #[.complex .f32 (F nd.cx) (F nd.cy), .float .f32 (F (hP nd.d wd)), .int .i64 nd.d, .slice A1 nd.ws.length c1, .slice A2 nd.nx.length c2, .float .f32 (F nd.sp), .complex .f32 (F nd.mx) (F nd.my)] 49)) by (repeat first | with_reducible exact Ext.rfl' _ | with_reducible refine Ext.drewN ?_ _ | with_reducible refine Ext.drew' ?_ | with_reducible refine Ext.alloc' ?_ _ | with_reducible refine Ext.setCell_at ?_ _ _ _ (by first | exact Nat.le_refl _ | omega) | with_reducible assumption | refine Ext.trans ?_ (by with_reducible assumption)))
  have HOK := Lib.hid hok
  clear hok
  go_enter Try.func88, Try.ntmps88
  go_wp2_with fail
  refine (finiteAll_F _ _ 2 [(nd.cx, nd.cy), (nd.mx, nd.my)] _ (lies_new' _ 27 #[.complex .f32 (F nd.cx) (F nd.cy), .complex .f32 (F nd.mx) (F nd.my)] _ (by simp)) rfl (by decide) (fun c hc => by
    have h := HOK.out
    simp at hc
    rcases hc with rfl | rfl
    · exact ⟨h.1, h.2.1⟩
    · exact ⟨h.2.2.2.2.1, h.2.2.2.2.2⟩)).mono ?_
  rintro e w1 ⟨he, rfl⟩
  have HE1 := Lib.hid (Ext.trans HE0.out (Ext.trans (by (repeat first | with_reducible exact Ext.rfl' _ | with_reducible refine Ext.drewN ?_ _ | with_reducible refine Ext.drew' ?_ | with_reducible refine Ext.alloc' ?_ _ | with_reducible refine Ext.setCell_at ?_ _ _ _ (by first | exact Nat.le_refl _ | omega) | with_reducible assumption | refine Ext.trans ?_ (by with_reducible assumption))) he))
  have HB1 := Lib.hid (HB.out.ext (Ext.trans (by (repeat first | with_reducible exact Ext.rfl' _ | with_reducible refine Ext.drewN ?_ _ | with_reducible refine Ext.drew' ?_ | with_reducible refine Ext.alloc' ?_ _ | with_reducible refine Ext.setCell_at ?_ _ _ _ (by first | exact Nat.le_refl _ | omega) | with_reducible assumption | refine Ext.trans ?_ (by with_reducible assumption))) he))
  have d1 : w1.cell? ⟨w.heap.size, 1, none⟩ = some (.float .f32 (F (hP nd.d wd))) := HB1.out.cell 1
  have d5 : w1.cell? ⟨w.heap.size, 5, none⟩ = some (.float .f32 (F nd.sp)) := HB1.out.cell 5
  clear he
  go_wp2_with fail
  refine (finite_F _ _ 2 [hP nd.d wd, nd.sp] _ (lies_new' _ 34 #[.float .f32 (F (hP nd.d wd)), .float .f32 (F nd.sp)] _ (by simp)) rfl (by decide) (fun c hc => by
    have h := HOK.out
    simp at hc
    rcases hc with rfl | rfl
    · exact h.2.2.1
    · exact h.2.2.2.1)).mono ?_
  rintro e w2 ⟨he, rfl⟩
  have HE2 := Lib.hid (Ext.trans HE1.out (Ext.trans (by (repeat first | with_reducible exact Ext.rfl' _ | with_reducible refine Ext.drewN ?_ _ | with_reducible refine Ext.drew' ?_ | with_reducible refine Ext.alloc' ?_ _ | with_reducible refine Ext.setCell_at ?_ _ _ _ (by first | exact Nat.le_refl _ | omega) | with_reducible assumption | refine Ext.trans ?_ (by with_reducible assumption))) he))
  clear he d1 d5
  go_wp2_with fail
  go_ret
  exact ⟨HE2.out, rfl⟩

set_option maxRecDepth 100000 in
set_option maxHeartbeats 800000 in
theorem IndexN_none (A : Option Addr) (cap n : Nat) (wd : Nat) (L : List Nd) (ys : List Value) (w : World) (hA : Lies w 49 A ys) (hN : NodesAt w wd L ys) (hn : L.length = n) (hl : n ≤ 1000)
    (hp : ∀ (k : Nat) (nd : Nd), L[k]? = some nd → ∀ A1 c1 A2 c2 w, Calls Try.prog 88 #[.agg #[.complex .f32 (F nd.cx) (F nd.cy), .float .f32 (F (hP nd.d wd)), .int .i64 nd.d, .slice A1 nd.ws.length c1, .slice A2 nd.nx.length c2, .float .f32 (F nd.sp), .complex .f32 (F nd.mx) (F nd.my)]] w fun e w' => Ext w w' ∧ e = .returned (.bool false)) :
    Calls Try.prog 110 #[.slice A n cap, .func (.func 88) #[] #[]] w fun e w' => Ext w w' ∧ e = .returned (.int .i64 (-1)) := by
  have HA := Lib.hid hA
  have HN := Lib.hid hN
  have HL := Lib.hid hl
  have HP := Lib.hid hp
  clear hA hN hl hp
  go_enter Try.func110, Try.ntmps110
  go_wp2_with fail
  go_loopw [8] (fun i wr => ∃ (k : Nat), k ≤ n ∧ i = .int .i64 k ∧ Ext w wr) (fun i _ => n - (intOf i).toNat)
  case atStart => exact ⟨0, Nat.zero_le _, rfl, Ext.rfl' _⟩
  case round =>
    obtain ⟨k, hk, rfl, hbel⟩ := hrel
    have HE := Lib.hid hbel
    clear hbel
    have hk9 : k < 9223372036854775807 := by have := HL.out; omega
    by_cases hlt : k < n
    · obtain ⟨nd, hv⟩ : ∃ v, L[k]? = some v := ⟨L[k]'(by omega), List.getElem?_eq_getElem (by omega)⟩
      obtain ⟨b, o, rfl, hbw, hcc⟩ := HA.out.cell (by rw [HN.out.1]; omega)
      obtain ⟨A1, c1, A2, c2, a0, a1, a2, a3, a4, a5, a6, -, -⟩ := HN.out.2 k nd hv
      have d0 := (HE.out.cell (p := ⟨b, o + k * 7, none⟩) hbw).trans (hcc _ _ a0)
      have d1 := (HE.out.cell (p := ⟨b, o + k * 7 + 1, none⟩) hbw).trans (hcc _ _ a1)
      have d2 := (HE.out.cell (p := ⟨b, o + k * 7 + 2, none⟩) hbw).trans (hcc _ _ a2)
      have d3 := (HE.out.cell (p := ⟨b, o + k * 7 + 3, none⟩) hbw).trans (hcc _ _ a3)
      have d4 := (HE.out.cell (p := ⟨b, o + k * 7 + 4, none⟩) hbw).trans (hcc _ _ a4)
      have d5 := (HE.out.cell (p := ⟨b, o + k * 7 + 5, none⟩) hbw).trans (hcc _ _ a5)
      have d6 := (HE.out.cell (p := ⟨b, o + k * 7 + 6, none⟩) hbw).trans (hcc _ _ a6)
      have HV := Lib.hid hv
      clear hcc hv a0 a1 a2 a3 a4 a5 a6
      go_wp2_with fail
      refine (HP.out k nd HV.out _ _ _ _ _).mono ?_
      rintro e w1 ⟨he, rfl⟩
      have HF := Lib.hid (Ext.trans HE.out (Ext.trans (by (repeat first | with_reducible exact Ext.rfl' _ | with_reducible refine Ext.drewN ?_ _ | with_reducible refine Ext.drew' ?_ | with_reducible refine Ext.alloc' ?_ _ | with_reducible refine Ext.setCell_at ?_ _ _ _ (by first | exact Nat.le_refl _ | omega) | with_reducible assumption | refine Ext.trans ?_ (by with_reducible assumption))) he))
      clear he d0 d1 d2 d3 d4 d5 d6
      go_wp2_with fail
      exact ⟨⟨k + 1, by omega, by go_num, HF.out⟩, by simp [intOf]; omega⟩
    · go_wp2_with fail
      go_ret
      exact ⟨HE.out, rfl⟩
set_option maxRecDepth 100000 in
set_option maxHeartbeats 800000 in
theorem ContainsN_none (A : Option Addr) (cap n : Nat) (wd : Nat) (L : List Nd) (ys : List Value) (w : World) (hA : Lies w 49 A ys) (hN : NodesAt w wd L ys) (hn : L.length = n) (hl : n ≤ 1000)
    (hp : ∀ (k : Nat) (nd : Nd), L[k]? = some nd → ∀ A1 c1 A2 c2 w, Calls Try.prog 88 #[.agg #[.complex .f32 (F nd.cx) (F nd.cy), .float .f32 (F (hP nd.d wd)), .int .i64 nd.d, .slice A1 nd.ws.length c1, .slice A2 nd.nx.length c2, .float .f32 (F nd.sp), .complex .f32 (F nd.mx) (F nd.my)]] w fun e w' => Ext w w' ∧ e = .returned (.bool false)) :
    Calls Try.prog 87 #[.slice A n cap, .func (.func 88) #[] #[]] w fun e w' => Ext w w' ∧ e = .returned (.bool false) := by
  have HC := Lib.hid (IndexN_none A cap n wd L ys w hA hN hn hl hp)
  clear hA hN hl hp
  go_enter Try.func87, Try.ntmps87
  go_wp2_with fail
  refine HC.out.mono ?_
  rintro e w1 ⟨he, rfl⟩
  go_wp2_with fail
  go_ret
  exact ⟨he, rfl⟩
end Go.Proofs.Ytfehhbmmdbpdpaa
/- Walks: the tree of whirls. -/
namespace Go.Proofs.Ytfehhbmmdbpdpaa
open Go Go.RowKit
set_option linter.unusedVariables false
set_option linter.unusedSimpArgs false
attribute [local go_sem] run_store_float run_store_complex

theorem F_max (a b : Int) (ha : a.natAbs < 16777216) (hb : b.natAbs < 16777216) (P : Program) (ts : Array TypeId) (t : TypeId) (w : World) :
    (Builtin.max_ ts t #[.float .f32 (F a), .float .f32 (F b)]).run P w = .ok (.float .f32 (F (max a b))) w := by
  have ho := F_order .f32 a b ha hb
  rcases Int.lt_trichotomy a b with h | h | h
  · have hc : compare a b = .lt := by rw [Int.compare_eq_lt]; exact h
    rw [hc] at ho
    simp [Builtin.max_, Builtin.max2, ho, Int.max_eq_right (Int.le_of_lt h)]
  · subst h
    have hc : compare a a = .eq := by simp
    rw [hc] at ho
    simp [Builtin.max_, Builtin.max2, ho]
  · have hc : compare a b = .gt := by rw [Int.compare_eq_gt]; exact h
    rw [hc] at ho
    simp [Builtin.max_, Builtin.max2, ho, Int.max_eq_left (Int.le_of_lt h)]
def lowX (ps : List Wh) : Int := lowF (fun u => u.1) ps (atW ps 0).1
def highX (ps : List Wh) : Int := highF (fun u => u.1) ps (atW ps 0).1
def lowY (ps : List Wh) : Int := lowF (fun u => u.2.1) ps (atW ps 0).2.1
def highY (ps : List Wh) : Int := highF (fun u => u.2.1) ps (atW ps 0).2.1
def widP (ps : List Wh) : Nat := (max (highX ps - lowX ps) (highY ps - lowY ps) / 256).toNat
def midX (ps : List Wh) : Int := (lowX ps + highX ps) / 2
def midY (ps : List Wh) : Int := (lowY ps + highY ps) / 2
def treeP (ps : List Wh) : List Nd := growP ps (widP ps) 6 0 0 (midX ps) (midY ps) (List.range ps.length)
theorem root_facts {ps : List Wh} (hps : OkPs ps) (hn : 0 < ps.length) :
    widP ps ≤ 32 ∧ max (highX ps - lowX ps) (highY ps - lowY ps) = 256 * (widP ps : Int) ∧ (highX ps - lowX ps).natAbs < 16777216 ∧ (highY ps - lowY ps).natAbs < 16777216 ∧ Pre ps (widP ps) ps.length 0 (midX ps) (midY ps) (List.range ps.length) := by
  obtain ⟨hw0, h0⟩ := hps.at hn
  have hm0 := List.mem_of_getElem? h0
  obtain ⟨x1, e1, a1, a2⟩ := lowF_q (Qs.x hps.2) ((Qs.x hps.2) _ hm0)
  obtain ⟨x2, e2, a3, a4⟩ := highF_q (Qs.x hps.2) ((Qs.x hps.2) _ hm0)
  obtain ⟨y1, e3, a5, a6⟩ := lowF_q (Qs.y hps.2) ((Qs.y hps.2) _ hm0)
  obtain ⟨y2, e4, a7, a8⟩ := highF_q (Qs.y hps.2) ((Qs.y hps.2) _ hm0)
  obtain ⟨lx1, lx2, -⟩ := lowF_facts (fun u => u.1) ps (atW ps 0).1
  obtain ⟨hx1, hx2, -⟩ := highF_facts (fun u => u.1) ps (atW ps 0).1
  obtain ⟨ly1, ly2, -⟩ := lowF_facts (fun u => u.2.1) ps (atW ps 0).2.1
  obtain ⟨hy1, hy2, -⟩ := highF_facts (fun u => u.2.1) ps (atW ps 0).2.1
  have E1 : lowX ps = 256 * x1 := e1
  have E2 : highX ps = 256 * x2 := e2
  have E3 : lowY ps = 256 * y1 := e3
  have E4 : highY ps = 256 * y2 := e4
  have L1 : lowX ps ≤ highX ps := Int.le_trans lx1 hx1
  have L2 : lowY ps ≤ highY ps := Int.le_trans ly1 hy1
  have hwid : max (highX ps - lowX ps) (highY ps - lowY ps) = 256 * (widP ps : Int) := by
    unfold widP
    rw [E1, E2, E3, E4] at *
    omega
  have hw32 : widP ps ≤ 32 := by
    have : (256 * (widP ps : Int)) ≤ 256 * 32 := by
      rw [← hwid, E1, E2, E3, E4]; omega
    omega
  have hP0 : hP 0 (widP ps) = 128 * (widP ps : Int) := by unfold hP; simp
  have mX : midX ps = 128 * (x1 + x2) := by unfold midX; rw [E1, E2]; omega
  have mY : midY ps = 128 * (y1 + y2) := by unfold midY; rw [E3, E4]; omega
  have w1 : highX ps - lowX ps ≤ 256 * (widP ps : Int) := by rw [← hwid]; exact Int.le_max_left _ _
  have w2 : highY ps - lowY ps ≤ 256 * (widP ps : Int) := by rw [← hwid]; exact Int.le_max_right _ _
  rw [E1, E2] at w1
  rw [E3, E4] at w2
  refine ⟨hw32, hwid, by rw [E1, E2]; omega, by rw [E3, E4]; omega, ⟨fun i hi => ?_, ?_, fun i hi => List.mem_range.1 hi, fun e => ?_, ?_, ?_, ?_, ?_⟩⟩
  · have hi' := List.mem_range.1 hi
    have hm := List.mem_of_getElem? (hps.at hi').2
    have b1 := lx2 _ hm
    have b2 := hx2 _ hm
    have b3 := ly2 _ hm
    have b4 := hy2 _ hm
    try dsimp only at b1 b2 b3 b4
    rw [e1] at b1
    rw [e2] at b2
    rw [e3] at b3
    rw [e4] at b4
    rw [hP0, mX, mY]
    omega
  · exact List.pairwise_lt_range
  · rw [List.range_eq_nil] at e; omega
  · rw [hP0, mX]; omega
  · rw [hP0, mY]; omega
  · rw [mX]; omega
  · rw [mY]; omega
/-- the nodes of a tree, as they come back -/
def TreeAt (w : World) (ps : List Wh) (r cp : Nat) : Prop :=
  ∃ zs, Lies w 49 (some ⟨r, 0, none⟩) zs ∧ NodesAt w (widP ps) (treeP ps) zs
theorem treeP_ok {ps : List Wh} (hps : OkPs ps) (hn : 0 < ps.length) : GrowOk ps (widP ps) ps.length 0 0 (List.range ps.length) 6 (treeP ps) :=
  grow_ok 6 0 0 _ _ _ (by omega) (root_facts hps hn).2.2.2.2
end Go.Proofs.Ytfehhbmmdbpdpaa
/- Walks: the tree of whirls. -/
namespace Go.Proofs.Ytfehhbmmdbpdpaa
open Go Go.RowKit
set_option linter.unusedVariables false
set_option linter.unusedSimpArgs false
attribute [local go_sem] run_store_float run_store_complex

theorem middleX_any (A : Option Addr) (cap n : Nat) (ps : List Wh) (w : World) (hA : Lies w 51 A (whVals ps)) (hn : ps.length = n) (h0 : 0 < n) (hps : OkPs ps) :
    Calls Try.prog 83 #[.slice A n cap, .func (.func 84) #[] #[]] w fun e w' => Ext w w' ∧ e = .returned (.tuple #[.float .f32 (F (midX ps)), .float .f32 (F (highX ps - lowX ps))]) :=
  middleOf1_any A cap n ps (atW ps 0) w hA hn (hps.at (by omega)).2 (hn ▸ hps.1) hps.2
theorem middleY_any (A : Option Addr) (cap n : Nat) (ps : List Wh) (w : World) (hA : Lies w 51 A (whVals ps)) (hn : ps.length = n) (h0 : 0 < n) (hps : OkPs ps) :
    Calls Try.prog 83 #[.slice A n cap, .func (.func 85) #[] #[]] w fun e w' => Ext w w' ∧ e = .returned (.tuple #[.float .f32 (F (midY ps)), .float .f32 (F (highY ps - lowY ps))]) :=
  middleOf2_any A cap n ps (atW ps 0) w hA hn (hps.at (by omega)).2 (hn ▸ hps.1) hps.2
theorem growRoot_any (ps : List Wh) (B g lb lo lcap r cp : Nat) (A1 : Option Addr) (c1 : Nat) (w : World) (hps : OkPs ps) (hn : 0 < ps.length) (hT : Tr w B g (.slice (some ⟨r, 0, none⟩) 0 cp) 0 []) (hL : Lies w 51 (some ⟨lb, lo, none⟩) (whVals ps)) (hW : Lies w 2 A1 (intVals (List.range ps.length))) :
    Calls Try.prog 86 #[.pointer (some ⟨g, 0, none⟩), .slice (some ⟨lb, lo, none⟩) ps.length lcap, .agg #[.complex .f32 (F (midX ps)) (F (midY ps)), .float .f32 (F (hP 0 (widP ps))), .int .i64 0, .slice A1 ps.length c1, .slice none 0 0, .float .f32 0, .complex .f32 0 0]] w fun e w' =>
      e = .returned (.int .i64 0) ∧ ∃ r' cp' zs, Tr w' B g (.slice (some ⟨r', 0, none⟩) (treeP ps).length cp') (treeP ps).length zs ∧ NodesAt w' (widP ps) (treeP ps) zs ∧ Fr w w' g (.slice (some ⟨r, 0, none⟩) 0 cp) (.slice (some ⟨r', 0, none⟩) (treeP ps).length cp') := by
  obtain ⟨hw, -, -, -, hpre⟩ := root_facts hps hn
  have h := grow_any ps (widP ps) B g lb lo lcap hps hw 6 0 rfl r cp 0 (midX ps) (midY ps) (List.range ps.length) [] A1 c1 w hpre hT hL hW (by rw [List.length_range]; have := hps.1; omega) (by rw [List.length_range]; exact hps.1)
  rw [List.length_range] at h
  unfold handed at h
  refine h.mono ?_
  rintro e w' ⟨he, r', cp', zs, h1, h2, h3, -⟩
  rw [Nat.zero_add] at h1 h3
  exact ⟨he, r', cp', zs, h1, h2, h3⟩

set_option maxRecDepth 100000 in
set_option maxHeartbeats 800000 in
theorem tree_any (ps : List Wh) (lb lo cap : Nat) (w : World) (hps : OkPs ps) (hn : 0 < ps.length) (hA : Lies w 51 (some ⟨lb, lo, none⟩) (whVals ps)) :
    Calls Try.prog 46 #[.slice (some ⟨lb, lo, none⟩) ps.length cap] w fun e w' => Ext w w' ∧ ∃ r cp, e = .returned (.tuple #[.slice (some ⟨r, 0, none⟩) (treeP ps).length cp, .bool true]) ∧ TreeAt w' ps r cp := by
  have HA := Lib.hid hA
  have HPS := Lib.hid hps
  have HL := Lib.hid hps.1
  clear hA
  obtain ⟨i1, hi1, jz0, jz1, jz2⟩ := parts_of infoI
  have hz1 : (Value.int .i64 0).cells.size = 1 := by decide
  have HOWN := Lib.hid (show (w.alloc (.cells #[] 2)).ownsRow w.heap.size 2 1 (.slice (some ⟨w.heap.size, 0, none⟩) 0 0) 0 [] from World.ownsRow_made (base := w.heap.size) (e := 2) (size := 1) w #[] 0 (Nat.le_refl _) (by decide) rfl)
  have HE0 := Lib.hid (show Ext w (w.alloc (.cells #[] 2)) by (repeat first | with_reducible exact Ext.rfl' _ | with_reducible refine Ext.drewN ?_ _ | with_reducible refine Ext.drew' ?_ | with_reducible refine Ext.alloc' ?_ _ | with_reducible refine Ext.setCell_at ?_ _ _ _ (by first | exact Nat.le_refl _ | omega) | with_reducible assumption | refine Ext.trans ?_ (by with_reducible assumption)))
  go_enter Try.func46, Try.ntmps46
  go_wp2_with fail
  generalize w.alloc (.cells #[] 2) = W0 at *
  go_loopw [4, 15] (fun v i wr => ∃ (k gg cq : Nat), k ≤ ps.length ∧ i = .int .i64 k ∧ v = .slice (some ⟨gg, 0, none⟩) k cq ∧ wr.ownsRow w.heap.size 2 1 v k (intVals (List.range k)) ∧ Ext w wr) (fun _ i _ => ps.length - (intOf i).toNat)
  case atStart => exact ⟨0, w.heap.size, 0, Nat.zero_le _, rfl, rfl, HOWN.out, HE0.out⟩
  case round =>
    obtain ⟨k, gg, cq, hk, rfl, rfl, hown, hbel⟩ := hrel
    have HOW := Lib.hid hown
    have HE := Lib.hid hbel
    clear hown hbel HOWN HE0
    have hk9 : k < 9223372036854775807 := by have := HL.out; omega
    by_cases hlt : k < ps.length
    · go_wp2_with (first | (at_builtin; refine Stand.of ?_))
      refine Stand.out ?_
      refine wpList_append_lies _ rfl _ _ 43 rfl w.heap.size 2 i1 _ 1 8 under_ints hi1 jz0 jz1 jz2 hz1 (by omega) (.slice (some ⟨gg, 0, none⟩) k cq) k _ rfl (HOW.out.alloc _) ⟨wr.heap.size, 0, none⟩ 1 1 [.int .i64 k] rfl rfl (World.news_of_block (cs := #[.int .i64 k]) (t := 2) (fr := (0, 0)) (heap_alloc_new wr _)) (by simp [Value.oneCell']) (by omega) (by have := HL.out; unfold maxLen; omega) (by have := HL.out; omega) (by have := HE.out.size; simp; omega) _ rfl ?_
      intro g2 c2 w6 hown6 hgrow hat hlt6
      have hgl := HOW.out.lt
      have HE6 := Lib.hid (Ext.grown (Ext.trans HE.out (Ext.alloc' (Ext.rfl' wr) _)) hgrow (fun k hk => (hgl k hk).1))
      have HO6 := Lib.hid hown6
      clear hown6 hgrow hat hlt6 hgl
      go_wp2_with fail
      refine ⟨⟨k + 1, g2, c2, by omega, by go_num, rfl, ?_, HE6.out⟩, by simp [intOf]; omega⟩
      rw [List.range_succ]
      unfold intVals
      rw [List.map_append]
      exact HO6.out
    · have hkn : k = ps.length := by omega
      subst hkn
      have HW := Lib.hid (lies_of_owns HOW.out).1
      go_wp2_with fail
      refine (middleX_any _ _ _ ps _ (HA.out.ext HE.out) rfl hn HPS.out).mono ?_
      rintro e w1 ⟨he, rfl⟩
      have HE1 := Lib.hid (Ext.trans HE.out he)
      have HW1 := Lib.hid (HW.out.ext he)
      clear he HW HE HOW
      go_wp2_with fail
      refine (middleY_any _ _ _ ps _ (HA.out.ext HE1.out) rfl hn HPS.out).mono ?_
      rintro e w2 ⟨he, rfl⟩
      have HE2 := Lib.hid (Ext.trans HE1.out he)
      have HW2 := Lib.hid (HW1.out.ext he)
      clear he HW1 HE1
      obtain ⟨-, hmx, hx, hy, -⟩ := root_facts HPS.out hn
      have hmax := fun ts t w => F_max _ _ hx hy Try.prog ts t w
      rw [hmx] at hmax
      have hquo := F_root (Nat.lt_succ_of_le (root_facts HPS.out hn).1)
      clear hmx hx hy
      go_wp2_with (first | (refine wpList_floatD rfl .quo _ _ _ _ rfl (by simp) _ _ _ rfl rfl _ hquo ?_))
      have hz5 : (w2.alloc (.cells #[] 49)).heap.size = w2.heap.size + 1 := by simp
      have hT : Tr ((w2.alloc (.cells #[] 49)).alloc (.cells #[.slice (some ⟨w2.heap.size, 0, none⟩) 0 0] 40)) w2.heap.size (w2.heap.size + 1) (.slice (some ⟨w2.heap.size, 0, none⟩) 0 0) 0 [] := by
        refine ⟨?_, (World.ownsRow_made (base := w2.heap.size) (e := 49) (size := 7) w2 #[] 0 (Nat.le_refl _) (by decide) rfl).alloc _, by omega⟩
        have := Blk.new (w2.alloc (.cells #[] 49)) 40 #[.slice (some ⟨w2.heap.size, 0, none⟩) 0 0]
        rw [hz5] at this
        exact this
      have HE3 := Lib.hid (Ext.trans HE2.out (show Ext w2 ((w2.alloc (.cells #[] 49)).alloc (.cells #[.slice (some ⟨w2.heap.size, 0, none⟩) 0 0] 40)) by (repeat first | with_reducible exact Ext.rfl' _ | with_reducible refine Ext.drewN ?_ _ | with_reducible refine Ext.drew' ?_ | with_reducible refine Ext.alloc' ?_ _ | with_reducible refine Ext.setCell_at ?_ _ _ _ (by first | exact Nat.le_refl _ | omega) | with_reducible assumption | refine Ext.trans ?_ (by with_reducible assumption))))
      have HW3 := Lib.hid (HW2.out.ext (show Ext w2 ((w2.alloc (.cells #[] 49)).alloc (.cells #[.slice (some ⟨w2.heap.size, 0, none⟩) 0 0] 40)) by (repeat first | with_reducible exact Ext.rfl' _ | with_reducible refine Ext.drewN ?_ _ | with_reducible refine Ext.drew' ?_ | with_reducible refine Ext.alloc' ?_ _ | with_reducible refine Ext.setCell_at ?_ _ _ _ (by first | exact Nat.le_refl _ | omega) | with_reducible assumption | refine Ext.trans ?_ (by with_reducible assumption))))
      have HT := Lib.hid hT
      have HS2 := Lib.hid HE2.out.size
      clear hT hz5 hmax hquo HW2 HE2
      generalize ((w2.alloc (.cells #[] 49)).alloc (.cells #[.slice (some ⟨w2.heap.size, 0, none⟩) 0 0] 40)) = W4 at *
      refine (growRoot_any ps w2.heap.size (w2.heap.size + 1) lb lo cap w2.heap.size 0 _ cq W4 HPS.out hn HT.out (HA.out.ext HE3.out) HW3.out).mono ?_
      rintro e w5 ⟨rfl, r', cp', zs, pT, pN, pF⟩
      have HE5 := Lib.hid (pF.below HT.out HE3.out HS2.out)
      have HN5 := Lib.hid pN
      have HL5 := Lib.hid (lies_of_owns pT.row).1
      have HV5 := Lib.hid pT.var
      have g0 : w5.cell? ⟨w2.heap.size + 1, 0, none⟩ = some (.slice (some ⟨r', 0, none⟩) (treeP ps).length cp') := pT.var.cell 0
      obtain ⟨hgood, -, hlen⟩ := treeP_ok HPS.out hn
      rw [List.length_range] at hlen
      have HGOOD := Lib.hid hgood
      have hl84 : (treeP ps).length ≤ 84 := by have := HL.out; omega
      clear pT pN pF hgood hlen HE3 HW3 HT HS2
      go_wp2_with fail
      refine (ContainsN_none _ _ _ (widP ps) (treeP ps) zs w5 HL5.out HN5.out rfl (by omega) (fun k nd hk A1 c1 A2 c2 w => tree3_F (widP ps) nd ((HGOOD.out k nd hk).1.ok HPS.out) A1 A2 c1 c2 w)).mono ?_
      rintro e w6 ⟨he, rfl⟩
      have HE6 := Lib.hid (Ext.trans HE5.out he)
      have HN6 := Lib.hid (HN5.out.map fun A xs h => h.ext he)
      have HL6 := Lib.hid (HL5.out.ext he)
      have g6 : w6.cell? ⟨w2.heap.size + 1, 0, none⟩ = some (.slice (some ⟨r', 0, none⟩) (treeP ps).length cp') := (HV5.out.ext he).cell 0
      clear he g0 HE5 HN5 HL5 HV5
      go_wp2_with fail
      go_ret2
      exact ⟨HE6.out, r', cp', rfl, zs, HL6.out, HN6.out⟩
set_option maxRecDepth 100000 in
theorem TreeOf_any (ps : List Wh) (lb lo cap : Nat) (w : World) (hps : OkPs ps) (hn : 0 < ps.length) (hA : Lies w 51 (some ⟨lb, lo, none⟩) (whVals ps)) :
    Calls Try.prog 18 #[.slice (some ⟨lb, lo, none⟩) ps.length cap] w fun e w' => Ext w w' ∧ ∃ r cp, e = .returned (.tuple #[.slice (some ⟨r, 0, none⟩) (treeP ps).length cp, .bool true]) ∧ TreeAt w' ps r cp := by
  have HA := Lib.hid hA
  have HPS := Lib.hid hps
  have hn0 : ¬ (ps.length : Int) = 0 := by omega
  clear hA
  go_enter Try.func18, Try.ntmps18
  go_wp2_with fail
  refine (AreWhirls_F _ _ _ ps _ HA.out rfl HPS.out.1 HPS.out.2).mono ?_
  rintro e w1 ⟨he, rfl⟩
  have HE1 := Lib.hid he
  clear he
  go_wp2_with fail
  refine (tree_any ps lb lo cap _ HPS.out hn (HA.out.ext HE1.out)).mono ?_
  rintro e w2 ⟨he, r, cp, rfl, hT⟩
  have HE2 := Lib.hid (Ext.trans HE1.out he)
  have HT := Lib.hid hT
  clear he hT
  go_wp2_with fail
  go_ret2
  exact ⟨HE2.out, r, cp, rfl, HT.out⟩
end Go.Proofs.Ytfehhbmmdbpdpaa
/- Walks: leaves, depth, moments; whether numbers are the same. -/
namespace Go.Proofs.Ytfehhbmmdbpdpaa
open Go Go.RowKit
set_option linter.unusedVariables false
set_option linter.unusedSimpArgs false
attribute [local go_sem] run_store_float run_store_complex

theorem F_lt (k : Int) : F k < 4294967296 := FloatKind.f32.format.write_lt (.number (decide (k < 0)) k.natAbs (-10))
theorem run_bits (x : Nat) (w : World) : (callFunc 112 #[.float .f32 x]).run Try.prog w = .ok (.value (.int .u32 x)) w := by
  rw [run_callFunc_extern Try.func112 (by kernel_rfl) (by kernel_rfl) (by kernel_rfl) (e := Extern.MathFloatBits.float32bits) (by kernel_rfl)]
  rfl
set_option maxRecDepth 100000 in
theorem l01Bits_F (k : Int) (hk : k.natAbs < 16777216) (w : World) : Calls Try.prog 92 #[.float .f32 (F k)] w fun e w' => w' = w ∧ e = .returned (.int .i64 (F k)) := by
  have h : fcmp .neq .f32 (F k) (F k) = false := by
    rw [F_cmp .f32 .neq k k hk hk]
    simp
  have hd := fun w => run_bits (F k) w
  have hl := F_lt k
  generalize F k = x at *
  have hw : IntKind.i64.wrap (x : Int) = (x : Int) := IntWalk.i64_in _ (by omega)
  go_enter Try.func92, Try.ntmps92
  go_wp2_with (first | (refine wpList_fcmpD rfl .neq _ _ _ _ rfl rfl _ _ _ rfl rfl _ h ?_))
  go_ret
  exact ⟨rfl, rfl⟩
set_option maxRecDepth 100000 in
theorem l01Same_F (k : Int) (hk : k.natAbs < 16777216) (w : World) : Calls Try.prog 51 #[.float .f32 (F k), .float .f32 (F k)] w fun e w' => w' = w ∧ e = .returned (.bool true) := by
  go_enter Try.func51, Try.ntmps51
  go_wp2_with fail
  refine (l01Bits_F k hk _).mono ?_
  rintro e w1 ⟨rfl, rfl⟩
  go_wp2_with fail
  refine (l01Bits_F k hk _).mono ?_
  rintro e w2 ⟨rfl, rfl⟩
  go_wp2_with fail
  go_ret
  exact ⟨rfl, rfl⟩
theorem SameNumber_F (k : Int) (hk : k.natAbs < 16777216) (w : World) : Calls Try.prog 23 #[.float .f32 (F k), .float .f32 (F k)] w fun e w' => w' = w ∧ e = .returned (.bool true) := by
  go_enter Try.func23, Try.ntmps23
  go_wp2_with fail
  refine (l01Same_F k hk _).mono ?_
  rintro e w1 ⟨rfl, rfl⟩
  go_wp2_with fail
  go_ret
  exact ⟨rfl, rfl⟩
theorem l01CSame_F (k l : Int) (hk : k.natAbs < 16777216) (hl : l.natAbs < 16777216) (w : World) : Calls Try.prog 44 #[.complex .f32 (F k) (F l), .complex .f32 (F k) (F l)] w fun e w' => w' = w ∧ e = .returned (.bool true) := by
  go_enter Try.func44, Try.ntmps44
  go_wp2_with fail
  refine (l01Same_F k hk _).mono ?_
  rintro e w1 ⟨rfl, rfl⟩
  go_wp2_with fail
  refine (l01Same_F l hl _).mono ?_
  rintro e w1 ⟨rfl, rfl⟩
  go_wp2_with fail
  go_ret
  exact ⟨rfl, rfl⟩
theorem SameComplex_F (k l : Int) (hk : k.natAbs < 16777216) (hl : l.natAbs < 16777216) (w : World) : Calls Try.prog 16 #[.complex .f32 (F k) (F l), .complex .f32 (F k) (F l)] w fun e w' => w' = w ∧ e = .returned (.bool true) := by
  go_enter Try.func16, Try.ntmps16
  go_wp2_with fail
  refine (l01CSame_F k l hk hl _).mono ?_
  rintro e w1 ⟨rfl, rfl⟩
  go_wp2_with fail
  go_ret
  exact ⟨rfl, rfl⟩
theorem MomentsOf_any (A : Option Addr) (cap n : Nat) (us : List Wh) (cx cy : Int) (hn : us.length = n) (w : World) (hA : Lies w 51 A (whVals us)) (hl : n ≤ 12) (hok : ∀ u ∈ us, OkW u) (hx : cx.natAbs ≤ 8192) (hy : cy.natAbs ≤ 8192) (ex : cx % 2 = 0) (ey : cy % 2 = 0) :
    Calls Try.prog 22 #[.slice A n cap, .complex .f32 (F cx) (F cy)] w fun e w' => Ext w w' ∧ e = .returned (.tuple #[.float .f32 (F (spinL us)), .complex .f32 (F (momXL cx us)) (F (momYL cy us)), .bool true]) := by
  have HA := Lib.hid hA
  have HOK := Lib.hid hok
  have HL := Lib.hid hl
  have HX := Lib.hid hx
  have HY := Lib.hid hy
  have f1 := fold_bound (fun u => u.2.2) 2048 us (fun u hu => ((hok u hu).term (c := 0) (by decide) (by decide)).2.2.2.2.2.2)
  have f2 := fold_bound (fun u => (u.1 - cx) * u.2.2 / 1024) 24576 us (fun u hu => ((hok u hu).term (c := cx) (by omega) ex).1.2)
  have f3 := fold_bound (fun u => (u.2.1 - cy) * u.2.2 / 1024) 24576 us (fun u hu => ((hok u hu).term (c := cy) (by omega) ey).2.1.2)
  have g1 : (spinL us).natAbs < 16777216 := by unfold spinL; omega
  have g2 : (momXL cx us).natAbs < 16777216 := by unfold momXL; omega
  have g3 : (momYL cy us).natAbs < 16777216 := by unfold momYL; omega
  have G1 := Lib.hid g1
  have G2 := Lib.hid g2
  have G3 := Lib.hid g3
  clear hA hok hl hx hy f1 f2 f3 g1 g2 g3
  go_enter Try.func22, Try.ntmps22
  go_wp2_with fail
  refine (AreWhirls_F _ _ _ us _ HA.out hn HL.out HOK.out).mono ?_
  rintro e w1 ⟨he, rfl⟩
  have HE1 := Lib.hid he
  clear he
  go_wp2_with fail
  refine (IsFiniteComplex_F cx cy (by have := HX.out; omega) (by have := HY.out; omega) _).mono ?_
  rintro e w2 ⟨he, rfl⟩
  have HE2 := Lib.hid (Ext.trans HE1.out he)
  clear he HE1
  go_wp2_with fail
  refine (moments_n _ _ _ us cx cy hn _ (HA.out.ext HE2.out) HL.out HOK.out HX.out HY.out ex ey).mono ?_
  rintro e w3 ⟨he, rfl⟩
  have HE3 := Lib.hid (Ext.trans HE2.out he)
  clear he HE2
  go_wp2_with fail
  refine (IsFinite_F _ G1.out _).mono ?_
  rintro e w4 ⟨he, rfl⟩
  have HE4 := Lib.hid (Ext.trans HE3.out he)
  clear he HE3
  go_wp2_with fail
  refine (IsFiniteComplex_F _ _ G2.out G3.out _).mono ?_
  rintro e w5 ⟨he, rfl⟩
  have HE5 := Lib.hid (Ext.trans HE4.out he)
  clear he HE4
  go_wp2_with fail
  go_ret3
  exact ⟨HE5.out, rfl⟩
theorem gap_F (k : Int) (hk : k.natAbs < 16777216) (w : World) : Calls Try.prog 21 #[.float .f64 (G k), .float .f64 0] w fun e w' => w' = w ∧ e = .returned (.float .f64 (G (k.natAbs : Int))) := by
  have hc := F_cmp .f64 .lss k 0 hk (by decide)
  rw [F_zero] at hc
  by_cases h : k < 0
  · have hs : floatBits .sub .f64 0 (G k) = some (G (k.natAbs : Int)) := by
      have := F_sub .f64 0 k (by decide) hk (by omega)
      rw [F_zero] at this
      rw [this, show (k.natAbs : Int) = 0 - k by omega]
    have hc' : fcmp .lss .f64 (G k) 0 = true := hc.trans (by simp [h])
    clear hc
    go_enter Try.func21, Try.ntmps21
    go_wp2_with (first
      | (refine wpList_fcmpD rfl .lss _ _ _ _ rfl rfl _ _ _ rfl rfl _ hc' ?_)
      | (refine wpList_floatD rfl _ _ _ _ _ rfl (by decide) _ _ _ rfl rfl _ hs ?_))
    go_ret
    exact ⟨rfl, rfl⟩
  · have hs : floatBits .sub .f64 (G k) 0 = some (G (k.natAbs : Int)) := by
      have := F_sub .f64 k 0 hk (by decide) (by omega)
      rw [F_zero] at this
      rw [this, show (k.natAbs : Int) = k - 0 by omega]
    have hc' : fcmp .lss .f64 (G k) 0 = false := hc.trans (by simp; omega)
    clear hc
    go_enter Try.func21, Try.ntmps21
    go_wp2_with (first
      | (refine wpList_fcmpD rfl .lss _ _ _ _ rfl rfl _ _ _ rfl rfl _ hc' ?_)
      | (refine wpList_floatD rfl _ _ _ _ _ rfl (by decide) _ _ _ rfl rfl _ hs ?_))
    go_ret
    exact ⟨rfl, rfl⟩
end Go.Proofs.Ytfehhbmmdbpdpaa
/- Walks: the leaves and the depth of a tree. -/
namespace Go.Proofs.Ytfehhbmmdbpdpaa
open Go Go.RowKit
set_option linter.unusedVariables false
set_option linter.unusedSimpArgs false
attribute [local go_sem] run_store_float run_store_complex

theorem nodesOk_any (A : Option Addr) (cap n : Nat) (h1 : 1 ≤ n) (h2 : n ≤ 512) (w : World) : Calls Try.prog 47 #[.slice A n cap] w fun e w' => w' = w ∧ e = .returned (.bool true) := by
  have hin : ∀ w, Calls Try.prog 52 #[.int .i64 n, .int .i64 1, .int .i64 512] w fun e w' => w' = w ∧ e = .returned (.bool true) := fun w => by
    have q1 : (1 : Int) ≤ (n : Int) := by omega
    have q2 : (n : Int) ≤ 512 := by omega
    clear h1 h2
    go_enter Try.func52, Try.ntmps52
    go_wp2_with fail
    go_ret
    exact ⟨rfl, rfl⟩
  have HIN := Lib.hid hin
  clear hin
  go_enter Try.func47, Try.ntmps47
  go_wp2_with fail
  refine (HIN.out _).mono ?_
  rintro e w1 ⟨rfl, rfl⟩
  go_wp2_with fail
  go_ret
  exact ⟨rfl, rfl⟩
/-- how many nodes have no quarters -/
def endsP (L : List Nd) : Nat := (L.filter (fun n => n.nx.length == 0)).length
theorem endsP_take (L : List Nd) (k : Nat) (n : Nd) (h : L[k]? = some n) : endsP (L.take (k + 1)) = endsP (L.take k) + if n.nx.length = 0 then 1 else 0 := by
  obtain ⟨hk, hu⟩ := List.getElem?_eq_some_iff.1 h
  unfold endsP
  rw [List.take_succ_eq_append_getElem hk, List.filter_append, List.length_append, hu]
  by_cases h0 : n.nx.length = 0 <;> simp [List.filter_cons, h0]
theorem endsP_le (L : List Nd) (k : Nat) : endsP (L.take k) ≤ k := by
  unfold endsP
  refine Nat.le_trans (List.length_filter_le _ _) ?_
  rw [List.length_take]
  omega
set_option maxRecDepth 100000 in
set_option maxHeartbeats 800000 in
theorem LeavesOf_any (A : Option Addr) (cap wd : Nat) (L : List Nd) (ys : List Value) (w : World) (hA : Lies w 49 A ys) (hN : NodesAt w wd L ys) (h1 : 1 ≤ L.length) (h2 : L.length ≤ 512) :
    Calls Try.prog 19 #[.slice A L.length cap] w fun e w' => Ext w w' ∧ ∃ A' c', e = .returned (.tuple #[.slice A' (endsP L) c', .bool true]) := by
  have HA := Lib.hid hA
  have HN := Lib.hid hN
  have HL := Lib.hid h2
  obtain ⟨i1, hi1, jz0, jz1, jz2⟩ := parts_of infoI
  have hz1 : (Value.int .i64 0).cells.size = 1 := by decide
  have HOK := Lib.hid (nodesOk_any A cap L.length h1 h2)
  have HOWN := Lib.hid (show (w.alloc (.cells #[] 2)).ownsRow w.heap.size 2 1 (.slice (some ⟨w.heap.size, 0, none⟩) 0 0) 0 [] from World.ownsRow_made (base := w.heap.size) (e := 2) (size := 1) w #[] 0 (Nat.le_refl _) (by decide) rfl)
  have HE0 := Lib.hid (show Ext w (w.alloc (.cells #[] 2)) by (repeat first | with_reducible exact Ext.rfl' _ | with_reducible refine Ext.drewN ?_ _ | with_reducible refine Ext.drew' ?_ | with_reducible refine Ext.alloc' ?_ _ | with_reducible refine Ext.setCell_at ?_ _ _ _ (by first | exact Nat.le_refl _ | omega) | with_reducible assumption | refine Ext.trans ?_ (by with_reducible assumption)))
  clear hA hN h1 h2
  go_enter Try.func19, Try.ntmps19
  go_wp2_with fail
  refine (HOK.out _).mono ?_
  rintro e w1 ⟨rfl, rfl⟩
  go_wp2_with fail
  generalize w1.alloc (.cells #[] 2) = W0 at *
  go_loopw [4, 13] (fun v i wr => ∃ (k gg cq : Nat) (xs : List Value), k ≤ L.length ∧ i = .int .i64 k ∧ v = .slice (some ⟨gg, 0, none⟩) (endsP (L.take k)) cq ∧ wr.ownsRow w1.heap.size 2 1 v (endsP (L.take k)) xs ∧ Ext w1 wr) (fun _ i _ => L.length - (intOf i).toNat)
  case atStart => exact ⟨0, w1.heap.size, 0, [], Nat.zero_le _, rfl, rfl, HOWN.out, HE0.out⟩
  case round =>
    obtain ⟨k, gg, cq, xs, hk, rfl, rfl, hown, hbel⟩ := hrel
    have HOW := Lib.hid hown
    have HE := Lib.hid hbel
    clear hown hbel HOWN HE0
    have hk9 : k < 9223372036854775807 := by have := HL.out; omega
    by_cases hlt : k < L.length
    · obtain ⟨nd, hv⟩ : ∃ v, L[k]? = some v := ⟨L[k], List.getElem?_eq_getElem hlt⟩
      obtain ⟨b, o, rfl, hbw, hcc⟩ := HA.out.cell (by rw [HN.out.1]; omega)
      obtain ⟨A1, c1, A2, c2, a0, a1, a2, a3, a4, a5, a6, -, -⟩ := HN.out.2 k nd hv
      have d0 := (HE.out.cell (p := ⟨b, o + k * 7, none⟩) hbw).trans (hcc _ _ a0)
      have d1 := (HE.out.cell (p := ⟨b, o + k * 7 + 1, none⟩) hbw).trans (hcc _ _ a1)
      have d2 := (HE.out.cell (p := ⟨b, o + k * 7 + 2, none⟩) hbw).trans (hcc _ _ a2)
      have d3 := (HE.out.cell (p := ⟨b, o + k * 7 + 3, none⟩) hbw).trans (hcc _ _ a3)
      have d4 := (HE.out.cell (p := ⟨b, o + k * 7 + 4, none⟩) hbw).trans (hcc _ _ a4)
      have d5 := (HE.out.cell (p := ⟨b, o + k * 7 + 5, none⟩) hbw).trans (hcc _ _ a5)
      have d6 := (HE.out.cell (p := ⟨b, o + k * 7 + 6, none⟩) hbw).trans (hcc _ _ a6)
      have HV := Lib.hid hv
      clear hcc hv a0 a1 a2 a3 a4 a5 a6
      have HTK := Lib.hid (endsP_take L k nd HV.out)
      have HLE := Lib.hid (endsP_le L k)
      by_cases hx : nd.nx.length = 0
      · have HX := Lib.hid hx
        have hx' : ((nd.nx.length : Nat) : Int) = 0 := by omega
        clear hx
        go_wp2_with (first | (at_builtin; refine Stand.of ?_))
        refine Stand.out ?_
        refine wpList_append_lies _ rfl _ _ 43 rfl w1.heap.size 2 i1 _ 1 8 under_ints hi1 jz0 jz1 jz2 hz1 (by omega) _ _ _ rfl ((HOW.out.alloc _).alloc _) ⟨wr.heap.size + 1, 0, none⟩ 1 1 [.int .i64 k] rfl rfl (World.news_of_block (cs := #[.int .i64 k]) (t := 2) (fr := (0, 0)) (by have := heap_alloc_new (wr.alloc (.cells #[.complex .f32 (F nd.cx) (F nd.cy), .float .f32 (F (hP nd.d wd)), .int .i64 nd.d, .slice A1 nd.ws.length c1, .slice A2 nd.nx.length c2, .float .f32 (F nd.sp), .complex .f32 (F nd.mx) (F nd.my)] 49)) (.cells #[.int .i64 k] 2); rw [World.size_alloc] at this; exact this)) (by simp [Value.oneCell']) (by omega) (by have := HL.out; have := HLE.out; unfold maxLen; omega) (by have := HL.out; have := HLE.out; omega) (by have := HE.out.size; simp; omega) _ rfl ?_
        intro g2 c2 w6 hown6 hgrow hat hlt6
        have hgl := HOW.out.lt
        have HE6 := Lib.hid (Ext.grown (Ext.trans HE.out (Ext.alloc' (Ext.alloc' (Ext.rfl' wr) _) _)) hgrow (fun k hk => (hgl k hk).1))
        have HO6 := Lib.hid hown6
        clear hown6 hgrow hat hlt6 hgl d0 d1 d2 d3 d4 d5 d6
        go_wp2_with fail
        refine ⟨⟨k + 1, g2, c2, xs ++ [.int .i64 k], by omega, by go_num, ?_, ?_, HE6.out⟩, by simp [intOf]; omega⟩
        · rw [HTK.out, if_pos HX.out]
        · rw [HTK.out, if_pos HX.out]
          exact HO6.out
      · have HX := Lib.hid hx
        have hx' : ¬ ((nd.nx.length : Nat) : Int) = 0 := by omega
        clear hx
        go_wp2_with fail
        refine ⟨⟨k + 1, gg, cq, xs, by omega, by go_num, ?_, ?_, Ext.trans HE.out (by (repeat first | with_reducible exact Ext.rfl' _ | with_reducible refine Ext.drewN ?_ _ | with_reducible refine Ext.drew' ?_ | with_reducible refine Ext.alloc' ?_ _ | with_reducible refine Ext.setCell_at ?_ _ _ _ (by first | exact Nat.le_refl _ | omega) | with_reducible assumption | refine Ext.trans ?_ (by with_reducible assumption)))⟩, by simp [intOf]; omega⟩
        · rw [HTK.out, if_neg HX.out]; rfl
        · rw [HTK.out, if_neg HX.out]
          exact HOW.out.alloc _
    · have hkn : k = L.length := by omega
      subst hkn
      rw [List.take_length]
      go_wp2_with fail
      go_ret2
      exact ⟨HE.out, _, _, rfl⟩
set_option maxRecDepth 100000 in
set_option maxHeartbeats 800000 in
theorem DepthOf_any (A : Option Addr) (cap wd : Nat) (L : List Nd) (ys : List Value) (w : World) (hA : Lies w 49 A ys) (hN : NodesAt w wd L ys) (h1 : 1 ≤ L.length) (h2 : L.length ≤ 512) (hd : ∀ nd ∈ L, nd.d ≤ 6) :
    Calls Try.prog 20 #[.slice A L.length cap] w fun e w' => Ext w w' ∧ ∃ m : Nat, e = .returned (.tuple #[.int .i64 m, .bool true]) ∧ m ≤ 6 ∧ ∀ nd ∈ L, nd.d ≤ m := by
  have HA := Lib.hid hA
  have HN := Lib.hid hN
  have HL := Lib.hid h2
  have HD := Lib.hid hd
  have HOK := Lib.hid (nodesOk_any A cap L.length h1 h2)
  obtain ⟨n0, hv0⟩ : ∃ v, L[0]? = some v := ⟨L[0], List.getElem?_eq_getElem h1⟩
  have hlt0 : 0 < L.length := h1
  obtain ⟨b, o, rfl, hbw, hcc⟩ := HA.out.cell (by rw [HN.out.1]; omega)
  obtain ⟨A1, c1, A2, c2, -, -, a2, -⟩ := HN.out.2 0 n0 hv0
  have d0 : w.cell? ⟨b, o + 2, none⟩ = some (.int .i64 n0.d) := hcc _ _ a2
  have hd6 := hd n0 (List.mem_of_getElem? hv0)
  have HCC := Lib.hid hcc
  clear hA hN h1 h2 hcc a2 hd
  go_enter Try.func20, Try.ntmps20
  go_wp2_with fail
  refine (HOK.out _).mono ?_
  rintro e w1 ⟨rfl, rfl⟩
  go_wp2_with fail
  go_loopw [4, 16] (fun v i wr => ∃ (k m : Nat), k ≤ L.length ∧ i = .int .i64 k ∧ v = .int .i64 m ∧ m ≤ 6 ∧ (∀ nd ∈ L.take k, nd.d ≤ m) ∧ Ext w1 wr) (fun _ i _ => L.length - (intOf i).toNat)
  case atStart => exact ⟨0, n0.d, Nat.zero_le _, rfl, rfl, hd6, (fun nd h => by simp at h), Ext.rfl' _⟩
  case round =>
    clear d0
    obtain ⟨k, m, hk, rfl, rfl, hm6, hall, hbel⟩ := hrel
    have HALL := Lib.hid hall
    have HE := Lib.hid hbel
    clear hall hbel
    have hk9 : k < 9223372036854775807 := by have := HL.out; omega
    by_cases hlt : k < L.length
    · obtain ⟨nd, hv⟩ : ∃ v, L[k]? = some v := ⟨L[k], List.getElem?_eq_getElem hlt⟩
      have hcc := HCC.out
      obtain ⟨A1, c1, A2, c2, a0, a1, a2, a3, a4, a5, a6, -, -⟩ := HN.out.2 k nd hv
      have d0 := (HE.out.cell (p := ⟨b, o + k * 7, none⟩) hbw).trans (hcc _ _ a0)
      have d1 := (HE.out.cell (p := ⟨b, o + k * 7 + 1, none⟩) hbw).trans (hcc _ _ a1)
      have d2 := (HE.out.cell (p := ⟨b, o + k * 7 + 2, none⟩) hbw).trans (hcc _ _ a2)
      have d3 := (HE.out.cell (p := ⟨b, o + k * 7 + 3, none⟩) hbw).trans (hcc _ _ a3)
      have d4 := (HE.out.cell (p := ⟨b, o + k * 7 + 4, none⟩) hbw).trans (hcc _ _ a4)
      have d5 := (HE.out.cell (p := ⟨b, o + k * 7 + 5, none⟩) hbw).trans (hcc _ _ a5)
      have d6 := (HE.out.cell (p := ⟨b, o + k * 7 + 6, none⟩) hbw).trans (hcc _ _ a6)
      have HV := Lib.hid hv
      clear hcc hv a0 a1 a2 a3 a4 a5 a6
      have HTK := Lib.hid (show L.take (k + 1) = L.take k ++ [nd] from by
        obtain ⟨hk', hu⟩ := List.getElem?_eq_some_iff.1 HV.out
        rw [List.take_succ_eq_append_getElem hk', hu])
      have hd6' := HD.out nd (List.mem_of_getElem? HV.out)
      by_cases hx : m < nd.d
      · have hx' : (m : Int) < (nd.d : Int) := by omega
        go_wp2_with fail
        refine ⟨⟨k + 1, nd.d, by omega, by go_num, rfl, hd6', ?_, Ext.trans HE.out (by (repeat first | with_reducible exact Ext.rfl' _ | with_reducible refine Ext.drewN ?_ _ | with_reducible refine Ext.drew' ?_ | with_reducible refine Ext.alloc' ?_ _ | with_reducible refine Ext.setCell_at ?_ _ _ _ (by first | exact Nat.le_refl _ | omega) | with_reducible assumption | refine Ext.trans ?_ (by with_reducible assumption)))⟩, by simp [intOf]; omega⟩
        rw [HTK.out]
        intro n' hn'
        rcases List.mem_append.1 hn' with h | h
        · have := HALL.out n' h; omega
        · rw [List.mem_singleton] at h; subst h; exact Nat.le_refl _
      · have hx' : ¬ (m : Int) < (nd.d : Int) := by omega
        go_wp2_with fail
        refine ⟨⟨k + 1, m, by omega, by go_num, rfl, hm6, ?_, Ext.trans HE.out (by (repeat first | with_reducible exact Ext.rfl' _ | with_reducible refine Ext.drewN ?_ _ | with_reducible refine Ext.drew' ?_ | with_reducible refine Ext.alloc' ?_ _ | with_reducible refine Ext.setCell_at ?_ _ _ _ (by first | exact Nat.le_refl _ | omega) | with_reducible assumption | refine Ext.trans ?_ (by with_reducible assumption)))⟩, by simp [intOf]; omega⟩
        rw [HTK.out]
        intro n' hn'
        rcases List.mem_append.1 hn' with h | h
        · exact HALL.out n' h
        · rw [List.mem_singleton] at h; subst h; omega
    · have hkn : k = L.length := by omega
      subst hkn
      go_wp2_with fail
      go_ret2
      exact ⟨HE.out, m, rfl, hm6, fun nd h => HALL.out nd (by rw [List.take_length]; exact h)⟩
end Go.Proofs.Ytfehhbmmdbpdpaa
/- Walks: what bytes choose. -/
namespace Go.Proofs.Ytfehhbmmdbpdpaa
open Go Go.RowKit
set_option linter.unusedVariables false
set_option linter.unusedSimpArgs false
attribute [local go_sem] run_store_float run_store_complex

/-- bytes, as they lie in memory -/
def Bytes (w : World) (A : Option Addr) (n : Nat) : Prop := 0 < n → ∃ b o, A = some ⟨b, o, none⟩ ∧ b < w.heap.size ∧ ∀ i, i < n → ∃ x : Nat, x < 256 ∧ w.cell? ⟨b, o + i, none⟩ = some (.int .u8 x)
theorem Bytes.ext {w w' : World} {A : Option Addr} {n : Nat} (h : Bytes w A n) (he : Ext w w') : Bytes w' A n := fun hp => by
  obtain ⟨b, o, h1, h2, h3⟩ := h hp
  exact ⟨b, o, h1, Nat.lt_of_lt_of_le h2 he.size, fun i hi => by
    obtain ⟨x, hx, hc⟩ := h3 i hi
    exact ⟨x, hx, (he.cell (p := ⟨b, o + i, none⟩) h2).trans hc⟩⟩
theorem b10Long_any (A1 A2 : Option Addr) (n1 n2 c1 c2 : Nat) (w : World) : Calls Try.prog 6 #[.slice A1 n1 c1, .slice A2 n2 c2] w fun e w' => w' = w ∧ e = .returned (.bool (decide (1048576 < n1 ∨ 1048576 < n2))) := by
  by_cases h1 : (1048576 : Int) < n1
  · have hd : decide (1048576 < n1 ∨ 1048576 < n2) = true := decide_eq_true (by omega)
    rw [hd]
    clear hd
    go_enter Try.func6, Try.ntmps6
    go_wp2_with fail
    go_ret
    exact ⟨rfl, rfl⟩
  · by_cases h2 : (1048576 : Int) < n2
    · have hd : decide (1048576 < n1 ∨ 1048576 < n2) = true := decide_eq_true (by omega)
      rw [hd]
      clear hd
      go_enter Try.func6, Try.ntmps6
      go_wp2_with fail
      go_ret
      exact ⟨rfl, rfl⟩
    · have hd : decide (1048576 < n1 ∨ 1048576 < n2) = false := decide_eq_false (by omega)
      rw [hd]
      clear hd
      go_enter Try.func6, Try.ntmps6
      go_wp2_with fail
      go_ret
      exact ⟨rfl, rfl⟩
/-- the source of choices, in a box -/
def Src (w : World) (k : Nat) (A : Option Addr) (n cap at_ : Nat) : Prop := ∃ s : Int, Blk w k 100 #[.slice A n cap, .int .i64 at_, .int .u64 s]
/-- one block is changed, no other -/
structure Sr (w w' : World) (k : Nat) : Prop where
  os : w'.os = w.os
  tape : w'.tape = w.tape
  output : w'.output = w.output
  size : w'.heap.size = w.heap.size
  block : ∀ j, j ≠ k → w'.heap[j]? = w.heap[j]?
theorem Sr.rfl' (w : World) (k : Nat) : Sr w w k := ⟨rfl, rfl, rfl, rfl, fun _ _ => rfl⟩
theorem Sr.drewN {w w' : World} {k : Nat} (h : Sr w w' k) (n : Nat) : Sr w (w'.drewN n) k := ⟨h.os, h.tape, h.output, h.size, h.block⟩
theorem Sr.set {w w' : World} {k : Nat} (h : Sr w w' k) (i : Nat) (u : Value) : Sr w (w'.setCell ⟨k, i, none⟩ u) k :=
  ⟨h.os, h.tape, h.output, by simp [h.size], fun j hj => (heap_setCell_other w' ⟨k, i, none⟩ j u (fun e => hj (by simpa using e))).trans (h.block j hj)⟩
theorem Sr.trans {a b c : World} {k : Nat} (h : Sr a b k) (g : Sr b c k) : Sr a c k := ⟨g.os.trans h.os, g.tape.trans h.tape, g.output.trans h.output, g.size.trans h.size, fun j hj => (g.block j hj).trans (h.block j hj)⟩
theorem Sr.ext {w0 w w' : World} {k : Nat} (h : Sr w w' k) (he : Ext w0 w) (hk : w0.heap.size ≤ k) : Ext w0 w' :=
  ⟨h.os.trans he.os, h.tape.trans he.tape, h.output.trans he.output, by rw [h.size]; exact he.size, fun j hj => (h.block j (by omega)).trans (he.block j hj)⟩
theorem byte_of (s : Int) : ∃ x : Nat, x < 256 ∧ wrap64 (bits .and .u64 s 255) = x := by
  have h : (BitVec.ofInt 64 s &&& BitVec.ofInt 64 255).toNat < 256 := by
    rw [BitVec.toNat_and]
    exact Nat.lt_of_le_of_lt Nat.and_le_right (by decide)
  refine ⟨_, h, ?_⟩
  show wrap64 (IntKind.u64.wrap (((BitVec.ofInt 64 s &&& BitVec.ofInt 64 255).toNat : Nat) : Int)) = _
  generalize (BitVec.ofInt 64 s &&& BitVec.ofInt 64 255).toNat = m at *
  have hw : IntKind.u64.wrap (m : Int) = m := by
    show (m : Int) % 18446744073709551616 = m
    omega
  rw [hw]
  unfold wrap64
  omega
theorem next_any (k : Nat) (A : Option Addr) (n cap at_ : Nat) (w : World) (hs : Src w k A n cap at_) (hb : Bytes w A n) (ha : at_ ≤ 1000000) (hn : n ≤ 1048576) :
    Calls Try.prog 81 #[.pointer (some ⟨k, 0, none⟩)] w fun e w' => ∃ x : Nat, e = .returned (.int .i64 x) ∧ x < 256 ∧ Src w' k A n cap (at_ + 1) ∧ Sr w w' k := by
  obtain ⟨s, hblk⟩ := hs
  have d0 : w.cell? ⟨k, 0, none⟩ = some (.slice A n cap) := hblk.cell 0
  have d1 : w.cell? ⟨k, 1, none⟩ = some (.int .i64 at_) := hblk.cell 1
  have d2 : w.cell? ⟨k, 2, none⟩ = some (.int .u64 s) := hblk.cell 2
  have f1 : w.frozen? ⟨k, 1, none⟩ = false := hblk.frozen 1
  have f2 : w.frozen? ⟨k, 2, none⟩ = false := hblk.frozen 2
  have HBLK := Lib.hid hblk
  have HB := Lib.hid hb
  have hw1 : IntKind.i64.wrap ((at_ : Int) + 1) = at_ + 1 := IntWalk.i64_in _ (by omega)
  clear hblk hb
  by_cases hlt : (at_ : Int) < n
  · obtain ⟨b, o, rfl, hbw, hcc⟩ := HB.out (by omega)
    obtain ⟨x, hx, dx⟩ := hcc at_ (by omega)
    have hwx : IntKind.i64.wrap (x : Int) = x := IntWalk.i64_in _ (by omega)
    clear hcc
    go_enter Try.func81, Try.ntmps81
    go_wp2_with fail
    go_quiet (fail)
    go_wp2_with fail
    go_quiet (fail)
    go_wp2_with fail
    go_quiet (fail)
    go_wp2_with fail
    go_ret
    refine ⟨x, rfl, hx, ⟨_, ((HBLK.out.set_ 1 _).set_ 2 _)⟩, ?_⟩
    exact Sr.drewN (Sr.set (Sr.set (Sr.drewN (Sr.rfl' w k) _) _ _) _ _) _
  · have hle : ¬ (at_ : Int) + 1 ≤ n := by omega
    go_enter Try.func81, Try.ntmps81
    go_wp2_with fail
    go_quiet (fail)
    go_wp2_with fail
    go_quiet (fail)
    go_wp2_with fail
    go_ret
    obtain ⟨x, hx, hxw⟩ := byte_of (IntKind.u64.wrap (IntKind.u64.wrap (IntKind.u64.wrap (s * 6364136223846793005)) + 1442695040888963407) / 1099511627776)
    refine ⟨x, congrArg (fun z => Ending.returned (.int .i64 z)) hxw, hx, ⟨_, ((HBLK.out.set_ 1 _).set_ 2 _)⟩, ?_⟩
    exact Sr.drewN (Sr.set (Sr.set (Sr.drewN (Sr.rfl' w k) _) _ _) _ _) _
theorem pick_any (m k : Nat) (A : Option Addr) (n cap at_ : Nat) (w : World) (hm : 1 < m) (hm2 : m ≤ 200) (hs : Src w k A n cap at_) (hb : Bytes w A n) (ha : at_ ≤ 1000000) (hn : n ≤ 1048576) :
    Calls Try.prog 42 #[.pointer (some ⟨k, 0, none⟩), .int .i64 m] w fun e w' => ∃ x : Nat, e = .returned (.int .i64 x) ∧ x < m ∧ Src w' k A n cap (at_ + 1) ∧ Sr w w' k := by
  have h1 : ¬ (m : Int) ≤ 1 := by omega
  have h2 : ¬ (m : Int) > 200 := by omega
  have h3 : (m : Int) ≠ 0 := by omega
  have HM := Lib.hid hm
  have HM2 := Lib.hid hm2
  clear hm hm2
  go_enter Try.func42, Try.ntmps42
  go_wp2_with fail
  refine (next_any k A n cap at_ _ hs hb ha hn).mono ?_
  rintro e w1 ⟨x, rfl, hx, hs1, hsr⟩
  have hr : (x : Int).tmod m = ((x % m : Nat) : Int) := by rw [Int.tmod_eq_emod_of_nonneg (by omega)]; rfl
  have hw : IntKind.i64.wrap ((x % m : Nat) : Int) = ((x % m : Nat) : Int) := IntWalk.i64_in _ (by have := Nat.mod_lt x (show 0 < m by have := HM.out; omega); have := HM2.out; omega)
  have HS := Lib.hid hs1
  have HR := Lib.hid hsr
  have HX := Lib.hid hx
  clear hs1 hsr hx
  go_wp2_with fail
  go_ret
  exact ⟨x % m, rfl, Nat.mod_lt _ (by have := HM.out; omega), HS.out, HR.out⟩
end Go.Proofs.Ytfehhbmmdbpdpaa
/- Walks: the whirls that bytes choose. -/
namespace Go.Proofs.Ytfehhbmmdbpdpaa
open Go Go.RowKit
set_option linter.unusedVariables false
set_option linter.unusedSimpArgs false
attribute [local go_sem] run_store_float run_store_complex

theorem quarter_tab : (List.range 33).all (fun x => floatBits .quo .f32 (floatOfInt .f32 ((x : Int) - 16)) 1082130432 == some (F (256 * ((x : Int) - 16)))) = true := by kernel_rfl
theorem half_tab : (List.range 9).all (fun x => floatBits .quo .f32 (floatOfInt .f32 ((x : Int) - 4)) 1073741824 == some (F (512 * ((x : Int) - 4)))) = true := by kernel_rfl
theorem quarter_of {x : Nat} (h : x < 33) : floatBits .quo .f32 (floatOfInt .f32 ((x : Int) - 16)) 1082130432 = some (F (256 * ((x : Int) - 16))) := eq_of_beq (List.all_eq_true.1 quarter_tab x (List.mem_range.2 h))
theorem half_of {x : Nat} (h : x < 9) : floatBits .quo .f32 (floatOfInt .f32 ((x : Int) - 4)) 1073741824 = some (F (512 * ((x : Int) - 4))) := eq_of_beq (List.all_eq_true.1 half_tab x (List.mem_range.2 h))
theorem Src.ext {w w' : World} {k n cap at_ : Nat} {A : Option Addr} (h : Src w k A n cap at_) (he : Ext w w') : Src w' k A n cap at_ := h.elim fun s hb => ⟨s, hb.ext he⟩
theorem Src.lt {w : World} {k n cap at_ : Nat} {A : Option Addr} (h : Src w k A n cap at_) : k < w.heap.size := h.elim fun s hb => hb.lt
theorem Src.grown {w w' : World} {k n cap at_ : Nat} {A : Option Addr} {row : Option Nat} (h : Src w k A n cap at_) (hg : w.grownBy w' row) (hne : some k ≠ row) : Src w' k A n cap at_ := h.elim fun s hb => ⟨s, (hg.block k hb.lt hne).trans hb⟩
theorem Sr.owns {w w' : World} {k B size n : Nat} {e : TypeId} {v : Value} {xs : List Value} (h : Sr w w' k) (ho : w.ownsRow B e size v n xs) (hk : k < B) : w'.ownsRow B e size v n xs :=
  ho.kept (row := some k) ⟨h.os, h.tape, h.output, by rw [h.size]; exact Nat.le_refl _, fun j _ hj => h.block j (fun e => hj (by rw [e]))⟩ (.inr fun e => by
    have := (ho.lt k e).1
    omega)
theorem Sr.blk {w w' : World} {k g : Nat} {t : TypeId} {cs : Array Value} (h : Sr w w' k) (hb : Blk w g t cs) (hg : g ≠ k) : Blk w' g t cs := (h.block g hg).trans hb
set_option maxRecDepth 100000 in
theorem l00From_any (A : Option Addr) (n cap : Nat) (w : World) : Calls Try.prog 34 #[.slice A n cap] w fun e w' => e = .returned (.pointer (some ⟨w.heap.size, 0, none⟩)) ∧ Src w' w.heap.size A n cap 0 ∧ Ext w w' ∧ w'.heap.size = w.heap.size + 1 := by
  go_enter Try.func34, Try.ntmps34
  go_wp2_with fail
  go_ret
  exact ⟨rfl, ⟨0, Blk.new w _ _⟩, by (repeat first | with_reducible exact Ext.rfl' _ | with_reducible refine Ext.drewN ?_ _ | with_reducible refine Ext.drew' ?_ | with_reducible refine Ext.alloc' ?_ _ | with_reducible refine Ext.setCell_at ?_ _ _ _ (by first | exact Nat.le_refl _ | omega) | with_reducible assumption | refine Ext.trans ?_ (by with_reducible assumption)), by simp⟩
theorem Src.set_other {w : World} {k n cap at_ g i : Nat} {A : Option Addr} {u : Value} (h : Src w k A n cap at_) (hg : g ≠ k) : Src (w.setCell ⟨g, i, none⟩ u) k A n cap at_ := h.elim fun s hb => ⟨s, (heap_setCell_other w ⟨g, i, none⟩ k u (fun e => hg (by simpa using e.symm))).trans hb⟩
theorem owns_set_other {w : World} {B size n g i gg cap : Nat} {e : TypeId} {xs : List Value} {u : Value} (h : w.ownsRow B e size (.slice (some ⟨gg, 0, none⟩) n cap) n xs) (hg : gg ≠ g) : (w.setCell ⟨g, i, none⟩ u).ownsRow B e size (.slice (some ⟨gg, 0, none⟩) n cap) n xs :=
  h.kept (row := some g) (only_setCell (g := g) (p := ⟨g, i, none⟩) (only_refl _ _) rfl _) (.inr (by simp [Value.ownBlock]; exact hg))
set_option maxRecDepth 100000 in
set_option maxHeartbeats 1600000 in
theorem B10Many_any (A : Option Addr) (n cap : Nat) (w : World) (hb : Bytes w A n) (hn : n ≤ 1048576) :
    Calls Try.prog 17 #[.slice A n cap] w fun e w' => Ext w w' ∧ ∃ (ps : List Wh) (r c : Nat), e = .returned (.slice (some ⟨r, 0, none⟩) ps.length c) ∧ OkPs ps ∧ 0 < ps.length ∧ Lies w' 51 (some ⟨r, 0, none⟩) (whVals ps) := by
  have HB := Lib.hid hb
  have HN := Lib.hid hn
  obtain ⟨i1, hi1, jz0, jz1, jz2⟩ := parts_of infoW
  have hz1 : (Value.agg #[.complex .f32 0 0, .float .f32 0]).cells.size = 2 := by decide
  clear hb hn
  go_enter Try.func17, Try.ntmps17
  go_wp2_with fail
  refine (l00From_any A n cap w).mono ?_
  rintro e w1 ⟨rfl, hs, he, hsz⟩
  have HS1 := Lib.hid hs
  have HE1 := Lib.hid he
  have HZ1 := Lib.hid hsz
  clear hs he hsz
  go_wp2_with fail
  have HE2 := Lib.hid (Ext.trans HE1.out (show Ext w1 (w1.alloc (.cells #[] 51)) by (repeat first | with_reducible exact Ext.rfl' _ | with_reducible refine Ext.drewN ?_ _ | with_reducible refine Ext.drew' ?_ | with_reducible refine Ext.alloc' ?_ _ | with_reducible refine Ext.setCell_at ?_ _ _ _ (by first | exact Nat.le_refl _ | omega) | with_reducible assumption | refine Ext.trans ?_ (by with_reducible assumption))))
  have HS2 := Lib.hid (HS1.out.ext (show Ext w1 (w1.alloc (.cells #[] 51)) by (repeat first | with_reducible exact Ext.rfl' _ | with_reducible refine Ext.drewN ?_ _ | with_reducible refine Ext.drew' ?_ | with_reducible refine Ext.alloc' ?_ _ | with_reducible refine Ext.setCell_at ?_ _ _ _ (by first | exact Nat.le_refl _ | omega) | with_reducible assumption | refine Ext.trans ?_ (by with_reducible assumption))))
  have HOWN := Lib.hid (show (w1.alloc (.cells #[] 51)).ownsRow w1.heap.size 51 2 (.slice (some ⟨w1.heap.size, 0, none⟩) 0 0) 0 [] from World.ownsRow_made (base := w1.heap.size) (e := 51) (size := 2) w1 #[] 0 (Nat.le_refl _) (by decide) rfl)
  have HKB := Lib.hid (show w.heap.size < w1.heap.size by have := HZ1.out; omega)
  have HSB := Lib.hid (show w1.heap.size ≤ (w1.alloc (.cells #[] 51)).heap.size by simp)
  generalize w1.alloc (.cells #[] 51) = W2 at *
  refine (pick_any 12 w.heap.size A n cap 0 W2 (by decide) (by decide) HS2.out (HB.out.ext HE2.out) (by decide) HN.out).mono ?_
  rintro e w3 ⟨x, rfl, hx, hs, hsr⟩
  have HE3 := Lib.hid (hsr.ext HE2.out (Nat.le_refl _))
  have HS3 := Lib.hid hs
  have HO3 := Lib.hid (hsr.owns HOWN.out HKB.out)
  have HSB3 := Lib.hid (show w1.heap.size ≤ w3.heap.size by have := HSB.out; have := hsr.size; omega)
  have hw1 : IntKind.i64.wrap (1 + (x : Int)) = ((x + 1 : Nat) : Int) := by rw [IntWalk.i64_in _ (by omega)]; omega
  clear hs hsr HE2 HS2 HOWN HE1 HS1 HSB HZ1
  go_wp2_with fail
  go_loopw [4, 5] (fun v i wr => ∃ (r at_ gg cq : Nat) (us : List Wh), us.length + r = x + 1 ∧ i = .int .i64 r ∧ v = .slice (some ⟨gg, 0, none⟩) us.length cq ∧ (∀ u ∈ us, OkW u) ∧ wr.ownsRow w1.heap.size 51 2 v us.length (whVals us) ∧ Src wr w.heap.size A n cap at_ ∧ at_ ≤ 1 + 3 * us.length ∧ w1.heap.size ≤ wr.heap.size ∧ Ext w wr) (fun _ i _ => (intOf i).toNat)
  case atStart => exact ⟨x + 1, 1, w1.heap.size, 0, [], by simp, rfl, rfl, (by simp), HO3.out, HS3.out, by simp, HSB3.out, HE3.out⟩
  case round =>
    obtain ⟨r, at_, gg, cq, us, hlen, rfl, rfl, hok, hown, hs, hat_, hsb, hbel⟩ := hrel
    have HOK := Lib.hid hok
    have HOW := Lib.hid hown
    have HS := Lib.hid hs
    have HSB := Lib.hid hsb
    have HE := Lib.hid hbel
    have HLEN := Lib.hid hlen
    have HAT := Lib.hid hat_
    clear hok hown hs hsb hbel hlen hat_ HO3 HS3 HSB3 HE3
    by_cases hlt : (r : Int) > 0
    · go_wp2_with fail
      refine (pick_any 33 w.heap.size A n cap at_ _ (by decide) (by decide) HS.out (HB.out.ext HE.out) (by have := HLEN.out; have := HAT.out; omega) HN.out).mono ?_
      rintro e w4 ⟨x1, rfl, hx1, hs, hsr⟩
      have HS4 := Lib.hid hs
      have HE4 := Lib.hid (hsr.ext HE.out (Nat.le_refl _))
      have HO4 := Lib.hid (hsr.owns HOW.out HKB.out)
      have HSB4 := Lib.hid (show w1.heap.size ≤ w4.heap.size by have := HSB.out; have := hsr.size; omega)
      have hw4 : IntKind.i64.wrap ((x1 : Int) - 16) = (x1 : Int) - 16 := IntWalk.i64_in _ (by omega)
      have q1 := quarter_of hx1
      clear hs hsr HS HOW HE HSB
      go_wp2_with (first | (refine wpList_floatD rfl .quo _ _ _ _ rfl (by simp) _ _ _ rfl rfl _ q1 ?_))
      refine (pick_any 33 w.heap.size A n cap (at_ + 1) _ (by decide) (by decide) HS4.out (HB.out.ext HE4.out) (by have := HLEN.out; have := HAT.out; omega) HN.out).mono ?_
      rintro e w5 ⟨x2, rfl, hx2, hs, hsr⟩
      have HS5 := Lib.hid hs
      have HE5 := Lib.hid (hsr.ext HE4.out (Nat.le_refl _))
      have HO5 := Lib.hid (hsr.owns HO4.out HKB.out)
      have HSB5 := Lib.hid (show w1.heap.size ≤ w5.heap.size by have := HSB4.out; have := hsr.size; omega)
      have hw5 : IntKind.i64.wrap ((x2 : Int) - 16) = (x2 : Int) - 16 := IntWalk.i64_in _ (by omega)
      have q2 := quarter_of hx2
      clear hs hsr HS4 HO4 HE4 HSB4
      go_wp2_with (first | (refine wpList_floatD rfl .quo _ _ _ _ rfl (by simp) _ _ _ rfl rfl _ q2 ?_))
      have HGL := Lib.hid (HO5.out.lt gg rfl)
      have HG := Lib.hid (show w5.heap.size ≠ w.heap.size from fun e => by have := HSB5.out; have := HKB.out; omega)
      have HSG := Lib.hid (show w1.heap.size ≤ w5.heap.size from HSB5.out)
      have HNB := Lib.hid (Blk.new w5 51 #[.complex .f32 (F (256 * ((x1 : Int) - 16))) (F (256 * ((x2 : Int) - 16))), .float .f32 0])
      have HE6 := Lib.hid (Ext.trans HE5.out (show Ext w5 (w5.alloc (.cells #[.complex .f32 (F (256 * ((x1 : Int) - 16))) (F (256 * ((x2 : Int) - 16))), .float .f32 0] 51)) by (repeat first | with_reducible exact Ext.rfl' _ | with_reducible refine Ext.drewN ?_ _ | with_reducible refine Ext.drew' ?_ | with_reducible refine Ext.alloc' ?_ _ | with_reducible refine Ext.setCell_at ?_ _ _ _ (by first | exact Nat.le_refl _ | omega) | with_reducible assumption | refine Ext.trans ?_ (by with_reducible assumption))))
      have HS6 := Lib.hid (HS5.out.ext (show Ext w5 (w5.alloc (.cells #[.complex .f32 (F (256 * ((x1 : Int) - 16))) (F (256 * ((x2 : Int) - 16))), .float .f32 0] 51)) by (repeat first | with_reducible exact Ext.rfl' _ | with_reducible refine Ext.drewN ?_ _ | with_reducible refine Ext.drew' ?_ | with_reducible refine Ext.alloc' ?_ _ | with_reducible refine Ext.setCell_at ?_ _ _ _ (by first | exact Nat.le_refl _ | omega) | with_reducible assumption | refine Ext.trans ?_ (by with_reducible assumption))))
      have HO6 := Lib.hid (HO5.out.alloc (.cells #[.complex .f32 (F (256 * ((x1 : Int) - 16))) (F (256 * ((x2 : Int) - 16))), .float .f32 0] 51))
      have HSB6 := Lib.hid (show (w5.alloc (.cells #[.complex .f32 (F (256 * ((x1 : Int) - 16))) (F (256 * ((x2 : Int) - 16))), .float .f32 0] 51)).heap.size = w5.heap.size + 1 by simp)
      generalize w5.alloc (.cells #[.complex .f32 (F (256 * ((x1 : Int) - 16))) (F (256 * ((x2 : Int) - 16))), .float .f32 0] 51) = W6 at *
      refine (pick_any 9 w.heap.size A n cap (at_ + 1 + 1) _ (by decide) (by decide) HS6.out (HB.out.ext HE6.out) (by have := HLEN.out; have := HAT.out; omega) HN.out).mono ?_
      rintro e w7 ⟨x3, rfl, hx3, hs, hsr⟩
      have HS7 := Lib.hid hs
      have HE7 := Lib.hid (hsr.ext HE6.out (Nat.le_refl _))
      have HO7 := Lib.hid (hsr.owns HO6.out HKB.out)
      have HSZ7 := Lib.hid (show w7.heap.size = w5.heap.size + 1 by have := HSB6.out; have := hsr.size; omega)
      have HB7 := Lib.hid (hsr.blk HNB.out HG.out)
      have d0 : w7.cell? ⟨w5.heap.size, 0, none⟩ = some (.complex .f32 (F (256 * ((x1 : Int) - 16))) (F (256 * ((x2 : Int) - 16)))) := HB7.out.cell 0
      have d1 : w7.cell? ⟨w5.heap.size, 1, none⟩ = some (.float .f32 0) := HB7.out.cell 1
      have f1 : w7.frozen? ⟨w5.heap.size, 1, none⟩ = false := HB7.out.frozen 1
      have f0 : w7.frozen? ⟨w5.heap.size, 0, none⟩ = false := HB7.out.frozen 0
      have hw7 : IntKind.i64.wrap ((x3 : Int) - 4) = (x3 : Int) - 4 := IntWalk.i64_in _ (by omega)
      have q3 := half_of hx3
      clear hs hsr HS6 HO6 HE6 HSB6 HNB HS5 HE5 HO5 HSB5
      go_wp2_with (first | (refine wpList_floatD rfl .quo _ _ _ _ rfl (by simp) _ _ _ rfl rfl _ q3 ?_) | (at_builtin; refine Stand.of ?_))
      refine Stand.out ?_
      refine wpList_append_lies _ rfl _ _ 38 rfl w1.heap.size 51 i1 _ 2 12 under_whirls hi1 jz0 jz1 jz2 hz1 (by omega) (.slice (some ⟨gg, 0, none⟩) us.length cq) us.length _ rfl ((owns_set_other HO7.out (by have := HGL.out; omega)).alloc _) ⟨w7.heap.size, 0, none⟩ 1 1 (whVal (256 * ((x1 : Int) - 16), 256 * ((x2 : Int) - 16), 512 * ((x3 : Int) - 4))) rfl rfl (World.news_of_block (cs := (whVal (256 * ((x1 : Int) - 16), 256 * ((x2 : Int) - 16), 512 * ((x3 : Int) - 4))).toArray) (t := 51) (fr := (0, 0)) (by have := heap_alloc_new (w7.setCell ⟨w5.heap.size, 1, none⟩ (.float .f32 (F (512 * ((x3 : Int) - 4))))) (.cells (whVal (256 * ((x1 : Int) - 16), 256 * ((x2 : Int) - 16), 512 * ((x3 : Int) - 4))).toArray 51); rw [World.size_setCell] at this; exact this)) (by simp [whVal, Value.oneCell']) (by omega) (by have := HLEN.out; unfold maxLen; omega) (by have := HLEN.out; omega) (by have := HSZ7.out; have := HSG.out; simp; omega) _ rfl ?_
      intro g2 c2 w8 hown8 hgrow hat8 hlt8
      have hgl := HGL.out
      have HE8 := Lib.hid (Ext.grown (Ext.alloc' (Ext.setCell_at HE7.out w5.heap.size 1 _ (by have := HKB.out; have := HSG.out; omega)) _) hgrow (fun k hk => by have e2 : gg = k := Option.some.inj hk; have := HKB.out; omega))
      have HSB8 := Lib.hid (show w1.heap.size ≤ w8.heap.size by have h1 := hgrow.size; have := HSZ7.out; have := HSG.out; simp at h1; omega)
      have HS8 := Lib.hid (((HS7.out.set_other (u := .float .f32 (F (512 * ((x3 : Int) - 4)))) (i := 1) HG.out).ext (show Ext _ (World.alloc _ (.cells (whVal (256 * ((x1 : Int) - 16), 256 * ((x2 : Int) - 16), 512 * ((x3 : Int) - 4))).toArray 51)) from Ext.alloc' (Ext.rfl' _) _)).grown hgrow (fun e => by have e2 : w.heap.size = gg := Option.some.inj e; have := HKB.out; omega))
      have HO8 := Lib.hid hown8
      clear hown8 hgrow hat8 hlt8 hgl d0 d1 f0 f1
      have hwr : IntKind.i64.wrap ((r : Int) - 1) = ((r - 1 : Nat) : Int) := by rw [IntWalk.i64_in _ (by have := HLEN.out; omega)]; omega
      go_wp2_with fail
      refine ⟨⟨r - 1, at_ + 1 + 1 + 1, g2, c2, us ++ [(256 * ((x1 : Int) - 16), 256 * ((x2 : Int) - 16), 512 * ((x3 : Int) - 4))], ?_, rfl, ?_, ?_, ?_, HS8.out, ?_, ?_, HE8.out⟩, by simp [intOf]; omega⟩
      · have := HLEN.out
        simp
        omega
      · simp
      · intro u hu
        rcases List.mem_append.1 hu with h | h
        · exact HOK.out u h
        · rw [List.mem_singleton] at h
          exact ⟨x1 - 16, x2 - 16, x3 - 4, h, by omega, by omega, by omega, by omega, by omega, by omega⟩
      · have := HO8.out
        rw [whVals_append, List.length_append]
        exact this
      · have := HAT.out
        simp
        omega
      · exact HSB8.out
    · have hr0 : r = 0 := by omega
      subst hr0
      go_wp2_with fail
      go_ret
      exact ⟨HE.out, us, gg, ⟨cq, rfl⟩, ⟨by have := HLEN.out; omega, HOK.out⟩, by have := HLEN.out; omega, (lies_of_owns HOW.out).1⟩
end Go.Proofs.Ytfehhbmmdbpdpaa
/- What the law on trees asks, in plain Lean; and the steps of its walk at floats. -/
namespace Go.Proofs.Ytfehhbmmdbpdpaa
open Go Go.RowKit
set_option linter.unusedVariables false
set_option linter.unusedSimpArgs false

theorem run_wideF (k : Int) (h : k.natAbs < 16777216) (w : World) : (convert 34 52 (.float .f32 (F k))).run Try.prog w = .ok (.float .f64 (G k)) w := by
  obtain ⟨a, ha⟩ := F_dec .f32 k h
  have hg := F_wide k h
  have hu : Try.prog.underlying 34 = some (.float .f32) := by kernel_rfl
  have hd : Try.prog.underlying 52 = some (.float .f64) := by kernel_rfl
  have hc : (convert 34 52 (.float .f32 (F k))).run Try.prog w = (Conv.floatToFloat .f32 (F k) .f64).run Try.prog w := by
    simp [convert, run_underlying hu, run_underlying hd]
  rw [hc]
  unfold fconv at hg
  rw [if_neg (by decide), ha] at hg
  dsimp only at hg
  obtain ⟨a2, ha2⟩ := F_dec .f64 k h
  have ho : (FloatKind.f64.decode (FloatKind.f64.encode (.number (decide (k < 0)) (k.natAbs <<< a) (-10 - (a : Int))))).isInfinity = false := by
    rw [hg, ha2]; rfl
  rw [← hg]
  simp [Conv.floatToFloat, ha, ho]
theorem run_add_raw (op : BinOp) (hop : op = .add ∨ op = .sub ∨ op = .mul ∨ op = .quo) (t : TypeId) (k : FloatKind) (x y r : Nat) (h : floatBits op k x y = some r) (w : World) : (binOp op t (.float k x) (.float k y)).run Try.prog w = .ok (.float k r) w := run_float_arith w op t k x y r h
theorem gtr_raw {k : FloatKind} {x y : Nat} (h : fcmp .gtr k x y = false) : (k.format.order x y == some .gt) = false := by
  unfold fcmp at h
  cases e : k.format.order x y with
  | none => rfl
  | some o => rw [e] at h; cases o <;> first | rfl | cases h
theorem neq_raw {k : FloatKind} {x y : Nat} (h : fcmp .neq k x y = false) : (k.format.order x y != some .eq) = false := by
  unfold fcmp at h
  cases e : k.format.order x y with
  | none => rw [e] at h; cases h
  | some o => rw [e] at h; cases o <;> first | rfl | cases h
theorem sum_take_le : ∀ (l : List Nat) (k : Nat), (l.take k).sum ≤ l.sum
  | [], k => by simp
  | a :: l, 0 => by simp
  | a :: l, k + 1 => by
    have := sum_take_le l k
    simp only [List.take_succ_cons, List.sum_cons]
    omega
theorem sum_take_succ (l : List Nat) (k a : Nat) (h : l[k]? = some a) : (l.take (k + 1)).sum = (l.take k).sum + a := by
  obtain ⟨hk, hu⟩ := List.getElem?_eq_some_iff.1 h
  rw [List.take_succ_eq_append_getElem hk, List.sum_append, hu]
  simp
/-- a node's kids, as the law asks of them -/
theorem Among.kid {L : List Nd} {i : Nat} {nd : Nd} (h : Among L 0 i nd) {k j : Nat} (hj : nd.nx[k]? = some j) : i < j ∧ j < L.length ∧ ∃ m, L[j]? = some m ∧ m.d = nd.d + 1 ∧ lenAt L 0 j = m.ws.length := by
  obtain ⟨h1, h2, m, h3, h4⟩ := h.next j (List.mem_of_getElem? hj)
  refine ⟨by omega, by omega, m, h3, h4, ?_⟩
  unfold lenAt
  rw [h3]
/-- how many whirls the first kids hold -/
def seenP (L : List Nd) (nd : Nd) (k : Nat) : Nat := ((nd.nx.map (lenAt L 0)).take k).sum
theorem seenP_succ {L : List Nd} {nd : Nd} {k j : Nat} (hj : nd.nx[k]? = some j) : seenP L nd (k + 1) = seenP L nd k + lenAt L 0 j := by
  unfold seenP
  exact sum_take_succ _ _ _ (by rw [List.getElem?_map, hj]; rfl)
theorem seenP_le {L : List Nd} {i : Nat} {nd : Nd} (h : Among L 0 i nd) (hne : nd.nx ≠ []) (k : Nat) : seenP L nd k ≤ nd.ws.length := by
  rw [← h.sum hne]
  exact sum_take_le _ _
theorem seenP_all {L : List Nd} {i : Nat} {nd : Nd} (h : Among L 0 i nd) (hne : nd.nx ≠ []) : seenP L nd nd.nx.length = nd.ws.length := by
  rw [← h.sum hne]
  unfold seenP
  rw [List.take_of_length_le (by simp)]
theorem seenP_zero (L : List Nd) (nd : Nd) : seenP L nd 0 = 0 := rfl
/-- numbers of a whirl in a node -/
theorem Alone.gap {ps : List Wh} {wd : Nat} {nd : Nd} (h : Alone ps wd ps.length nd) (hps : OkPs ps) (hwd : wd < 33) {j : Nat} (hj : j ∈ nd.ws) :
    (∀ w, (binOp .sub 27 (.complex .f32 (F (atW ps j).1) (F (atW ps j).2.1)) (.complex .f32 (F nd.cx) (F nd.cy))).run Try.prog w = .ok (.complex .f32 (F ((atW ps j).1 - nd.cx)) (F ((atW ps j).2.1 - nd.cy))) w) ∧
    ((atW ps j).1 - nd.cx).natAbs < 16777216 ∧ ((atW ps j).2.1 - nd.cy).natAbs < 16777216 ∧
    fcmp .gtr .f64 (G (((atW ps j).1 - nd.cx).natAbs : Int)) (slackP nd.d wd) = false ∧ fcmp .gtr .f64 (G (((atW ps j).2.1 - nd.cy).natAbs : Int)) (slackP nd.d wd) = false ∧ floatBits .add .f64 (G (hP nd.d wd)) c001 = some (slackP nd.d wd) := by
  obtain ⟨i1, i2, i3, i4⟩ := h.inside j hj
  obtain ⟨hok, -⟩ := hps.at (h.below j hj)
  obtain ⟨x, y, s, e, a1, a2, a3, a4, -⟩ := hok
  have ex : (atW ps j).1 = 256 * x := by rw [e]
  have ey : (atW ps j).2.1 = 256 * y := by rw [e]
  have bx := h.bx
  have by_ := h.by_
  have hd := h.deep
  rw [ex] at i1 i2 ⊢
  rw [ey] at i3 i4 ⊢
  have hb : (hP nd.d wd).natAbs < 16777216 := by omega
  have h0 := hP_nonneg nd.d wd
  obtain ⟨s1, s2⟩ := slack_gtr (d := nd.d) (w := wd) (a := ((256 * x - nd.cx).natAbs : Int)) (by omega) hwd (by omega) (by omega) hb
  obtain ⟨-, s3⟩ := slack_gtr (d := nd.d) (w := wd) (a := ((256 * y - nd.cy).natAbs : Int)) (by omega) hwd (by omega) (by omega) hb
  refine ⟨fun w => run_complex_arith Try.prog .sub (.inr rfl) 27 .f32 _ _ _ _ _ _ (F_sub .f32 _ _ (by omega) (by omega) (by omega)) (F_sub .f32 _ _ (by omega) (by omega) (by omega)) w, by omega, by omega, s2, s3, s1⟩
theorem len_le_sum (f : Nat → Nat) : ∀ l : List Nat, (∀ j ∈ l, 1 ≤ f j) → l.length ≤ (l.map f).sum
  | [], _ => Nat.le_refl _
  | a :: l, h => by
    have h1 := len_le_sum f l (fun j hj => h j (List.mem_cons_of_mem _ hj))
    have h2 := h a (List.mem_cons_self ..)
    rw [List.map_cons, List.sum_cons, List.length_cons]
    omega
theorem Among.few {ps : List Wh} {wd N : Nat} {L : List Nd} {i : Nat} {nd : Nd} (hg : Good ps wd N L 0) (h : Among L 0 i nd) : nd.nx.length ≤ nd.ws.length := by
  by_cases hne : nd.nx = []
  · rw [hne]; exact Nat.zero_le _
  · rw [← h.sum hne]
    refine len_le_sum _ _ fun j hj => ?_
    obtain ⟨h1, h2, m, h3, h4⟩ := h.next j hj
    unfold lenAt
    rw [h3]
    exact List.length_pos_iff.2 (hg _ m h3).1.some_
end Go.Proofs.Ytfehhbmmdbpdpaa
