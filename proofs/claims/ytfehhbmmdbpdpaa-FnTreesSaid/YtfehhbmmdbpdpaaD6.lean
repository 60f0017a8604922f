/- Walks: the spin and the moment of whirls. -/
import Derived.Test.YtfehhbmmdbpdpaaD5
namespace Go.Proofs.Ytfehhbmmdbpdpaa
open Go Go.RowKit
set_option linter.unusedVariables false
set_option linter.unusedSimpArgs false
attribute [local go_sem] run_store_float run_store_complex

/-- a whirl that B10Many draws -/
def OkW (u : Wh) : Prop := ∃ x y s : Int, u = (256 * x, 256 * y, 512 * s) ∧ -16 ≤ x ∧ x ≤ 16 ∧ -16 ≤ y ∧ y ≤ 16 ∧ -4 ≤ s ∧ s ≤ 4
def spinL (us : List Wh) : Int := us.foldl (fun a u => a + u.2.2) 0
def momXL (c : Int) (us : List Wh) : Int := us.foldl (fun a u => a + (u.1 - c) * u.2.2 / 1024) 0
def momYL (c : Int) (us : List Wh) : Int := us.foldl (fun a u => a + (u.2.1 - c) * u.2.2 / 1024) 0
theorem fold_bound (f : Wh → Int) (b : Nat) (us : List Wh) (h : ∀ u ∈ us, (f u).natAbs ≤ b) : (us.foldl (fun a u => a + f u) 0).natAbs ≤ us.length * b := by
  have key : ∀ (us : List Wh) (a : Int), (∀ u ∈ us, (f u).natAbs ≤ b) → (us.foldl (fun a u => a + f u) a).natAbs ≤ a.natAbs + us.length * b := by
    intro us
    induction us with
    | nil => intro a _; simp
    | cons u us ih =>
      intro a h
      have h1 := h u (by simp)
      have h2 := ih (a + f u) (fun v hv => h v (by simp [hv]))
      rw [List.foldl_cons, List.length_cons, Nat.add_mul, Nat.one_mul]
      omega
  have := key us 0 h
  simpa using this
theorem fold_take (f : Wh → Int) (us : List Wh) (k : Nat) (u : Wh) (h : us[k]? = some u) : (us.take (k + 1)).foldl (fun a u => a + f u) 0 = (us.take k).foldl (fun a u => a + f u) 0 + f u := by
  obtain ⟨hk, hu⟩ := List.getElem?_eq_some_iff.1 h
  rw [List.take_succ_eq_append_getElem hk, List.foldl_append, hu]
  rfl
theorem OkW.term {u : Wh} (h : OkW u) {c : Int} (hc : c.natAbs ≤ 8192) (he : c % 2 = 0) :
    ((u.1 - c) * u.2.2 = 1024 * ((u.1 - c) * u.2.2 / 1024) ∧ ((u.1 - c) * u.2.2 / 1024).natAbs ≤ 24576) ∧ ((u.2.1 - c) * u.2.2 = 1024 * ((u.2.1 - c) * u.2.2 / 1024) ∧ ((u.2.1 - c) * u.2.2 / 1024).natAbs ≤ 24576) ∧ (u.1 - c).natAbs ≤ 12288 ∧ (u.2.1 - c).natAbs ≤ 12288 ∧ u.1.natAbs ≤ 4096 ∧ u.2.1.natAbs ≤ 4096 ∧ u.2.2.natAbs ≤ 2048 := by
  obtain ⟨x, y, s, rfl, h1, h2, h3, h4, h5, h6⟩ := h
  obtain ⟨e, he⟩ : ∃ e, c = 2 * e := ⟨c / 2, by omega⟩
  subst he
  have key : ∀ x : Int, -16 ≤ x → x ≤ 16 → (256 * x - 2 * e) * (512 * s) = 1024 * ((128 * x - e) * s) ∧ ((128 * x - e) * s).natAbs ≤ 24576 := by
    intro x hx1 hx2
    refine ⟨?_, ?_⟩
    · rw [show (256 * x - 2 * e) * (512 * s) = (2 * (128 * x - e)) * (512 * s) by congr 1; omega]
      rw [show (2 * (128 * x - e)) * (512 * s) = 1024 * ((128 * x - e) * s) by
        rw [Int.mul_assoc 2, Int.mul_left_comm (128 * x - e) 512 s, ← Int.mul_assoc 2 512]; rfl]
    · rw [Int.natAbs_mul]
      have : (128 * x - e).natAbs * s.natAbs ≤ 6144 * 4 := Nat.mul_le_mul (by omega) (by omega)
      omega
  obtain ⟨a1, a2⟩ := key x h1 h2
  obtain ⟨b1, b2⟩ := key y h3 h4
  refine ⟨?_, ?_, ?_, ?_, ?_, ?_, ?_⟩
  · dsimp only
    rw [a1, Int.mul_ediv_cancel_left _ (by decide)]
    exact ⟨rfl, a2⟩
  · dsimp only
    rw [b1, Int.mul_ediv_cancel_left _ (by decide)]
    exact ⟨rfl, b2⟩
  · show (256 * x - 2 * e).natAbs ≤ 12288; omega
  · show (256 * y - 2 * e).natAbs ≤ 12288; omega
  · show (256 * x).natAbs ≤ 4096; omega
  · show (256 * y).natAbs ≤ 4096; omega
  · show (512 * s).natAbs ≤ 2048; omega

set_option maxRecDepth 100000 in
theorem ScaleComplex_any (a b s p q : Nat) (hp : floatBits .mul .f32 a s = some p) (hq : floatBits .mul .f32 b s = some q) (w : World) :
    Calls Try.prog 90 #[.complex .f32 a b, .float .f32 s] w fun e w' => w = w' ∧ e = .returned (.complex .f32 p q) := by
  go_enter Try.func90, Try.ntmps90
  go_wp2_with (first
    | (refine wpList_floatD rfl _ _ _ _ _ rfl (by decide) _ _ _ rfl rfl _ hp ?_)
    | (refine wpList_floatD rfl _ _ _ _ _ rfl (by decide) _ _ _ rfl rfl _ hq ?_))
  go_ret
  exact ⟨rfl, rfl⟩
set_option maxRecDepth 100000 in
theorem totalSpin_any (A : Option Addr) (cap : Nat) (us : List Wh) (w : World) (hA : Lies w 51 A (whVals us)) (hl : us.length ≤ 12) (hok : ∀ u ∈ us, OkW u) :
    Calls Try.prog 91 #[.slice A us.length cap] w fun e w' => Ext w w' ∧ e = .returned (.float .f32 (F (spinL us))) := by
  have HA := Lib.hid hA
  have HL := Lib.hid hl
  have HOK := Lib.hid hok
  clear hA hl hok
  go_enter Try.func91, Try.ntmps91
  go_wp2_with fail
  go_loopw [3, 8] (fun s i wr => ∃ (k : Nat), k ≤ us.length ∧ i = .int .i64 k ∧ s = .float .f32 (F (spinL (us.take k))) ∧ Ext w wr) (fun _ i _ => us.length - (intOf i).toNat)
  case atStart => exact ⟨0, Nat.zero_le _, rfl, by rw [List.take_zero]; exact congrArg _ (F_zero .f32).symm, Ext.rfl' _⟩
  case round =>
    obtain ⟨k, hk, rfl, rfl, hbel⟩ := hrel
    have HE := Lib.hid hbel
    clear hbel
    have hk9 : k < 9223372036854775807 := by have := HL.out; omega
    by_cases hlt : k < us.length
    · obtain ⟨u, hu⟩ : ∃ u, us[k]? = some u := ⟨us[k], List.getElem?_eq_getElem hlt⟩
      obtain ⟨b, o, rfl, hb, hc⟩ := HA.out.cell (by rw [whVals_len]; omega)
      obtain ⟨v1, v2⟩ := whVals_at us k u hu
      have d0 := (HE.out.cell (p := ⟨b, o + k * 2, none⟩) hb).trans (hc _ _ v1)
      have d1 := (HE.out.cell (p := ⟨b, o + k * 2 + 1, none⟩) hb).trans (hc _ _ v2)
      have hterm := (HOK.out u (List.mem_of_getElem? hu)).term (c := 0) (by decide) (by decide)
      have hbd := fold_bound (fun u => u.2.2) 2048 (us.take k) (fun v hv => ((HOK.out v (List.mem_of_mem_take hv)).term (c := 0) (by decide) (by decide)).2.2.2.2.2.2)
      have hlen : (us.take k).length ≤ 12 := by rw [List.length_take]; have := HL.out; omega
      have hbd2 : (spinL (us.take k)).natAbs ≤ 24576 := Nat.le_trans hbd (Nat.mul_le_mul_right 2048 hlen)
      have hadd := F_add .f32 (spinL (us.take k)) u.2.2 (by omega) (by have := hterm.2.2.2.2.2.2; omega) (by have := hterm.2.2.2.2.2.2; omega)
      rw [show spinL (us.take k) + u.2.2 = spinL (us.take (k + 1)) from (fold_take (fun u => u.2.2) us k u hu).symm] at hadd
      have HADD := Lib.hid hadd
      have hlb := hb
      clear hterm hbd hbd2 hlen hadd hc v1 v2
      go_wp2_with (first
        | (refine wpList_floatD rfl _ _ _ _ _ rfl (by decide) _ _ _ rfl rfl _ HADD.out ?_))
      exact ⟨⟨k + 1, by omega, by go_num, rfl, by have := HE.out; (repeat first | with_reducible exact Ext.rfl' _ | with_reducible refine Ext.drewN ?_ _ | with_reducible refine Ext.drew' ?_ | with_reducible refine Ext.alloc' ?_ _ | with_reducible refine Ext.setCell_at ?_ _ _ _ (by first | exact Nat.le_refl _ | omega) | with_reducible assumption | refine Ext.trans ?_ (by with_reducible assumption))⟩, by simp [intOf]; omega⟩
    · have hkl : k = us.length := by omega
      go_wp2_with fail
      go_ret
      exact ⟨HE.out, by rw [hkl, List.take_length]; rfl⟩
theorem momX_step (us : List Wh) (k : Nat) (u : Wh) (c : Int) (hu : us[k]? = some u) (hl : us.length ≤ 12) (hok : ∀ u ∈ us, OkW u) (hc : c.natAbs ≤ 8192) (he : c % 2 = 0) :
    ∃ p, floatBits .sub .f32 (F u.1) (F c) = some (F (u.1 - c)) ∧ floatBits .mul .f32 (F (u.1 - c)) (F u.2.2) = some p ∧ floatBits .add .f32 (F (momXL c (us.take k))) p = some (F (momXL c (us.take (k + 1)))) := by
  obtain ⟨⟨t1, t2⟩, -, t3, -, t4, -, t5⟩ := (hok u (List.mem_of_getElem? hu)).term hc he
  have hlen : (us.take k).length ≤ 12 := by rw [List.length_take]; omega
  have hb : (momXL c (us.take k)).natAbs ≤ 294912 := Nat.le_trans (fold_bound (fun u => (u.1 - c) * u.2.2 / 1024) 24576 (us.take k) (fun v hv => ((hok v (List.mem_of_mem_take hv)).term hc he).1.2)) (Nat.mul_le_mul_right 24576 hlen)
  have hstep : momXL c (us.take (k + 1)) = momXL c (us.take k) + (u.1 - c) * u.2.2 / 1024 := fold_take (fun u => (u.1 - c) * u.2.2 / 1024) us k u hu
  rw [hstep]
  generalize momXL c (us.take k) = m at *
  generalize (u.1 - c) * u.2.2 / 1024 = q at *
  obtain ⟨m1, a1⟩ := F_mul m (u.1 - c) u.2.2 q t1 (by omega) (by omega) (by omega) (by omega) (by omega)
  exact ⟨_, F_sub .f32 u.1 c (by omega) (by omega) (by omega), m1, a1⟩
theorem momY_step (us : List Wh) (k : Nat) (u : Wh) (c : Int) (hu : us[k]? = some u) (hl : us.length ≤ 12) (hok : ∀ u ∈ us, OkW u) (hc : c.natAbs ≤ 8192) (he : c % 2 = 0) :
    ∃ p, floatBits .sub .f32 (F u.2.1) (F c) = some (F (u.2.1 - c)) ∧ floatBits .mul .f32 (F (u.2.1 - c)) (F u.2.2) = some p ∧ floatBits .add .f32 (F (momYL c (us.take k))) p = some (F (momYL c (us.take (k + 1)))) := by
  obtain ⟨-, ⟨t1, t2⟩, -, t3, -, t4, t5⟩ := (hok u (List.mem_of_getElem? hu)).term hc he
  have hlen : (us.take k).length ≤ 12 := by rw [List.length_take]; omega
  have hb : (momYL c (us.take k)).natAbs ≤ 294912 := Nat.le_trans (fold_bound (fun u => (u.2.1 - c) * u.2.2 / 1024) 24576 (us.take k) (fun v hv => ((hok v (List.mem_of_mem_take hv)).term hc he).2.1.2)) (Nat.mul_le_mul_right 24576 hlen)
  have hstep : momYL c (us.take (k + 1)) = momYL c (us.take k) + (u.2.1 - c) * u.2.2 / 1024 := fold_take (fun u => (u.2.1 - c) * u.2.2 / 1024) us k u hu
  rw [hstep]
  generalize momYL c (us.take k) = m at *
  generalize (u.2.1 - c) * u.2.2 / 1024 = q at *
  obtain ⟨m1, a1⟩ := F_mul m (u.2.1 - c) u.2.2 q t1 (by omega) (by omega) (by omega) (by omega) (by omega)
  exact ⟨_, F_sub .f32 u.2.1 c (by omega) (by omega) (by omega), m1, a1⟩
set_option maxRecDepth 100000 in
theorem moments_any (A : Option Addr) (cap : Nat) (us : List Wh) (cx cy : Int) (w : World) (hA : Lies w 51 A (whVals us)) (hl : us.length ≤ 12) (hok : ∀ u ∈ us, OkW u) (hx : cx.natAbs ≤ 8192) (hy : cy.natAbs ≤ 8192) (ex : cx % 2 = 0) (ey : cy % 2 = 0) :
    Calls Try.prog 49 #[.slice A us.length cap, .complex .f32 (F cx) (F cy)] w fun e w' => Ext w w' ∧ e = .returned (.tuple #[.float .f32 (F (spinL us)), .complex .f32 (F (momXL cx us)) (F (momYL cy us))]) := by
  have HA := Lib.hid hA
  have HL := Lib.hid hl
  have HOK := Lib.hid hok
  have HX := Lib.hid hx
  have HY := Lib.hid hy
  have HEX := Lib.hid ex
  have HEY := Lib.hid ey
  clear hA hl hok hx hy ex ey
  go_enter Try.func49, Try.ntmps49
  go_wp2_with fail
  go_loopw [6, 11] (fun s i wr => ∃ (k : Nat), k ≤ us.length ∧ i = .int .i64 k ∧ s = .complex .f32 (F (momXL cx (us.take k))) (F (momYL cy (us.take k))) ∧ Ext w wr) (fun _ i _ => us.length - (intOf i).toNat)
  case atStart => exact ⟨0, Nat.zero_le _, rfl, by rw [List.take_zero]; exact congr (congrArg (Value.complex .f32) (F_zero .f32).symm) (F_zero .f32).symm, Ext.rfl' _⟩
  case round =>
    obtain ⟨k, hk, rfl, rfl, hbel⟩ := hrel
    have HE := Lib.hid hbel
    clear hbel
    have hk9 : k < 9223372036854775807 := by have := HL.out; omega
    by_cases hlt : k < us.length
    · obtain ⟨u, hu⟩ : ∃ u, us[k]? = some u := ⟨us[k], List.getElem?_eq_getElem hlt⟩
      obtain ⟨b, o, rfl, hb, hc⟩ := HA.out.cell (by rw [whVals_len]; omega)
      obtain ⟨v1, v2⟩ := whVals_at us k u hu
      have d0 := (HE.out.cell (p := ⟨b, o + k * 2, none⟩) hb).trans (hc _ _ v1)
      have d1 := (HE.out.cell (p := ⟨b, o + k * 2 + 1, none⟩) hb).trans (hc _ _ v2)
      obtain ⟨p, s1, m1, a1⟩ := momX_step us k u cx hu HL.out HOK.out HX.out HEX.out
      obtain ⟨q, s2, m2, a2⟩ := momY_step us k u cy hu HL.out HOK.out HY.out HEY.out
      have hsub := fun w => run_complex_arith Try.prog .sub (.inr rfl) 27 .f32 (F u.1) (F u.2.1) (F cx) (F cy) _ _ s1 s2 w
      have hadd := fun w => run_complex_arith Try.prog .add (.inl rfl) 27 .f32 (F (momXL cx (us.take k))) (F (momYL cy (us.take k))) _ _ _ _ a1 a2 w
      have HM1 := Lib.hid m1
      have HM2 := Lib.hid m2
      clear m1 m2 a1 a2 s1 s2 hc v1 v2
      go_wp2_with (first
        | (go_at_call 90; refine (ScaleComplex_any _ _ _ _ _ HM1.out HM2.out _).mono ?_; rintro e wq ⟨rfl, rfl⟩))
      exact ⟨⟨k + 1, by omega, by go_num, rfl, by have := HE.out; (repeat first | with_reducible exact Ext.rfl' _ | with_reducible refine Ext.drewN ?_ _ | with_reducible refine Ext.drew' ?_ | with_reducible refine Ext.alloc' ?_ _ | with_reducible refine Ext.setCell_at ?_ _ _ _ (by first | exact Nat.le_refl _ | omega) | with_reducible assumption | refine Ext.trans ?_ (by with_reducible assumption))⟩, by simp [intOf]; omega⟩
    · have hkl : k = us.length := by omega
      go_wp2_with fail
      refine (totalSpin_any A cap us _ (HA.out.ext HE.out) HL.out HOK.out).mono ?_
      rintro e w2 ⟨he2, rfl⟩
      go_wp2_with fail
      go_ret2
      exact ⟨Ext.trans HE.out he2, rfl⟩
end Go.Proofs.Ytfehhbmmdbpdpaa
