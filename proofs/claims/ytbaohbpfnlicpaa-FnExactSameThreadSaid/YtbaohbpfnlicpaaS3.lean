/- Walks: whether threads are the same. -/
import Derived.Test.YtbaohbpfnlicpaaS2
import Derived.StillTailTactics
namespace Go.Proofs.Ytbaohbpfnlicpaa
open Go Go.RowKit
set_option linter.unusedVariables false
set_option linter.unusedSimpArgs false
attribute [local go_sem] run_store_float

def InS (cs : List V3) : Prop := ∀ i, i < cs.length → In3 (cs.getD i (0, 0, 0))
def sameTh (cs ds : List V3) (a b : Nat) : Bool := decide (cs = ds) && decide (cn .f32 a = cn .f32 b)
theorem sameTh_len {cs ds : List V3} (h : cs.length ≠ ds.length) (a b : Nat) : sameTh cs ds a b = false := by
  unfold sameTh
  rw [decide_eq_false (fun e : cs = ds => h (by rw [e]))]; rfl
theorem sameTh_spin {cs ds : List V3} {a b : Nat} (h : sameB a b = false) : sameTh cs ds a b = false := by
  unfold sameTh sameB at *
  rw [h]; simp

set_option maxRecDepth 100000 in
theorem l01VSame_any (x y z x' y' z' : Nat) (h1 : In3 (cv x y z)) (h2 : In3 (cv x' y' z')) (r : Bool) (hr : decide (cv x y z = cv x' y' z') = r) (w : World) : Calls Try.prog 164 #[.agg #[.float .f32 x, .float .f32 y, .float .f32 z], .agg #[.float .f32 x', .float .f32 y', .float .f32 z']] w fun e w' => Ext w w' ∧ e = .returned (.bool r) := by
  obtain ⟨a1, a2, a3⟩ := h1
  obtain ⟨b1, b2, b3⟩ := h2
  have hrr : r = (sameB x x' && (sameB y y' && sameB z z')) := by
    rw [← hr]
    unfold sameB cv
    simp only [Prod.mk.injEq, Bool.decide_and]
  have HR := Lib.hid hrr
  have A1 := Lib.hid a1
  have A2 := Lib.hid a2
  have A3 := Lib.hid a3
  have B1 := Lib.hid b1
  have B2 := Lib.hid b2
  have B3 := Lib.hid b3
  clear hr hrr a1 a2 a3 b1 b2 b3
  cases h1 : sameB x x'
  · have H1 := Lib.hid h1
    clear h1
    go_enter Try.func164, Try.ntmps164
    go_wp2_with fail
    refine (l01Same_any _ _ A1.out B1.out _ H1.out _).mono ?_
    rintro e w1 ⟨he1, rfl⟩
    go_wp2_with fail
    go_ret
    exact ⟨by (repeat first | with_reducible exact Ext.rfl' _ | with_reducible refine Ext.drewN ?_ _ | with_reducible refine Ext.drew' ?_ | with_reducible refine Ext.alloc' ?_ _ | with_reducible refine Ext.setCell_at ?_ _ _ _ (by first | exact Nat.le_refl _ | omega) | with_reducible assumption | refine Ext.trans ?_ (by with_reducible assumption)), by rw [HR.out, H1.out]; rfl⟩
  · have H1 := Lib.hid h1
    clear h1
    cases h2 : sameB y y'
    · have H2 := Lib.hid h2
      clear h2
      go_enter Try.func164, Try.ntmps164
      go_wp2_with fail
      refine (l01Same_any _ _ A1.out B1.out _ H1.out _).mono ?_
      rintro e w1 ⟨he1, rfl⟩
      obtain ⟨hc1, hf1⟩ := bcell he1
      (try simp only [World.heap_drewN, World.cell?_drewN, World.frozen?_drewN] at hc1 hf1)
      have hs1 := he1.size
      (try simp only [World.heap_drewN, World.size_alloc, World.size_setCell, World.size_drew] at hs1)
      have hz1_w : w.heap.size < w1.heap.size := by omega
      have hz1 : w.heap.size + 1 < w1.heap.size := by omega
      go_wp2_with fail
      refine (l01Same_any _ _ A2.out B2.out _ H2.out _).mono ?_
      rintro e w2 ⟨he2, rfl⟩
      go_wp2_with fail
      go_ret
      exact ⟨by (repeat first | with_reducible exact Ext.rfl' _ | with_reducible refine Ext.drewN ?_ _ | with_reducible refine Ext.drew' ?_ | with_reducible refine Ext.alloc' ?_ _ | with_reducible refine Ext.setCell_at ?_ _ _ _ (by first | exact Nat.le_refl _ | omega) | with_reducible assumption | refine Ext.trans ?_ (by with_reducible assumption)), by rw [HR.out, H1.out, H2.out]; rfl⟩
    · have H2 := Lib.hid h2
      clear h2
      go_enter Try.func164, Try.ntmps164
      go_wp2_with fail
      refine (l01Same_any _ _ A1.out B1.out _ H1.out _).mono ?_
      rintro e w1 ⟨he1, rfl⟩
      obtain ⟨hc1, hf1⟩ := bcell he1
      (try simp only [World.heap_drewN, World.cell?_drewN, World.frozen?_drewN] at hc1 hf1)
      have hs1 := he1.size
      (try simp only [World.heap_drewN, World.size_alloc, World.size_setCell, World.size_drew] at hs1)
      have hz1_w : w.heap.size < w1.heap.size := by omega
      have hz1 : w.heap.size + 1 < w1.heap.size := by omega
      go_wp2_with fail
      refine (l01Same_any _ _ A2.out B2.out _ H2.out _).mono ?_
      rintro e w2 ⟨he2, rfl⟩
      obtain ⟨hc2, hf2⟩ := bcell he2
      (try simp only [World.heap_drewN, World.cell?_drewN, World.frozen?_drewN] at hc2 hf2)
      have hs2 := he2.size
      (try simp only [World.heap_drewN, World.size_alloc, World.size_setCell, World.size_drew] at hs2)
      have hz2_w : w.heap.size < w2.heap.size := by omega
      have hz2 : w.heap.size + 1 < w2.heap.size := by omega
      go_wp2_with fail
      refine (l01Same_any _ _ A3.out B3.out _ rfl _).mono ?_
      rintro e w3 ⟨he3, rfl⟩
      go_wp2_with fail
      go_ret
      exact ⟨by (repeat first | with_reducible exact Ext.rfl' _ | with_reducible refine Ext.drewN ?_ _ | with_reducible refine Ext.drew' ?_ | with_reducible refine Ext.alloc' ?_ _ | with_reducible refine Ext.setCell_at ?_ _ _ _ (by first | exact Nat.le_refl _ | omega) | with_reducible assumption | refine Ext.trans ?_ (by with_reducible assumption)), by rw [HR.out, H1.out, H2.out]; rfl⟩
set_option maxRecDepth 100000 in
theorem EqualFuncV_ne (A B : Option Addr) (ca cb : Nat) (xs ys : List V3) (w : World) (hne : ¬ ((xs.length : Nat) : Int) = ((ys.length : Nat) : Int)) :
    Calls Try.prog 96 #[.slice A xs.length ca, .slice B ys.length cb, .func (.func 97) #[] #[]] w fun e w' => Ext w w' ∧ e = .returned (.bool false) := by
  go_enter Try.func96, Try.ntmps96
  go_wp2_with fail
  go_ret
  exact ⟨by (repeat first | with_reducible exact Ext.rfl' _ | with_reducible refine Ext.drewN ?_ _ | with_reducible refine Ext.drew' ?_ | with_reducible refine Ext.alloc' ?_ _ | with_reducible refine Ext.setCell_at ?_ _ _ _ (by first | exact Nat.le_refl _ | omega) | with_reducible assumption | refine Ext.trans ?_ (by with_reducible assumption)), rfl⟩
theorem EqualFuncVg_any (A B : Option Addr) (ca cb : Nat) (xs ys : List V3) (w : World) (hA : VS w A xs) (hB : VS w B ys) (hl : xs.length ≤ 1048576) (r : Bool) (hr : decide (xs = ys) = r) :
    Calls Try.prog 96 #[.slice A xs.length ca, .slice B ys.length cb, .func (.func 97) #[] #[]] w fun e w' => Ext w w' ∧ e = .returned (.bool r) := by
  by_cases h : ys.length = xs.length
  · have := EqualFuncV_any A B ca cb xs ys w hA hB h hl r hr
    rw [h]
    exact this
  · refine (EqualFuncV_ne A B ca cb xs ys w (by omega)).mono fun e w' ⟨a, b⟩ => ⟨a, ?_⟩
    rw [b, ← hr, decide_eq_false (fun e : xs = ys => h (by rw [e]))]
set_option maxRecDepth 100000 in
theorem implSame_any (A B : Option Addr) (ca cb sa sb : Nat) (cs ds : List V3) (w : World) (hA : VS w A cs) (hB : VS w B ds) (hl : cs.length ≤ 1048576) (r : Bool) (hr : sameTh cs ds sa sb = r) :
    Calls Try.prog 36 #[.agg #[.slice A cs.length ca, .float .f32 sa], .agg #[.slice B ds.length cb, .float .f32 sb]] w fun e w' => Ext w w' ∧ e = .returned (.bool r) := by
  have HA := Lib.hid hA
  have HB := Lib.hid hB
  have HL := Lib.hid hl
  have HR := Lib.hid hr
  clear hA hB hl hr
  cases h1 : decide (cs = ds)
  · have H1 := Lib.hid h1
    clear h1
    go_enter Try.func36, Try.ntmps36
    go_wp2_with fail
    refine (EqualFuncVg_any A B ca cb cs ds _ (HA.out.ext (by (repeat first | with_reducible exact Ext.rfl' _ | with_reducible refine Ext.drewN ?_ _ | with_reducible refine Ext.drew' ?_ | with_reducible refine Ext.alloc' ?_ _ | with_reducible refine Ext.setCell_at ?_ _ _ _ (by first | exact Nat.le_refl _ | omega) | with_reducible assumption | refine Ext.trans ?_ (by with_reducible assumption)))) (HB.out.ext (by (repeat first | with_reducible exact Ext.rfl' _ | with_reducible refine Ext.drewN ?_ _ | with_reducible refine Ext.drew' ?_ | with_reducible refine Ext.alloc' ?_ _ | with_reducible refine Ext.setCell_at ?_ _ _ _ (by first | exact Nat.le_refl _ | omega) | with_reducible assumption | refine Ext.trans ?_ (by with_reducible assumption)))) HL.out _ H1.out).mono ?_
    rintro e w1 ⟨he1, rfl⟩
    go_wp2_with fail
    go_ret
    exact ⟨by (repeat first | with_reducible exact Ext.rfl' _ | with_reducible refine Ext.drewN ?_ _ | with_reducible refine Ext.drew' ?_ | with_reducible refine Ext.alloc' ?_ _ | with_reducible refine Ext.setCell_at ?_ _ _ _ (by first | exact Nat.le_refl _ | omega) | with_reducible assumption | refine Ext.trans ?_ (by with_reducible assumption)), ret_bool (by rw [← HR.out]; unfold sameTh; rw [H1.out]; rfl)⟩
  · have H1 := Lib.hid h1
    clear h1
    go_enter Try.func36, Try.ntmps36
    go_wp2_with fail
    refine (EqualFuncVg_any A B ca cb cs ds _ (HA.out.ext (by (repeat first | with_reducible exact Ext.rfl' _ | with_reducible refine Ext.drewN ?_ _ | with_reducible refine Ext.drew' ?_ | with_reducible refine Ext.alloc' ?_ _ | with_reducible refine Ext.setCell_at ?_ _ _ _ (by first | exact Nat.le_refl _ | omega) | with_reducible assumption | refine Ext.trans ?_ (by with_reducible assumption)))) (HB.out.ext (by (repeat first | with_reducible exact Ext.rfl' _ | with_reducible refine Ext.drewN ?_ _ | with_reducible refine Ext.drew' ?_ | with_reducible refine Ext.alloc' ?_ _ | with_reducible refine Ext.setCell_at ?_ _ _ _ (by first | exact Nat.le_refl _ | omega) | with_reducible assumption | refine Ext.trans ?_ (by with_reducible assumption)))) HL.out _ H1.out).mono ?_
    rintro e w1 ⟨he1, rfl⟩
    obtain ⟨hc1, hf1⟩ := bcell he1
    (try simp only [World.heap_drewN, World.cell?_drewN, World.frozen?_drewN] at hc1 hf1)
    have hs1 := he1.size
    (try simp only [World.heap_drewN, World.size_alloc, World.size_setCell, World.size_drew] at hs1)
    have hz1_w : w.heap.size < w1.heap.size := by omega
    have hz1 : w.heap.size + 1 < w1.heap.size := by omega
    go_wp2_with fail
    refine (SameNumber_any _ _ _ rfl _).mono ?_
    rintro e w2 ⟨he2, rfl⟩
    go_wp2_with fail
    go_ret
    exact ⟨by (repeat first | with_reducible exact Ext.rfl' _ | with_reducible refine Ext.drewN ?_ _ | with_reducible refine Ext.drew' ?_ | with_reducible refine Ext.alloc' ?_ _ | with_reducible refine Ext.setCell_at ?_ _ _ _ (by first | exact Nat.le_refl _ | omega) | with_reducible assumption | refine Ext.trans ?_ (by with_reducible assumption)), ret_bool (by rw [← HR.out]; unfold sameTh sameB; rw [H1.out]; rfl)⟩
set_option maxRecDepth 100000 in
theorem l06Same_any (g o g' o' : Nat) (A B : Option Addr) (ca cb sa sb : Nat) (cs ds : List V3) (w : World) (hT : TAt w g o A cs.length ca sa) (hT' : TAt w g' o' B ds.length cb sb) (hA : VS w A cs) (hB : VS w B ds) (hl : cs.length ≤ 1048576) (hi : InS cs) (hi' : InS ds) (hs : In32 (cn .f32 sa)) (hs' : In32 (cn .f32 sb)) (r : Bool) (hr : sameTh cs ds sa sb = r) :
    Calls Try.prog 94 #[.pointer (some ⟨g, o, none⟩), .pointer (some ⟨g', o', none⟩)] w fun e w' => Ext w w' ∧ e = .returned (.bool r) := by
  have HA := Lib.hid hA
  have HB := Lib.hid hB
  have HL := Lib.hid hl
  have HR := Lib.hid hr
  have HI := Lib.hid hi
  have HI' := Lib.hid hi'
  have HS := Lib.hid hs
  have HS' := Lib.hid hs'
  have HT := Lib.hid hT
  have HT' := Lib.hid hT'
  clear hA hB hl hr hi hi' hs hs' hT hT'
  obtain ⟨tl, t0, t1⟩ := HT.out
  obtain ⟨ul, u0, u1⟩ := HT'.out
  by_cases hne : ((cs.length : Nat) : Int) = ((ds.length : Nat) : Int)
  · have HN := Lib.hid (show ds.length = cs.length by omega)
    cases h1 : sameB sa sb
    · have H1 := Lib.hid h1
      clear h1
      have e0 : Ext w w.drew := Ext.drew' (Ext.rfl' _)
      go_enter Try.func94, Try.ntmps94
      go_wp2_with fail
      go_still_tail 20, (by kernel_rfl)
      go_wp2_with fail
      refine (l01Same_any _ _ HS.out HS'.out _ H1.out _).mono ?_
      rintro e w1 ⟨he1, rfl⟩
      go_wp2_with fail
      go_ret
      exact ⟨by (repeat first | with_reducible exact Ext.rfl' _ | with_reducible refine Ext.drewN ?_ _ | with_reducible refine Ext.drew' ?_ | with_reducible refine Ext.alloc' ?_ _ | with_reducible refine Ext.setCell_at ?_ _ _ _ (by first | exact Nat.le_refl _ | omega) | with_reducible assumption | refine Ext.trans ?_ (by with_reducible assumption)), ret_bool (by rw [← HR.out, sameTh_spin H1.out])⟩
    · have H1 := Lib.hid h1
      clear h1
      have e0 : Ext w w.drew := Ext.drew' (Ext.rfl' _)
      go_enter Try.func94, Try.ntmps94
      go_wp2_with fail
      go_still_tail 20, (by kernel_rfl)
      go_wp2_with fail
      refine (l01Same_any _ _ HS.out HS'.out _ H1.out _).mono ?_
      rintro e w1 ⟨he1, rfl⟩
      have HE1 := Lib.hid (show Ext w w1 from Ext.trans (Ext.drew' (Ext.rfl' _)) he1)
      clear he1 t0 t1 u0 u1
      go_wp2_with fail
      go_loopw [5] (fun i wr => ∃ (k : Nat), k ≤ cs.length ∧ i = .int .i64 k ∧ cs.take k = ds.take k ∧ Ext w wr) (fun i _ => cs.length - (intOf i).toNat)
      case atStart => exact ⟨0, Nat.zero_le _, rfl, by simp, HE1.out⟩
      case round =>
        obtain ⟨k, hk, rfl, hno, hbel⟩ := hrel
        have HE := Lib.hid hbel
        have HNO := Lib.hid hno
        obtain ⟨tl, t0, t1⟩ := HT.out.ext hbel
        obtain ⟨ul, u0, u1⟩ := HT'.out.ext hbel
        clear hbel hno
        have hk9 : k < 9223372036854775807 := by have := HL.out; omega
        by_cases hlt : k < cs.length
        · have hlt' : k < ds.length := by have := HN.out; omega
          obtain ⟨b, p, rfl, hbw, hcc⟩ := HA.out (by omega)
          obtain ⟨b', p', rfl, hbw', hcc'⟩ := HB.out (by omega)
          obtain ⟨x, y, z, c0, c1, c2, hcv⟩ := hcc k hlt
          obtain ⟨x', y', z', c0', c1', c2', hcv'⟩ := hcc' k hlt'
          have d0 := (HE.out.cell (p := ⟨b, p + k * 3, none⟩) hbw).trans c0
          have d1 := (HE.out.cell (p := ⟨b, p + k * 3 + 1, none⟩) hbw).trans c1
          have d2 := (HE.out.cell (p := ⟨b, p + k * 3 + 2, none⟩) hbw).trans c2
          have d0' := (HE.out.cell (p := ⟨b', p' + k * 3, none⟩) hbw').trans c0'
          have d1' := (HE.out.cell (p := ⟨b', p' + k * 3 + 1, none⟩) hbw').trans c1'
          have d2' := (HE.out.cell (p := ⟨b', p' + k * 3 + 2, none⟩) hbw').trans c2'
          have HC := Lib.hid hcv
          have HC' := Lib.hid hcv'
          clear hcc hcv c0 c1 c2 hcc' hcv' c0' c1' c2'
          go_wp2_with fail
          go_still_tail 14, (by kernel_rfl)
          go_wp2_with fail
          by_cases hpv : cs.getD k (0, 0, 0) = ds.getD k (0, 0, 0)
          · refine (l01VSame_any _ _ _ _ _ _ (by rw [HC.out]; exact HI.out _ hlt) (by rw [HC'.out]; exact HI'.out _ hlt') true (by rw [HC.out, HC'.out]; simpa using hpv) _).mono ?_
            rintro e w2 ⟨he, rfl⟩
            have HF := Lib.hid (Ext.trans HE.out (Ext.trans (Ext.drew' (Ext.rfl' _)) he))
            have HQ := Lib.hid hpv
            clear he hpv
            go_wp2_with fail
            exact ⟨⟨k + 1, by omega, by go_num, take_succ_eq cs ds _ k hlt hlt' HNO.out HQ.out, HF.out⟩, by simp [intOf]; omega⟩
          · refine (l01VSame_any _ _ _ _ _ _ (by rw [HC.out]; exact HI.out _ hlt) (by rw [HC'.out]; exact HI'.out _ hlt') false (by rw [HC.out, HC'.out]; simpa using hpv) _).mono ?_
            rintro e w2 ⟨he, rfl⟩
            have HF := Lib.hid (Ext.trans HE.out (Ext.trans (Ext.drew' (Ext.rfl' _)) he))
            have HQ := Lib.hid hpv
            clear he hpv
            go_wp2_with fail
            go_ret
            exact ⟨HF.out, ret_bool (by rw [← HR.out]; unfold sameTh; rw [decide_eq_false (getD_ne cs ds _ k HQ.out)]; rfl)⟩
        · have hkl : k = cs.length := by omega
          go_wp2_with fail
          go_ret
          refine ⟨HE.out, ret_bool ?_⟩
          rw [← HR.out]
          unfold sameTh
          have h1 := H1.out
          unfold sameB at h1
          have h2 := HNO.out
          rw [hkl, List.take_length, ← HN.out, List.take_length] at h2
          rw [h1, decide_eq_true h2]
          rfl
  · go_enter Try.func94, Try.ntmps94
    go_wp2_with fail
    go_still (by kernel_rfl)
    go_wp2_with fail
    go_ret
    exact ⟨(show Ext w w.drew from Ext.drew' (Ext.rfl' _)), ret_bool (by rw [← HR.out, sameTh_len (by omega)])⟩
set_option maxRecDepth 100000 in
theorem specSame_any (A B : Option Addr) (ca cb sa sb : Nat) (cs ds : List V3) (w : World) (hA : VS w A cs) (hB : VS w B ds) (hl : cs.length ≤ 1048576) (hi : InS cs) (hi' : InS ds) (hs : In32 (cn .f32 sa)) (hs' : In32 (cn .f32 sb)) (r : Bool) (hr : sameTh cs ds sa sb = r) :
    Calls Try.prog 34 #[.agg #[.slice A cs.length ca, .float .f32 sa], .agg #[.slice B ds.length cb, .float .f32 sb]] w fun e w' => Ext w w' ∧ e = .returned (.bool r) := by
  have HA := Lib.hid hA
  have HB := Lib.hid hB
  have HL := Lib.hid hl
  have HR := Lib.hid hr
  have HI := Lib.hid hi
  have HI' := Lib.hid hi'
  have HS := Lib.hid hs
  have HS' := Lib.hid hs'
  clear hA hB hl hr hi hi' hs hs'
  go_enter Try.func34, Try.ntmps34
  go_wp2_with fail
  refine (l06Same_any w.heap.size 0 (w.heap.size + 1) 0 A B ca cb sa sb cs ds _ ⟨by simp <;> omega, by go_simp, by go_simp⟩ ⟨by simp <;> omega, by go_simp, by go_simp⟩ (HA.out.ext (by (repeat first | with_reducible exact Ext.rfl' _ | with_reducible refine Ext.drewN ?_ _ | with_reducible refine Ext.drew' ?_ | with_reducible refine Ext.alloc' ?_ _ | with_reducible refine Ext.setCell_at ?_ _ _ _ (by first | exact Nat.le_refl _ | omega) | with_reducible assumption | refine Ext.trans ?_ (by with_reducible assumption)))) (HB.out.ext (by (repeat first | with_reducible exact Ext.rfl' _ | with_reducible refine Ext.drewN ?_ _ | with_reducible refine Ext.drew' ?_ | with_reducible refine Ext.alloc' ?_ _ | with_reducible refine Ext.setCell_at ?_ _ _ _ (by first | exact Nat.le_refl _ | omega) | with_reducible assumption | refine Ext.trans ?_ (by with_reducible assumption)))) HL.out HI.out HI'.out HS.out HS'.out r HR.out).mono ?_
  rintro e w1 ⟨he1, rfl⟩
  go_wp2_with fail
  go_ret
  exact ⟨by (repeat first | with_reducible exact Ext.rfl' _ | with_reducible refine Ext.drewN ?_ _ | with_reducible refine Ext.drew' ?_ | with_reducible refine Ext.alloc' ?_ _ | with_reducible refine Ext.setCell_at ?_ _ _ _ (by first | exact Nat.le_refl _ | omega) | with_reducible assumption | refine Ext.trans ?_ (by with_reducible assumption)), rfl⟩
end Go.Proofs.Ytbaohbpfnlicpaa
