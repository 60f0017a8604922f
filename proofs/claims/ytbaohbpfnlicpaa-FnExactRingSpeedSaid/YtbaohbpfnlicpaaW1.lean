/- Walks: the law's own copies. -/
import Derived.Test.YtbaohbpfnlicpaaProg
import Derived.Test.YtbaohbpfnlicpaaMem
import Derived.Test.YtbaohbpfnlicpaaFb
import Derived.Handy
import Derived.StillTailTactics
namespace Go.Proofs.Ytbaohbpfnlicpaa
open Go Go.RowKit
set_option linter.unusedVariables false
set_option linter.unusedSimpArgs false

attribute [local go_sem] run_store_float

theorem toVector_any (x y z : Nat) (w : World) : Calls Try.prog 61 #[.agg #[.float .f32 x, .float .f32 y, .float .f32 z]] w fun e w' => Ext w w' ∧ e = .returned (.agg #[.float .f32 x, .float .f32 y, .float .f32 z]) := by
  go_enter Try.func61, Try.ntmps61
  go_wp2
  go_returns
  exact ⟨by go_grown, rfl⟩

theorem infoV : (Try.prog.info? 54).map (fun i => (i.zero, i.size, i.bytes)) = some (some (.agg #[.float .f32 0, .float .f32 0, .float .f32 0]), 3, 12) := by kernel_rfl

theorem toVectorS_any (A : Option Addr) (cap : Nat) (cs : List V3) (w : World) (hA : VS w A cs) (hl : cs.length ≤ 1048576) :
    Calls Try.prog 95 #[.slice A cs.length cap] w fun e w' => Ext w w' ∧ ∃ A', e = .returned (.slice A' cs.length cs.length) ∧ VO w' w.heap.size A' cs := by
  have hmk := fun W => run_make_v3 (P := Try.prog) 46 54 Try.underlying46 infoV cs.length hl W
  have HA := Lib.hid hA
  have HL := Lib.hid hl
  clear hA hl
  go_enter Try.func95, Try.ntmps95
  go_wp2_with fail
  go_loopw [4] (fun i wr => ∃ (k : Nat) (arr : Array Value), k ≤ cs.length ∧ i = .int .i64 k ∧ Blk wr w.heap.size 54 arr ∧ arr.size = cs.length * 3 ∧ (∀ j, j < k → AVec arr j (cs.getD j (0, 0, 0))) ∧ Below w.heap.size w wr) (fun i _ => cs.length - (intOf i).toNat)
  case atStart => exact ⟨0, _, Nat.zero_le _, rfl, Blk.new _ _ _, size_madeCells _ _, fun j hj => absurd hj (Nat.not_lt_zero j), by go_grown⟩
  case round =>
    obtain ⟨k, arr, hk, rfl, hB, hs, hv, hbel⟩ := hrel
    have HB := Lib.hid hB
    have HS := Lib.hid hs
    have HV := Lib.hid hv
    have HE := Lib.hid hbel
    clear hB hs hv hbel
    have hk9 : k < 9223372036854775807 := by have := HL.out; omega
    by_cases hlt : k < cs.length
    · obtain ⟨b, o, rfl, hbw, hc⟩ := HA.out (by omega)
      obtain ⟨x, y, z, c0, c1, c2, hcv⟩ := hc k hlt
      have d0 := (HE.out.cell (p := ⟨b, o + k * 3, none⟩) hbw).trans c0
      have d1 := (HE.out.cell (p := ⟨b, o + k * 3 + 1, none⟩) hbw).trans c1
      have d2 := (HE.out.cell (p := ⟨b, o + k * 3 + 2, none⟩) hbw).trans c2
      have HC := Lib.hid hcv
      clear c0 c1 c2 hc hcv
      go_wp2_with fail
      refine (toVector_any _ _ _ _).mono ?_
      rintro e w1 ⟨he, rfl⟩
      have HB1 := Lib.hid (HB.out.ext he)
      obtain ⟨v0, v1, v2, e0, e1, e2, f0, f1, f2⟩ := HB1.out.three HS.out hlt
      have HE1 := Lib.hid (HE.out.trans (he.mono HE.out.size))
      clear HB HE he d0 d1 d2
      go_wp2_with fail
      refine ⟨⟨k + 1, _, by omega, by go_num, HB1.out.set3 _ _ _ _, by simpa using HS.out, fun j hj => ?_, by have h := HE1.out; go_grown⟩, by simp [intOf]; omega⟩
      rcases Nat.lt_or_ge j k with hjk | hjk
      · exact (HV.out j hjk).set_far (by omega) _ _ _
      · have : j = k := by omega
        subst this
        rw [← HC.out]
        exact AVec.set_here HS.out hlt _ _ _
    · go_wp2_with fail
      have hkl : k = cs.length := by omega
      go_ret
      refine ⟨HE.out, _, rfl, HB.out.vo (Nat.le_refl _) (fun i hi => HV.out i (by omega))⟩

/-! ## equal floats are found equal -/
theorem sameFloat_any (a b : Nat) (hab : cn .f64 b = cn .f64 a) (w : World) : Calls Try.prog 31 #[.float .f64 a, .float .f64 b] w fun e w' => Ext w w' ∧ e = .returned (.bool true) := by
  have h1 := fcmp_neq_self .f64 (cn .f64 a)
  have h2 := fcmp_eql_self .f64 (cn .f64 a)
  cases hn : isN .f64 (cn .f64 a) with
  | true =>
    rw [hn] at h1 h2
    clear hn
    go_enter Try.func31, Try.ntmps31
    go_wp2_with (first
      | (refine wpList_float rfl _ _ _ _ _ rfl (by decide) _ _ _ rfl rfl ?_; intro r1 n1 q1)
      | (refine wpList_fcmp rfl _ _ _ _ _ rfl rfl _ _ _ rfl rfl _ (by first | with_reducible assumption | rfl) ?_))
    go_ret
    exact ⟨Ext.rfl' _, rfl⟩
  | false =>
    rw [hn] at h1 h2
    clear hn
    cases hz : fcmp .eql .f64 (cn .f64 a) (cn .f64 0) with
    | true =>
      go_enter Try.func31, Try.ntmps31
      go_wp2_with (first
        | (refine wpList_float rfl _ _ _ _ _ rfl (by decide) _ _ _ rfl rfl ?_; intro r1 n1 q1)
        | (refine wpList_fcmp rfl _ _ _ _ _ rfl rfl _ _ _ rfl rfl _ (by first | with_reducible assumption | rfl) ?_))
      unfold FR at *
      go_ret
      refine ⟨(Ext.rfl' _).drewN _, ret_bool ?_⟩
      simp only [*, beq_self_eq_true]
    | false =>
      go_enter Try.func31, Try.ntmps31
      go_wp2_with (first
        | (refine wpList_float rfl _ _ _ _ _ rfl (by decide) _ _ _ rfl rfl ?_; intro r1 n1 q1)
        | (refine wpList_fcmp rfl _ _ _ _ _ rfl rfl _ _ _ rfl rfl _ (by first | with_reducible assumption | rfl) ?_))
      go_ret
      exact ⟨Ext.rfl' _, rfl⟩

theorem isF32 : (Try.prog.underlying 22).isSome = true := by rw [Try.underlying22]; rfl
theorem isF64 : (Try.prog.underlying 38).isSome = true := by rw [Try.underlying38]; rfl
/-- the widening of canonical bits -/
def wid (x : Nat) : Nat := fconv .f32 x .f64

theorem eqVector_any (x y z x' y' z' : Nat) (hc : cv x' y' z' = cv x y z) (w : World) :
    Calls Try.prog 42 #[.agg #[.float .f32 x, .float .f32 y, .float .f32 z], .agg #[.float .f32 x', .float .f32 y', .float .f32 z']] w fun e w' => Ext w w' ∧ e = .returned (.bool true) := by
  simp only [cv, Prod.mk.injEq] at hc
  obtain ⟨h1, h2, h3⟩ := hc
  go_enter Try.func42, Try.ntmps42
  go_wp2_with (first
    | (refine wpList_fconv rfl 22 38 _ rfl .f32 .f64 isF32 Try.underlying38 _ rfl (fun _ => ovf_widen _) ?_; intro r1 n1 q1)
    | (go_at_call 31; refine (sameFloat_any _ _ (by unfold FR at *; simp only [*]) _).mono ?_; rintro e w1 ⟨he1, rfl⟩; obtain ⟨hc1, hf1⟩ := bcell he1; (try simp only [World.heap_drewN, World.cell?_drewN, World.frozen?_drewN] at hc1 hf1); (have hz0 : w.heap.size < w1.heap.size := (by have := he1.size; (try simp only [World.heap_drewN, World.size_alloc] at this); omega)); (have hz1 : w.heap.size + 1 < w1.heap.size := (by have := he1.size; (try simp only [World.heap_drewN, World.size_alloc] at this); omega))))
  go_ret
  refine ⟨?_, rfl⟩
  (repeat first | with_reducible exact Ext.rfl' _ | with_reducible refine Ext.drewN ?_ _ | with_reducible refine Ext.drew' ?_ | with_reducible refine Ext.alloc' ?_ _ | with_reducible refine Ext.setCell_at ?_ _ _ _ (by first | exact Nat.le_refl _ | omega) | with_reducible assumption | refine Ext.trans ?_ (by with_reducible assumption))

set_option maxRecDepth 100000 in
/-- A slice is found equal to one that holds the same. -/
theorem eqVectorS_any (A B : Option Addr) (ca cb : Nat) (cs : List V3) (w : World) (hA : VS w A cs) (hB : VS w B cs) (hl : cs.length ≤ 1048576) :
    Calls Try.prog 99 #[.slice A cs.length ca, .slice B cs.length cb] w fun e w' => Ext w w' ∧ e = .returned (.bool true) := by
  have HA := Lib.hid hA
  have HB := Lib.hid hB
  have HL := Lib.hid hl
  clear hA hB hl
  go_enter Try.func99, Try.ntmps99
  go_wp2_with fail
  go_loopw [5] (fun i wr => ∃ (k : Nat), k ≤ cs.length ∧ i = .int .i64 k ∧ Below w.heap.size w wr) (fun i _ => cs.length - (intOf i).toNat)
  case atStart => exact ⟨0, Nat.zero_le _, rfl, Ext.rfl' _⟩
  case round =>
    obtain ⟨k, hk, rfl, hbel⟩ := hrel
    have HE := Lib.hid hbel
    clear hbel
    have hk9 : k < 9223372036854775807 := by have := HL.out; omega
    by_cases hlt : k < cs.length
    · obtain ⟨b, o, rfl, hbw, hc⟩ := HA.out (by omega)
      obtain ⟨x, y, z, c0, c1, c2, hcv⟩ := hc k hlt
      obtain ⟨b', o', rfl, hbw', hc'⟩ := HB.out (by omega)
      obtain ⟨x', y', z', c0', c1', c2', hcv'⟩ := hc' k hlt
      have d0 := (HE.out.cell (p := ⟨b, o + k * 3, none⟩) hbw).trans c0
      have d1 := (HE.out.cell (p := ⟨b, o + k * 3 + 1, none⟩) hbw).trans c1
      have d2 := (HE.out.cell (p := ⟨b, o + k * 3 + 2, none⟩) hbw).trans c2
      have d0' := (HE.out.cell (p := ⟨b', o' + k * 3, none⟩) hbw').trans c0'
      have d1' := (HE.out.cell (p := ⟨b', o' + k * 3 + 1, none⟩) hbw').trans c1'
      have d2' := (HE.out.cell (p := ⟨b', o' + k * 3 + 2, none⟩) hbw').trans c2'
      have HC := Lib.hid (hcv'.trans hcv.symm)
      clear c0 c1 c2 hc hcv c0' c1' c2' hc' hcv'
      go_wp2_with fail
      go_still_tail 8, (by kernel_rfl)
      go_wp2_with fail
      refine (eqVector_any _ _ _ _ _ _ HC.out _).mono ?_
      rintro e w1 ⟨he, rfl⟩
      have HF := Lib.hid (HE.out.trans ((Below.refl _ _).drew.trans (he.mono HE.out.size)))
      clear he d0 d1 d2 d0' d1' d2'
      go_wp2_with fail
      exact ⟨⟨k + 1, by omega, by go_num, HF.out⟩, by simp [intOf]; omega⟩
    · go_wp2_with fail
      go_ret
      exact ⟨HE.out, rfl⟩

/-! ## threads -/
theorem szVectorS_any (A : Option Addr) (n cap : Nat) (l : Int) (w : World) (h1 : 0 ≤ l) (h2 : l ≤ 1048576) (hn : n ≤ 9223372036854775807) :
    Calls Try.prog 93 #[.slice A n cap, .int .i64 l] w fun e w' => w = w' ∧ e = .returned (.int .i64 (if l - n < 0 then -1 else l - n)) := by
  have hw : IntKind.i64.wrap (l - n) = l - n := IntWalk.i64_in _ (by omega)
  have H2 := Lib.hid h2
  have HN := Lib.hid hn
  clear h2 hn
  by_cases h : l - n < 0
  · go_enter Try.func93, Try.ntmps93
    go_wp2_with fail
    go_ret
    exact ⟨rfl, rfl⟩
  · go_enter Try.func93, Try.ntmps93
    go_wp2_with fail
    go_ret
    exact ⟨rfl, rfl⟩

theorem szThread_any (A : Option Addr) (n cap sp : Nat) (l : Int) (w : World) (h1 : 0 ≤ l) (h2 : l ≤ 1048576) (hn : n ≤ 9223372036854775807) :
    Calls Try.prog 33 #[.agg #[.slice A n cap, .float .f32 sp], .int .i64 l] w fun e w' => Ext w w' ∧ e = .returned (.int .i64 (if l - n < 0 then -1 else l - n)) := by
  have H2 := Lib.hid h2
  have HN := Lib.hid hn
  clear h2 hn
  by_cases h : l - n < 0
  · go_enter Try.func33, Try.ntmps33
    go_wp2_with (go_at_call 93; refine (szVectorS_any _ _ _ _ _ (by omega) H2.out HN.out).mono ?_; rintro e w1 ⟨rfl, rfl⟩)
    go_ret
    refine ⟨?_, rfl⟩
    (repeat first | with_reducible exact Ext.rfl' _ | with_reducible refine Ext.drewN ?_ _ | with_reducible refine Ext.drew' ?_ | with_reducible refine Ext.alloc' ?_ _ | with_reducible refine Ext.setCell_at ?_ _ _ _ (by first | exact Nat.le_refl _ | omega) | with_reducible assumption | refine Ext.trans ?_ (by with_reducible assumption))
  · go_enter Try.func33, Try.ntmps33
    go_wp2_with (go_at_call 93; refine (szVectorS_any _ _ _ _ _ (by omega) H2.out HN.out).mono ?_; rintro e w1 ⟨rfl, rfl⟩)
    go_ret
    refine ⟨?_, rfl⟩
    (repeat first | with_reducible exact Ext.rfl' _ | with_reducible refine Ext.drewN ?_ _ | with_reducible refine Ext.drew' ?_ | with_reducible refine Ext.alloc' ?_ _ | with_reducible refine Ext.setCell_at ?_ _ _ _ (by first | exact Nat.le_refl _ | omega) | with_reducible assumption | refine Ext.trans ?_ (by with_reducible assumption))

theorem toThread_any (A : Option Addr) (cap sp : Nat) (cs : List V3) (w : World) (hA : VS w A cs) (hl : cs.length ≤ 1048576) :
    Calls Try.prog 35 #[.agg #[.slice A cs.length cap, .float .f32 sp]] w fun e w' => Ext w w' ∧ ∃ A', e = .returned (.agg #[.slice A' cs.length cs.length, .float .f32 sp]) ∧ VO w' w.heap.size A' cs := by
  have HA := Lib.hid hA
  have HL := Lib.hid hl
  clear hA hl
  go_enter Try.func35, Try.ntmps35
  go_wp2_with fail
  refine (toVectorS_any _ _ _ _ (HA.out.ext (by (repeat first | with_reducible exact Ext.rfl' _ | with_reducible refine Ext.drewN ?_ _ | with_reducible refine Ext.drew' ?_ | with_reducible refine Ext.alloc' ?_ _ | with_reducible refine Ext.setCell_at ?_ _ _ _ (by first | exact Nat.le_refl _ | omega) | with_reducible assumption | refine Ext.trans ?_ (by with_reducible assumption)))) HL.out).mono ?_
  rintro e w1 ⟨he1, A', rfl, ho⟩
  have HO := Lib.hid ho
  clear ho
  obtain ⟨hc1, hf1⟩ := bcell he1
  have hz2 : w.heap.size + 2 < w1.heap.size := (by have := he1.size; (try simp only [World.heap_drewN, World.size_alloc] at this); omega)
  have hz1 : w.heap.size + 1 < w1.heap.size := by omega
  have hz0 : w.heap.size < w1.heap.size := by omega
  go_wp2_with fail
  refine bodyPost_ret (v := .agg #[.slice A' cs.length cs.length, .float .f32 sp]) (by simp [results, Try.results35, go_sem, hc1, hz0, hz1, hz2]) rfl ?_
  refine ⟨by (repeat first | with_reducible exact Ext.rfl' _ | with_reducible refine Ext.drewN ?_ _ | with_reducible refine Ext.drew' ?_ | with_reducible refine Ext.alloc' ?_ _ | with_reducible refine Ext.setCell_at ?_ _ _ _ (by first | exact Nat.le_refl _ | omega) | with_reducible assumption | refine Ext.trans ?_ (by with_reducible assumption)), A', rfl, ?_⟩
  refine ((((HO.out.set_lt _ _ _ ?_).set_lt _ _ _ ?_).set_lt _ _ _ ?_).set_lt _ _ _ ?_).mono ?_ <;> (simp only [World.size_alloc]; omega)

theorem eqThread_any (A B : Option Addr) (ca cb sa sb : Nat) (cs : List V3) (w : World) (hA : VS w A cs) (hB : VS w B cs) (hs : cn .f32 sb = cn .f32 sa) (hl : cs.length ≤ 1048576) :
    Calls Try.prog 37 #[.agg #[.slice A cs.length ca, .float .f32 sa], .agg #[.slice B cs.length cb, .float .f32 sb]] w fun e w' => Ext w w' ∧ e = .returned (.bool true) := by
  have HA := Lib.hid hA
  have HB := Lib.hid hB
  have HL := Lib.hid hl
  clear hA hB hl
  go_enter Try.func37, Try.ntmps37
  go_wp2_with (first
    | (refine wpList_fconv rfl 22 38 _ rfl .f32 .f64 isF32 Try.underlying38 _ rfl (fun _ => ovf_widen _) ?_; intro r1 n1 q1)
    | (go_at_call 31; refine (sameFloat_any _ _ (by unfold FR at *; simp only [*]) _).mono ?_; rintro e w1 ⟨he1, rfl⟩; obtain ⟨hc1, hf1⟩ := bcell he1; (try simp only [World.heap_drewN, World.cell?_drewN, World.frozen?_drewN] at hc1 hf1); (have hz0 : w.heap.size < w1.heap.size := (by have := he1.size; (try simp only [World.heap_drewN, World.size_alloc] at this); omega)); (have hz1 : w.heap.size + 1 < w1.heap.size := (by have := he1.size; (try simp only [World.heap_drewN, World.size_alloc] at this); omega)))
    | (go_at_call 99; refine (eqVectorS_any _ _ _ _ _ _ (HA.out.ext (by (repeat first | with_reducible exact Ext.rfl' _ | with_reducible refine Ext.drewN ?_ _ | with_reducible refine Ext.drew' ?_ | with_reducible refine Ext.alloc' ?_ _ | with_reducible refine Ext.setCell_at ?_ _ _ _ (by first | exact Nat.le_refl _ | omega) | with_reducible assumption | refine Ext.trans ?_ (by with_reducible assumption)))) (HB.out.ext (by (repeat first | with_reducible exact Ext.rfl' _ | with_reducible refine Ext.drewN ?_ _ | with_reducible refine Ext.drew' ?_ | with_reducible refine Ext.alloc' ?_ _ | with_reducible refine Ext.setCell_at ?_ _ _ _ (by first | exact Nat.le_refl _ | omega) | with_reducible assumption | refine Ext.trans ?_ (by with_reducible assumption)))) HL.out).mono ?_; rintro e w1 ⟨he1, rfl⟩; obtain ⟨hc1, hf1⟩ := bcell he1; (try simp only [World.heap_drewN, World.cell?_drewN, World.frozen?_drewN] at hc1 hf1); (have hz0 : w.heap.size < w1.heap.size := (by have := he1.size; (try simp only [World.heap_drewN, World.size_alloc] at this); omega)); (have hz1 : w.heap.size + 1 < w1.heap.size := (by have := he1.size; (try simp only [World.heap_drewN, World.size_alloc] at this); omega))))
  go_ret
  refine ⟨?_, rfl⟩
  (repeat first | with_reducible exact Ext.rfl' _ | with_reducible refine Ext.drewN ?_ _ | with_reducible refine Ext.drew' ?_ | with_reducible refine Ext.alloc' ?_ _ | with_reducible refine Ext.setCell_at ?_ _ _ _ (by first | exact Nat.le_refl _ | omega) | with_reducible assumption | refine Ext.trans ?_ (by with_reducible assumption))

/-! ## marking -/
theorem markVectorS_any (A : Option Addr) (cap : Nat) (cs : List V3) (k : Int) (B : Nat) (w : World) (hA : VO w B A cs) (h1 : 0 ≤ k) (h2 : k ≤ 1073741824) (hl : cs.length ≤ 1048576) :
    Calls Try.prog 131 #[.slice A cs.length cap, .int .i64 k] w fun e w' =>
      e = .returned (.int .i64 (k + cs.length * 3)) ∧ Marked w' A cs.length k ∧ ∃ row, w.grownBy w' row ∧ (∀ g, row = some g → ∃ o, A = some ⟨g, o, none⟩ ∧ B ≤ g ∧ g < w.heap.size) := by
  have HL := Lib.hid hl
  have H2 := Lib.hid h2
  clear hl h2
  by_cases hp : 0 < cs.length
  · obtain ⟨b, o, rfl, hB, hb, hf, hc⟩ := hA hp
    have HM := Lib.hid (VO.marking hf hc k)
    clear hA hf hc
    go_enter Try.func131, Try.ntmps131
    go_wp2_with fail
    go_loopw [1, 5] (fun q i wr => ∃ (m : Nat), m ≤ cs.length ∧ i = .int .i64 m ∧ q = .int .i64 (k + m * 3) ∧ Marking wr b o (cs.length * 3) (m * 3) k ∧ w.grownBy wr (some b)) (fun _ i _ => cs.length - (intOf i).toNat)
    case atStart => exact ⟨0, Nat.zero_le _, rfl, by simp, by simpa using HM.out, only_refl _ _⟩
    case round =>
      obtain ⟨m, hm, rfl, rfl, hM, hg⟩ := hrel
      have HM' := Lib.hid hM
      have HG := Lib.hid hg
      clear hM hg
      have hm9 : m < 9223372036854775807 := by have := HL.out; omega
      have hkb : k + m * 3 + 3 ≤ 9223372036854775807 := by have := HL.out; have := H2.out; omega
      by_cases hlt : m < cs.length
      · obtain ⟨v0, e0⟩ := HM'.out.all (m * 3) (by omega)
        obtain ⟨v1, e1⟩ := HM'.out.all (m * 3 + 1) (by omega)
        obtain ⟨v2, e2⟩ := HM'.out.all (m * 3 + 2) (by omega)
        rw [← Nat.add_assoc] at e1 e2
        have f0 := HM'.out.free (o + m * 3)
        have f1 := HM'.out.free (o + m * 3 + 1)
        have f2 := HM'.out.free (o + m * 3 + 2)
        go_wp2_with fail
        exact ⟨⟨m + 1, by omega, by go_num, by go_num, HM'.out.step3 (by omega), only_setCell (only_setCell (only_setCell HG.out rfl _) rfl _) rfl _⟩, by simp [intOf]; omega⟩
      · go_wp2_with fail
        have hml : m = cs.length := by omega
        subst hml
        go_ret
        exact ⟨rfl, fun _ => ⟨b, o, rfl, Nat.lt_of_lt_of_le hb HG.out.size, HM'.out.done⟩, some b, HG.out, fun g hg => by injection hg with hg; subst hg; exact ⟨o, rfl, hB, hb⟩⟩
  · have h0 : ¬ (0 : Int) < (cs.length : Int) := by omega
    have H0 : Hid (cs.length = 0) := by show _ = _; omega
    clear hA hp
    go_enter Try.func131, Try.ntmps131
    go_wp2_with fail
    go_loopw [1, 5] (fun q i wr => i = .int .i64 0 ∧ q = .int .i64 k ∧ w = wr) (fun _ _ _ => 0)
    case atStart => exact ⟨rfl, rfl, rfl⟩
    case round =>
      obtain ⟨rfl, rfl, rfl⟩ := hrel
      go_wp2_with fail
      go_ret
      exact ⟨by rw [H0.out]; simp, fun hp => absurd hp (by rw [H0.out]; decide), none, only_refl _ _, fun g hg => by cases hg⟩

theorem cn_mark (m : Int) : cn .f32 (floatOfInt .f32 m) = floatOfInt .f32 m := cn_of_not (read_write_nearest Ieee.single _ _ _)
theorem neq_mark (m : Int) : fcmp .neq .f32 (cn .f32 (floatOfInt .f32 m)) (cn .f32 (floatOfInt .f32 m)) = false := by
  rw [fcmp_neq_self, isN_cn]; exact read_write_nearest Ieee.single _ _ _

theorem heldVectorS_any (A : Option Addr) (n cap : Nat) (k : Int) (w : World) (hA : Marked w A n k) (h1 : 0 ≤ k) (h2 : k ≤ 1073741824) (hl : n ≤ 1048576) :
    Calls Try.prog 132 #[.slice A n cap, .int .i64 k] w fun e w' => w = w' ∧ e = .returned (.int .i64 (k + n * 3)) := by
  have HL := Lib.hid hl
  have H2 := Lib.hid h2
  have HA := Lib.hid hA
  clear hl h2 hA
  go_enter Try.func132, Try.ntmps132
  go_wp2_with fail
  go_loop [1, 5] (fun q i => ∃ (m : Nat), m ≤ n ∧ i = .int .i64 m ∧ q = .int .i64 (k + m * 3)) (fun _ i => n - (intOf i).toNat)
  case atStart => exact ⟨0, Nat.zero_le _, rfl, by simp⟩
  case round =>
    obtain ⟨m, hm, rfl, rfl⟩ := hrel
    have hm9 : m < 9223372036854775807 := by have := HL.out; omega
    have hkb : k + m * 3 + 3 ≤ 9223372036854775807 := by have := HL.out; have := H2.out; omega
    by_cases hlt : m < n
    · obtain ⟨b, o, rfl, hb, hc⟩ := HA.out (by omega)
      have c0 : w.cell? ⟨b, o + m * 3, none⟩ = some (.float .f32 (floatOfInt .f32 (k + m * 3))) := by
        have := hc (m * 3) (by omega); rw [this]; unfold mark; congr 3 <;> omega
      have c1 : w.cell? ⟨b, o + m * 3 + 1, none⟩ = some (.float .f32 (floatOfInt .f32 (k + m * 3 + 1))) := by
        have := hc (m * 3 + 1) (by omega); rw [Nat.add_assoc, this]; unfold mark; congr 3 <;> omega
      have c2 : w.cell? ⟨b, o + m * 3 + 2, none⟩ = some (.float .f32 (floatOfInt .f32 (k + m * 3 + 1 + 1))) := by
        have := hc (m * 3 + 2) (by omega); rw [Nat.add_assoc, this]; unfold mark; congr 3 <;> omega
      clear hc
      have t0 := neq_mark (k + m * 3)
      have t1 := neq_mark (k + m * 3 + 1)
      have t2 := neq_mark (k + m * 3 + 1 + 1)
      go_wp2_with (refine wpList_fcmp rfl _ _ _ _ _ rfl rfl _ _ _ rfl rfl _ (by first | with_reducible assumption | rfl) ?_)
      exact ⟨⟨m + 1, by omega, by go_num, by go_num⟩, by simp [intOf]; omega⟩
    · go_wp2_with fail
      have hml : m = n := by omega
      subst hml
      go_ret
      exact ⟨rfl, rfl⟩
end Go.Proofs.Ytbaohbpfnlicpaa
