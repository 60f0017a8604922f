/- Walks: the law's own copies of lists of floats, and of basins. -/
import Derived.Test.YtbaohbpfnlicpaaW1
import Derived.Test.YtbaohbpfnlicpaaPure
import Derived.Deep.RegionLaw
namespace Go.Proofs.Ytbaohbpfnlicpaa
open Go Go.RowKit
set_option linter.unusedVariables false
set_option linter.unusedSimpArgs false
attribute [local go_sem] run_store_float

/-- a slice of floats that may be written, in blocks from B on -/
def FO (w : World) (B : Nat) (A : Option Addr) (xs : List Nat) : Prop :=
  0 < xs.length → ∃ b o, A = some ⟨b, o, none⟩ ∧ B ≤ b ∧ b < w.heap.size ∧ (∀ j, w.frozen? ⟨b, j, none⟩ = false) ∧ ∀ i, i < xs.length → ∃ x, w.cell? ⟨b, o + i, none⟩ = some (.float .f32 x) ∧ cn .f32 x = xs.getD i 0
theorem FO.ext {w w' : World} {B : Nat} {A : Option Addr} {xs : List Nat} (h : FO w B A xs) (he : Ext w w') : FO w' B A xs := fun hp => by
  obtain ⟨b, o, hA, hB, hb, hf, hc⟩ := h hp
  refine ⟨b, o, hA, hB, Nat.lt_of_lt_of_le hb he.size, fun j => (he.frozen (p := ⟨b, j, none⟩) hb).trans (hf j), fun i hi => ?_⟩
  obtain ⟨x, h1, h2⟩ := hc i hi
  exact ⟨x, (he.cell (p := ⟨b, o + i, none⟩) hb).trans h1, h2⟩
theorem FO.fs {w : World} {B : Nat} {A : Option Addr} {xs : List Nat} (h : FO w B A xs) : FS w A xs := fun hp => by
  obtain ⟨b, o, hA, _, hb, _, hc⟩ := h hp
  exact ⟨b, o, hA, hb, hc⟩
theorem FO.mono {w : World} {B B' : Nat} {A : Option Addr} {xs : List Nat} (h : FO w B A xs) (hB : B' ≤ B) : FO w B' A xs := fun hp => by
  obtain ⟨b, o, hA, hb, r⟩ := h hp
  exact ⟨b, o, hA, Nat.le_trans hB hb, r⟩
theorem FO.only {w w' : World} {B : Nat} {A : Option Addr} {xs : List Nat} {row : Option Nat} (h : FO w B A xs) (hg : w.grownBy w' row) (hne : ∀ b o, A = some ⟨b, o, none⟩ → some b ≠ row) : FO w' B A xs := fun hp => by
  obtain ⟨b, o, hA, hB, hb, hf, hc⟩ := h hp
  have hbl := hg.block b hb (hne b o hA)
  refine ⟨b, o, hA, hB, Nat.lt_of_lt_of_le hb hg.size, fun j => (World.frozen?_of_block (w := w) hbl).trans (hf j), fun i hi => ?_⟩
  obtain ⟨x, h0, h1⟩ := hc i hi
  exact ⟨x, (World.cell?_of_block (w := w) hbl).trans h0, h1⟩
theorem FO.only_lt {w w' : World} {B : Nat} {A : Option Addr} {xs : List Nat} {row : Option Nat} (h : FO w B A xs) (hg : w.grownBy w' row) (hlt : ∀ g, row = some g → g < B) : FO w' B A xs := fun hp => by
  obtain ⟨b, o, hA, hB, -⟩ := h hp
  exact h.only hg (fun b' o' hA' e => by
    rw [hA'] at hA
    simp only [Option.some.injEq, Addr.mk.injEq] at hA
    have := hlt b' e.symm
    omega) hp
theorem FO.set_lt {w : World} {B : Nat} {A : Option Addr} {xs : List Nat} (h : FO w B A xs) (g i : Nat) (u : Value) (hg : g < B) : FO (w.setCell ⟨g, i, none⟩ u) B A xs :=
  h.only_lt (row := some g) (only_setCell (g := g) (p := ⟨g, i, none⟩) (only_refl _ _) rfl _) (fun k hk => by simp only [Option.some.injEq] at hk; omega)
theorem infoF : (Try.prog.info? 22).map (fun i => (i.zero, i.size, i.bytes)) = some (some (.float .f32 0), 1, 4) := by kernel_rfl
/-- 'make([]float32, n)' -/
theorem run_make_f (n : Nat) (hn : n ≤ 1048576) (w : World) :
    (Instr.makeSlice 29 (.int .i64 (n : Int)) (.int .i64 (n : Int))).run Try.prog w = .ok (.slice (some ⟨w.heap.size, 0, none⟩) n n) (w.alloc (.cells (madeCells #[.float .f32 0] n) 22)) := by
  obtain ⟨i, h1, h2, h3, h4⟩ := info_parts infoF
  have := run_make_rowN (P := Try.prog) 29 22 i _ Try.underlying29 h1 h2 .i64 .i64 n n (Nat.le_refl _) (by rw [h4]; omega) (by omega) w
  rw [h3, Nat.mul_one] at this
  exact this
/-- in an array of cells the i-th is a float that is x -/
def AFl (arr : Array Value) (i x : Nat) : Prop := ∃ y, arr[i]? = some (.float .f32 y) ∧ cn .f32 y = x
theorem Blk.fo {w : World} {g : Nat} {t : TypeId} {arr : Array Value} {xs : List Nat} {B : Nat} (h : Blk w g t arr) (hB : B ≤ g) (hv : ∀ i, i < xs.length → AFl arr i (xs.getD i 0)) : FO w B (some ⟨g, 0, none⟩) xs := fun _ => by
  refine ⟨g, 0, rfl, hB, h.lt, fun j => h.frozen j, fun i hi => ?_⟩
  obtain ⟨y, h0, h1⟩ := hv i hi
  exact ⟨y, by rw [h.cell, Nat.zero_add]; exact h0, h1⟩

/-- the widening of one float32, in whatever world -/
theorem widen_fun (x : Nat) : ∃ (r n : World → Nat), (∀ w, (convert 22 38 (.float .f32 x)).run Try.prog w = .ok (.float .f64 (r w)) (w.drewN (n w))) ∧ ∀ w, cn .f64 (r w) = wid (cn .f32 x) := by
  have h := fun w => run_fconv Try.prog 22 38 .f32 .f64 isF32 Try.underlying38 x (fun _ => ovf_widen _) w
  exact ⟨fun w => (h w).choose, fun w => (h w).choose_spec.choose, fun w => (h w).choose_spec.choose_spec.1, fun w => (h w).choose_spec.choose_spec.2⟩

theorem toFloat32S_any (A : Option Addr) (cap : Nat) (xs : List Nat) (w : World) (hA : FS w A xs) (hl : xs.length ≤ 1048576) :
    Calls Try.prog 89 #[.slice A xs.length cap] w fun e w' => Ext w w' ∧ ∃ A', e = .returned (.slice A' xs.length xs.length) ∧ FO w' w.heap.size A' xs := by
  have hmk := fun W => run_make_f xs.length hl W
  have HA := Lib.hid hA
  have HL := Lib.hid hl
  clear hA hl
  go_enter Try.func89, Try.ntmps89
  go_wp2_with fail
  go_loopw [4] (fun i wr => ∃ (k : Nat) (arr : Array Value), k ≤ xs.length ∧ i = .int .i64 k ∧ Blk wr w.heap.size 22 arr ∧ arr.size = xs.length ∧ (∀ j, j < k → AFl arr j (xs.getD j 0)) ∧ Below w.heap.size w wr) (fun i _ => xs.length - (intOf i).toNat)
  case atStart => exact ⟨0, _, Nat.zero_le _, rfl, Blk.new _ _ _, by simp [size_madeCells], fun j hj => absurd hj (Nat.not_lt_zero j), by go_grown⟩
  case round =>
    obtain ⟨k, arr, hk, rfl, hB, hs, hv, hbel⟩ := hrel
    have HB := Lib.hid hB
    have HS := Lib.hid hs
    have HV := Lib.hid hv
    have HE := Lib.hid hbel
    clear hB hs hv hbel
    have hk9 : k < 9223372036854775807 := by have := HL.out; omega
    by_cases hlt : k < xs.length
    · obtain ⟨b, o, rfl, hbw, hc⟩ := HA.out (by omega)
      obtain ⟨x, c0, hcv⟩ := hc k hlt
      have d0 := (HE.out.cell (p := ⟨b, o + k, none⟩) hbw).trans c0
      have HC := Lib.hid hcv
      have hsz : k < arr.size := by rw [HS.out]; exact hlt
      have e0 : wr.cell? ⟨w.heap.size, k, none⟩ = some (arr[k]'hsz) := by rw [HB.out.cell]; exact Array.getElem?_eq_getElem _
      have f0 := HB.out.frozen k
      generalize arr[k]'hsz = u0 at e0
      clear c0 hc hcv hsz
      go_wp2_with fail
      refine ⟨⟨k + 1, _, by omega, by go_num, HB.out.set_ k (.float .f32 x), by simpa using HS.out, fun j hj => ?_, by have h := HE.out; go_grown⟩, by simp [intOf]; omega⟩
      rcases Nat.lt_or_ge j k with hjk | hjk
      · obtain ⟨y, h0, h1⟩ := HV.out j hjk
        exact ⟨y, by rw [Array.getElem?_setIfInBounds_ne (by omega)]; exact h0, h1⟩
      · have : j = k := by omega
        subst this
        exact ⟨x, by simp [Array.getElem?_setIfInBounds, HS.out, hlt], HC.out⟩
    · go_wp2_with fail
      have hkl : k = xs.length := by omega
      go_ret
      refine ⟨HE.out, _, rfl, HB.out.fo (Nat.le_refl _) (fun i hi => HV.out i (by omega))⟩

set_option maxRecDepth 100000 in
theorem eqFloat32S_any (A B : Option Addr) (ca cb : Nat) (xs : List Nat) (w : World) (hA : FS w A xs) (hB : FS w B xs) (hl : xs.length ≤ 1048576) :
    Calls Try.prog 92 #[.slice A xs.length ca, .slice B xs.length cb] w fun e w' => Ext w w' ∧ e = .returned (.bool true) := by
  have HA := Lib.hid hA
  have HB := Lib.hid hB
  have HL := Lib.hid hl
  clear hA hB hl
  go_enter Try.func92, Try.ntmps92
  go_wp2_with fail
  go_loopw [5] (fun i wr => ∃ (k : Nat), k ≤ xs.length ∧ i = .int .i64 k ∧ Below w.heap.size w wr) (fun i _ => xs.length - (intOf i).toNat)
  case atStart => exact ⟨0, Nat.zero_le _, rfl, Ext.rfl' _⟩
  case round =>
    obtain ⟨k, hk, rfl, hbel⟩ := hrel
    have HE := Lib.hid hbel
    clear hbel
    have hk9 : k < 9223372036854775807 := by have := HL.out; omega
    by_cases hlt : k < xs.length
    · obtain ⟨b, o, rfl, hbw, hc⟩ := HA.out (by omega)
      obtain ⟨x, c0, hcv⟩ := hc k hlt
      obtain ⟨b', o', rfl, hbw', hc'⟩ := HB.out (by omega)
      obtain ⟨x', c0', hcv'⟩ := hc' k hlt
      have d0 := (HE.out.cell (p := ⟨b, o + k, none⟩) hbw).trans c0
      have d0' := (HE.out.cell (p := ⟨b', o' + k, none⟩) hbw').trans c0'
      have hxx := hcv'.trans hcv.symm
      clear c0 hc hcv c0' hc' hcv'
      go_wp2_with fail
      obtain ⟨r1, n1, hr1, hv1⟩ := widen_fun x
      obtain ⟨r2, n2, hr2, hv2⟩ := widen_fun x'
      have HV1 := Lib.hid hv1
      have HV2 := Lib.hid hv2
      have HXX := Lib.hid hxx
      clear hv1 hv2 hxx
      go_region_law (first
          | (go_simp; go_at_call 31; refine (sameFloat_any _ _ (by rw [HV1.out, HV2.out, HXX.out]) _).mono ?_; rintro e w5 ⟨he5, rfl⟩; have E5 : Ext wr w5 := (by (repeat first | with_reducible exact Ext.rfl' _ | with_reducible refine Ext.drewN ?_ _ | with_reducible refine Ext.drew' ?_ | with_reducible refine Ext.alloc' ?_ _ | with_reducible refine Ext.setCell_at ?_ _ _ _ (by first | exact Nat.le_refl _ | omega) | with_reducible assumption | refine Ext.trans ?_ (by with_reducible assumption)))))
      all_goals
        have HF := Lib.hid (show Below w.heap.size w w5 from HE.out.trans (E5.mono HE.out.size))
        clear E5 he5
        go_wp2_with fail
        exact ⟨⟨k + 1, by omega, by go_num, HF.out⟩, by simp [intOf]; omega⟩
    · go_wp2_with fail
      go_ret
      exact ⟨HE.out, rfl⟩

theorem szFloat32S_any (A : Option Addr) (n cap : Nat) (l : Int) (w : World) (h1 : 0 ≤ l) (h2 : l ≤ 1048576) (hn : n ≤ 9223372036854775807) :
    Calls Try.prog 86 #[.slice A n cap, .int .i64 l] w fun e w' => w = w' ∧ e = .returned (.int .i64 (if l - n < 0 then -1 else l - n)) := by
  have hw : IntKind.i64.wrap (l - n) = l - n := IntWalk.i64_in _ (by omega)
  have H2 := Lib.hid h2
  have HN := Lib.hid hn
  clear h2 hn
  by_cases h : l - n < 0
  · go_enter Try.func86, Try.ntmps86
    go_wp2_with fail
    go_ret
    exact ⟨rfl, rfl⟩
  · go_enter Try.func86, Try.ntmps86
    go_wp2_with fail
    go_ret
    exact ⟨rfl, rfl⟩
theorem szBasin_any (a h : Int) (A : Option Addr) (n cap : Nat) (l : Int) (w : World) (h1 : 0 ≤ l) (h2 : l ≤ 1048576) (hn : n ≤ 9223372036854775807) :
    Calls Try.prog 27 #[.agg #[.int .i64 a, .int .i64 h, .slice A n cap], .int .i64 l] w fun e w' => Ext w w' ∧ e = .returned (.int .i64 (if l - n < 0 then -1 else l - n)) := by
  have H2 := Lib.hid h2
  have HN := Lib.hid hn
  clear h2 hn
  by_cases hh : l - n < 0
  · go_enter Try.func27, Try.ntmps27
    go_wp2_with (go_at_call 86; refine (szFloat32S_any _ _ _ _ _ (by omega) H2.out HN.out).mono ?_; rintro e w1 ⟨rfl, rfl⟩)
    go_ret
    refine ⟨?_, rfl⟩
    (repeat first | with_reducible exact Ext.rfl' _ | with_reducible refine Ext.drewN ?_ _ | with_reducible refine Ext.drew' ?_ | with_reducible refine Ext.alloc' ?_ _ | with_reducible refine Ext.setCell_at ?_ _ _ _ (by first | exact Nat.le_refl _ | omega) | with_reducible assumption | refine Ext.trans ?_ (by with_reducible assumption))
  · go_enter Try.func27, Try.ntmps27
    go_wp2_with (go_at_call 86; refine (szFloat32S_any _ _ _ _ _ (by omega) H2.out HN.out).mono ?_; rintro e w1 ⟨rfl, rfl⟩)
    go_ret
    refine ⟨?_, rfl⟩
    (repeat first | with_reducible exact Ext.rfl' _ | with_reducible refine Ext.drewN ?_ _ | with_reducible refine Ext.drew' ?_ | with_reducible refine Ext.alloc' ?_ _ | with_reducible refine Ext.setCell_at ?_ _ _ _ (by first | exact Nat.le_refl _ | omega) | with_reducible assumption | refine Ext.trans ?_ (by with_reducible assumption))
theorem szBasin_big (a h : Int) (A : Option Addr) (n cap : Nat) (l : Int) (w : World) (h1 : 0 ≤ l) (h2 : l ≤ 1048576) (hn : n ≤ 9223372036854775807) (hh : l - n < 0) :
    Calls Try.prog 27 #[.agg #[.int .i64 a, .int .i64 h, .slice A n cap], .int .i64 l] w fun e w' => Ext w w' ∧ e = .returned (.int .i64 (-1)) :=
  (szBasin_any a h A n cap l w h1 h2 hn).mono fun e w' ⟨x, y⟩ => ⟨x, by rw [y, if_pos hh]⟩
theorem szBasin_ok (a h : Int) (A : Option Addr) (n cap : Nat) (l : Int) (w : World) (h1 : 0 ≤ l) (h2 : l ≤ 1048576) (hn : n ≤ 9223372036854775807) (hh : ¬ l - n < 0) :
    Calls Try.prog 27 #[.agg #[.int .i64 a, .int .i64 h, .slice A n cap], .int .i64 l] w fun e w' => Ext w w' ∧ ∃ q : Int, e = .returned (.int .i64 q) ∧ 0 ≤ q ∧ q = l - n :=
  (szBasin_any a h A n cap l w h1 h2 hn).mono fun e w' ⟨x, y⟩ => ⟨x, _, by rw [y, if_neg hh], by omega, rfl⟩
theorem Blk.setoff {w : World} {g h : Nat} {t : TypeId} {cs : Array Value} (hB : Blk w g t cs) (hne : h ≠ g) (i : Nat) (u : Value) : Blk (w.setCell ⟨h, i, none⟩ u) g t cs := by
  unfold Blk at hB ⊢
  simp only [World.setCell, Array.getElem?_modify]
  rw [if_neg hne]
  exact hB
/-- three cells of a struct, in a block -/
theorem Blk.set1 {w : World} {g : Nat} {t : TypeId} {cs : Array Value} (h : Blk w g t cs) (i : Nat) (u : Value) (cs' : Array Value) (he : cs.setIfInBounds i u = cs') : Blk (w.setCell ⟨g, i, none⟩ u) g t cs' := he ▸ h.set_ i u

set_option maxRecDepth 100000 in
theorem toBasin_any (a h : Int) (A : Option Addr) (cap : Nat) (xs : List Nat) (w : World) (hA : FS w A xs) (hl : xs.length ≤ 1048576) :
    Calls Try.prog 29 #[.agg #[.int .i64 a, .int .i64 h, .slice A xs.length cap]] w fun e w' => Ext w w' ∧ ∃ A', e = .returned (.agg #[.int .i64 a, .int .i64 h, .slice A' xs.length xs.length]) ∧ FO w' w.heap.size A' xs := by
  have HA := Lib.hid hA
  have HL := Lib.hid hl
  clear hA hl
  go_enter Try.func29, Try.ntmps29
  go_wp2_with fail
  refine (toFloat32S_any _ _ _ _ (HA.out.ext (by (repeat first | with_reducible exact Ext.rfl' _ | with_reducible refine Ext.drewN ?_ _ | with_reducible refine Ext.drew' ?_ | with_reducible refine Ext.alloc' ?_ _ | with_reducible refine Ext.setCell_at ?_ _ _ _ (by first | exact Nat.le_refl _ | omega) | with_reducible assumption | refine Ext.trans ?_ (by with_reducible assumption)))) HL.out).mono ?_
  rintro e w1 ⟨he1, A', rfl, ho⟩
  have HO := Lib.hid ho
  clear ho
  have hO : Blk w1 (w.heap.size + 1 + 1) 35 #[.int .i64 a, .int .i64 h, .slice none 0 0] := Blk.ext (Blk.at_ _ _ _ _ (by simp)) he1
  have hR : Blk w1 (w.heap.size + 1) 35 #[.int .i64 0, .int .i64 0, .slice none 0 0] := Blk.ext ((Blk.at_ (w.alloc (.cells #[.int .i64 a, .int .i64 h, .slice A xs.length cap] 31)) 35 #[.int .i64 0, .int .i64 0, .slice none 0 0] (w.heap.size + 1) (by simp)).alloc _) he1
  have HR := Lib.hid hR
  have HOO := Lib.hid hO
  have HE1 := Lib.hid (show Ext w w1 by (repeat first | with_reducible exact Ext.rfl' _ | with_reducible refine Ext.drewN ?_ _ | with_reducible refine Ext.drew' ?_ | with_reducible refine Ext.alloc' ?_ _ | with_reducible refine Ext.setCell_at ?_ _ _ _ (by first | exact Nat.le_refl _ | omega) | with_reducible assumption | refine Ext.trans ?_ (by with_reducible assumption)))
  have o0 : w1.cell? ⟨w.heap.size + 1 + 1, 0, none⟩ = some (.int .i64 a) := hO.cell 0
  have o1 : w1.cell? ⟨w.heap.size + 1 + 1, 1, none⟩ = some (.int .i64 h) := hO.cell 1
  have o2 : w1.cell? ⟨w.heap.size + 1 + 1, 2, none⟩ = some (.slice none 0 0) := hO.cell 2
  have of2 := hO.frozen 2
  have r0 : w1.cell? ⟨w.heap.size + 1, 0, none⟩ = some (.int .i64 0) := hR.cell 0
  have r1 : w1.cell? ⟨w.heap.size + 1, 1, none⟩ = some (.int .i64 0) := hR.cell 1
  have r2 : w1.cell? ⟨w.heap.size + 1, 2, none⟩ = some (.slice none 0 0) := hR.cell 2
  have rf0 := hR.frozen 0
  have rf1 := hR.frozen 1
  have rf2 := hR.frozen 2
  have hlt : w.heap.size + 1 + 1 < w1.heap.size := hO.lt
  clear he1 hO hR
  go_wp2_with fail
  have hb1 := HOO.out.lt
  have e3 : Ext w ((((w1.setCell ⟨w.heap.size + 1 + 1, 2, none⟩ (.slice A' xs.length xs.length)).setCell ⟨w.heap.size + 1, 0, none⟩ (.int .i64 a)).setCell ⟨w.heap.size + 1, 1, none⟩ (.int .i64 h)).setCell ⟨w.heap.size + 1, 2, none⟩ (.slice A' xs.length xs.length)) := Ext.setCell_at (Ext.setCell_at (Ext.setCell_at (Ext.setCell_at HE1.out _ _ _ (by omega)) _ _ _ (by omega)) _ _ _ (by omega)) _ _ _ (by omega)
  have hfo : FO ((((w1.setCell ⟨w.heap.size + 1 + 1, 2, none⟩ (.slice A' xs.length xs.length)).setCell ⟨w.heap.size + 1, 0, none⟩ (.int .i64 a)).setCell ⟨w.heap.size + 1, 1, none⟩ (.int .i64 h)).setCell ⟨w.heap.size + 1, 2, none⟩ (.slice A' xs.length xs.length)) w.heap.size A' xs := by
    refine ((((HO.out.set_lt _ _ _ ?_).set_lt _ _ _ ?_).set_lt _ _ _ ?_).set_lt _ _ _ ?_).mono ?_ <;> (simp only [World.size_alloc]; omega)
  have hB := (((HR.out.setoff (h := w.heap.size + 1 + 1) (by omega) 2 (.slice A' xs.length xs.length)).set1 0 (.int .i64 a) #[.int .i64 a, .int .i64 0, .slice none 0 0] rfl).set1 1 (.int .i64 h) #[.int .i64 a, .int .i64 h, .slice none 0 0] rfl).set1 2 (.slice A' xs.length xs.length) #[.int .i64 a, .int .i64 h, .slice A' xs.length xs.length] rfl
  generalize (((w1.setCell ⟨w.heap.size + 1 + 1, 2, none⟩ (.slice A' xs.length xs.length)).setCell ⟨w.heap.size + 1, 0, none⟩ (.int .i64 a)).setCell ⟨w.heap.size + 1, 1, none⟩ (.int .i64 h)).setCell ⟨w.heap.size + 1, 2, none⟩ (.slice A' xs.length xs.length) = W9 at *
  have q0 : W9.cell? ⟨w.heap.size + 1, 0, none⟩ = some (.int .i64 a) := hB.cell 0
  have q1 : W9.cell? ⟨w.heap.size + 1, 1, none⟩ = some (.int .i64 h) := hB.cell 1
  have q2 : W9.cell? ⟨w.heap.size + 1, 2, none⟩ = some (.slice A' xs.length xs.length) := hB.cell 2
  exact bodyPost_ret (v := .agg #[.int .i64 a, .int .i64 h, .slice A' xs.length xs.length]) (by simp [results, Try.results29, go_sem, q0, q1, q2]) rfl ⟨e3, A', rfl, hfo⟩

set_option maxRecDepth 100000 in
theorem eqBasin_any (a h : Int) (A B : Option Addr) (ca cb : Nat) (xs : List Nat) (w : World) (hA : FS w A xs) (hB : FS w B xs) (hl : xs.length ≤ 1048576) :
    Calls Try.prog 32 #[.agg #[.int .i64 a, .int .i64 h, .slice A xs.length ca], .agg #[.int .i64 a, .int .i64 h, .slice B xs.length cb]] w fun e w' => Ext w w' ∧ e = .returned (.bool true) := by
  have HA := Lib.hid hA
  have HB := Lib.hid hB
  have HL := Lib.hid hl
  clear hA hB hl
  go_enter Try.func32, Try.ntmps32
  go_wp2_with (go_at_call 92; refine (eqFloat32S_any _ _ _ _ _ _ (HA.out.ext (by (repeat first | with_reducible exact Ext.rfl' _ | with_reducible refine Ext.drewN ?_ _ | with_reducible refine Ext.drew' ?_ | with_reducible refine Ext.alloc' ?_ _ | with_reducible refine Ext.setCell_at ?_ _ _ _ (by first | exact Nat.le_refl _ | omega) | with_reducible assumption | refine Ext.trans ?_ (by with_reducible assumption)))) (HB.out.ext (by (repeat first | with_reducible exact Ext.rfl' _ | with_reducible refine Ext.drewN ?_ _ | with_reducible refine Ext.drew' ?_ | with_reducible refine Ext.alloc' ?_ _ | with_reducible refine Ext.setCell_at ?_ _ _ _ (by first | exact Nat.le_refl _ | omega) | with_reducible assumption | refine Ext.trans ?_ (by with_reducible assumption)))) HL.out).mono ?_; rintro e w1 ⟨he1, rfl⟩; obtain ⟨hc1, hf1⟩ := bcell he1; (try simp only [World.heap_drewN, World.cell?_drewN, World.frozen?_drewN] at hc1 hf1); (have hz0 : w.heap.size < w1.heap.size := (by have := he1.size; (try simp only [World.heap_drewN, World.size_alloc] at this); omega)); (have hz1 : w.heap.size + 1 < w1.heap.size := (by have := he1.size; (try simp only [World.heap_drewN, World.size_alloc] at this); omega)))
  go_ret
  refine ⟨?_, rfl⟩
  (repeat first | with_reducible exact Ext.rfl' _ | with_reducible refine Ext.drewN ?_ _ | with_reducible refine Ext.drew' ?_ | with_reducible refine Ext.alloc' ?_ _ | with_reducible refine Ext.setCell_at ?_ _ _ _ (by first | exact Nat.le_refl _ | omega) | with_reducible assumption | refine Ext.trans ?_ (by with_reducible assumption))
end Go.Proofs.Ytbaohbpfnlicpaa
