/- Lists of floats that a call made itself; basins given, marked. -/
import Derived.Test.YtbaohbpfnlicpaaF3
import Derived.Test.YtbaohbpfnlicpaaM1
import Derived.Lib.SliceRun
import Derived.Deep.AppendLies
import Derived.OwnWalk
import Derived.Lib.SmallJoins
namespace Go.Proofs.Ytbaohbpfnlicpaa
open Go Go.RowKit
set_option linter.unusedVariables false
set_option linter.unusedSimpArgs false
attribute [local go_sem] run_store_float

/-- the walk stands here -/
def StandF (p : Prop) : Prop := p
theorem StandF.of {p : Prop} (h : StandF p) : p := h
theorem StandF.out {p : Prop} (h : p) : StandF p := h
/-- a list of cells holds the floats xs -/
def LFs (cs : List Value) (xs : List Nat) : Prop := cs.length = xs.length ∧ ∀ i, i < xs.length → ∃ y, cs[i]? = some (.float .f32 y) ∧ cn .f32 y = xs.getD i 0
theorem LFs.nil : LFs [] [] := ⟨rfl, fun i hi => absurd hi (Nat.not_lt_zero _)⟩
theorem FS.cells {w : World} {b o : Nat} {xs : List Nat} (h : FS w (some ⟨b, o, none⟩) xs) :
    ∃ news : List Value, LFs news xs ∧ (∀ j u, news[j]? = some u → w.cell? ((⟨b, o, none⟩ : Addr).add j) = some u) ∧ ∀ u ∈ news, u.oneCell' = true := by
  rcases Nat.eq_zero_or_pos xs.length with h0 | hp
  · refine ⟨[], ?_, fun j u hu => by simp at hu, fun u hu => by cases hu⟩
    rw [List.length_eq_zero_iff.1 h0]; exact LFs.nil
  · obtain ⟨b', o', hA, hb, hc⟩ := h hp
    simp only [Option.some.injEq, Addr.mk.injEq, and_true] at hA
    obtain ⟨rfl, rfl⟩ := hA
    refine ⟨(List.range xs.length).map fun j => (w.cell? ⟨b, o + j, none⟩).getD (.bool false), ⟨by simp, fun i hi => ?_⟩, fun j u hu => ?_, fun u hu => ?_⟩
    · obtain ⟨y, c0, c1⟩ := hc i hi
      exact ⟨y, by rw [List.getElem?_map, List.getElem?_range hi]; simp [c0], c1⟩
    · rcases Nat.lt_or_ge j xs.length with hj | hj
      · rw [List.getElem?_map, List.getElem?_range hj] at hu
        obtain ⟨n, hn, -⟩ := hc j hj
        simp only [Option.map_some, hn, Option.getD_some, Option.some.injEq] at hu
        have hadd : (⟨b, o, none⟩ : Addr).add j = ⟨b, o + j, none⟩ := by
          unfold Addr.add
          split
          · rename_i h; subst h; rfl
          · rfl
        rw [hadd, hn, hu]
      · rw [List.getElem?_eq_none (by simpa using hj)] at hu; cases hu
    · simp only [List.mem_map, List.mem_range] at hu
      obtain ⟨j, hj, rfl⟩ := hu
      obtain ⟨n, hn, -⟩ := hc j hj
      rw [hn]; rfl
theorem fo_of_owns {w : World} {B : Nat} {e : TypeId} {v : Value} {n : Nat} {cs : List Value} {xs : List Nat} (h : w.ownsRow B e 1 v n cs) (hv : LFs cs xs) (hn : n = xs.length) : ∃ A cap, v = .slice A n cap ∧ FO w B A xs := by
  rcases h.2 with ⟨rfl, h0⟩ | ⟨g, cap, cur, rfl, hB, hg, h1, h2, h3, h4⟩
  · subst h0
    exact ⟨none, 0, rfl, fun hp => by omega⟩
  · have hblk : Blk w g e cur := hg
    refine ⟨_, _, rfl, fun _ => ⟨g, 0, rfl, hB, hblk.lt, fun j => hblk.frozen j, fun i hi => ?_⟩⟩
    obtain ⟨y, c0, c1⟩ := hv.2 i hi
    have hget : ∀ j, j < n → cur[j]? = cs[j]? := by
      intro j hj
      rw [← h4, List.getElem?_take_of_lt (by omega), Array.getElem?_toList]
    exact ⟨y, by rw [hblk.cell, Nat.zero_add, hget _ (by omega)]; exact c0, c1⟩
/-- one float is set -/
theorem FO.set {w : World} {B b o k : Nat} {xs : List Nat} (h : FO w B (some ⟨b, o, none⟩) xs) (hk : k < xs.length) (s : Nat) : FO (w.setCell ⟨b, o + k, none⟩ (.float .f32 s)) B (some ⟨b, o, none⟩) (xs.set k (cn .f32 s)) := fun hp => by
  rw [List.length_set] at hp
  obtain ⟨b', o', hA, hB, hb, hf, hc⟩ := h hp
  simp only [Option.some.injEq, Addr.mk.injEq, and_true] at hA
  obtain ⟨rfl, rfl⟩ := hA
  refine ⟨b, o, rfl, hB, by simpa [World.setCell] using hb, fun j => by rw [frozen_setCell]; exact hf j, fun i hi => ?_⟩
  rw [List.length_set] at hi
  by_cases e : i = k
  · subst e
    obtain ⟨y, c0, -⟩ := hc i hi
    exact ⟨s, World.cell?_setCell_same w _ _ c0, by simp [List.getD_eq_getElem?_getD, hi]⟩
  · obtain ⟨y, c0, c1⟩ := hc i hi
    refine ⟨y, ?_, ?_⟩
    · rw [World.cell?_setCell_other w _ _ _ (by simp only [ne_eq, Addr.mk.injEq, not_and]; omega)]; exact c0
    · rw [c1]
      simp only [List.getD_eq_getElem?_getD]
      rw [List.getElem?_set_ne (by omega)]
theorem under_floats : Try.prog.underlying 29 = some (.slice 22) := by kernel_rfl

set_option maxRecDepth 100000 in
/-- slices.Clone over floats: the same floats, in memory of the call's own -/
theorem CloneF_any (A : Option Addr) (cap : Nat) (xs : List Nat) (w : World) (hA : FS w A xs) (hl : xs.length ≤ 1048576) (hp : 0 < xs.length) :
    Calls Try.prog 124 #[.slice A xs.length cap] w fun e w' => Ext w w' ∧ ∃ A' cap', e = .returned (.slice A' xs.length cap') ∧ FO w' w.heap.size A' xs := by
  obtain ⟨i0, hi0, iz0, iz1, iz2⟩ := info_parts infoF
  have q22 : ∀ (w : World) (a : Option Addr) (n c n' c' : Nat), (binOp .eql 29 (.slice a n c) (.slice none n' c')).run Try.prog w = .ok (.bool a.isNone) w := fun w a n c n' c' => Lib.run_eql_slice_nil w _ _ a n c n' c' under_floats
  obtain ⟨b, o, rfl, hb, hc⟩ := hA hp
  obtain ⟨news, hnw, hnc, hn1⟩ := hA.cells
  have HN := Lib.hid hnw
  have HNC := Lib.hid hnc
  have HL := Lib.hid hl
  clear hA hl hc hnw hnc
  go_enter Try.func124, Try.ntmps124
  go_wp2_with (first | (at_builtin; refine StandF.of ?_))
  refine StandF.out ?_
  refine wpList_append_own _ rfl _ _ 29 rfl w.heap.size 22 i0 _ 1 4 under_floats hi0 iz0 iz1 iz2 rfl (by decide) (.slice (some ⟨w.heap.size, 0, none⟩) 0 0) 0 [] rfl (World.ownsRow_made w #[] 0 (Nat.le_refl _) (by decide) rfl) ⟨b, o, none⟩ xs.length cap news rfl (by rw [HN.out.1, Nat.mul_one]) (news_ext HNC.out (by (repeat first | with_reducible exact Ext.rfl' _ | with_reducible refine Ext.drewN ?_ _ | with_reducible refine Ext.drew' ?_ | with_reducible refine Ext.alloc' ?_ _ | with_reducible refine Ext.setCell_at ?_ _ _ _ (by first | exact Nat.le_refl _ | omega) | with_reducible assumption | refine Ext.trans ?_ (by with_reducible assumption)))) hn1 (by have := HL.out; unfold maxLen; omega) (by have := HL.out; omega) (by simp) ?_
  intro v' w6 hown6 hgrow hnil
  have e6 : Ext w w6 := Ext.grown (show Ext w (w.alloc (.cells #[] 22)) by (repeat first | with_reducible exact Ext.rfl' _ | with_reducible refine Ext.drewN ?_ _ | with_reducible refine Ext.drew' ?_ | with_reducible refine Ext.alloc' ?_ _ | with_reducible refine Ext.setCell_at ?_ _ _ _ (by first | exact Nat.le_refl _ | omega) | with_reducible assumption | refine Ext.trans ?_ (by with_reducible assumption))) hgrow (fun k hk => by simp [Value.ownBlock] at hk; omega)
  simp only [Nat.zero_add, List.nil_append] at hown6
  obtain ⟨A', cap', rfl, hvo⟩ := fo_of_owns hown6 HN.out rfl
  clear hown6 hgrow hnil
  go_wp2_with fail
  go_ret
  exact ⟨e6, A', cap', rfl, hvo⟩

/-! ## basins given on -/
/-- a call's result: a basin that it made itself, and whether there is one -/
def RB (w0 w' : World) (e : Ending) (P : Bool × Int × Int × List Nat) : Prop :=
  ∃ A' cap', e = .returned (.tuple #[.agg #[.int .i64 P.2.1, .int .i64 P.2.2.1, .slice A' P.2.2.2.length cap'], .bool P.1]) ∧ FO w' w0.heap.size A' P.2.2.2
def giveB (a h : Int) (xs : List Nat) : Bool × Int × Int × List Nat := if isB a h xs then (true, a, h, xs) else (false, 0, 0, [])
def putP (a h : Int) (xs : List Nat) (x y : Int) (s : Nat) : Bool × Int × Int × List Nat := if bHas a h xs x y then giveB a h (xs.set (x + a * y).toNat s) else (false, 0, 0, [])
theorem putP_len (a h : Int) (xs : List Nat) (x y : Int) (s : Nat) (hl : xs.length ≤ 1048576) : (putP a h xs x y s).2.2.2.length ≤ 1048576 := by
  unfold putP giveB
  split
  · split
    · simpa using hl
    · simp
  · simp

set_option maxRecDepth 100000 in
theorem l04Give_any (a u : Int) (A : Option Addr) (cap : Nat) (xs : List Nat) (n : Nat) (hn : xs.length = n) (w : World) (hA : FS w A xs) (hl : n ≤ 1048576) (b : Bool) (hb : isB a u xs = b) :
    Calls Try.prog 123 #[.agg #[.int .i64 a, .int .i64 u, .slice A n cap]] w fun e w' => Ext w w' ∧ e = .returned (.tuple #[if b then .agg #[.int .i64 a, .int .i64 u, .slice A n cap] else .agg #[.int .i64 0, .int .i64 0, .slice none 0 0], .bool b]) := by
  subst hn
  have HA := Lib.hid hA
  have HL := Lib.hid hl
  have HB := Lib.hid hb
  have HT := Lib.hid (show BAt ((w.alloc (.cells #[.int .i64 a, .int .i64 u, .slice A xs.length cap] 35)).alloc (.cells #[.int .i64 0, .int .i64 0, .slice none 0 0] 35)) w.heap.size 0 a u A xs.length cap from ⟨by simp <;> omega, by go_simp, by go_simp, by go_simp⟩)
  have HR := Lib.hid (Blk.at_ (w.alloc (.cells #[.int .i64 a, .int .i64 u, .slice A xs.length cap] 35)) 35 #[.int .i64 0, .int .i64 0, .slice none 0 0] (w.heap.size + 1) (by simp))
  have HE := Lib.hid (show Ext w ((w.alloc (.cells #[.int .i64 a, .int .i64 u, .slice A xs.length cap] 35)).alloc (.cells #[.int .i64 0, .int .i64 0, .slice none 0 0] 35)) by (repeat first | with_reducible exact Ext.rfl' _ | with_reducible refine Ext.drewN ?_ _ | with_reducible refine Ext.drew' ?_ | with_reducible refine Ext.alloc' ?_ _ | with_reducible refine Ext.setCell_at ?_ _ _ _ (by first | exact Nat.le_refl _ | omega) | with_reducible assumption | refine Ext.trans ?_ (by with_reducible assumption)))
  clear hA hl hb
  cases b with
  | false =>
    go_enter Try.func123, Try.ntmps123
    go_wp2_with fail
    generalize ((w.alloc (.cells #[.int .i64 a, .int .i64 u, .slice A xs.length cap] 35)).alloc (.cells #[.int .i64 0, .int .i64 0, .slice none 0 0] 35)) = W1 at *
    refine (l04Is_any w.heap.size 0 a u A cap xs _ HT.out (HA.out.ext HE.out) HL.out _ HB.out).mono ?_
    rintro e w2 ⟨he2, rfl⟩
    have HE2 := Lib.hid (Ext.trans HE.out he2)
    have HR2 := Lib.hid (HR.out.ext he2)
    obtain ⟨tl, t0, t1, t2⟩ := HT.out.ext he2
    have r0 : w2.cell? ⟨w.heap.size + 1, 0, none⟩ = some (.int .i64 0) := HR2.out.cell 0
    have r1 : w2.cell? ⟨w.heap.size + 1, 1, none⟩ = some (.int .i64 0) := HR2.out.cell 1
    have r2 : w2.cell? ⟨w.heap.size + 1, 2, none⟩ = some (.slice none 0 0) := HR2.out.cell 2
    have rf0 := HR2.out.frozen 0
    have rf1 := HR2.out.frozen 1
    have rf2 := HR2.out.frozen 2
    clear he2
    go_wp2_with fail
    have hBS := HR2.out.set3v (.int .i64 0) (.int .i64 0) (.slice none 0 0)
    have e3 : Ext w (((w2.setCell ⟨w.heap.size + 1, 0, none⟩ (.int .i64 0)).setCell ⟨w.heap.size + 1, 1, none⟩ (.int .i64 0)).setCell ⟨w.heap.size + 1, 2, none⟩ (.slice none 0 0)) := Ext.setCell_at (Ext.setCell_at (Ext.setCell_at HE2.out _ _ _ (by omega)) _ _ _ (by omega)) _ _ _ (by omega)
    generalize ((w2.setCell ⟨w.heap.size + 1, 0, none⟩ (.int .i64 0)).setCell ⟨w.heap.size + 1, 1, none⟩ (.int .i64 0)).setCell ⟨w.heap.size + 1, 2, none⟩ (.slice none 0 0) = W9 at *
    have q0 : W9.cell? ⟨w.heap.size + 1, 0, none⟩ = some (.int .i64 0) := hBS.cell 0
    have q1 : W9.cell? ⟨w.heap.size + 1, 1, none⟩ = some (.int .i64 0) := hBS.cell 1
    have q2 : W9.cell? ⟨w.heap.size + 1, 2, none⟩ = some (.slice none 0 0) := hBS.cell 2
    exact bodyPost_ret (v := .tuple #[.agg #[.int .i64 0, .int .i64 0, .slice none 0 0], .bool false]) (by simp [results, Try.results123, go_sem, q0, q1, q2]) rfl ⟨e3, rfl⟩
  | true =>
    go_enter Try.func123, Try.ntmps123
    go_wp2_with fail
    generalize ((w.alloc (.cells #[.int .i64 a, .int .i64 u, .slice A xs.length cap] 35)).alloc (.cells #[.int .i64 0, .int .i64 0, .slice none 0 0] 35)) = W1 at *
    refine (l04Is_any w.heap.size 0 a u A cap xs _ HT.out (HA.out.ext HE.out) HL.out _ HB.out).mono ?_
    rintro e w2 ⟨he2, rfl⟩
    have HE2 := Lib.hid (Ext.trans HE.out he2)
    have HR2 := Lib.hid (HR.out.ext he2)
    obtain ⟨tl, t0, t1, t2⟩ := HT.out.ext he2
    have r0 : w2.cell? ⟨w.heap.size + 1, 0, none⟩ = some (.int .i64 0) := HR2.out.cell 0
    have r1 : w2.cell? ⟨w.heap.size + 1, 1, none⟩ = some (.int .i64 0) := HR2.out.cell 1
    have r2 : w2.cell? ⟨w.heap.size + 1, 2, none⟩ = some (.slice none 0 0) := HR2.out.cell 2
    have rf0 := HR2.out.frozen 0
    have rf1 := HR2.out.frozen 1
    have rf2 := HR2.out.frozen 2
    clear he2
    go_wp2_with fail
    have hBS := HR2.out.set3v (.int .i64 a) (.int .i64 u) (.slice A xs.length cap)
    have e3 : Ext w (((w2.setCell ⟨w.heap.size + 1, 0, none⟩ (.int .i64 a)).setCell ⟨w.heap.size + 1, 1, none⟩ (.int .i64 u)).setCell ⟨w.heap.size + 1, 2, none⟩ (.slice A xs.length cap)) := Ext.setCell_at (Ext.setCell_at (Ext.setCell_at HE2.out _ _ _ (by omega)) _ _ _ (by omega)) _ _ _ (by omega)
    generalize ((w2.setCell ⟨w.heap.size + 1, 0, none⟩ (.int .i64 a)).setCell ⟨w.heap.size + 1, 1, none⟩ (.int .i64 u)).setCell ⟨w.heap.size + 1, 2, none⟩ (.slice A xs.length cap) = W9 at *
    have q0 : W9.cell? ⟨w.heap.size + 1, 0, none⟩ = some (.int .i64 a) := hBS.cell 0
    have q1 : W9.cell? ⟨w.heap.size + 1, 1, none⟩ = some (.int .i64 u) := hBS.cell 1
    have q2 : W9.cell? ⟨w.heap.size + 1, 2, none⟩ = some (.slice A xs.length cap) := hBS.cell 2
    exact bodyPost_ret (v := .tuple #[.agg #[.int .i64 a, .int .i64 u, .slice A xs.length cap], .bool true]) (by simp [results, Try.results123, go_sem, q0, q1, q2]) rfl ⟨e3, rfl⟩
set_option maxRecDepth 100000 in
theorem toldBasin_any (a u : Int) (A : Option Addr) (cap : Nat) (xs : List Nat) (n : Nat) (hn : xs.length = n) (w : World) (hA : FS w A xs) (hl : n ≤ 1048576) (b : Bool) (hb : isB a u xs = b) :
    Calls Try.prog 126 #[.agg #[.int .i64 a, .int .i64 u, .slice A n cap]] w fun e w' => Ext w w' ∧ e = .returned (.tuple #[if b then .agg #[.int .i64 a, .int .i64 u, .slice A n cap] else .agg #[.int .i64 0, .int .i64 0, .slice none 0 0], .bool b]) := by
  subst hn
  have HA := Lib.hid hA
  have HL := Lib.hid hl
  have HB := Lib.hid hb
  have HT := Lib.hid (show BAt ((w.alloc (.cells #[.int .i64 a, .int .i64 u, .slice A xs.length cap] 35)).alloc (.cells #[.int .i64 0, .int .i64 0, .slice none 0 0] 35)) w.heap.size 0 a u A xs.length cap from ⟨by simp <;> omega, by go_simp, by go_simp, by go_simp⟩)
  have HR := Lib.hid (Blk.at_ (w.alloc (.cells #[.int .i64 a, .int .i64 u, .slice A xs.length cap] 35)) 35 #[.int .i64 0, .int .i64 0, .slice none 0 0] (w.heap.size + 1) (by simp))
  have HE := Lib.hid (show Ext w ((w.alloc (.cells #[.int .i64 a, .int .i64 u, .slice A xs.length cap] 35)).alloc (.cells #[.int .i64 0, .int .i64 0, .slice none 0 0] 35)) by (repeat first | with_reducible exact Ext.rfl' _ | with_reducible refine Ext.drewN ?_ _ | with_reducible refine Ext.drew' ?_ | with_reducible refine Ext.alloc' ?_ _ | with_reducible refine Ext.setCell_at ?_ _ _ _ (by first | exact Nat.le_refl _ | omega) | with_reducible assumption | refine Ext.trans ?_ (by with_reducible assumption)))
  clear hA hl hb
  cases b with
  | false =>
    go_enter Try.func126, Try.ntmps126
    go_wp2_with fail
    generalize ((w.alloc (.cells #[.int .i64 a, .int .i64 u, .slice A xs.length cap] 35)).alloc (.cells #[.int .i64 0, .int .i64 0, .slice none 0 0] 35)) = W1 at *
    refine (ValidBasin_any a u A cap xs _ (HA.out.ext HE.out) HL.out _ HB.out).mono ?_
    rintro e w2 ⟨he2, rfl⟩
    have HE2 := Lib.hid (Ext.trans HE.out he2)
    have HR2 := Lib.hid (HR.out.ext he2)
    obtain ⟨tl, t0, t1, t2⟩ := HT.out.ext he2
    have r0 : w2.cell? ⟨w.heap.size + 1, 0, none⟩ = some (.int .i64 0) := HR2.out.cell 0
    have r1 : w2.cell? ⟨w.heap.size + 1, 1, none⟩ = some (.int .i64 0) := HR2.out.cell 1
    have r2 : w2.cell? ⟨w.heap.size + 1, 2, none⟩ = some (.slice none 0 0) := HR2.out.cell 2
    have rf0 := HR2.out.frozen 0
    have rf1 := HR2.out.frozen 1
    have rf2 := HR2.out.frozen 2
    clear he2
    go_wp2_with fail
    have hBS := HR2.out.set3v (.int .i64 0) (.int .i64 0) (.slice none 0 0)
    have e3 : Ext w (((w2.setCell ⟨w.heap.size + 1, 0, none⟩ (.int .i64 0)).setCell ⟨w.heap.size + 1, 1, none⟩ (.int .i64 0)).setCell ⟨w.heap.size + 1, 2, none⟩ (.slice none 0 0)) := Ext.setCell_at (Ext.setCell_at (Ext.setCell_at HE2.out _ _ _ (by omega)) _ _ _ (by omega)) _ _ _ (by omega)
    generalize ((w2.setCell ⟨w.heap.size + 1, 0, none⟩ (.int .i64 0)).setCell ⟨w.heap.size + 1, 1, none⟩ (.int .i64 0)).setCell ⟨w.heap.size + 1, 2, none⟩ (.slice none 0 0) = W9 at *
    have q0 : W9.cell? ⟨w.heap.size + 1, 0, none⟩ = some (.int .i64 0) := hBS.cell 0
    have q1 : W9.cell? ⟨w.heap.size + 1, 1, none⟩ = some (.int .i64 0) := hBS.cell 1
    have q2 : W9.cell? ⟨w.heap.size + 1, 2, none⟩ = some (.slice none 0 0) := hBS.cell 2
    exact bodyPost_ret (v := .tuple #[.agg #[.int .i64 0, .int .i64 0, .slice none 0 0], .bool false]) (by simp [results, Try.results126, go_sem, q0, q1, q2]) rfl ⟨e3, rfl⟩
  | true =>
    go_enter Try.func126, Try.ntmps126
    go_wp2_with fail
    generalize ((w.alloc (.cells #[.int .i64 a, .int .i64 u, .slice A xs.length cap] 35)).alloc (.cells #[.int .i64 0, .int .i64 0, .slice none 0 0] 35)) = W1 at *
    refine (ValidBasin_any a u A cap xs _ (HA.out.ext HE.out) HL.out _ HB.out).mono ?_
    rintro e w2 ⟨he2, rfl⟩
    have HE2 := Lib.hid (Ext.trans HE.out he2)
    have HR2 := Lib.hid (HR.out.ext he2)
    obtain ⟨tl, t0, t1, t2⟩ := HT.out.ext he2
    have r0 : w2.cell? ⟨w.heap.size + 1, 0, none⟩ = some (.int .i64 0) := HR2.out.cell 0
    have r1 : w2.cell? ⟨w.heap.size + 1, 1, none⟩ = some (.int .i64 0) := HR2.out.cell 1
    have r2 : w2.cell? ⟨w.heap.size + 1, 2, none⟩ = some (.slice none 0 0) := HR2.out.cell 2
    have rf0 := HR2.out.frozen 0
    have rf1 := HR2.out.frozen 1
    have rf2 := HR2.out.frozen 2
    clear he2
    go_wp2_with fail
    have hBS := HR2.out.set3v (.int .i64 a) (.int .i64 u) (.slice A xs.length cap)
    have e3 : Ext w (((w2.setCell ⟨w.heap.size + 1, 0, none⟩ (.int .i64 a)).setCell ⟨w.heap.size + 1, 1, none⟩ (.int .i64 u)).setCell ⟨w.heap.size + 1, 2, none⟩ (.slice A xs.length cap)) := Ext.setCell_at (Ext.setCell_at (Ext.setCell_at HE2.out _ _ _ (by omega)) _ _ _ (by omega)) _ _ _ (by omega)
    generalize ((w2.setCell ⟨w.heap.size + 1, 0, none⟩ (.int .i64 a)).setCell ⟨w.heap.size + 1, 1, none⟩ (.int .i64 u)).setCell ⟨w.heap.size + 1, 2, none⟩ (.slice A xs.length cap) = W9 at *
    have q0 : W9.cell? ⟨w.heap.size + 1, 0, none⟩ = some (.int .i64 a) := hBS.cell 0
    have q1 : W9.cell? ⟨w.heap.size + 1, 1, none⟩ = some (.int .i64 u) := hBS.cell 1
    have q2 : W9.cell? ⟨w.heap.size + 1, 2, none⟩ = some (.slice A xs.length cap) := hBS.cell 2
    exact bodyPost_ret (v := .tuple #[.agg #[.int .i64 a, .int .i64 u, .slice A xs.length cap], .bool true]) (by simp [results, Try.results126, go_sem, q0, q1, q2]) rfl ⟨e3, rfl⟩
end Go.Proofs.Ytbaohbpfnlicpaa
