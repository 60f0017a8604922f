/- Walks: floats and basins are marked, and their marks are looked for. -/
import Derived.Test.YtbaohbpfnlicpaaP1
namespace Go.Proofs.Ytbaohbpfnlicpaa
open Go Go.RowKit
set_option linter.unusedVariables false
set_option linter.unusedSimpArgs false
attribute [local go_sem] run_store_float

/-- n cells hold k, k + 1, .. -/
def MarkedF (w : World) (A : Option Addr) (n : Nat) (k : Int) : Prop :=
  0 < n → ∃ b o, A = some ⟨b, o, none⟩ ∧ b < w.heap.size ∧ ∀ j, j < n → w.cell? ⟨b, o + j, none⟩ = some (mark (k + j))
theorem MarkedF.ext {w w' : World} {A : Option Addr} {n : Nat} {k : Int} (h : MarkedF w A n k) (he : Ext w w') : MarkedF w' A n k := fun hp => by
  obtain ⟨b, o, hA, hb, hc⟩ := h hp
  exact ⟨b, o, hA, Nat.lt_of_lt_of_le hb he.size, fun j hj => (he.cell (p := ⟨b, o + j, none⟩) hb).trans (hc j hj)⟩
theorem FO.marking {w : World} {b o : Nat} {xs : List Nat} (hf : ∀ j, w.frozen? ⟨b, j, none⟩ = false) (hc : ∀ i, i < xs.length → ∃ x, w.cell? ⟨b, o + i, none⟩ = some (.float .f32 x) ∧ cn .f32 x = xs.getD i 0) (k : Int) : Marking w b o xs.length 0 k :=
  ⟨fun j hj => absurd hj (Nat.not_lt_zero j), fun j hj => by obtain ⟨x, h, -⟩ := hc j hj; exact ⟨_, h⟩, hf⟩

theorem markFloat32S_any (A : Option Addr) (cap : Nat) (xs : List Nat) (k : Int) (B : Nat) (w : World) (hA : FO w B A xs) (h1 : 0 ≤ k) (h2 : k ≤ 1073741824) (hl : xs.length ≤ 1048576) :
    Calls Try.prog 127 #[.slice A xs.length cap, .int .i64 k] w fun e w' =>
      e = .returned (.int .i64 (k + xs.length)) ∧ MarkedF w' A xs.length k ∧ ∃ row, w.grownBy w' row ∧ (∀ g, row = some g → 0 < xs.length ∧ ∃ o, A = some ⟨g, o, none⟩ ∧ B ≤ g ∧ g < w.heap.size) := by
  have HL := Lib.hid hl
  have H2 := Lib.hid h2
  clear hl h2
  by_cases hp : 0 < xs.length
  · obtain ⟨b, o, rfl, hB, hb, hf, hc⟩ := hA hp
    have HM := Lib.hid (FO.marking hf hc k)
    clear hA hf hc
    go_enter Try.func127, Try.ntmps127
    go_wp2_with fail
    go_loopw [1, 5] (fun q i wr => ∃ (m : Nat), m ≤ xs.length ∧ i = .int .i64 m ∧ q = .int .i64 (k + m) ∧ Marking wr b o xs.length m k ∧ w.grownBy wr (some b)) (fun _ i _ => xs.length - (intOf i).toNat)
    case atStart => exact ⟨0, Nat.zero_le _, rfl, by simp, HM.out, only_refl _ _⟩
    case round =>
      obtain ⟨m, hm, rfl, rfl, hM, hg⟩ := hrel
      have HM' := Lib.hid hM
      have HG := Lib.hid hg
      clear hM hg
      have hm9 : m < 9223372036854775807 := by have := HL.out; omega
      have hkb : k + m + 1 ≤ 9223372036854775807 := by have := HL.out; have := H2.out; omega
      by_cases hlt : m < xs.length
      · obtain ⟨v0, e0⟩ := HM'.out.all m hlt
        have f0 := HM'.out.free (o + m)
        go_wp2_with fail
        exact ⟨⟨m + 1, by omega, by go_num, by go_num, HM'.out.step hlt, only_setCell HG.out rfl _⟩, by simp [intOf]; omega⟩
      · go_wp2_with fail
        have hml : m = xs.length := by omega
        subst hml
        go_ret
        exact ⟨rfl, fun _ => ⟨b, o, rfl, Nat.lt_of_lt_of_le hb HG.out.size, HM'.out.done⟩, some b, HG.out, fun g hg => by injection hg with hg; subst hg; exact ⟨hp, o, rfl, hB, hb⟩⟩
  · have h0 : ¬ (0 : Int) < (xs.length : Int) := by omega
    have H0 : Hid (xs.length = 0) := by show _ = _; omega
    clear hA hp
    go_enter Try.func127, Try.ntmps127
    go_wp2_with fail
    go_loopw [1, 5] (fun q i wr => i = .int .i64 0 ∧ q = .int .i64 k ∧ w = wr) (fun _ _ _ => 0)
    case atStart => exact ⟨rfl, rfl, rfl⟩
    case round =>
      obtain ⟨rfl, rfl, rfl⟩ := hrel
      go_wp2_with fail
      go_ret
      exact ⟨by rw [H0.out]; simp, fun hp => absurd hp (by rw [H0.out]; decide), none, only_refl _ _, fun g hg => by cases hg⟩

theorem heldFloat32S_any (A : Option Addr) (n cap : Nat) (k : Int) (w : World) (hA : MarkedF w A n k) (h1 : 0 ≤ k) (h2 : k ≤ 1073741824) (hl : n ≤ 1048576) :
    Calls Try.prog 128 #[.slice A n cap, .int .i64 k] w fun e w' => w = w' ∧ e = .returned (.int .i64 (k + n)) := by
  have HL := Lib.hid hl
  have H2 := Lib.hid h2
  have HA := Lib.hid hA
  clear hl h2 hA
  go_enter Try.func128, Try.ntmps128
  go_wp2_with fail
  go_loop [1, 5] (fun q i => ∃ (m : Nat), m ≤ n ∧ i = .int .i64 m ∧ q = .int .i64 (k + m)) (fun _ i => n - (intOf i).toNat)
  case atStart => exact ⟨0, Nat.zero_le _, rfl, by simp⟩
  case round =>
    obtain ⟨m, hm, rfl, rfl⟩ := hrel
    have hm9 : m < 9223372036854775807 := by have := HL.out; omega
    have hkb : k + m + 1 ≤ 9223372036854775807 := by have := HL.out; have := H2.out; omega
    by_cases hlt : m < n
    · obtain ⟨b, o, rfl, hb, hc⟩ := HA.out (by omega)
      have c0 : w.cell? ⟨b, o + m, none⟩ = some (.float .f32 (floatOfInt .f32 (k + m))) := hc m hlt
      clear hc
      have t0 := neq_mark (k + m)
      go_wp2_with (refine wpList_fcmp rfl _ _ _ _ _ rfl rfl _ _ _ rfl rfl _ (by first | with_reducible assumption | rfl) ?_)
      exact ⟨⟨m + 1, by omega, by go_num, by go_num⟩, by simp [intOf]; omega⟩
    · go_wp2_with fail
      have hml : m = n := by omega
      subst hml
      go_ret
      exact ⟨rfl, rfl⟩

theorem markBasin_any (a u : Int) (A : Option Addr) (cap : Nat) (xs : List Nat) (k : Int) (B : Nat) (w : World) (hA : FO w B A xs) (h1 : 0 ≤ k) (h2 : k ≤ 1073741824) (hl : xs.length ≤ 1048576) :
    Calls Try.prog 52 #[.agg #[.int .i64 a, .int .i64 u, .slice A xs.length cap], .int .i64 k] w fun e w' =>
      e = .returned (.int .i64 (k + xs.length)) ∧ MarkedF w' A xs.length k ∧ ∃ row, w.grownBy w' row ∧ (∀ g, row = some g → 0 < xs.length ∧ ∃ o, A = some ⟨g, o, none⟩ ∧ B ≤ g ∧ g < w.heap.size) := by
  have HA := Lib.hid hA
  have HL := Lib.hid hl
  have H2 := Lib.hid h2
  clear hA hl h2
  go_enter Try.func52, Try.ntmps52
  go_wp2_with fail
  refine (markFloat32S_any A cap xs k B _ (HA.out.ext (by (repeat first | with_reducible exact Ext.rfl' _ | with_reducible refine Ext.drewN ?_ _ | with_reducible refine Ext.drew' ?_ | with_reducible refine Ext.alloc' ?_ _ | with_reducible refine Ext.setCell_at ?_ _ _ _ (by first | exact Nat.le_refl _ | omega) | with_reducible assumption | refine Ext.trans ?_ (by with_reducible assumption)))) h1 H2.out HL.out).mono ?_
  rintro e w1 ⟨rfl, hm, row, hg, hr⟩
  have HM := Lib.hid hm
  have HG := Lib.hid hg
  have HR := Lib.hid hr
  clear hm hg hr
  go_wp2_with fail
  go_ret
  have hx : Ext w (w.alloc (.cells #[.int .i64 a, .int .i64 u, .slice A xs.length cap] 35)) := by (repeat first | with_reducible exact Ext.rfl' _ | with_reducible refine Ext.drewN ?_ _ | with_reducible refine Ext.drew' ?_ | with_reducible refine Ext.alloc' ?_ _ | with_reducible refine Ext.setCell_at ?_ _ _ _ (by first | exact Nat.le_refl _ | omega) | with_reducible assumption | refine Ext.trans ?_ (by with_reducible assumption))
  have hgen : ∀ row', (∀ i, i < w.heap.size → some i ≠ row' → some i ≠ row) → w.grownBy w1 row' := fun row' hne =>
    ⟨HG.out.os.trans hx.os, HG.out.tape.trans hx.tape, HG.out.output.trans hx.output, Nat.le_trans hx.size HG.out.size, fun i hi h => (HG.out.block i (Nat.lt_of_lt_of_le hi hx.size) (hne i hi h)).trans (hx.block i hi)⟩
  match row, hgen, HR.out with
  | none, hgen, _ => exact ⟨rfl, HM.out, none, hgen none (fun _ _ h => h), fun g hg => by cases hg⟩
  | some g, hgen, hR =>
    by_cases hlt : g < w.heap.size
    · obtain ⟨hp, o, hA', hB, -⟩ := hR g rfl
      refine ⟨rfl, HM.out, some g, hgen _ (fun _ _ h => h), fun g' hg' => ?_⟩
      simp only [Option.some.injEq] at hg'
      subst hg'
      exact ⟨hp, o, hA', hB, hlt⟩
    · refine ⟨rfl, HM.out, none, hgen none (fun i hi _ e => ?_), fun g hg => by cases hg⟩
      simp only [Option.some.injEq] at e
      omega
theorem heldBasin_any (a u : Int) (A : Option Addr) (n cap : Nat) (k : Int) (w : World) (hA : MarkedF w A n k) (h1 : 0 ≤ k) (h2 : k ≤ 1073741824) (hl : n ≤ 1048576) :
    Calls Try.prog 53 #[.agg #[.int .i64 a, .int .i64 u, .slice A n cap], .int .i64 k] w fun e w' => Ext w w' ∧ e = .returned (.int .i64 (k + n)) := by
  have HA := Lib.hid hA
  have HL := Lib.hid hl
  have H2 := Lib.hid h2
  clear hA hl h2
  go_enter Try.func53, Try.ntmps53
  go_wp2_with fail
  refine (heldFloat32S_any A n cap k _ (HA.out.ext (by (repeat first | with_reducible exact Ext.rfl' _ | with_reducible refine Ext.drewN ?_ _ | with_reducible refine Ext.drew' ?_ | with_reducible refine Ext.alloc' ?_ _ | with_reducible refine Ext.setCell_at ?_ _ _ _ (by first | exact Nat.le_refl _ | omega) | with_reducible assumption | refine Ext.trans ?_ (by with_reducible assumption)))) h1 H2.out HL.out).mono ?_
  rintro e w1 ⟨rfl, rfl⟩
  have hk : ¬ (k + (n : Int) < 0) := by omega
  go_wp2_with fail
  go_ret
  exact ⟨by (repeat first | with_reducible exact Ext.rfl' _ | with_reducible refine Ext.drewN ?_ _ | with_reducible refine Ext.drew' ?_ | with_reducible refine Ext.alloc' ?_ _ | with_reducible refine Ext.setCell_at ?_ _ _ _ (by first | exact Nat.le_refl _ | omega) | with_reducible assumption | refine Ext.trans ?_ (by with_reducible assumption)), rfl⟩
end Go.Proofs.Ytbaohbpfnlicpaa
