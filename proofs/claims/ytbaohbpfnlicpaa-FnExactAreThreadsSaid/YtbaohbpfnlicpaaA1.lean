/- Walks: lists of threads: the law's own copies. -/
import Derived.Test.YtbaohbpfnlicpaaW1
import Derived.Test.YtbaohbpfnlicpaaPure
import Derived.StillTailTactics
namespace Go.Proofs.Ytbaohbpfnlicpaa
open Go Go.RowKit
set_option linter.unusedVariables false
set_option linter.unusedSimpArgs false
attribute [local go_sem] run_store_float

/-- a thread: its points and its spin, canonical -/
abbrev Th := List V3 × Nat
def noTh : Th := ([], 0)
/-- a slice's cells are threads -/
def TS (w : World) (A : Option Addr) (ts : List Th) : Prop :=
  0 < ts.length → ∃ b o, A = some ⟨b, o, none⟩ ∧ b < w.heap.size ∧ ∀ i, i < ts.length → ∃ (A' : Option Addr) (cap sp : Nat), w.cell? ⟨b, o + i * 2, none⟩ = some (.slice A' (ts.getD i noTh).1.length cap) ∧ w.cell? ⟨b, o + i * 2 + 1, none⟩ = some (.float .f32 sp) ∧ VS w A' (ts.getD i noTh).1 ∧ cn .f32 sp = (ts.getD i noTh).2
theorem TS.ext {w w' : World} {A : Option Addr} {ts : List Th} (h : TS w A ts) (he : Ext w w') : TS w' A ts := fun hp => by
  obtain ⟨b, o, hA, hb, hc⟩ := h hp
  refine ⟨b, o, hA, Nat.lt_of_lt_of_le hb he.size, fun i hi => ?_⟩
  obtain ⟨A', cap, sp, h0, h1, h2, h3⟩ := hc i hi
  exact ⟨A', cap, sp, (he.cell (p := ⟨b, o + i * 2, none⟩) hb).trans h0, (he.cell (p := ⟨b, o + i * 2 + 1, none⟩) hb).trans h1, h2.ext he, h3⟩
/-- all threads are short -/
def Short (ts : List Th) (m : Nat) : Prop := ∀ i, i < ts.length → (ts.getD i noTh).1.length ≤ m

set_option maxRecDepth 100000 in
theorem szThreadS_any (A : Option Addr) (cap : Nat) (ts : List Th) (l : Int) (w : World) (hA : TS w A ts) (h1 : 0 ≤ l) (h2 : l ≤ 1048576) (hn : ts.length ≤ 9223372036854775807) (hs : Short ts 9223372036854775807) :
    Calls Try.prog 43 #[.slice A ts.length cap, .int .i64 l] w fun e w' => Ext w w' ∧ ∃ q : Int, e = .returned (.int .i64 q) ∧ (q = -1 ∨ (0 ≤ q ∧ (ts.length : Int) ≤ l ∧ Short ts 1048576)) := by
  have hw : IntKind.i64.wrap (l - ts.length) = l - ts.length := IntWalk.i64_in _ (by omega)
  have HA := Lib.hid hA
  have H2 := Lib.hid h2
  have HN := Lib.hid hn
  have HS := Lib.hid hs
  clear hA h2 hn hs
  by_cases h : l - ts.length < 0
  · go_enter Try.func43, Try.ntmps43
    go_wp2_with fail
    go_ret
    exact ⟨Ext.rfl' _, _, rfl, Or.inl rfl⟩
  · have HH := Lib.hid (show 0 ≤ l - ts.length ∧ l - ts.length ≤ 1048576 by have := H2.out; omega)
    go_enter Try.func43, Try.ntmps43
    go_wp2_with fail
    go_loopw [1, 5] (fun q i wr => ∃ (k : Nat) (m : Int), k ≤ ts.length ∧ i = .int .i64 k ∧ q = .int .i64 m ∧ 0 ≤ m ∧ m ≤ 1048576 ∧ (∀ i, i < k → (ts.getD i noTh).1.length ≤ 1048576) ∧ Below w.heap.size w wr) (fun _ i _ => ts.length - (intOf i).toNat)
    case atStart => exact ⟨0, l - ts.length, Nat.zero_le _, rfl, by first | rfl | rw [hw], HH.out.1, HH.out.2, fun i hi => absurd hi (Nat.not_lt_zero i), Ext.rfl' _⟩
    case round =>
      obtain ⟨k, m, hk, rfl, rfl, hm0, hm1, hsh, hbel⟩ := hrel
      have HE := Lib.hid hbel
      have HSH := Lib.hid hsh
      have HM := Lib.hid (show 0 ≤ m ∧ m ≤ 1048576 from ⟨hm0, hm1⟩)
      clear hbel hsh hm0 hm1 hw h h1
      have hk9 : k < 9223372036854775807 ∨ k = ts.length := by have := HN.out; omega
      by_cases hlt : k < ts.length
      · have hk9 : k < 9223372036854775807 := by have := HN.out; omega
        obtain ⟨b, o, rfl, hbw, hc⟩ := HA.out (by omega)
        obtain ⟨A', c', sp, c0, c1, -, -⟩ := hc k hlt
        have d0 := (HE.out.cell (p := ⟨b, o + k * 2, none⟩) hbw).trans c0
        have d1 := (HE.out.cell (p := ⟨b, o + k * 2 + 1, none⟩) hbw).trans c1
        have hl := HS.out k hlt
        obtain ⟨n, hN⟩ : ∃ n, (ts.getD k noTh).1.length = n := ⟨_, rfl⟩
        rw [hN] at d0 hl
        have HL := Lib.hid hl
        have HNN := Lib.hid hN
        clear c0 c1 hc hl hN
        by_cases hneg : m - n < 0
        · have HNEG := Lib.hid hneg
          go_wp2_with fail
          refine (szThread_any _ _ _ _ _ _ HM.out.1 HM.out.2 HL.out).mono ?_
          rintro e w1 ⟨he, rfl⟩
          rw [if_pos (show m - (n : Int) < 0 by have := HNEG.out; omega)]
          have HF := Lib.hid (HE.out.trans (he.mono HE.out.size))
          clear he d0 d1
          go_wp2_with fail
          go_ret
          exact ⟨HF.out, _, rfl, Or.inl rfl⟩
        · have HNEG := Lib.hid hneg
          go_wp2_with fail
          refine (szThread_any _ _ _ _ _ _ HM.out.1 HM.out.2 HL.out).mono ?_
          rintro e w1 ⟨he, rfl⟩
          rw [if_neg (show ¬ m - (n : Int) < 0 by have := HNEG.out; omega)]
          have HF := Lib.hid (HE.out.trans (he.mono HE.out.size))
          clear he d0 d1
          go_wp2_with fail
          refine ⟨⟨k + 1, _, by omega, by go_num, rfl, by have := HM.out; omega, by have := HM.out; omega, fun i hi => ?_, HF.out⟩, by simp [intOf]; omega⟩
          rcases Nat.lt_or_ge i k with h' | h'
          · exact HSH.out i h'
          · have : i = k := by omega
            subst this
            have := HM.out
            rw [HNN.out]
            omega
      · go_wp2_with fail
        have hkl : k = ts.length := by omega
        go_ret
        refine ⟨HE.out, m, rfl, Or.inr ⟨HM.out.1, by have := HH.out; omega, fun i hi => HSH.out i (by omega)⟩⟩

theorem infoT : (Try.prog.info? 48).map (fun i => (i.zero, i.size, i.bytes)) = some (some (.agg #[.slice none 0 0, .float .f32 0]), 2, 32) := by kernel_rfl
theorem run_make_t (n : Nat) (hn : n ≤ 1048576) (w : World) :
    (Instr.makeSlice 62 (.int .i64 (n : Int)) (.int .i64 (n : Int))).run Try.prog w = .ok (.slice (some ⟨w.heap.size, 0, none⟩) n n) (w.alloc (.cells (madeCells #[.slice none 0 0, .float .f32 0] (n * 2)) 48)) := by
  obtain ⟨i, h1, h2, h3, h4⟩ := info_parts infoT
  have := run_make_rowN (P := Try.prog) 62 48 i _ Try.underlying62 h1 h2 .i64 .i64 n n (Nat.le_refl _) (by rw [h4]; omega) (by omega) w
  rw [h3] at this
  exact this
/-- in a block's cells the i-th is a thread of the call's own -/
def ATh (w : World) (B : Nat) (arr : Array Value) (i : Nat) (t : Th) : Prop :=
  ∃ (A' : Option Addr) (cap sp : Nat), arr[i * 2]? = some (.slice A' t.1.length cap) ∧ arr[i * 2 + 1]? = some (.float .f32 sp) ∧ VO w B A' t.1 ∧ cn .f32 sp = t.2
theorem ATh.ext {w w' : World} {B : Nat} {arr : Array Value} {i : Nat} {t : Th} (h : ATh w B arr i t) (he : Ext w w') : ATh w' B arr i t := by
  obtain ⟨A', cap, sp, h0, h1, h2, h3⟩ := h
  exact ⟨A', cap, sp, h0, h1, h2.ext he, h3⟩

set_option maxRecDepth 100000 in
theorem toThreadS_any (A : Option Addr) (cap : Nat) (ts : List Th) (w : World) (hA : TS w A ts) (hl : ts.length ≤ 1048576) (hs : Short ts 1048576) :
    Calls Try.prog 45 #[.slice A ts.length cap] w fun e w' => Ext w w' ∧ ∃ A', e = .returned (.slice A' ts.length ts.length) ∧ TS w' A' ts := by
  have hmk := fun W => run_make_t ts.length hl W
  have HA := Lib.hid hA
  have HL := Lib.hid hl
  have HS := Lib.hid hs
  clear hA hl hs
  go_enter Try.func45, Try.ntmps45
  go_wp2_with fail
  go_loopw [4] (fun i wr => ∃ (k : Nat) (arr : Array Value), k ≤ ts.length ∧ i = .int .i64 k ∧ Blk wr w.heap.size 48 arr ∧ arr.size = ts.length * 2 ∧ (∀ j, j < k → ATh wr (w.heap.size + 1) arr j (ts.getD j noTh)) ∧ Below w.heap.size w wr) (fun i _ => ts.length - (intOf i).toNat)
  case atStart => exact ⟨0, _, Nat.zero_le _, rfl, Blk.new _ _ _, size_madeCells _ _, fun j hj => absurd hj (Nat.not_lt_zero j), by go_grown⟩
  case round =>
    obtain ⟨k, arr, hk, rfl, hB, hsz, hv, hbel⟩ := hrel
    have HB := Lib.hid hB
    have HSZ := Lib.hid hsz
    have HV := Lib.hid hv
    have HE := Lib.hid hbel
    clear hB hsz hv hbel
    have hk9 : k < 9223372036854775807 := by have := HL.out; omega
    by_cases hlt : k < ts.length
    · obtain ⟨b, o, rfl, hbw, hc⟩ := HA.out (by omega)
      obtain ⟨A', c', sp, c0, c1, c2, hcv⟩ := hc k hlt
      have d0 := (HE.out.cell (p := ⟨b, o + k * 2, none⟩) hbw).trans c0
      have d1 := (HE.out.cell (p := ⟨b, o + k * 2 + 1, none⟩) hbw).trans c1
      have hlk := HS.out k hlt
      obtain ⟨t, hT⟩ : ∃ t, ts.getD k noTh = t := ⟨_, rfl⟩
      rw [hT] at d0 c2 hcv hlk
      obtain ⟨ds, ss⟩ := t
      have HVS := Lib.hid (show VS wr A' ds from c2.ext HE.out)
      have HC := Lib.hid (show cn .f32 sp = ss from hcv)
      have HLk := Lib.hid (show ds.length ≤ 1048576 from hlk)
      have HTT := Lib.hid hT
      have d0 : wr.cell? ⟨b, o + k * 2, none⟩ = some (.slice A' ds.length c') := d0
      clear c0 c1 c2 hc hcv hlk hT
      go_wp2_with fail
      refine (toThread_any _ _ _ ds _ HVS.out HLk.out).mono ?_
      rintro e w1 ⟨he, A1, rfl, hv1⟩
      have HB1 := Lib.hid (HB.out.ext he)
      have hbl := HB.out.lt
      have HV1 := Lib.hid (show VO w1 (w.heap.size + 1) A1 ds from hv1.mono hbl)
      have HX1 := Lib.hid he
      have e0 : w1.cell? ⟨w.heap.size, k * 2, none⟩ = some (arr[k * 2]'(by have := HSZ.out; omega)) := by rw [HB1.out.cell]; exact Array.getElem?_eq_getElem _
      have e1 : w1.cell? ⟨w.heap.size, k * 2 + 1, none⟩ = some (arr[k * 2 + 1]'(by have := HSZ.out; omega)) := by rw [HB1.out.cell]; exact Array.getElem?_eq_getElem _
      generalize arr[k * 2]'_ = u0 at e0
      generalize arr[k * 2 + 1]'_ = u1 at e1
      have f0 := HB1.out.frozen (k * 2)
      have f1 := HB1.out.frozen (k * 2 + 1)
      have HE1 := Lib.hid (HE.out.trans (he.mono HE.out.size))
      clear he hv1 d0 d1
      go_wp2_with fail
      have hw5 : ∀ (B' : Nat) (C : Option Addr) (cs : List V3), w.heap.size < B' → VO w1 B' C cs → VO ((w1.setCell ⟨w.heap.size, k * 2, none⟩ (.slice A1 ds.length ds.length)).setCell ⟨w.heap.size, k * 2 + 1, none⟩ (.float .f32 sp)) B' C cs := fun B' C cs hB' h => (h.set_lt _ _ _ hB').set_lt _ _ _ hB'
      refine ⟨⟨k + 1, _, by omega, by go_num, (HB1.out.set_ (k * 2) _).set_ (k * 2 + 1) _, by simpa using HSZ.out, fun j hj => ?_, Below.setCell (Below.setCell HE1.out (Nat.le_refl _) _) (Nat.le_refl _) _⟩, by simp [intOf]; omega⟩
      rcases Nat.lt_or_ge j k with hjk | hjk
      · obtain ⟨A2, c2, s2, h0, h1, h2, h3⟩ := (HV.out j hjk).ext HX1.out
        exact ⟨A2, c2, s2, by rw [Array.getElem?_setIfInBounds_ne (by omega), Array.getElem?_setIfInBounds_ne (by omega)]; exact h0, by rw [Array.getElem?_setIfInBounds_ne (by omega), Array.getElem?_setIfInBounds_ne (by omega)]; exact h1, hw5 _ _ _ (Nat.lt_succ_self _) h2, h3⟩
      · have : j = k := by omega
        subst this
        have hsz := HSZ.out
        rw [HTT.out]
        exact ⟨A1, ds.length, sp, by simp [Array.getElem?_setIfInBounds]; omega, by simp [Array.getElem?_setIfInBounds]; omega, hw5 _ _ _ (Nat.lt_succ_self _) HV1.out, HC.out⟩
    · go_wp2_with fail
      have hkl : k = ts.length := by omega
      go_ret
      refine ⟨HE.out, _, rfl, fun hp => ⟨w.heap.size, 0, rfl, HB.out.lt, fun i hi => ?_⟩⟩
      obtain ⟨A2, c2, s2, h0, h1, h2, h3⟩ := HV.out i (by omega)
      exact ⟨A2, c2, s2, by rw [HB.out.cell, Nat.zero_add]; exact h0, by rw [HB.out.cell, Nat.zero_add]; exact h1, h2.vs, h3⟩

set_option maxRecDepth 100000 in
theorem eqThreadS_any (A B : Option Addr) (ca cb : Nat) (ts : List Th) (w : World) (hA : TS w A ts) (hB : TS w B ts) (hl : ts.length ≤ 1048576) (hs : Short ts 1048576) :
    Calls Try.prog 47 #[.slice A ts.length ca, .slice B ts.length cb] w fun e w' => Ext w w' ∧ e = .returned (.bool true) := by
  have HA := Lib.hid hA
  have HB := Lib.hid hB
  have HL := Lib.hid hl
  have HS := Lib.hid hs
  clear hA hB hl hs
  go_enter Try.func47, Try.ntmps47
  go_wp2_with fail
  go_loopw [5] (fun i wr => ∃ (k : Nat), k ≤ ts.length ∧ i = .int .i64 k ∧ Below w.heap.size w wr) (fun i _ => ts.length - (intOf i).toNat)
  case atStart => exact ⟨0, Nat.zero_le _, rfl, Ext.rfl' _⟩
  case round =>
    obtain ⟨k, hk, rfl, hbel⟩ := hrel
    have HE := Lib.hid hbel
    clear hbel
    have hk9 : k < 9223372036854775807 := by have := HL.out; omega
    by_cases hlt : k < ts.length
    · obtain ⟨b, o, rfl, hbw, hc⟩ := HA.out (by omega)
      obtain ⟨A1, c1, s1, e0, e1, e2, e3⟩ := hc k hlt
      obtain ⟨b', o', rfl, hbw', hc'⟩ := HB.out (by omega)
      obtain ⟨A2, c2, s2, g0, g1, g2, g3⟩ := hc' k hlt
      have d0 := (HE.out.cell (p := ⟨b, o + k * 2, none⟩) hbw).trans e0
      have d1 := (HE.out.cell (p := ⟨b, o + k * 2 + 1, none⟩) hbw).trans e1
      have d0' := (HE.out.cell (p := ⟨b', o' + k * 2, none⟩) hbw').trans g0
      have d1' := (HE.out.cell (p := ⟨b', o' + k * 2 + 1, none⟩) hbw').trans g1
      have hlk := HS.out k hlt
      obtain ⟨t, hT⟩ : ∃ t, ts.getD k noTh = t := ⟨_, rfl⟩
      rw [hT] at d0 d0' e2 e3 g2 g3 hlk
      obtain ⟨ds, ss⟩ := t
      have HV1 := Lib.hid (show VS wr A1 ds from e2.ext HE.out)
      have HV2 := Lib.hid (show VS wr A2 ds from g2.ext HE.out)
      have HC := Lib.hid (show cn .f32 s2 = cn .f32 s1 from g3.trans e3.symm)
      have HLk := Lib.hid (show ds.length ≤ 1048576 from hlk)
      have d0 : wr.cell? ⟨b, o + k * 2, none⟩ = some (.slice A1 ds.length c1) := d0
      have d0' : wr.cell? ⟨b', o' + k * 2, none⟩ = some (.slice A2 ds.length c2) := d0'
      clear e0 e1 e2 e3 g0 g1 g2 g3 hc hc' hlk hT
      go_wp2_with fail
      go_still_tail 8, (by kernel_rfl)
      go_wp2_with fail
      refine (eqThread_any _ _ _ _ _ _ ds _ (HV1.out.ext (Ext.drew' (Ext.rfl' _))) (HV2.out.ext (Ext.drew' (Ext.rfl' _))) HC.out HLk.out).mono ?_
      rintro e w1 ⟨he, rfl⟩
      have HF := Lib.hid (HE.out.trans ((Below.refl _ _).drew.trans (he.mono HE.out.size)))
      clear he d0 d1 d0' d1'
      go_wp2_with fail
      exact ⟨⟨k + 1, by omega, by go_num, HF.out⟩, by simp [intOf]; omega⟩
    · go_wp2_with fail
      go_ret
      exact ⟨HE.out, rfl⟩
end Go.Proofs.Ytbaohbpfnlicpaa
