/- Walks: are these threads? By the reference and by the program. -/
import Derived.Test.YtbaohbpfnlicpaaA1
import Derived.Test.YtbaohbpfnlicpaaW3
namespace Go.Proofs.Ytbaohbpfnlicpaa
open Go Go.RowKit
set_option linter.unusedVariables false
set_option linter.unusedSimpArgs false
attribute [local go_sem] run_store_float

def thP (t : Th) : Bool := isTh t.1 t.2
def areP (ts : List Th) : Bool := decide (ts.length ≤ 4) && ts.all thP

set_option maxRecDepth 100000 in
theorem l06Are_any (A : Option Addr) (cap : Nat) (ts : List Th) (w : World) (hA : TS w A ts) (hl : ts.length ≤ 1048576) (hs : Short ts 1048576) (r : Bool) (hr : areP ts = r) :
    Calls Try.prog 116 #[.slice A ts.length cap] w fun e w' => Ext w w' ∧ e = .returned (.bool r) := by
  have HA := Lib.hid hA
  have HL := Lib.hid hl
  have HS := Lib.hid hs
  have HR := Lib.hid hr
  clear hA hl hs hr
  by_cases h4 : ts.length ≤ 4
  · have d4 : decide ((ts.length : Int) ≤ 4) = true := by simp; omega
    have D4 := Lib.hid (show decide (ts.length ≤ 4) = true by simp; omega)
    go_enter Try.func116, Try.ntmps116
    go_wp2_with fail
    go_loopw [3] (fun i wr => ∃ (k : Nat), k ≤ ts.length ∧ i = .int .i64 k ∧ (ts.take k).all thP = true ∧ Below w.heap.size w wr) (fun i _ => ts.length - (intOf i).toNat)
    case atStart => exact ⟨0, Nat.zero_le _, rfl, by simp, Ext.rfl' _⟩
    case round =>
      obtain ⟨k, hk, rfl, hno, hbel⟩ := hrel
      have HE := Lib.hid hbel
      have HN := Lib.hid hno
      clear hbel hno
      have hk9 : k < 9223372036854775807 := by have := HL.out; omega
      by_cases hlt : k < ts.length
      · obtain ⟨b, o, rfl, hbw, hc⟩ := HA.out (by omega)
        obtain ⟨A1, c1, s1, e0, e1, e2, e3⟩ := hc k hlt
        have d0 := (HE.out.cell (p := ⟨b, o + k * 2, none⟩) hbw).trans e0
        have d1 := (HE.out.cell (p := ⟨b, o + k * 2 + 1, none⟩) hbw).trans e1
        have hlk := HS.out k hlt
        obtain ⟨t, hT⟩ : ∃ t, ts.getD k noTh = t := ⟨_, rfl⟩
        rw [hT] at d0 e2 e3 hlk
        obtain ⟨ds, ss⟩ := t
        have HV1 := Lib.hid (show VS wr A1 ds from e2.ext HE.out)
        have HLk := Lib.hid (show ds.length ≤ 1048576 from hlk)
        have d0 : wr.cell? ⟨b, o + k * 2, none⟩ = some (.slice A1 ds.length c1) := d0
        have HTA := Lib.hid (show TAt wr b (o + k * 2) A1 ds.length c1 s1 from ⟨Nat.lt_of_lt_of_le hbw HE.out.size, d0, d1⟩)
        have HC := Lib.hid (show cn .f32 s1 = ss from e3)
        have HTk := Lib.hid (all_take_succ thP ts noTh k hlt)
        have HTT := Lib.hid hT
        clear e0 e1 e2 e3 hc hlk hT
        go_wp2_with fail
        cases hpv : isTh ds ss with
        | true =>
          refine (l06Is_any b (o + k * 2) A1 c1 s1 ds _ HTA.out HV1.out HLk.out true (by rw [HC.out]; exact hpv)).mono ?_
          rintro e w1 ⟨he, rfl⟩
          have HF := Lib.hid (HE.out.trans (he.mono HE.out.size))
          have HQ := Lib.hid hpv
          clear he hpv d0 d1
          go_wp2_with fail
          exact ⟨⟨k + 1, by omega, by go_num, by rw [HTk.out, HN.out, HTT.out]; exact HQ.out, HF.out⟩, by simp [intOf]; omega⟩
        | false =>
          refine (l06Is_any b (o + k * 2) A1 c1 s1 ds _ HTA.out HV1.out HLk.out false (by rw [HC.out]; exact hpv)).mono ?_
          rintro e w1 ⟨he, rfl⟩
          have HF := Lib.hid (HE.out.trans (he.mono HE.out.size))
          have HQ := Lib.hid hpv
          clear he hpv d0 d1
          go_wp2_with fail
          go_ret
          refine ⟨HF.out, ret_bool ?_⟩
          rw [← HR.out]
          have hall : ts.all thP = false := List.all_eq_false.2 ⟨ts.getD k noTh, by rw [List.getD_eq_getElem?_getD, List.getElem?_eq_getElem hlt]; simp, by rw [HTT.out]; unfold thP; rw [HQ.out]; decide⟩
          simp [areP, hall]
      · go_wp2_with fail
        have hkl : k = ts.length := by omega
        go_ret
        refine ⟨HE.out, ret_bool ?_⟩
        have hall := HN.out
        rw [hkl, List.take_length] at hall
        rw [← HR.out]
        simp only [areP, D4.out, hall, Bool.and_self]
  · have d4 : decide ((ts.length : Int) ≤ 4) = false := by simp; omega
    have h0 : (0 : Int) < (ts.length : Int) := by omega
    have D4 := Lib.hid (show decide (ts.length ≤ 4) = false by simp; omega)
    go_enter Try.func116, Try.ntmps116
    go_wp2_with fail
    go_loopw [3] (fun i wr => i = .int .i64 0 ∧ w = wr) (fun _ _ => 0)
    case atStart => exact ⟨rfl, rfl⟩
    case round =>
      obtain ⟨rfl, rfl⟩ := hrel
      go_wp2_with fail
      go_ret
      refine ⟨Ext.rfl' _, ret_bool ?_⟩
      rw [← HR.out]
      simp [areP, D4.out]
theorem specAre_any (A : Option Addr) (cap : Nat) (ts : List Th) (w : World) (hA : TS w A ts) (hl : ts.length ≤ 1048576) (hs : Short ts 1048576) (r : Bool) (hr : areP ts = r) :
    Calls Try.prog 44 #[.slice A ts.length cap] w fun e w' => Ext w w' ∧ e = .returned (.bool r) := by
  have HA := Lib.hid hA
  have HL := Lib.hid hl
  have HS := Lib.hid hs
  have HR := Lib.hid hr
  clear hA hl hs hr
  go_enter Try.func44, Try.ntmps44
  go_wp2_with fail
  refine (l06Are_any A cap ts _ HA.out HL.out HS.out r HR.out).mono ?_
  rintro e w1 ⟨he1, rfl⟩
  go_wp2_with fail
  go_ret
  exact ⟨he1, rfl⟩

/-- a function value that answers p of a thread -/
def AsksT (c : Nat) (p : Th → Bool) : Prop :=
  (∀ args w, (callFunc c args).run Try.prog w = .ok (.enter c args) w) ∧
  ∀ (A : Option Addr) (cap sp : Nat) (cs : List V3) (b : Bool), p (cs, cn .f32 sp) = b → ∀ w, VS w A cs → cs.length ≤ 1048576 → Calls Try.prog c #[.agg #[.slice A cs.length cap, .float .f32 sp]] w fun e w' => Ext w w' ∧ e = .returned (.bool b)

set_option maxRecDepth 100000 in
theorem IndexFuncT_any (c : Nat) (p : Th → Bool) (hc : AsksT c p) (A : Option Addr) (cap : Nat) (ts : List Th) (w : World) (hA : TS w A ts) (hl : ts.length ≤ 1048576) (hs : Short ts 1048576) :
    Calls Try.prog 177 #[.slice A ts.length cap, .func (.func c) #[] #[]] w fun e w' => Ext w w' ∧ ∃ r : Int, e = .returned (.int .i64 r) ∧ decide (0 ≤ r) = ts.any p := by
  have HA := Lib.hid hA
  have HL := Lib.hid hl
  have HS := Lib.hid hs
  obtain ⟨hcall, hp⟩ := hc
  have HP := Lib.hid hp
  clear hA hl hp hs
  go_enter Try.func177, Try.ntmps177
  go_wp2_with fail
  go_loopw [8] (fun i wr => ∃ (k : Nat), k ≤ ts.length ∧ i = .int .i64 k ∧ (ts.take k).any p = false ∧ Below w.heap.size w wr) (fun i _ => ts.length - (intOf i).toNat)
  case atStart => exact ⟨0, Nat.zero_le _, rfl, by simp, Ext.rfl' _⟩
  case round =>
    obtain ⟨k, hk, rfl, hno, hbel⟩ := hrel
    have HE := Lib.hid hbel
    have HN := Lib.hid hno
    clear hbel hno
    have hk9 : k < 9223372036854775807 := by have := HL.out; omega
    by_cases hlt : k < ts.length
    · obtain ⟨b, o, rfl, hbw, hcc⟩ := HA.out (by omega)
      obtain ⟨A1, c1, s1, e0, e1, e2, e3⟩ := hcc k hlt
      have d0 := (HE.out.cell (p := ⟨b, o + k * 2, none⟩) hbw).trans e0
      have d1 := (HE.out.cell (p := ⟨b, o + k * 2 + 1, none⟩) hbw).trans e1
      have hlk := HS.out k hlt
      obtain ⟨t, hT⟩ : ∃ t, ts.getD k noTh = t := ⟨_, rfl⟩
      rw [hT] at d0 e2 e3 hlk
      obtain ⟨ds, ss⟩ := t
      have HV1 := Lib.hid (show VS wr A1 ds from e2.ext HE.out)
      have HLk := Lib.hid (show ds.length ≤ 1048576 from hlk)
      have d0 : wr.cell? ⟨b, o + k * 2, none⟩ = some (.slice A1 ds.length c1) := d0
      have HC := Lib.hid (show cn .f32 s1 = ss from e3)
      have HT := Lib.hid (any_take_succ p ts noTh k hlt)
      have HTT := Lib.hid hT
      clear e0 e1 e2 e3 hcc hlk hT
      go_wp2_with fail
      cases hpv : p (ds, ss) with
      | false =>
        refine (HP.out A1 c1 s1 ds false (by rw [HC.out]; exact hpv) _ HV1.out HLk.out).mono ?_
        rintro e w1 ⟨he, rfl⟩
        have HF := Lib.hid (HE.out.trans (he.mono HE.out.size))
        have HQ := Lib.hid hpv
        clear he hpv d0 d1
        go_wp2_with fail
        exact ⟨⟨k + 1, by omega, by go_num, by rw [HT.out, HN.out, HTT.out, HQ.out]; rfl, HF.out⟩, by simp [intOf]; omega⟩
      | true =>
        refine (HP.out A1 c1 s1 ds true (by rw [HC.out]; exact hpv) _ HV1.out HLk.out).mono ?_
        rintro e w1 ⟨he, rfl⟩
        have HF := Lib.hid (HE.out.trans (he.mono HE.out.size))
        have HQ := Lib.hid hpv
        clear he hpv d0 d1
        go_wp2_with fail
        go_ret
        refine ⟨HF.out, _, rfl, ?_⟩
        have hany : ts.any p = true := List.any_eq_true.2 ⟨ts.getD k noTh, by rw [List.getD_eq_getElem?_getD, List.getElem?_eq_getElem hlt]; simp, by rw [HTT.out]; exact HQ.out⟩
        rw [hany]; simp
    · go_wp2_with fail
      have hkl : k = ts.length := by omega
      go_ret
      refine ⟨HE.out, _, rfl, ?_⟩
      have hany : ts.any p = false := by have := HN.out; rw [hkl, List.take_length] at this; exact this
      rw [hany]; rfl

theorem ContainsFuncT_any (c : Nat) (p : Th → Bool) (hc : AsksT c p) (A : Option Addr) (cap : Nat) (ts : List Th) (w : World) (hA : TS w A ts) (hl : ts.length ≤ 1048576) (hs : Short ts 1048576) (b : Bool) (hb : ts.any p = b) :
    Calls Try.prog 117 #[.slice A ts.length cap, .func (.func c) #[] #[]] w fun e w' => Ext w w' ∧ e = .returned (.bool b) := by
  have HA := Lib.hid hA
  have HL := Lib.hid hl
  have HS := Lib.hid hs
  have HB := Lib.hid hb
  have HCC := Lib.hid hc
  clear hA hl hb hc hs
  go_enter Try.func117, Try.ntmps117
  go_wp2_with fail
  refine (IndexFuncT_any c p HCC.out _ _ _ _ HA.out HL.out HS.out).mono ?_
  rintro e w1 ⟨he, r, rfl, hr⟩
  have HR := Lib.hid hr
  clear hr
  go_wp2_with fail
  go_ret
  exact ⟨he, ret_bool (by rw [← HB.out, ← HR.out])⟩

theorem AreThreads1_any (A : Option Addr) (cap sp : Nat) (cs : List V3) (b : Bool) (hb : isTh cs (cn .f32 sp) = b) (w : World) (hA : VS w A cs) (hl : cs.length ≤ 1048576) :
    Calls Try.prog 118 #[.agg #[.slice A cs.length cap, .float .f32 sp]] w fun e w' => Ext w w' ∧ e = .returned (.bool (!b)) := by
  have HA := Lib.hid hA
  have HL := Lib.hid hl
  have HB := Lib.hid hb
  clear hA hl hb
  go_enter Try.func118, Try.ntmps118
  go_wp2_with fail
  refine (IsThread_any A cap sp cs _ (HA.out.ext (by (repeat first | with_reducible exact Ext.rfl' _ | with_reducible refine Ext.drewN ?_ _ | with_reducible refine Ext.drew' ?_ | with_reducible refine Ext.alloc' ?_ _ | with_reducible refine Ext.setCell_at ?_ _ _ _ (by first | exact Nat.le_refl _ | omega) | with_reducible assumption | refine Ext.trans ?_ (by with_reducible assumption)))) HL.out b HB.out).mono ?_
  rintro e w1 ⟨he1, rfl⟩
  go_wp2_with fail
  go_ret
  exact ⟨by (repeat first | with_reducible exact Ext.rfl' _ | with_reducible refine Ext.drewN ?_ _ | with_reducible refine Ext.drew' ?_ | with_reducible refine Ext.alloc' ?_ _ | with_reducible refine Ext.setCell_at ?_ _ _ _ (by first | exact Nat.le_refl _ | omega) | with_reducible assumption | refine Ext.trans ?_ (by with_reducible assumption)), rfl⟩
theorem asks_AreThreads1 : AsksT 118 fun t => !thP t :=
  ⟨fun args w => by go_simp, fun A cap sp cs b hb w hA hl => (AreThreads1_any A cap sp cs (!b) (by rw [← hb, Bool.not_not]; rfl) w hA hl).mono fun e w' ⟨h1, h2⟩ => ⟨h1, by rw [h2, Bool.not_not]⟩⟩

set_option maxRecDepth 100000 in
theorem implAre_any (A : Option Addr) (cap : Nat) (ts : List Th) (w : World) (hA : TS w A ts) (hl : ts.length ≤ 1048576) (hs : Short ts 1048576) (r : Bool) (hr : areP ts = r) :
    Calls Try.prog 46 #[.slice A ts.length cap] w fun e w' => Ext w w' ∧ e = .returned (.bool r) := by
  have HA := Lib.hid hA
  have HL := Lib.hid hl
  have HS := Lib.hid hs
  have HR := Lib.hid hr
  clear hA hl hs hr
  by_cases h4 : ts.length ≤ 4
  · have d4 : decide ((ts.length : Int) ≤ 4) = true := by simp; omega
    have D4 := Lib.hid (show decide (ts.length ≤ 4) = true by simp; omega)
    obtain ⟨c, hc⟩ : ∃ c, (ts.any fun t => !thP t) = c := ⟨_, rfl⟩
    have HC := Lib.hid hc
    clear hc
    go_enter Try.func46, Try.ntmps46
    go_wp2_with fail
    refine (ContainsFuncT_any _ _ asks_AreThreads1 A cap ts _ HA.out HL.out HS.out c HC.out).mono ?_
    rintro e w1 ⟨he1, rfl⟩
    go_wp2_with fail
    go_ret
    refine ⟨he1, ret_bool ?_⟩
    rw [← HR.out, ← HC.out, all_not_any]
    simp [areP, D4.out]
  · have d4 : decide ((ts.length : Int) ≤ 4) = false := by simp; omega
    have D4 := Lib.hid (show decide (ts.length ≤ 4) = false by simp; omega)
    go_enter Try.func46, Try.ntmps46
    go_wp2_with fail
    go_ret
    refine ⟨Ext.rfl' _, ret_bool ?_⟩
    rw [← HR.out]
    simp [areP, D4.out]
end Go.Proofs.Ytbaohbpfnlicpaa
