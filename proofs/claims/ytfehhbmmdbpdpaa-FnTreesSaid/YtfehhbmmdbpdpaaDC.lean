/- Walks: lists of finite numbers are finite. -/
import Derived.Test.YtfehhbmmdbpdpaaDB
namespace Go.Proofs.Ytfehhbmmdbpdpaa
open Go Go.RowKit
set_option linter.unusedVariables false
set_option linter.unusedSimpArgs false
attribute [local go_sem] run_store_float run_store_complex

def fltVals (ks : List Int) : List Value := ks.map (fun k => .float .f32 (F k))
def cpxVals (ps : List (Int × Int)) : List Value := ps.map (fun p => .complex .f32 (F p.1) (F p.2))
theorem IsFinite_F (k : Int) (hk : k.natAbs < 16777216) (w : World) : Calls Try.prog 50 #[.float .f32 (F k)] w fun e w' => Ext w w' ∧ e = .returned (.bool true) := by
  have hs : floatBits .sub .f32 (F k) (F k) = some 0 := by
    rw [← F_zero .f32, ← Int.sub_self k]
    exact F_sub .f32 k k hk hk (by omega)
  have he : fcmp .eql .f32 0 0 = true := by decide
  go_enter Try.func50, Try.ntmps50
  go_wp2_with (first
    | (refine wpList_floatD rfl _ _ _ _ _ rfl (by decide) _ _ _ rfl rfl _ hs ?_)
    | (refine wpList_fcmpD rfl .eql _ _ _ _ rfl rfl _ _ _ rfl rfl _ he ?_))
  go_ret
  exact ⟨Ext.rfl' _, rfl⟩
theorem finite1_F (k : Int) (hk : k.natAbs < 16777216) (w : World) : Calls Try.prog 105 #[.float .f32 (F k)] w fun e w' => Ext w w' ∧ e = .returned (.bool false) := by
  go_enter Try.func105, Try.ntmps105
  go_wp2_with fail
  refine (IsFinite_F k hk _).mono ?_
  rintro e w1 ⟨he, rfl⟩
  go_wp2_with fail
  go_ret
  exact ⟨he, rfl⟩

set_option maxRecDepth 100000 in
theorem IndexF_none (A : Option Addr) (cap n : Nat) (ks : List Int) (w : World) (hA : Lies w 34 A (fltVals ks)) (hn : ks.length = n) (hl : n ≤ 1000)
    (hp : ∀ (k : Nat) (v : Int), ks[k]? = some v → ∀ w, Calls Try.prog 105 #[.float .f32 (F v)] w fun e w' => Ext w w' ∧ e = .returned (.bool false)) :
    Calls Try.prog 113 #[.slice A n cap, .func (.func 105) #[] #[]] w fun e w' => Ext w w' ∧ e = .returned (.int .i64 (-1)) := by
  have HA := Lib.hid hA
  have HL := Lib.hid hl
  have HP := Lib.hid hp
  clear hA hl hp
  go_enter Try.func113, Try.ntmps113
  go_wp2_with fail
  go_loopw [8] (fun i wr => ∃ (k : Nat), k ≤ n ∧ i = .int .i64 k ∧ Ext w wr) (fun i _ => n - (intOf i).toNat)
  case atStart => exact ⟨0, Nat.zero_le _, rfl, Ext.rfl' _⟩
  case round =>
    obtain ⟨k, hk, rfl, hbel⟩ := hrel
    have HE := Lib.hid hbel
    clear hbel
    have hk9 : k < 9223372036854775807 := by have := HL.out; omega
    by_cases hlt : k < n
    · obtain ⟨v, hv⟩ : ∃ v, ks[k]? = some v := ⟨ks[k]'(by omega), List.getElem?_eq_getElem (by omega)⟩
      obtain ⟨b, o, rfl, hbw, hcc⟩ := HA.out.cell (by unfold fltVals; rw [List.length_map]; omega)
      have d0 := (HE.out.cell (p := ⟨b, o + k, none⟩) hbw).trans (hcc k (.float .f32 (F v)) (by unfold fltVals; rw [List.getElem?_map, hv]; rfl))
      have HV := Lib.hid hv
      clear hcc hv
      go_wp2_with fail
      refine (HP.out k v HV.out _).mono ?_
      rintro e w1 ⟨he, rfl⟩
      have HF := Lib.hid (Ext.trans HE.out (Ext.trans (by (repeat first | with_reducible exact Ext.rfl' _ | with_reducible refine Ext.drewN ?_ _ | with_reducible refine Ext.drew' ?_ | with_reducible refine Ext.alloc' ?_ _ | with_reducible refine Ext.setCell_at ?_ _ _ _ (by first | exact Nat.le_refl _ | omega) | with_reducible assumption | refine Ext.trans ?_ (by with_reducible assumption))) he))
      clear he d0
      go_wp2_with fail
      exact ⟨⟨k + 1, by omega, by go_num, HF.out⟩, by simp [intOf]; omega⟩
    · go_wp2_with fail
      go_ret
      exact ⟨HE.out, rfl⟩
set_option maxRecDepth 100000 in
theorem ContainsF_none (A : Option Addr) (cap n : Nat) (ks : List Int) (w : World) (hA : Lies w 34 A (fltVals ks)) (hn : ks.length = n) (hl : n ≤ 1000)
    (hp : ∀ (k : Nat) (v : Int), ks[k]? = some v → ∀ w, Calls Try.prog 105 #[.float .f32 (F v)] w fun e w' => Ext w w' ∧ e = .returned (.bool false)) :
    Calls Try.prog 93 #[.slice A n cap, .func (.func 105) #[] #[]] w fun e w' => Ext w w' ∧ e = .returned (.bool false) := by
  have HC := Lib.hid (IndexF_none A cap n ks w hA hn hl hp)
  clear hA hl hp
  go_enter Try.func93, Try.ntmps93
  go_wp2_with fail
  refine HC.out.mono ?_
  rintro e w1 ⟨he, rfl⟩
  go_wp2_with fail
  go_ret
  exact ⟨he, rfl⟩

theorem finite_F (A : Option Addr) (cap n : Nat) (ks : List Int) (w : World) (hA : Lies w 34 A (fltVals ks)) (hn : ks.length = n) (hl : n ≤ 1000) (hok : ∀ k ∈ ks, k.natAbs < 16777216) :
    Calls Try.prog 70 #[.slice A n cap] w fun e w' => Ext w w' ∧ e = .returned (.bool true) := by
  have HC := Lib.hid (ContainsF_none A cap n ks w hA hn hl (fun k v hv w => finite1_F v (hok v (List.mem_of_getElem? hv)) w))
  clear hA hl hok
  go_enter Try.func70, Try.ntmps70
  go_wp2_with fail
  refine HC.out.mono ?_
  rintro e w1 ⟨he, rfl⟩
  go_wp2_with fail
  go_ret
  exact ⟨he, rfl⟩
theorem lies_new (w : World) (t : TypeId) (xs : Array Value) : Lies (w.alloc (.cells xs t)) t (some ⟨w.heap.size, 0, none⟩) xs.toList := fun _ =>
  ⟨w.heap.size, 0, xs, rfl, Blk.new w t xs, fun j hj => by simp⟩
theorem IsFiniteComplex_F (a b : Int) (ha : a.natAbs < 16777216) (hb : b.natAbs < 16777216) (w : World) : Calls Try.prog 48 #[.complex .f32 (F a) (F b)] w fun e w' => Ext w w' ∧ e = .returned (.bool true) := by
  go_enter Try.func48, Try.ntmps48
  go_wp2_with fail
  refine (finite_F _ _ 2 [a, b] _ (lies_new w 34 #[.float .f32 (F a), .float .f32 (F b)]) rfl (by decide) (fun k hk => by simp at hk; rcases hk with rfl | rfl <;> assumption)).mono ?_
  rintro e w1 ⟨he, rfl⟩
  go_wp2_with fail
  go_ret
  exact ⟨Ext.trans (by (repeat first | with_reducible exact Ext.rfl' _ | with_reducible refine Ext.drewN ?_ _ | with_reducible refine Ext.drew' ?_ | with_reducible refine Ext.alloc' ?_ _ | with_reducible refine Ext.setCell_at ?_ _ _ _ (by first | exact Nat.le_refl _ | omega) | with_reducible assumption | refine Ext.trans ?_ (by with_reducible assumption))) he, rfl⟩
theorem finiteAll1_F (a b : Int) (ha : a.natAbs < 16777216) (hb : b.natAbs < 16777216) (w : World) : Calls Try.prog 111 #[.complex .f32 (F a) (F b)] w fun e w' => Ext w w' ∧ e = .returned (.bool false) := by
  go_enter Try.func111, Try.ntmps111
  go_wp2_with fail
  refine (IsFiniteComplex_F a b ha hb _).mono ?_
  rintro e w1 ⟨he, rfl⟩
  go_wp2_with fail
  go_ret
  exact ⟨he, rfl⟩

set_option maxRecDepth 100000 in
theorem IndexC_none (A : Option Addr) (cap n : Nat) (cs : List (Int × Int)) (w : World) (hA : Lies w 27 A (cpxVals cs)) (hn : cs.length = n) (hl : n ≤ 1000)
    (hp : ∀ (k : Nat) (v : Int × Int), cs[k]? = some v → ∀ w, Calls Try.prog 111 #[.complex .f32 (F v.1) (F v.2)] w fun e w' => Ext w w' ∧ e = .returned (.bool false)) :
    Calls Try.prog 118 #[.slice A n cap, .func (.func 111) #[] #[]] w fun e w' => Ext w w' ∧ e = .returned (.int .i64 (-1)) := by
  have HA := Lib.hid hA
  have HL := Lib.hid hl
  have HP := Lib.hid hp
  clear hA hl hp
  go_enter Try.func118, Try.ntmps118
  go_wp2_with fail
  go_loopw [8] (fun i wr => ∃ (k : Nat), k ≤ n ∧ i = .int .i64 k ∧ Ext w wr) (fun i _ => n - (intOf i).toNat)
  case atStart => exact ⟨0, Nat.zero_le _, rfl, Ext.rfl' _⟩
  case round =>
    obtain ⟨k, hk, rfl, hbel⟩ := hrel
    have HE := Lib.hid hbel
    clear hbel
    have hk9 : k < 9223372036854775807 := by have := HL.out; omega
    by_cases hlt : k < n
    · obtain ⟨v, hv⟩ : ∃ v, cs[k]? = some v := ⟨cs[k]'(by omega), List.getElem?_eq_getElem (by omega)⟩
      obtain ⟨b, o, rfl, hbw, hcc⟩ := HA.out.cell (by unfold cpxVals; rw [List.length_map]; omega)
      have d0 := (HE.out.cell (p := ⟨b, o + k, none⟩) hbw).trans (hcc k (.complex .f32 (F v.1) (F v.2)) (by unfold cpxVals; rw [List.getElem?_map, hv]; rfl))
      have HV := Lib.hid hv
      clear hcc hv
      go_wp2_with fail
      refine (HP.out k v HV.out _).mono ?_
      rintro e w1 ⟨he, rfl⟩
      have HF := Lib.hid (Ext.trans HE.out (Ext.trans (by (repeat first | with_reducible exact Ext.rfl' _ | with_reducible refine Ext.drewN ?_ _ | with_reducible refine Ext.drew' ?_ | with_reducible refine Ext.alloc' ?_ _ | with_reducible refine Ext.setCell_at ?_ _ _ _ (by first | exact Nat.le_refl _ | omega) | with_reducible assumption | refine Ext.trans ?_ (by with_reducible assumption))) he))
      clear he d0
      go_wp2_with fail
      exact ⟨⟨k + 1, by omega, by go_num, HF.out⟩, by simp [intOf]; omega⟩
    · go_wp2_with fail
      go_ret
      exact ⟨HE.out, rfl⟩
set_option maxRecDepth 100000 in
theorem ContainsC_none (A : Option Addr) (cap n : Nat) (cs : List (Int × Int)) (w : World) (hA : Lies w 27 A (cpxVals cs)) (hn : cs.length = n) (hl : n ≤ 1000)
    (hp : ∀ (k : Nat) (v : Int × Int), cs[k]? = some v → ∀ w, Calls Try.prog 111 #[.complex .f32 (F v.1) (F v.2)] w fun e w' => Ext w w' ∧ e = .returned (.bool false)) :
    Calls Try.prog 99 #[.slice A n cap, .func (.func 111) #[] #[]] w fun e w' => Ext w w' ∧ e = .returned (.bool false) := by
  have HC := Lib.hid (IndexC_none A cap n cs w hA hn hl hp)
  clear hA hl hp
  go_enter Try.func99, Try.ntmps99
  go_wp2_with fail
  refine HC.out.mono ?_
  rintro e w1 ⟨he, rfl⟩
  go_wp2_with fail
  go_ret
  exact ⟨he, rfl⟩

theorem finiteAll_F (A : Option Addr) (cap n : Nat) (cs : List (Int × Int)) (w : World) (hA : Lies w 27 A (cpxVals cs)) (hn : cs.length = n) (hl : n ≤ 1000) (hok : ∀ c ∈ cs, c.1.natAbs < 16777216 ∧ c.2.natAbs < 16777216) :
    Calls Try.prog 89 #[.slice A n cap] w fun e w' => Ext w w' ∧ e = .returned (.bool true) := by
  have HC := Lib.hid (ContainsC_none A cap n cs w hA hn hl (fun k v hv w => finiteAll1_F v.1 v.2 (hok v (List.mem_of_getElem? hv)).1 (hok v (List.mem_of_getElem? hv)).2 w))
  clear hA hl hok
  go_enter Try.func89, Try.ntmps89
  go_wp2_with fail
  refine HC.out.mono ?_
  rintro e w1 ⟨he, rfl⟩
  go_wp2_with fail
  go_ret
  exact ⟨he, rfl⟩
set_option maxRecDepth 100000 in
theorem finiteWhirls1_F (u : Wh) (h1 : u.1.natAbs < 16777216) (h2 : u.2.1.natAbs < 16777216) (h3 : u.2.2.natAbs < 16777216) (w : World) : Calls Try.prog 109 #[.agg #[.complex .f32 (F u.1) (F u.2.1), .float .f32 (F u.2.2)]] w fun e w' => Ext w w' ∧ e = .returned (.bool false) := by
  have HB := Lib.hid (Blk.new w 51 #[.complex .f32 (F u.1) (F u.2.1), .float .f32 (F u.2.2)])
  go_enter Try.func109, Try.ntmps109
  go_wp2_with fail
  refine (IsFiniteComplex_F _ _ h1 h2 _).mono ?_
  rintro e w1 ⟨he, rfl⟩
  have d1 : w1.cell? ⟨w.heap.size, 1, none⟩ = some (.float .f32 (F u.2.2)) := (HB.out.ext he).cell 1
  have HE := Lib.hid (Ext.trans (show Ext w _ by (repeat first | with_reducible exact Ext.rfl' _ | with_reducible refine Ext.drewN ?_ _ | with_reducible refine Ext.drew' ?_ | with_reducible refine Ext.alloc' ?_ _ | with_reducible refine Ext.setCell_at ?_ _ _ _ (by first | exact Nat.le_refl _ | omega) | with_reducible assumption | refine Ext.trans ?_ (by with_reducible assumption))) he)
  clear he
  go_wp2_with fail
  refine (IsFinite_F _ h3 _).mono ?_
  rintro e w2 ⟨he, rfl⟩
  have HE2 := Lib.hid (Ext.trans HE.out he)
  clear he
  go_wp2_with fail
  go_ret
  exact ⟨HE2.out, rfl⟩

set_option maxRecDepth 100000 in
theorem IndexW_none (A : Option Addr) (cap n : Nat) (us : List Wh) (w : World) (hA : Lies w 51 A (whVals us)) (hn : us.length = n) (hl : n ≤ 1000)
    (hp : ∀ (k : Nat) (v : Wh), us[k]? = some v → ∀ w, Calls Try.prog 109 #[.agg #[.complex .f32 (F v.1) (F v.2.1), .float .f32 (F v.2.2)]] w fun e w' => Ext w w' ∧ e = .returned (.bool false)) :
    Calls Try.prog 124 #[.slice A n cap, .func (.func 109) #[] #[]] w fun e w' => Ext w w' ∧ e = .returned (.int .i64 (-1)) := by
  have HA := Lib.hid hA
  have HL := Lib.hid hl
  have HP := Lib.hid hp
  clear hA hl hp
  go_enter Try.func124, Try.ntmps124
  go_wp2_with fail
  go_loopw [8] (fun i wr => ∃ (k : Nat), k ≤ n ∧ i = .int .i64 k ∧ Ext w wr) (fun i _ => n - (intOf i).toNat)
  case atStart => exact ⟨0, Nat.zero_le _, rfl, Ext.rfl' _⟩
  case round =>
    obtain ⟨k, hk, rfl, hbel⟩ := hrel
    have HE := Lib.hid hbel
    clear hbel
    have hk9 : k < 9223372036854775807 := by have := HL.out; omega
    by_cases hlt : k < n
    · obtain ⟨v, hv⟩ : ∃ v, us[k]? = some v := ⟨us[k]'(by omega), List.getElem?_eq_getElem (by omega)⟩
      obtain ⟨b, o, rfl, hbw, hcc⟩ := HA.out.cell (by rw [whVals_len]; omega)
      obtain ⟨v1, v2⟩ := whVals_at us k v hv
      have d0 := (HE.out.cell (p := ⟨b, o + k * 2, none⟩) hbw).trans (hcc _ _ v1)
      have d1 := (HE.out.cell (p := ⟨b, o + k * 2 + 1, none⟩) hbw).trans (hcc _ _ v2)
      have HV := Lib.hid hv
      clear hcc hv v1 v2
      go_wp2_with fail
      refine (HP.out k v HV.out _).mono ?_
      rintro e w1 ⟨he, rfl⟩
      have HF := Lib.hid (Ext.trans HE.out (Ext.trans (by (repeat first | with_reducible exact Ext.rfl' _ | with_reducible refine Ext.drewN ?_ _ | with_reducible refine Ext.drew' ?_ | with_reducible refine Ext.alloc' ?_ _ | with_reducible refine Ext.setCell_at ?_ _ _ _ (by first | exact Nat.le_refl _ | omega) | with_reducible assumption | refine Ext.trans ?_ (by with_reducible assumption))) he))
      clear he d0 d1
      go_wp2_with fail
      exact ⟨⟨k + 1, by omega, by go_num, HF.out⟩, by simp [intOf]; omega⟩
    · go_wp2_with fail
      go_ret
      exact ⟨HE.out, rfl⟩
set_option maxRecDepth 100000 in
theorem ContainsW_none (A : Option Addr) (cap n : Nat) (us : List Wh) (w : World) (hA : Lies w 51 A (whVals us)) (hn : us.length = n) (hl : n ≤ 1000)
    (hp : ∀ (k : Nat) (v : Wh), us[k]? = some v → ∀ w, Calls Try.prog 109 #[.agg #[.complex .f32 (F v.1) (F v.2.1), .float .f32 (F v.2.2)]] w fun e w' => Ext w w' ∧ e = .returned (.bool false)) :
    Calls Try.prog 108 #[.slice A n cap, .func (.func 109) #[] #[]] w fun e w' => Ext w w' ∧ e = .returned (.bool false) := by
  have HC := Lib.hid (IndexW_none A cap n us w hA hn hl hp)
  clear hA hl hp
  go_enter Try.func108, Try.ntmps108
  go_wp2_with fail
  refine HC.out.mono ?_
  rintro e w1 ⟨he, rfl⟩
  go_wp2_with fail
  go_ret
  exact ⟨he, rfl⟩

theorem finiteWhirls_F (A : Option Addr) (cap n : Nat) (us : List Wh) (w : World) (hA : Lies w 51 A (whVals us)) (hn : us.length = n) (hl : n ≤ 1000) (hok : ∀ u ∈ us, OkW u) :
    Calls Try.prog 82 #[.slice A n cap] w fun e w' => Ext w w' ∧ e = .returned (.bool true) := by
  have HC := Lib.hid (ContainsW_none A cap n us w hA hn hl (fun k v hv w => by
    obtain ⟨-, -, -, -, h1, h2, h3⟩ := (hok v (List.mem_of_getElem? hv)).term (c := 0) (by decide) (by decide)
    exact finiteWhirls1_F v (by omega) (by omega) (by omega) w))
  clear hA hl hok
  go_enter Try.func82, Try.ntmps82
  go_wp2_with fail
  refine HC.out.mono ?_
  rintro e w1 ⟨he, rfl⟩
  go_wp2_with fail
  go_ret
  exact ⟨he, rfl⟩
theorem AreWhirls_F (A : Option Addr) (cap n : Nat) (us : List Wh) (w : World) (hA : Lies w 51 A (whVals us)) (hn : us.length = n) (hl : n ≤ 12) (hok : ∀ u ∈ us, OkW u) :
    Calls Try.prog 45 #[.slice A n cap] w fun e w' => Ext w w' ∧ e = .returned (.bool true) := by
  have HC := Lib.hid (finiteWhirls_F A cap n us w hA hn (by omega) hok)
  have h32 : (n : Int) ≤ 32 := by omega
  clear hA hl hok
  go_enter Try.func45, Try.ntmps45
  go_wp2_with fail
  refine HC.out.mono ?_
  rintro e w1 ⟨he, rfl⟩
  go_wp2_with fail
  go_ret
  exact ⟨he, rfl⟩
end Go.Proofs.Ytfehhbmmdbpdpaa
