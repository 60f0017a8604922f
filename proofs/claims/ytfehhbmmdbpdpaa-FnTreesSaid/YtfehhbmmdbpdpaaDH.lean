/- Walks: leaves, depth, moments; whether numbers are the same. -/
import Derived.Test.YtfehhbmmdbpdpaaDG
import Derived.Laws.Externs
import Derived.Laws.FloatBits
namespace Go.Proofs.Ytfehhbmmdbpdpaa
open Go Go.RowKit
set_option linter.unusedVariables false
set_option linter.unusedSimpArgs false
attribute [local go_sem] run_store_float run_store_complex

theorem F_lt (k : Int) : F k < 4294967296 := FloatKind.f32.format.write_lt (.number (decide (k < 0)) k.natAbs (-10))
theorem run_bits (x : Nat) (w : World) : (callFunc 112 #[.float .f32 x]).run Try.prog w = .ok (.value (.int .u32 x)) w := by
  rw [run_callFunc_extern Try.func112 (by kernel_rfl) (by kernel_rfl) (by kernel_rfl) (e := Extern.MathFloatBits.float32bits) (by kernel_rfl)]
  rfl
set_option maxRecDepth 100000 in
theorem l01Bits_F (k : Int) (hk : k.natAbs < 16777216) (w : World) : Calls Try.prog 92 #[.float .f32 (F k)] w fun e w' => w' = w ∧ e = .returned (.int .i64 (F k)) := by
  have h : fcmp .neq .f32 (F k) (F k) = false := by
    rw [F_cmp .f32 .neq k k hk hk]
    simp
  have hd := fun w => run_bits (F k) w
  have hl := F_lt k
  generalize F k = x at *
  have hw : IntKind.i64.wrap (x : Int) = (x : Int) := IntWalk.i64_in _ (by omega)
  go_enter Try.func92, Try.ntmps92
  go_wp2_with (first | (refine wpList_fcmpD rfl .neq _ _ _ _ rfl rfl _ _ _ rfl rfl _ h ?_))
  go_ret
  exact ⟨rfl, rfl⟩
set_option maxRecDepth 100000 in
theorem l01Same_F (k : Int) (hk : k.natAbs < 16777216) (w : World) : Calls Try.prog 51 #[.float .f32 (F k), .float .f32 (F k)] w fun e w' => w' = w ∧ e = .returned (.bool true) := by
  go_enter Try.func51, Try.ntmps51
  go_wp2_with fail
  refine (l01Bits_F k hk _).mono ?_
  rintro e w1 ⟨rfl, rfl⟩
  go_wp2_with fail
  refine (l01Bits_F k hk _).mono ?_
  rintro e w2 ⟨rfl, rfl⟩
  go_wp2_with fail
  go_ret
  exact ⟨rfl, rfl⟩
theorem SameNumber_F (k : Int) (hk : k.natAbs < 16777216) (w : World) : Calls Try.prog 23 #[.float .f32 (F k), .float .f32 (F k)] w fun e w' => w' = w ∧ e = .returned (.bool true) := by
  go_enter Try.func23, Try.ntmps23
  go_wp2_with fail
  refine (l01Same_F k hk _).mono ?_
  rintro e w1 ⟨rfl, rfl⟩
  go_wp2_with fail
  go_ret
  exact ⟨rfl, rfl⟩
theorem l01CSame_F (k l : Int) (hk : k.natAbs < 16777216) (hl : l.natAbs < 16777216) (w : World) : Calls Try.prog 44 #[.complex .f32 (F k) (F l), .complex .f32 (F k) (F l)] w fun e w' => w' = w ∧ e = .returned (.bool true) := by
  go_enter Try.func44, Try.ntmps44
  go_wp2_with fail
  refine (l01Same_F k hk _).mono ?_
  rintro e w1 ⟨rfl, rfl⟩
  go_wp2_with fail
  refine (l01Same_F l hl _).mono ?_
  rintro e w1 ⟨rfl, rfl⟩
  go_wp2_with fail
  go_ret
  exact ⟨rfl, rfl⟩
theorem SameComplex_F (k l : Int) (hk : k.natAbs < 16777216) (hl : l.natAbs < 16777216) (w : World) : Calls Try.prog 16 #[.complex .f32 (F k) (F l), .complex .f32 (F k) (F l)] w fun e w' => w' = w ∧ e = .returned (.bool true) := by
  go_enter Try.func16, Try.ntmps16
  go_wp2_with fail
  refine (l01CSame_F k l hk hl _).mono ?_
  rintro e w1 ⟨rfl, rfl⟩
  go_wp2_with fail
  go_ret
  exact ⟨rfl, rfl⟩
theorem MomentsOf_any (A : Option Addr) (cap n : Nat) (us : List Wh) (cx cy : Int) (hn : us.length = n) (w : World) (hA : Lies w 51 A (whVals us)) (hl : n ≤ 12) (hok : ∀ u ∈ us, OkW u) (hx : cx.natAbs ≤ 8192) (hy : cy.natAbs ≤ 8192) (ex : cx % 2 = 0) (ey : cy % 2 = 0) :
    Calls Try.prog 22 #[.slice A n cap, .complex .f32 (F cx) (F cy)] w fun e w' => Ext w w' ∧ e = .returned (.tuple #[.float .f32 (F (spinL us)), .complex .f32 (F (momXL cx us)) (F (momYL cy us)), .bool true]) := by
  have HA := Lib.hid hA
  have HOK := Lib.hid hok
  have HL := Lib.hid hl
  have HX := Lib.hid hx
  have HY := Lib.hid hy
  have f1 := fold_bound (fun u => u.2.2) 2048 us (fun u hu => ((hok u hu).term (c := 0) (by decide) (by decide)).2.2.2.2.2.2)
  have f2 := fold_bound (fun u => (u.1 - cx) * u.2.2 / 1024) 24576 us (fun u hu => ((hok u hu).term (c := cx) (by omega) ex).1.2)
  have f3 := fold_bound (fun u => (u.2.1 - cy) * u.2.2 / 1024) 24576 us (fun u hu => ((hok u hu).term (c := cy) (by omega) ey).2.1.2)
  have g1 : (spinL us).natAbs < 16777216 := by unfold spinL; omega
  have g2 : (momXL cx us).natAbs < 16777216 := by unfold momXL; omega
  have g3 : (momYL cy us).natAbs < 16777216 := by unfold momYL; omega
  have G1 := Lib.hid g1
  have G2 := Lib.hid g2
  have G3 := Lib.hid g3
  clear hA hok hl hx hy f1 f2 f3 g1 g2 g3
  go_enter Try.func22, Try.ntmps22
  go_wp2_with fail
  refine (AreWhirls_F _ _ _ us _ HA.out hn HL.out HOK.out).mono ?_
  rintro e w1 ⟨he, rfl⟩
  have HE1 := Lib.hid he
  clear he
  go_wp2_with fail
  refine (IsFiniteComplex_F cx cy (by have := HX.out; omega) (by have := HY.out; omega) _).mono ?_
  rintro e w2 ⟨he, rfl⟩
  have HE2 := Lib.hid (Ext.trans HE1.out he)
  clear he HE1
  go_wp2_with fail
  refine (moments_n _ _ _ us cx cy hn _ (HA.out.ext HE2.out) HL.out HOK.out HX.out HY.out ex ey).mono ?_
  rintro e w3 ⟨he, rfl⟩
  have HE3 := Lib.hid (Ext.trans HE2.out he)
  clear he HE2
  go_wp2_with fail
  refine (IsFinite_F _ G1.out _).mono ?_
  rintro e w4 ⟨he, rfl⟩
  have HE4 := Lib.hid (Ext.trans HE3.out he)
  clear he HE3
  go_wp2_with fail
  refine (IsFiniteComplex_F _ _ G2.out G3.out _).mono ?_
  rintro e w5 ⟨he, rfl⟩
  have HE5 := Lib.hid (Ext.trans HE4.out he)
  clear he HE4
  go_wp2_with fail
  go_ret3
  exact ⟨HE5.out, rfl⟩
theorem gap_F (k : Int) (hk : k.natAbs < 16777216) (w : World) : Calls Try.prog 21 #[.float .f64 (G k), .float .f64 0] w fun e w' => w' = w ∧ e = .returned (.float .f64 (G (k.natAbs : Int))) := by
  have hc := F_cmp .f64 .lss k 0 hk (by decide)
  rw [F_zero] at hc
  by_cases h : k < 0
  · have hs : floatBits .sub .f64 0 (G k) = some (G (k.natAbs : Int)) := by
      have := F_sub .f64 0 k (by decide) hk (by omega)
      rw [F_zero] at this
      rw [this, show (k.natAbs : Int) = 0 - k by omega]
    have hc' : fcmp .lss .f64 (G k) 0 = true := hc.trans (by simp [h])
    clear hc
    go_enter Try.func21, Try.ntmps21
    go_wp2_with (first
      | (refine wpList_fcmpD rfl .lss _ _ _ _ rfl rfl _ _ _ rfl rfl _ hc' ?_)
      | (refine wpList_floatD rfl _ _ _ _ _ rfl (by decide) _ _ _ rfl rfl _ hs ?_))
    go_ret
    exact ⟨rfl, rfl⟩
  · have hs : floatBits .sub .f64 (G k) 0 = some (G (k.natAbs : Int)) := by
      have := F_sub .f64 k 0 hk (by decide) (by omega)
      rw [F_zero] at this
      rw [this, show (k.natAbs : Int) = k - 0 by omega]
    have hc' : fcmp .lss .f64 (G k) 0 = false := hc.trans (by simp; omega)
    clear hc
    go_enter Try.func21, Try.ntmps21
    go_wp2_with (first
      | (refine wpList_fcmpD rfl .lss _ _ _ _ rfl rfl _ _ _ rfl rfl _ hc' ?_)
      | (refine wpList_floatD rfl _ _ _ _ _ rfl (by decide) _ _ _ rfl rfl _ hs ?_))
    go_ret
    exact ⟨rfl, rfl⟩
end Go.Proofs.Ytfehhbmmdbpdpaa
