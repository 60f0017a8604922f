/- The law FnExactNoiseTracers: for all arguments it answers true, and changes nothing that was there. -/
import Derived.Test.YtbaohbpfnlicpaaZ4
import Derived.Test.YtbaohbpfnlicpaaZ6
namespace Go.Proofs.Ytbaohbpfnlicpaa
open Go Go.RowKit
set_option linter.unusedVariables false
set_option linter.unusedSimpArgs false
attribute [local go_sem] run_store_float

theorem RC.open {w0 w' : World} {e : Ending} {P : Bool × List C2 × Int} {pb : Bool} {xs : List C2} {s : Int} (h : RC w0 w' e P.1 P.2.1 P.2.2) (hP : P = (pb, xs, s)) : ∃ A cap, e = .returned (.tuple #[.slice A xs.length cap, .int .i64 s, .bool pb]) ∧ CO w' w0.heap.size A xs := by subst hP; exact h

set_option maxRecDepth 100000 in
set_option maxHeartbeats 1600000 in
theorem lawNoise (n : Int) (size : Nat) (s : Int) (w : World) (b1 : -9223372036854775808 ≤ n ∧ n ≤ 9223372036854775807) (b2 : -9223372036854775808 ≤ s ∧ s ≤ 9223372036854775807) :
    Calls Try.prog 3 #[.int .i64 n, .float .f32 size, .int .i64 s] w fun e w' => Ext w w' ∧ e = .returned (.bool true) := by
  obtain ⟨PP, hP⟩ : ∃ PP, noiseAll n (cn .f32 size) s = PP := ⟨_, rfl⟩
  have hl := noiseAll_len n (cn .f32 size) s
  rw [hP] at hl
  obtain ⟨pb, xs, sd⟩ := PP
  have HP := Lib.hid hP
  have HL := Lib.hid (show xs.length ≤ 64 from hl)
  clear hP hl b1 b2
  go_enter Try.func3, Try.ntmps3
  go_wp2_with fail
  refine (specNoise_any n size s _).mono ?_
  rintro e w1 ⟨he1, hrc⟩
  obtain ⟨A1, cap1, rfl, hco1⟩ := RC.open hrc HP.out
  have HC1 := Lib.hid hco1
  have HE1 := Lib.hid he1
  clear hrc hco1 he1
  go_wp2_with fail
  refine (implNoise_any n size s _).mono ?_
  rintro e w2 ⟨he2, hrc⟩
  obtain ⟨A2, cap2, rfl, hco2⟩ := RC.open hrc HP.out
  have HC2 := Lib.hid hco2
  have HE2 := Lib.hid he2
  clear hrc hco2 he2
  go_wp2_with fail
  refine (eqComplex64S_any _ _ A2 A1 cap2 cap1 xs _ HC2.out (HC1.out.ext HE2.out) (by have := HL.out; omega)).mono ?_
  rintro e w3 ⟨he3, rfl⟩
  have HE3 := Lib.hid he3
  clear he3
  go_wp2_with fail
  refine (markComplex64S_any A2 cap2 xs 1 _ _ (HC2.out.ext HE3.out) (by omega) (by omega) (by have := HL.out; omega)).mono ?_
  rintro e w4 ⟨rfl, hmk, row, hg, hr⟩
  have HM := Lib.hid hmk
  have HE14 := Lib.hid (show Ext w1 w4 from Ext.grown (Ext.trans HE2.out HE3.out) hg (fun k hk => by obtain ⟨-, o, -, hB, -⟩ := hr k hk; exact hB))
  have hq1 : ¬ ((1 : Int) + xs.length < 0) := by omega
  clear hmk hg hr row
  go_wp2_with fail
  refine (heldComplex64S_any A2 xs.length cap2 1 _ HM.out (by omega) (by omega) (by have := HL.out; omega)).mono ?_
  rintro e w5 ⟨rfl, rfl⟩
  go_wp2_with fail
  refine (implNoise_any n size s _).mono ?_
  rintro e w6 ⟨he6, hrc⟩
  obtain ⟨A6, cap6, rfl, hco6⟩ := RC.open hrc HP.out
  have HC6 := Lib.hid hco6
  have HE6 := Lib.hid he6
  clear hrc hco6 he6
  go_wp2_with fail
  refine (eqComplex64S_any _ _ A6 A1 cap6 cap1 xs _ HC6.out (HC1.out.ext (Ext.trans HE14.out HE6.out)) (by have := HL.out; omega)).mono ?_
  rintro e w7 ⟨he7, rfl⟩
  have HE7 := Lib.hid he7
  clear he7
  go_wp2_with fail
  refine (heldComplex64S_any A2 xs.length cap2 1 _ (HM.out.ext (Ext.trans HE6.out HE7.out)) (by omega) (by omega) (by have := HL.out; omega)).mono ?_
  rintro e w8 ⟨rfl, rfl⟩
  go_wp2_with fail
  go_ret
  exact ⟨Ext.trans HE1.out (Ext.trans HE14.out (Ext.trans HE6.out HE7.out)), rfl⟩
end Go.Proofs.Ytbaohbpfnlicpaa
