/- The law FnExactAreThreads: for every list of threads it answers true, and changes nothing that was there. -/
import Derived.Test.YtbaohbpfnlicpaaA2
namespace Go.Proofs.Ytbaohbpfnlicpaa
open Go Go.RowKit
set_option linter.unusedVariables false
set_option linter.unusedSimpArgs false
attribute [local go_sem] run_store_float

set_option maxRecDepth 100000 in
theorem lawAre (A : Option Addr) (cap : Nat) (ts : List Th) (w : World) (hA : TS w A ts) (hl : ts.length ≤ 9223372036854775807) (hs : Short ts 9223372036854775807) :
    Calls Try.prog 8 #[.slice A ts.length cap] w fun e w' => Ext w w' ∧ e = .returned (.bool true) := by
  have HA := Lib.hid hA
  have HL := Lib.hid hl
  have HS := Lib.hid hs
  clear hA hl hs
  go_enter Try.func8, Try.ntmps8
  go_wp2_with fail
  refine (szThreadS_any A cap ts _ _ HA.out (by omega) (by omega) HL.out HS.out).mono ?_
  rintro e w1 ⟨he1, q, rfl, hq⟩
  rcases hq with rfl | ⟨hq0, hq1, hq2⟩
  · go_wp2_with fail
    go_ret
    exact ⟨he1, rfl⟩
  · have hn : ¬ q < 0 := by omega
    have HLE := Lib.hid (show ts.length ≤ 1048576 by omega)
    have HSE := Lib.hid hq2
    have HE1 := Lib.hid he1
    obtain ⟨r, hr⟩ : ∃ r, areP ts = r := ⟨_, rfl⟩
    have HR := Lib.hid hr
    clear he1 hq1 hq2 hr
    go_wp2_with fail
    refine (toThreadS_any A cap ts _ (HA.out.ext HE1.out) HLE.out HSE.out).mono ?_
    rintro e w2 ⟨he2, A2, rfl, hv2⟩
    have HE2 := Lib.hid (Ext.trans HE1.out he2)
    have HV2 := Lib.hid hv2
    clear he2 hv2
    go_wp2_with fail
    refine (specAre_any A2 _ ts _ HV2.out HLE.out HSE.out r HR.out).mono ?_
    rintro e w3 ⟨he3, rfl⟩
    have HE3 := Lib.hid (Ext.trans HE2.out he3)
    clear he3
    go_wp2_with fail
    refine (toThreadS_any A cap ts _ (HA.out.ext HE3.out) HLE.out HSE.out).mono ?_
    rintro e w4 ⟨he4, A4, rfl, hv4⟩
    have HE4 := Lib.hid (Ext.trans HE3.out he4)
    have HV4 := Lib.hid hv4
    clear he4 hv4
    go_wp2_with fail
    refine (implAre_any A4 _ ts _ HV4.out HLE.out HSE.out r HR.out).mono ?_
    rintro e w5 ⟨he5, rfl⟩
    have HE5 := Lib.hid (Ext.trans HE4.out he5)
    have HV5 := Lib.hid (HV4.out.ext he5)
    clear he5
    go_wp2_with fail
    refine (toThreadS_any A cap ts _ (HA.out.ext HE5.out) HLE.out HSE.out).mono ?_
    rintro e w6 ⟨he6, A6, rfl, hv6⟩
    have HE6 := Lib.hid (Ext.trans HE5.out he6)
    have HV6 := Lib.hid hv6
    have HV56 := Lib.hid (HV5.out.ext he6)
    clear he6 hv6
    go_wp2_with fail
    refine (eqThreadS_any _ _ _ _ ts _ HV56.out HV6.out HLE.out HSE.out).mono ?_
    rintro e w7 ⟨he7, rfl⟩
    go_wp2_with fail
    go_ret
    exact ⟨Ext.trans HE6.out he7, rfl⟩
end Go.Proofs.Ytbaohbpfnlicpaa
