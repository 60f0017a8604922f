/- Walks: the area of a thread. -/
import Derived.Test.YtbaohbpfnlicpaaW7
import Derived.Deep.RegionLaw
namespace Go.Proofs.Ytbaohbpfnlicpaa
open Go Go.RowKit
set_option linter.unusedVariables false
set_option linter.unusedSimpArgs false
attribute [local go_sem] run_store_float

set_option maxRecDepth 100000 in
theorem l06Area_any (g o : Nat) (A : Option Addr) (cap sp : Nat) (cs : List V3) (w : World) (hT : TAt w g o A cs.length cap sp) (hA : VS w A cs) (hl : cs.length ≤ 1048576) :
    Calls Try.prog 119 #[.pointer (some ⟨g, o, none⟩)] w fun e w' => Ext w w' ∧ ∃ r s t, e = .returned (.agg #[.float .f32 r, .float .f32 s, .float .f32 t]) ∧ cv r s t = vscale (areaTo cs cs.length) half32 := by
  have HA := Lib.hid hA
  have HL := Lib.hid hl
  have HT := Lib.hid hT
  clear hA hl hT
  go_enter Try.func119, Try.ntmps119
  go_wp2_with fail
  have HT1 := Lib.hid (HT.out.ext (w' := (w.alloc (.cells #[.float .f32 0, .float .f32 0, .float .f32 0] 54)).alloc (.cells #[.float .f32 0, .float .f32 0, .float .f32 0] 54)) (by (repeat first | with_reducible exact Ext.rfl' _ | with_reducible refine Ext.drewN ?_ _ | with_reducible refine Ext.drew' ?_ | with_reducible refine Ext.alloc' ?_ _ | with_reducible refine Ext.setCell_at ?_ _ _ _ (by first | exact Nat.le_refl _ | omega) | with_reducible assumption | refine Ext.trans ?_ (by with_reducible assumption))))
  have HA1 := Lib.hid (HA.out.ext (w' := (w.alloc (.cells #[.float .f32 0, .float .f32 0, .float .f32 0] 54)).alloc (.cells #[.float .f32 0, .float .f32 0, .float .f32 0] 54)) (by (repeat first | with_reducible exact Ext.rfl' _ | with_reducible refine Ext.drewN ?_ _ | with_reducible refine Ext.drew' ?_ | with_reducible refine Ext.alloc' ?_ _ | with_reducible refine Ext.setCell_at ?_ _ _ _ (by first | exact Nat.le_refl _ | omega) | with_reducible assumption | refine Ext.trans ?_ (by with_reducible assumption))))
  have HR0 := Lib.hid (Blk.alloc (Blk.new w 54 #[.float .f32 0, .float .f32 0, .float .f32 0]) (.cells #[.float .f32 0, .float .f32 0, .float .f32 0] 54))
  have HS0 := Lib.hid (Blk.at_ (w.alloc (.cells #[.float .f32 0, .float .f32 0, .float .f32 0] 54)) 54 #[.float .f32 0, .float .f32 0, .float .f32 0] (w.heap.size + 1) (by simp))
  have HX0 := Lib.hid (show Ext w ((w.alloc (.cells #[.float .f32 0, .float .f32 0, .float .f32 0] 54)).alloc (.cells #[.float .f32 0, .float .f32 0, .float .f32 0] 54)) by (repeat first | with_reducible exact Ext.rfl' _ | with_reducible refine Ext.drewN ?_ _ | with_reducible refine Ext.drew' ?_ | with_reducible refine Ext.alloc' ?_ _ | with_reducible refine Ext.setCell_at ?_ _ _ _ (by first | exact Nat.le_refl _ | omega) | with_reducible assumption | refine Ext.trans ?_ (by with_reducible assumption)))
  have hws : ((w.alloc (.cells #[.float .f32 0, .float .f32 0, .float .f32 0] 54)).alloc (.cells #[.float .f32 0, .float .f32 0, .float .f32 0] 54)).heap.size = w.heap.size + 2 := by simp
  generalize ((w.alloc (.cells #[.float .f32 0, .float .f32 0, .float .f32 0] 54)).alloc (.cells #[.float .f32 0, .float .f32 0, .float .f32 0] 54)) = W1 at *
  go_loopw [4] (fun i wr => ∃ (k r s t : Nat), k ≤ cs.length ∧ i = .int .i64 k ∧ Blk wr (w.heap.size + 1) 54 #[.float .f32 r, .float .f32 s, .float .f32 t] ∧ Blk wr w.heap.size 54 #[.float .f32 0, .float .f32 0, .float .f32 0] ∧ cv r s t = areaTo cs k ∧ Below w.heap.size W1 wr) (fun i _ => cs.length - (intOf i).toNat)
  case atStart => exact ⟨0, 0, 0, 0, Nat.zero_le _, rfl, HS0.out, HR0.out, by simp [areaTo, cv_zero], Below.refl _ _⟩
  case round =>
    obtain ⟨k, r, s, t, hk, rfl, hB, hR, hv, hbel⟩ := hrel
    have HB := Lib.hid hB
    have HR := Lib.hid hR
    have HV := Lib.hid hv
    have HE := Lib.hid hbel
    have hszr := hB.lt
    have HTr := Lib.hid (show TAt wr g o A cs.length cap sp from HT.out.ext (by have := HX0.out; exact Below.trans this hbel))
    have HAr := Lib.hid (show VS wr A cs from HA.out.ext (by have := HX0.out; exact Below.trans this hbel))
    clear hB hv hbel hR
    have hk9 : k < 9223372036854775807 := by have := HL.out; omega
    obtain ⟨tlt, s0, s1⟩ := HTr.out
    by_cases hlt : k < cs.length
    · have m0 : wr.cell? ⟨w.heap.size + 1, 0, none⟩ = some (.float .f32 r) := HB.out.cell 0
      have m1 : wr.cell? ⟨w.heap.size + 1, 1, none⟩ = some (.float .f32 s) := HB.out.cell 1
      have m2 : wr.cell? ⟨w.heap.size + 1, 2, none⟩ = some (.float .f32 t) := HB.out.cell 2
      go_wp2_with fail
      refine (l06Ends_any g o A cap sp cs k _ (HTr.out.ext (by (repeat first | with_reducible exact Ext.rfl' _ | with_reducible refine Ext.drewN ?_ _ | with_reducible refine Ext.drew' ?_ | with_reducible refine Ext.alloc' ?_ _ | with_reducible refine Ext.setCell_at ?_ _ _ _ (by first | exact Nat.le_refl _ | omega) | with_reducible assumption | refine Ext.trans ?_ (by with_reducible assumption)))) (HAr.out.ext (by (repeat first | with_reducible exact Ext.rfl' _ | with_reducible refine Ext.drewN ?_ _ | with_reducible refine Ext.drew' ?_ | with_reducible refine Ext.alloc' ?_ _ | with_reducible refine Ext.setCell_at ?_ _ _ _ (by first | exact Nat.le_refl _ | omega) | with_reducible assumption | refine Ext.trans ?_ (by with_reducible assumption)))) HL.out hlt).mono ?_
      rintro e w2 ⟨he2, x, y, z, x', y', z', rfl, hc, hc'⟩
      have HC := Lib.hid hc
      have HC' := Lib.hid hc'
      clear hc hc' m0 m1 m2
      go_wp2_with fail
      have HE2 := Lib.hid (show Ext wr ((w2.alloc (.cells #[.float .f32 x, .float .f32 y, .float .f32 z] 54)).alloc (.cells #[.float .f32 x', .float .f32 y', .float .f32 z'] 54)) by (repeat first | with_reducible exact Ext.rfl' _ | with_reducible refine Ext.drewN ?_ _ | with_reducible refine Ext.drew' ?_ | with_reducible refine Ext.alloc' ?_ _ | with_reducible refine Ext.setCell_at ?_ _ _ _ (by first | exact Nat.le_refl _ | omega) | with_reducible assumption | refine Ext.trans ?_ (by with_reducible assumption)))
      have HP := Lib.hid ((Blk.new w2 54 #[.float .f32 x, .float .f32 y, .float .f32 z]).alloc (.cells #[.float .f32 x', .float .f32 y', .float .f32 z'] 54))
      have HQ := Lib.hid (Blk.at_ (w2.alloc (.cells #[.float .f32 x, .float .f32 y, .float .f32 z] 54)) 54 #[.float .f32 x', .float .f32 y', .float .f32 z'] (w2.heap.size + 1) (by simp))
      have hz2 : wr.heap.size ≤ w2.heap.size := he2.size
      generalize ((w2.alloc (.cells #[.float .f32 x, .float .f32 y, .float .f32 z] 54)).alloc (.cells #[.float .f32 x', .float .f32 y', .float .f32 z'] 54)) = W3 at *
      clear he2 s0 s1
      have HB3 := Lib.hid (HB.out.ext HE2.out)
      have m0 : W3.cell? ⟨w.heap.size + 1, 0, none⟩ = some (.float .f32 r) := HB3.out.cell 0
      have m1 : W3.cell? ⟨w.heap.size + 1, 1, none⟩ = some (.float .f32 s) := HB3.out.cell 1
      have m2 : W3.cell? ⟨w.heap.size + 1, 2, none⟩ = some (.float .f32 t) := HB3.out.cell 2
      have p0 : W3.cell? ⟨w2.heap.size, 0, none⟩ = some (.float .f32 x) := HP.out.cell 0
      have p1 : W3.cell? ⟨w2.heap.size, 1, none⟩ = some (.float .f32 y) := HP.out.cell 1
      have p2 : W3.cell? ⟨w2.heap.size, 2, none⟩ = some (.float .f32 z) := HP.out.cell 2
      have q0 : W3.cell? ⟨w2.heap.size + 1, 0, none⟩ = some (.float .f32 x') := HQ.out.cell 0
      have q1 : W3.cell? ⟨w2.heap.size + 1, 1, none⟩ = some (.float .f32 y') := HQ.out.cell 1
      have q2 : W3.cell? ⟨w2.heap.size + 1, 2, none⟩ = some (.float .f32 z') := HQ.out.cell 2
      go_region_law (first
        | (go_simp; go_at_call 179; refine (l01VCross_any _ _ _ _ _ _ _).mono ?_; rintro e w4 ⟨he4, r4, s4, t4, rfl, hq4⟩; have HQ4 := Lib.hid hq4; clear hq4; (have he4' : Ext W3 w4 := Ext.trans (Ext.drew' (Ext.rfl' _)) he4); have HB4 := Lib.hid (HB3.out.ext he4'); (have k0 : w4.cell? ⟨w.heap.size + 1, 0, none⟩ = some (.float .f32 r) := HB4.out.cell 0); (have k1 : w4.cell? ⟨w.heap.size + 1, 1, none⟩ = some (.float .f32 s) := HB4.out.cell 1); (have k2 : w4.cell? ⟨w.heap.size + 1, 2, none⟩ = some (.float .f32 t) := HB4.out.cell 2); have hs4 := he4'.size; clear he4)
        | (go_simp; go_at_call 109; refine (l01VAdd_any _ _ _ _ _ _ _).mono ?_; rintro e w5 ⟨he5, r5, s5, t5, rfl, hq5⟩; have HQ5 := Lib.hid hq5; clear hq5; have heW : Ext W3 w5 := Ext.trans he4' he5; have HE5 := Lib.hid heW; have HB5 := Lib.hid (HB3.out.ext heW); (have n0 : w5.cell? ⟨w.heap.size + 1, 0, none⟩ = some (.float .f32 r) := HB5.out.cell 0); (have n1 : w5.cell? ⟨w.heap.size + 1, 1, none⟩ = some (.float .f32 s) := HB5.out.cell 1); (have n2 : w5.cell? ⟨w.heap.size + 1, 2, none⟩ = some (.float .f32 t) := HB5.out.cell 2); have f0 := HB5.out.frozen 0; have f1 := HB5.out.frozen 1; have f2 := HB5.out.frozen 2; clear heW he5 he4'))
      all_goals
        go_wp2_with fail
        have hx5 : Below w.heap.size W1 w5 := (HE.out.trans ((Ext.trans HE2.out HE5.out).mono (by omega)))
        refine ⟨⟨k + 1, r5, s5, t5, by omega, by go_num, HB5.out.set3v _ _ _, ?_, by rw [HQ5.out, HV.out, HQ4.out, HC.out, HC'.out, areaTo], ?_⟩, by simp [intOf]; omega⟩
        · have hR5 := (HR.out.ext HE2.out).ext HE5.out
          exact ((hR5.setne w.heap.size.succ_ne_self 0 _).setne w.heap.size.succ_ne_self 1 _).setne w.heap.size.succ_ne_self 2 _
        · exact Below.setCell (Below.setCell (Below.setCell hx5 (by simp) _) (by simp) _) (by simp) _
    · have hkl : k = cs.length := by omega
      subst hkl
      have m0 : wr.cell? ⟨w.heap.size + 1, 0, none⟩ = some (.float .f32 r) := HB.out.cell 0
      have m1 : wr.cell? ⟨w.heap.size + 1, 1, none⟩ = some (.float .f32 s) := HB.out.cell 1
      have m2 : wr.cell? ⟨w.heap.size + 1, 2, none⟩ = some (.float .f32 t) := HB.out.cell 2
      go_wp2_with fail
      refine (l01VScale_any _ _ _ _ _).mono ?_
      rintro e w2 ⟨he2, r', s', t', rfl, hq⟩
      have HR2 := HR.out.ext he2
      have HQ := Lib.hid hq
      have HX2 := Lib.hid (show Ext w w2 from Below.trans HX0.out (HE.out.trans (he2.mono (by omega))))
      clear hq he2 m0 m1 m2
      have p0 : w2.cell? ⟨w.heap.size, 0, none⟩ = some (.float .f32 0) := HR2.cell 0
      have p1 : w2.cell? ⟨w.heap.size, 1, none⟩ = some (.float .f32 0) := HR2.cell 1
      have p2 : w2.cell? ⟨w.heap.size, 2, none⟩ = some (.float .f32 0) := HR2.cell 2
      have f0 := HR2.frozen 0
      have f1 := HR2.frozen 1
      have f2 := HR2.frozen 2
      go_wp2_with fail
      have HB2 := HR2.set3v (.float .f32 r') (.float .f32 s') (.float .f32 t')
      have e2 : Ext w (((w2.setCell ⟨w.heap.size, 0, none⟩ (.float .f32 r')).setCell ⟨w.heap.size, 1, none⟩ (.float .f32 s')).setCell ⟨w.heap.size, 2, none⟩ (.float .f32 t')) := by
        have := HX2.out
        (repeat first | with_reducible exact Ext.rfl' _ | with_reducible refine Ext.drewN ?_ _ | with_reducible refine Ext.drew' ?_ | with_reducible refine Ext.alloc' ?_ _ | with_reducible refine Ext.setCell_at ?_ _ _ _ (by first | exact Nat.le_refl _ | omega) | with_reducible assumption | refine Ext.trans ?_ (by with_reducible assumption))
      generalize ((w2.setCell ⟨w.heap.size, 0, none⟩ (.float .f32 r')).setCell ⟨w.heap.size, 1, none⟩ (.float .f32 s')).setCell ⟨w.heap.size, 2, none⟩ (.float .f32 t') = W4 at *
      have q0 : W4.cell? ⟨w.heap.size, 0, none⟩ = some (.float .f32 r') := HB2.cell 0
      have q1 : W4.cell? ⟨w.heap.size, 1, none⟩ = some (.float .f32 s') := HB2.cell 1
      have q2 : W4.cell? ⟨w.heap.size, 2, none⟩ = some (.float .f32 t') := HB2.cell 2
      exact bodyPost_ret (v := .agg #[.float .f32 r', .float .f32 s', .float .f32 t']) (by simp [results, Try.results119, go_sem, q0, q1, q2]) rfl ⟨e2, _, _, _, rfl, by rw [HQ.out, HV.out, cn_half32]⟩
end Go.Proofs.Ytbaohbpfnlicpaa
