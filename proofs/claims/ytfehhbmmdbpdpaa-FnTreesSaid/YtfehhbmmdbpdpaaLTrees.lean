/- The law FnTrees: for all arguments it answers true, and changes nothing that was there. -/
import Derived.Test.YtfehhbmmdbpdpaaDL
namespace Go.Proofs.Ytfehhbmmdbpdpaa
open Go Go.RowKit
set_option linter.unusedVariables false
set_option linter.unusedSimpArgs false
attribute [local go_sem] run_store_float run_store_complex

theorem B10Many_at (A : Option Addr) (n cap : Nat) (w : World) (hb : Bytes w A n) (hn : n ≤ 1048576) :
    Calls Try.prog 17 #[.slice A n cap] w fun e w' => Ext w w' ∧ ∃ (ps : List Wh) (r o c : Nat), e = .returned (.slice (some ⟨r, o, none⟩) ps.length c) ∧ OkPs ps ∧ 0 < ps.length ∧ Lies w' 51 (some ⟨r, o, none⟩) (whVals ps) :=
  (B10Many_any A n cap w hb hn).mono fun e w' ⟨h1, ps, r, c, h2⟩ => ⟨h1, ps, r, 0, c, h2⟩
/-- a tree of nodes in memory -/
def TreeIn (w : World) (ps : List Wh) (r o : Nat) : Prop :=
  ∃ zs, Lies w 49 (some ⟨r, o, none⟩) zs ∧ NodesAt w (widP ps) (treeP ps) zs
theorem TreeIn.ext {w w' : World} {ps : List Wh} {r o : Nat} (h : TreeIn w ps r o) (he : Ext w w') : TreeIn w' ps r o := by
  obtain ⟨zs, h1, h2⟩ := h
  exact ⟨zs, h1.ext he, h2.map fun A xs h => h.ext he⟩
theorem TreeOf_at (ps : List Wh) (lb lo cap : Nat) (w : World) (hps : OkPs ps) (hn : 0 < ps.length) (hA : Lies w 51 (some ⟨lb, lo, none⟩) (whVals ps)) :
    Calls Try.prog 18 #[.slice (some ⟨lb, lo, none⟩) ps.length cap] w fun e w' => Ext w w' ∧ ∃ r o cp, e = .returned (.tuple #[.slice (some ⟨r, o, none⟩) (treeP ps).length cp, .bool true]) ∧ TreeIn w' ps r o :=
  (TreeOf_any ps lb lo cap w hps hn hA).mono fun e w' ⟨h1, r, cp, h2, h3⟩ => ⟨h1, r, 0, cp, h2, h3⟩

set_option maxRecDepth 100000 in
set_option maxHeartbeats 40000000 in
theorem lawTrees (A1 A2 : Option Addr) (n1 n2 c1 c2 : Nat) (w : World) (hb : Bytes w A1 n1) :
    Calls Try.prog 4 #[.slice A1 n1 c1, .slice A2 n2 c2] w fun e w' => Ext w w' ∧ e = .returned (.bool true) := by
  have HB := Lib.hid hb
  obtain ⟨i1, hi1, jz0, jz1, jz2⟩ := parts_of infoW
  have hzw : (Value.agg #[.complex .f32 0 0, .float .f32 0]).cells.size = 2 := by decide
  clear hb
  go_enter Try.func4, Try.ntmps4
  go_wp2_with fail
  refine (b10Long_any A1 A2 n1 n2 c1 c2 _).mono ?_
  rintro e w0 ⟨rfl, rfl⟩
  by_cases hlong : 1048576 < n1 ∨ 1048576 < n2
  · rw [decide_eq_true hlong]
    go_wp2_with fail
    go_ret
    exact ⟨Ext.rfl' _, rfl⟩
  · rw [decide_eq_false hlong]
    have hn1 : n1 ≤ 1048576 := by omega
    clear hlong
    go_wp2_with fail
    refine (B10Many_at A1 n1 c1 _ HB.out hn1).mono ?_
    rintro e w1 ⟨he, ps, r, o, cl, rfl, hps, hpos, hl⟩
    have HE1 := Lib.hid he
    have HPS := Lib.hid hps
    have HPOS := Lib.hid hpos
    have HL1 := Lib.hid hl
    clear he hps hpos hl hn1
    go_wp2_with fail
    refine (TreeOf_at ps r o cl _ HPS.out HPOS.out HL1.out).mono ?_
    rintro e w2 ⟨he, rn, on, cn_, rfl, ht⟩
    have HE2 := Lib.hid (Ext.trans HE1.out he)
    have HL2 := Lib.hid (HL1.out.ext he)
    have HT2 := Lib.hid ht
    obtain ⟨hgood, hroot, hsize⟩ := treeP_ok HPS.out HPOS.out
    have HGOOD := Lib.hid hgood
    have HROOT := Lib.hid hroot
    have hlen1 : 1 ≤ (treeP ps).length := by
      obtain ⟨n0, rest, e, -⟩ := hroot
      rw [e]; simp
    have hlen2 : (treeP ps).length ≤ 84 := by
      have := HPS.out.1
      rw [List.length_range] at hsize
      omega
    have HWID := Lib.hid (show widP ps < 33 from Nat.lt_succ_of_le (root_facts HPS.out HPOS.out).1)
    have HLEN1 := Lib.hid hlen1
    have HLEN2 := Lib.hid hlen2
    clear he ht hgood hroot hsize HL1 HE1 hlen1 hlen2
    generalize hLL : treeP ps = LL at *
    go_wp2_with fail
    obtain ⟨zs, hlz, hnz⟩ := HT2.out
    rw [hLL] at hnz
    refine (LeavesOf_any _ cn_ (widP ps) LL zs w2 hlz hnz HLEN1.out (by have := HLEN2.out; omega)).mono ?_
    rintro e w3 ⟨he, A3, c3, rfl⟩
    have HE3 := Lib.hid (Ext.trans HE2.out he)
    have HL3 := Lib.hid (HL2.out.ext he)
    have HLZ3 := Lib.hid (hlz.ext he)
    have HNZ3 := Lib.hid (hnz.map fun A xs h => h.ext he)
    clear hlz hnz he HE2 HL2 HT2
    go_wp2_with fail
    refine (DepthOf_any _ cn_ (widP ps) LL zs w3 HLZ3.out HNZ3.out HLEN1.out (by have := HLEN2.out; omega) (fun nd hnd => by
      obtain ⟨i, hi, e⟩ := List.mem_iff_getElem.1 hnd
      exact (HGOOD.out i nd (by rw [← e]; exact List.getElem?_eq_getElem hi)).1.deep)).mono ?_
    rintro e w4 ⟨he, dm, rfl, hdm, hdall⟩
    have HE4 := Lib.hid (Ext.trans HE3.out he)
    have HL4 := Lib.hid (HL3.out.ext he)
    have HLZ4 := Lib.hid (HLZ3.out.ext he)
    have HNZ4 := Lib.hid (HNZ3.out.map fun A xs h => h.ext he)
    have HDALL := Lib.hid hdall
    clear he hdall HE3 HL3 HLZ3 HNZ3
    obtain ⟨n0, rest, hL0, hd0, hw0⟩ := HROOT.out
    obtain ⟨b, o', e0, hbw, hcc⟩ := HLZ4.out.cell (by rw [HNZ4.out.1]; have := HLEN1.out; omega)
    cases e0
    obtain ⟨B1, k1, B2, k2, -, -, a2, a3, -⟩ := HNZ4.out.2 0 n0 (by rw [hL0]; rfl)
    have d2 : w4.cell? ⟨rn, on + 2, none⟩ = some (.int .i64 n0.d) := hcc _ _ a2
    have d3 : w4.cell? ⟨rn, on + 3, none⟩ = some (.slice B1 n0.ws.length k1) := hcc _ _ a3
    rw [hd0] at d2
    rw [hw0, List.length_range] at d3
    have HCC := Lib.hid hcc
    have hq0 : ¬ (LL.length : Int) < 1 := by have := HLEN1.out; omega
    have hq1 : ¬ (dm : Int) < 0 := by omega
    have hq2 : ¬ (dm : Int) > 6 := by omega
    have hq3 : (0 : Int) < (LL.length : Int) := by have := HLEN1.out; omega
    clear hdm hL0 hd0 hw0 a2 a3 hcc
    go_wp2_with fail
    clear d2 d3 hq0 hq1 hq2 hq3
    go_loopw [12, 87] (fun en i wr => ∃ k : Nat, k ≤ LL.length ∧ i = .int .i64 k ∧ en = .int .i64 ((endsP (LL.take k) : Nat) : Int) ∧ Ext w4 wr) (fun _ i _ => LL.length - (intOf i).toNat)
    case atStart => exact ⟨0, Nat.zero_le _, rfl, rfl, Ext.rfl' _⟩
    case round =>
      as_aux_lemma =>
        obtain ⟨k, hk, rfl, rfl, hbel⟩ := hrel
        have HE := Lib.hid hbel
        clear hbel
        have hk9 : k < 9223372036854775807 := by have := HLEN2.out; omega
        by_cases hlt : k < LL.length
        · obtain ⟨nd, hv⟩ : ∃ v, LL[k]? = some v := ⟨LL[k], List.getElem?_eq_getElem hlt⟩
          have HV := Lib.hid hv
          have HAL := Lib.hid (HGOOD.out k nd hv).1
          have HAM := Lib.hid (HGOOD.out k nd hv).2
          obtain ⟨N1, k1, N2, k2, a0, a1, a2, a3, a4, a5, a6, hl1, hl2⟩ := HNZ4.out.2 k nd hv
          have d0 := (HE.out.cell (p := ⟨rn, on + k * 7, none⟩) hbw).trans (HCC.out _ _ a0)
          have d1 := (HE.out.cell (p := ⟨rn, on + k * 7 + 1, none⟩) hbw).trans (HCC.out _ _ a1)
          have d2 := (HE.out.cell (p := ⟨rn, on + k * 7 + 2, none⟩) hbw).trans (HCC.out _ _ a2)
          have d3 := (HE.out.cell (p := ⟨rn, on + k * 7 + 3, none⟩) hbw).trans (HCC.out _ _ a3)
          have d4 := (HE.out.cell (p := ⟨rn, on + k * 7 + 4, none⟩) hbw).trans (HCC.out _ _ a4)
          have d5 := (HE.out.cell (p := ⟨rn, on + k * 7 + 5, none⟩) hbw).trans (HCC.out _ _ a5)
          have d6 := (HE.out.cell (p := ⟨rn, on + k * 7 + 6, none⟩) hbw).trans (HCC.out _ _ a6)
          have HL1 := Lib.hid hl1
          have HL2 := Lib.hid hl2
          clear hv a0 a1 a2 a3 a4 a5 a6 hl1 hl2
          go_wp2_with fail
          have hz1 : (wr.alloc (.cells #[.complex .f32 (F nd.cx) (F nd.cy), .float .f32 (F (hP nd.d (widP ps))), .int .i64 nd.d, .slice N1 nd.ws.length k1, .slice N2 nd.nx.length k2, .float .f32 (F nd.sp), .complex .f32 (F nd.mx) (F nd.my)] 49)).heap.size = wr.heap.size + 1 := by simp
          have HB0 := Lib.hid (Blk.new wr 49 #[.complex .f32 (F nd.cx) (F nd.cy), .float .f32 (F (hP nd.d (widP ps))), .int .i64 nd.d, .slice N1 nd.ws.length k1, .slice N2 nd.nx.length k2, .float .f32 (F nd.sp), .complex .f32 (F nd.mx) (F nd.my)])
          have HE0 := Lib.hid (Ext.trans HE.out (show Ext wr (wr.alloc (.cells #[.complex .f32 (F nd.cx) (F nd.cy), .float .f32 (F (hP nd.d (widP ps))), .int .i64 nd.d, .slice N1 nd.ws.length k1, .slice N2 nd.nx.length k2, .float .f32 (F nd.sp), .complex .f32 (F nd.mx) (F nd.my)] 49)) by (repeat first | with_reducible exact Ext.rfl' _ | with_reducible refine Ext.drewN ?_ _ | with_reducible refine Ext.drew' ?_ | with_reducible refine Ext.alloc' ?_ _ | with_reducible refine Ext.setCell_at ?_ _ _ _ (by first | exact Nat.le_refl _ | omega) | with_reducible assumption | refine Ext.trans ?_ (by with_reducible assumption))))
          have HZ0 := Lib.hid hz1
          have HGZ := Lib.hid (show w4.heap.size ≤ wr.heap.size from HE.out.size)
          clear hz1 d0 d1 d2 d3 d4 d5 d6 HE
          generalize wr.alloc (.cells #[.complex .f32 (F nd.cx) (F nd.cy), .float .f32 (F (hP nd.d (widP ps))), .int .i64 nd.d, .slice N1 nd.ws.length k1, .slice N2 nd.nx.length k2, .float .f32 (F nd.sp), .complex .f32 (F nd.mx) (F nd.my)] 49) = W0 at *
          generalize wr.heap.size = g1 at *
          have hz2 := HZ0.out
          have HO1 := Lib.hid (show (W0.alloc (.cells #[] 51)).ownsRow (g1 + 1) 51 2 (.slice (some ⟨g1 + 1, 0, none⟩) 0 0) 0 [] by
            have := World.ownsRow_made (base := g1 + 1) (e := 51) (size := 2) W0 #[] 0 (by omega) (by decide) rfl
            rw [hz2] at this
            exact this)
          have HE1 := Lib.hid (show Ext W0 (W0.alloc (.cells #[] 51)) by (repeat first | with_reducible exact Ext.rfl' _ | with_reducible refine Ext.drewN ?_ _ | with_reducible refine Ext.drew' ?_ | with_reducible refine Ext.alloc' ?_ _ | with_reducible refine Ext.setCell_at ?_ _ _ _ (by first | exact Nat.le_refl _ | omega) | with_reducible assumption | refine Ext.trans ?_ (by with_reducible assumption)))
          clear hz2
          generalize W0.alloc (.cells #[] 51) = W1 at *
          obtain ⟨b1, o1, e1, hbw1, hcc1⟩ := HL1.out.cell (by rw [intVals_len]; exact List.length_pos_iff.2 HAL.out.some_)
          subst e1
          have HCC1 := Lib.hid hcc1
          have HNL := Lib.hid (show nd.ws.length ≤ 12 from Nat.le_trans HAL.out.len HPS.out.1)
          obtain ⟨b3, o3, e3, hbw3, hcc3⟩ := HL4.out.cell (by rw [whVals_len]; have := HPOS.out; omega)
          cases e3
          have HCC3 := Lib.hid hcc3
          clear hcc1 hcc3
          go_loopw [15, 98] (fun v i wr => ∃ (m gg cq : Nat), m ≤ nd.ws.length ∧ i = .int .i64 m ∧ v = .slice (some ⟨gg, 0, none⟩) m cq ∧ wr.ownsRow (g1 + 1) 51 2 v m (whVals ((nd.ws.take m).map (atW ps))) ∧ Ext W0 wr) (fun _ i _ => nd.ws.length - (intOf i).toNat)
          case atStart => exact ⟨0, g1 + 1, 0, Nat.zero_le _, rfl, rfl, HO1.out, HE1.out⟩
          case round =>
            as_aux_lemma =>
              obtain ⟨m, gg, cq, hm, rfl, rfl, hown, hbel⟩ := hrel
              have HOW := Lib.hid hown
              have HE := Lib.hid hbel
              clear hown hbel HO1 HE1
              have hm9 : m < 9223372036854775807 := by have := HNL.out; omega
              have hbg := HB0.out.ext HE.out
              have n0 : wr.cell? ⟨g1, 0, none⟩ = some (.complex .f32 (F nd.cx) (F nd.cy)) := hbg.cell 0
              have n1 : wr.cell? ⟨g1, 1, none⟩ = some (.float .f32 (F (hP nd.d (widP ps)))) := hbg.cell 1
              have n2 : wr.cell? ⟨g1, 2, none⟩ = some (.int .i64 nd.d) := hbg.cell 2
              have n3 : wr.cell? ⟨g1, 3, none⟩ = some (.slice (some ⟨b1, o1, none⟩) nd.ws.length k1) := hbg.cell 3
              have n4 : wr.cell? ⟨g1, 4, none⟩ = some (.slice N2 nd.nx.length k2) := hbg.cell 4
              have n5 : wr.cell? ⟨g1, 5, none⟩ = some (.float .f32 (F nd.sp)) := hbg.cell 5
              have n6 : wr.cell? ⟨g1, 6, none⟩ = some (.complex .f32 (F nd.mx) (F nd.my)) := hbg.cell 6
              clear hbg
              by_cases hlt2 : m < nd.ws.length
              · as_aux_lemma =>
                  obtain ⟨j, hj⟩ : ∃ j, nd.ws[m]? = some j := ⟨nd.ws[m], List.getElem?_eq_getElem hlt2⟩
                  have hjm : j ∈ nd.ws := List.mem_of_getElem? hj
                  have hjN := HAL.out.below j hjm
                  have hE4 := Ext.trans HE0.out HE.out
                  have e0 := (hE4.cell (p := ⟨b1, o1 + m, none⟩) hbw1).trans (HCC1.out _ _ (intVals_at _ _ _ hj))
                  obtain ⟨v1, v2⟩ := whVals_at ps j _ (HPS.out.at hjN).2
                  have l0 := (hE4.cell (p := ⟨r, o + j * 2, none⟩) hbw3).trans (HCC3.out _ _ v1)
                  have l1 := (hE4.cell (p := ⟨r, o + j * 2 + 1, none⟩) hbw3).trans (HCC3.out _ _ v2)
                  have hq1 : ¬ (j : Int) < 0 := by omega
                  have hq2 : ¬ (j : Int) ≥ (ps.length : Int) := by omega
                  have hjp : (j : Int) < (ps.length : Int) := by omega
                  have HJ := Lib.hid hj
                  have HJM := Lib.hid hjm
                  have HJN := Lib.hid hjN
                  clear hE4 v1 v2 hj hjm hjN
                  by_cases hm0 : (m : Int) > 0
                  focus
                    obtain ⟨jp, hjp1⟩ : ∃ j, nd.ws[m - 1]? = some j := ⟨nd.ws[m - 1], List.getElem?_eq_getElem (by omega)⟩
                    have hE4 := Ext.trans HE0.out HE.out
                    have e2 := (hE4.cell (p := ⟨b1, o1 + (m - 1), none⟩) hbw1).trans (HCC1.out _ _ (intVals_at _ _ _ hjp1))
                    have hw1 : IntKind.i64.wrap ((m : Int) - 1) = ((m - 1 : Nat) : Int) := by rw [IntWalk.i64_in _ (by omega)]; omega
                    have hq3 : ¬ (j : Int) ≤ (jp : Int) := by
                      have hp := List.pairwise_iff_getElem.1 HAL.out.sorted (m - 1) m (by omega) (by omega) (by omega)
                      have e4 := (List.getElem?_eq_some_iff.1 HJ.out).2
                      have e5 := (List.getElem?_eq_some_iff.1 hjp1).2
                      rw [e4, e5] at hp
                      omega
                    clear hE4 hjp1
                    go_wp2_with (first | (at_builtin; refine Stand.of ?_))
                    refine Stand.out ?_
                  rotate_left
                  focus
                    go_wp2_with (first | (at_builtin; refine Stand.of ?_))
                    refine Stand.out ?_
                  all_goals
                    refine wpList_append_lies _ rfl _ _ 38 rfl (g1 + 1) 51 i1 _ 2 12 under_whirls hi1 jz0 jz1 jz2 hzw (by omega) (.slice (some ⟨gg, 0, none⟩) m cq) m _ rfl (HOW.out.alloc _) ⟨wr.heap.size, 0, none⟩ 1 1 (whVal (atW ps j)) rfl rfl (World.news_of_block (cs := (whVal (atW ps j)).toArray) (t := 51) (fr := (0, 0)) (heap_alloc_new wr _)) (by simp [whVal, Value.oneCell']) (by omega) (by have := HNL.out; unfold maxLen; omega) (by have := HNL.out; omega) (by have := HE.out.size; have := HZ0.out; simp; omega) _ rfl ?_
                    intro g2 c2 w6 hown6 hgrow hat6 hlt6
                    have hgl := HOW.out.lt
                    have HE6 := Lib.hid (Ext.grown (Ext.trans HE.out (Ext.alloc' (Ext.rfl' wr) _)) hgrow (fun k hk => by have := (hgl k hk).1; have := HZ0.out; omega))
                    have HO6 := Lib.hid hown6
                    clear hown6 hgrow hat6 hlt6 hgl n0 n1 n2 n3 n4 n5 n6 l0 l1 e0
                    have hbg := HB0.out.ext HE6.out
                    have n0 : w6.cell? ⟨g1, 0, none⟩ = some (.complex .f32 (F nd.cx) (F nd.cy)) := hbg.cell 0
                    have hE4 := Ext.trans HE0.out HE6.out
                    obtain ⟨v1, v2⟩ := whVals_at ps j _ (HPS.out.at HJN.out).2
                    have l0 := (hE4.cell (p := ⟨r, o + j * 2, none⟩) hbw3).trans (HCC3.out _ _ v1)
                    obtain ⟨hsub, hx, hy, hgx, hgy, hadd⟩ := HAL.out.gap HPS.out HWID.out HJM.out
                    have HX := Lib.hid hx
                    have HY := Lib.hid hy
                    have HGX := Lib.hid hgx
                    have HGY := Lib.hid hgy
                    have HADD := Lib.hid hadd
                    clear hbg hE4 v1 v2 hx hy hgx hgy hadd
                    go_wp2_with fail
                    go_quiet (fail)
                    have HE7 := Lib.hid (HE6.out.drewN nq)
                    have HO7 := Lib.hid (show (w6.drewN nq).ownsRow (g1 + 1) 51 2 (.slice (some ⟨g2, 0, none⟩) (m + 1) c2) (m + 1) _ from HO6.out)
                    clear n0 l0 hsub HE6 HO6
                    generalize w6.drewN nq = w7 at *
                    have n1 : w7.cell? ⟨g1, 1, none⟩ = some (.float .f32 (F (hP nd.d (widP ps)))) := (HB0.out.ext HE7.out).cell 1
                    have hcx := run_wideF ((atW ps j).1 - nd.cx) HX.out
                    have hcy := run_wideF ((atW ps j).2.1 - nd.cy) HY.out
                    have hch := run_wideF (hP nd.d (widP ps)) (by have := HAL.out.bx; omega)
                    have hadd := run_add_raw .add (.inl rfl) 52 .f64 _ _ _ HADD.out
                    have hgx := gtr_raw HGX.out
                    have hgy := gtr_raw HGY.out
                    unfold c001 at hadd
                    generalize slackP nd.d (widP ps) = sl at *
                    go_wp2_with fail
                    go_quiet ((go_at_call 21; exact Calls.quiet_of_same ((gap_F _ (by first | exact HX.out | exact HY.out) _).mono fun e w' h => ⟨h.2, h.1⟩)))
                    have HE8 := Lib.hid (HE7.out.drewN nq)
                    have HO8 := Lib.hid (show (w7.drewN nq).ownsRow (g1 + 1) 51 2 (.slice (some ⟨g2, 0, none⟩) (m + 1) c2) (m + 1) _ from HO7.out)
                    clear n1 hcx hcy hch hadd hgx hgy HE7 HO7
                    generalize w7.drewN nq = w8 at *
                    go_wp2_with fail
                    refine ⟨⟨m + 1, g2, c2, by omega, by go_num, rfl, ?_, HE8.out⟩, by simp [intOf]; omega⟩
                    have e7 := (List.getElem?_eq_some_iff.1 HJ.out)
                    obtain ⟨e8, e9⟩ := e7
                    rw [List.take_succ_eq_append_getElem e8, e9, List.map_append, whVals_append]
                    exact HO8.out
              · as_aux_lemma =>
                  have hmn : m = nd.ws.length := by omega
                  subst hmn
                  rw [List.take_length] at HOW
                  go_wp2_with fail
                  have hbx := HAL.out.bx
                  have hby := HAL.out.by_
                  refine (MomentsOf_any _ cq nd.ws.length (nd.ws.map (atW ps)) nd.cx nd.cy (by simp) wr (lies_of_owns HOW.out).1 HNL.out (HPS.out.map HAL.out.below) (by omega) (by omega) HAL.out.ex HAL.out.ey).mono ?_
                  clear hbx hby
                  rintro e w5 ⟨he, rfl⟩
                  have HE5 := Lib.hid (Ext.trans HE.out he)
                  clear he HE HOW n0 n1 n2 n3 n4 n5 n6
                  rw [← spinP_L, ← momX_L, ← momY_L, ← HAL.out.sp_, ← HAL.out.mx_, ← HAL.out.my_]
                  have hbg := HB0.out.ext HE5.out
                  have n1 : w5.cell? ⟨g1, 1, none⟩ = some (.float .f32 (F (hP nd.d (widP ps)))) := hbg.cell 1
                  have n2 : w5.cell? ⟨g1, 2, none⟩ = some (.int .i64 nd.d) := hbg.cell 2
                  have n3 : w5.cell? ⟨g1, 3, none⟩ = some (.slice (some ⟨b1, o1, none⟩) nd.ws.length k1) := hbg.cell 3
                  have n4 : w5.cell? ⟨g1, 4, none⟩ = some (.slice N2 nd.nx.length k2) := hbg.cell 4
                  have n5 : w5.cell? ⟨g1, 5, none⟩ = some (.float .f32 (F nd.sp)) := hbg.cell 5
                  have n6 : w5.cell? ⟨g1, 6, none⟩ = some (.complex .f32 (F nd.mx) (F nd.my)) := hbg.cell 6
                  clear hbg
                  obtain ⟨-, -, -, hsp, hmx, hmy⟩ := HAL.out.ok HPS.out
                  have HSP := Lib.hid hsp
                  have HMX := Lib.hid hmx
                  have HMY := Lib.hid hmy
                  have hdm0 : ¬ dm < nd.d := by have := HDALL.out nd (List.mem_of_getElem? HV.out); omega
                  have hdm : decide (dm < nd.d) = false := decide_eq_false hdm0
                  have HND := Lib.hid HAL.out.deep
                  clear hsp hmx hmy
                  go_wp2_with fail
                  refine (SameNumber_F nd.sp HSP.out _).mono ?_
                  rintro e wq ⟨rfl, rfl⟩
                  go_wp2_with fail
                  refine (SameComplex_F nd.mx nd.my HMX.out HMY.out _).mono ?_
                  rintro e wq ⟨rfl, rfl⟩
                  have HTK := Lib.hid (endsP_take LL k nd HV.out)
                  have HLE := Lib.hid (endsP_le LL k)
                  by_cases hx : nd.nx.length = 0
                  · have hx' : ((nd.nx.length : Nat) : Int) = 0 := by omega
                    have HX := Lib.hid hx
                    as_aux_lemma =>
                      have hleaf := HAL.out.leaf (List.length_eq_zero_iff.1 hx)
                      have hwe : IntKind.i64.wrap (((endsP (LL.take k) : Nat) : Int) + 1) = ((endsP (LL.take (k + 1)) : Nat) : Int) := by
                        rw [HTK.out, if_pos HX.out, IntWalk.i64_in _ (by have := HLE.out; omega)]
                        rfl
                      clear hx
                      by_cases hl3 : (nd.ws.length : Int) > 3
                      · by_cases hd6 : (nd.d : Int) < 6
                        · have hw0 : widP ps = 0 := by omega
                          have hgt : fcmp .gtr .f32 (F (hP nd.d (widP ps))) 0 = false := by
                            rw [hw0]
                            have hz : hP nd.d 0 = 0 := by unfold hP; simp
                            rw [hz]
                            show fcmp .gtr .f32 (Fk .f32 0) 0 = false
                            rw [F_zero]
                            decide
                          have hgt := gtr_raw hgt
                          clear hleaf hw0
                          go_wp2_with fail
                          refine ⟨⟨k + 1, by omega, by go_num, rfl, Ext.trans HE0.out HE5.out⟩, by simp [intOf]; omega⟩
                        · clear hleaf
                          go_wp2_with fail
                          refine ⟨⟨k + 1, by omega, by go_num, rfl, Ext.trans HE0.out HE5.out⟩, by simp [intOf]; omega⟩
                      · clear hleaf
                        go_wp2_with fail
                        refine ⟨⟨k + 1, by omega, by go_num, rfl, Ext.trans HE0.out HE5.out⟩, by simp [intOf]; omega⟩
                  · have hx4 : (((nd.nx.length : Nat) : Int) == 0) = false := by
                      have hx' : ¬ ((nd.nx.length : Nat) : Int) = 0 := by omega
                      exact beq_eq_false_iff_ne.2 hx'
                    have HX := Lib.hid hx
                    clear hx
                    go_wp2_with fail
                    have hnx0 : 0 < nd.nx.length := Nat.pos_of_ne_zero HX.out
                    obtain ⟨b2, o2, e2, hbw2, hcc2⟩ := HL2.out.cell (by rw [intVals_len]; exact hnx0)
                    subst e2
                    have HCC2 := Lib.hid hcc2
                    have HNE := Lib.hid (show nd.nx ≠ [] from fun e => by rw [e] at hnx0; exact absurd hnx0 (Nat.lt_irrefl 0))
                    have HNX := Lib.hid hnx0
                    have HNXL := Lib.hid (show nd.nx.length ≤ 12 from Nat.le_trans (HAM.out.few HGOOD.out) HNL.out)
                    clear hcc2 hnx0 n1 n2 n3 n4 n5 n6 hdm hdm0 hx4
                    go_loopw [22, 217] (fun s i wr => ∃ m : Nat, m ≤ nd.nx.length ∧ i = .int .i64 m ∧ s = .int .i64 ((seenP LL nd m : Nat) : Int) ∧ Ext wq wr) (fun _ i _ => nd.nx.length - (intOf i).toNat)
                    case atStart => exact ⟨0, Nat.zero_le _, rfl, rfl, Ext.rfl' _⟩
                    case round =>
                      as_aux_lemma =>
                        obtain ⟨m, hm, rfl, rfl, hbel⟩ := hrel
                        have HE := Lib.hid (Ext.trans HE5.out hbel)
                        have HEE := Lib.hid hbel
                        clear hbel
                        have hm9 : m < 9223372036854775807 := by have := HNXL.out; omega
                        have hbg := HB0.out.ext HE.out
                        have n1 : wr.cell? ⟨g1, 1, none⟩ = some (.float .f32 (F (hP nd.d (widP ps)))) := hbg.cell 1
                        have n2 : wr.cell? ⟨g1, 2, none⟩ = some (.int .i64 nd.d) := hbg.cell 2
                        have n3 : wr.cell? ⟨g1, 3, none⟩ = some (.slice (some ⟨b1, o1, none⟩) nd.ws.length k1) := hbg.cell 3
                        have n4 : wr.cell? ⟨g1, 4, none⟩ = some (.slice (some ⟨b2, o2, none⟩) nd.nx.length k2) := hbg.cell 4
                        have hE4 := Ext.trans HE0.out HE.out
                        clear hbg
                        by_cases hlt3 : m < nd.nx.length
                        · obtain ⟨j, hj⟩ : ∃ j, nd.nx[m]? = some j := ⟨nd.nx[m], List.getElem?_eq_getElem hlt3⟩
                          obtain ⟨hj1, hj2, mm, hmm, hmd, hlen⟩ := HAM.out.kid hj
                          have e0 := (hE4.cell (p := ⟨b2, o2 + m, none⟩) hbw2).trans (HCC2.out _ _ (intVals_at _ _ _ hj))
                          obtain ⟨M1, q1, M2, q2, a0, a1, a2, a3, a4, a5, a6, hl1, hl2⟩ := HNZ4.out.2 j mm hmm
                          have c1 := (hE4.cell (p := ⟨rn, on + j * 7 + 1, none⟩) hbw).trans (HCC.out _ _ a1)
                          have c2 := (hE4.cell (p := ⟨rn, on + j * 7 + 2, none⟩) hbw).trans (HCC.out _ _ a2)
                          have c3 := (hE4.cell (p := ⟨rn, on + j * 7 + 3, none⟩) hbw).trans (HCC.out _ _ a3)
                          rw [hmd] at c1 c2
                          have hcast : ((nd.d + 1 : Nat) : Int) = (nd.d : Int) + 1 := by omega
                          rw [hcast] at c2
                          have hmal := (HGOOD.out j mm hmm).1
                          have hdeep := hmal.deep
                          have hquo := run_add_raw .quo (by simp) 34 .f32 _ _ _ (F_half (d := nd.d) (by omega) HWID.out)
                          have hneq : (FloatKind.f32.format.order (F (hP (nd.d + 1) (widP ps))) (F (hP (nd.d + 1) (widP ps))) != some .eq) = false := by
                            have hb := hmal.bx
                            rw [hmd] at hb
                            refine neq_raw ((F_cmp .f32 .neq _ _ (by omega) (by omega)).trans ?_)
                            simp
                          have hml : ¬ mm.ws.length = 0 := by have := List.length_pos_iff.2 hmal.some_; omega
                          have hml1 : ¬ ((mm.ws.length : Nat) : Int) = 0 := by omega
                          have hml2 : decide (((mm.ws.length : Nat) : Int) = 0) = false := decide_eq_false hml1
                          have hml3 : decide (mm.ws.length = 0) = false := decide_eq_false hml
                          have hml4 : (((mm.ws.length : Nat) : Int) == 0) = false := by simpa using hml
                          have hd1 : decide ((j : Int) ≤ (k : Int)) = false := decide_eq_false (by omega)
                          have hd2 : decide ((LL.length : Int) ≤ (j : Int)) = false := decide_eq_false (by omega)
                          have hd1n : decide (j ≤ k) = false := decide_eq_false (by omega)
                          have hd2n : decide (LL.length ≤ j) = false := decide_eq_false (by omega)
                          have hd4 : (j : Int) < (LL.length : Int) := by omega
                          have hwd : IntKind.i64.wrap ((nd.d : Int) + 1) = (nd.d : Int) + 1 := IntWalk.i64_in _ (by omega)
                          have hws : IntKind.i64.wrap (((seenP LL nd m : Nat) : Int) + ((mm.ws.length : Nat) : Int)) = ((seenP LL nd (m + 1) : Nat) : Int) := by
                            have h1 := seenP_succ (L := LL) hj
                            have h2 := seenP_le HAM.out HNE.out (m + 1)
                            have h3 := HNL.out
                            rw [hlen] at h1
                            rw [IntWalk.i64_in _ (by omega), h1]
                            omega
                          have hj2' := hj2
                          clear hj hj1 hj2 hmm hmd hlen a0 a1 a2 a3 a4 a5 a6 hl1 hl2 hcast hmal hdeep hE4
                          generalize mm.ws.length = ml at *
                          go_wp2_with fail
                          go_quiet (fail)
                          go_wp2_with fail
                          refine ⟨⟨m + 1, by omega, by go_num, rfl, HEE.out.drewN nq⟩, by simp [intOf]; omega⟩
                        · have hmn : m = nd.nx.length := by omega
                          subst hmn
                          rw [seenP_all HAM.out HNE.out]
                          have hfst : nd.nx[0]? = some (k + 1) := by
                            have := HAM.out.first HNE.out
                            rw [List.head?_eq_getElem?] at this
                            rw [this]
                            congr 1
                            omega
                          have e0 := (hE4.cell (p := ⟨b2, o2, none⟩) hbw2).trans (HCC2.out 0 _ (intVals_at _ _ _ hfst))
                          have hcast : ((k + 1 : Nat) : Int) = (k : Int) + 1 := by omega
                          rw [hcast] at e0
                          have hwk : IntKind.i64.wrap ((k : Int) + 1) = (k : Int) + 1 := IntWalk.i64_in _ (by omega)
                          have hq0 : (0 : Int) < ((nd.nx.length : Nat) : Int) := by have := HNX.out; omega
                          clear hfst hcast hE4
                          go_wp2_with fail
                          refine ⟨⟨k + 1, by omega, by go_num, ?_, Ext.trans HE0.out HE.out⟩, by simp [intOf]; omega⟩
                          rw [HTK.out, if_neg HX.out]
                          rfl
        · have hkn : k = LL.length := by omega
          subst hkn
          rw [List.take_length]
          go_wp2_with fail
          go_ret
          exact ⟨Ext.trans HE4.out HE.out, rfl⟩
end Go.Proofs.Ytfehhbmmdbpdpaa
