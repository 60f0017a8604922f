/- Walks: a node that is parted in quarters. -/
import Derived.Test.YtfehhbmmdbpdpaaDA
namespace Go.Proofs.Ytfehhbmmdbpdpaa
open Go Go.RowKit
set_option linter.unusedVariables false
set_option linter.unusedSimpArgs false
attribute [local go_sem] run_store_float run_store_complex

set_option maxRecDepth 100000 in
set_option maxHeartbeats 1600000 in
theorem growBranch_any (f : Nat) (ps : List Wh) (wd B g r cp n d : Nat) (cx cy : Int) (ws : List Nat) (ys : List Value) (lb lo lcap : Nat) (A1 : Option Addr) (c1 : Nat) (w : World) (hps : OkPs ps) (hpre : Pre ps wd ps.length d cx cy ws)
    (hT : Tr w B g (.slice (some ⟨r, 0, none⟩) n cp) n ys) (hL : Lies w 51 (some ⟨lb, lo, none⟩) (whVals ps)) (hW : Lies w 2 A1 (intVals ws)) (hn : n + (f + 2) * ws.length ≤ 1000) (hws : ws.length ≤ 12)
    (hrec : Grows f ps wd B g lb lo lcap (d + 1)) (hleaf : ¬ (ws.length ≤ 3 ∨ wd = 0)) (hwd : wd ≤ 32) (hd : d < 6) (hfd : f + (d + 1) = 6) :
    Calls Try.prog 86 #[.pointer (some ⟨g, 0, none⟩), .slice (some ⟨lb, lo, none⟩) ps.length lcap, .agg (handed wd d cx cy ws.length A1 c1 0 0 0)] w (GrowPost wd B g r cp n A1 w ys (growP ps wd (f + 1) n d cx cy ws)) := by
  have HPS := Lib.hid hps
  have HPRE := Lib.hid hpre
  have HT := Lib.hid hT
  have HL := Lib.hid hL
  have HW := Lib.hid hW
  have HN := Lib.hid hn
  have HWS := Lib.hid hws
  have HREC := Lib.hid hrec
  have HLEAF := Lib.hid (show ¬ ws.length ≤ 3 ∧ wd ≠ 0 by omega)
  have HFD := Lib.hid hfd
  have HWD := Lib.hid hwd
  have HD := Lib.hid hd
  obtain ⟨i1, hi1, jz0, jz1, jz2⟩ := parts_of infoW
  have hz1 : (Value.agg #[.complex .f32 0 0, .float .f32 0]).cells.size = 2 := by decide
  have hg0 : w.cell? ⟨g, 0, none⟩ = some (.slice (some ⟨r, 0, none⟩) n cp) := hT.var.cell 0
  have HBX := Lib.hid (Blk.new w 49 (handed wd d cx cy ws.length A1 c1 0 0 0))
  have HE0 := Lib.hid (show Ext w (w.alloc (.cells (handed wd d cx cy ws.length A1 c1 0 0 0) 49)) by (repeat first | with_reducible exact Ext.rfl' _ | with_reducible refine Ext.drewN ?_ _ | with_reducible refine Ext.drew' ?_ | with_reducible refine Ext.alloc' ?_ _ | with_reducible refine Ext.setCell_at ?_ _ _ _ (by first | exact Nat.le_refl _ | omega) | with_reducible assumption | refine Ext.trans ?_ (by with_reducible assumption)))
  clear hps hpre hT hL hW hn hws hleaf hwd hd hrec hfd
  unfold handed at *
  go_enter Try.func86, Try.ntmps86
  go_wp2_with fail
  have hown : ((w.alloc (.cells #[.complex .f32 (F cx) (F cy), .float .f32 (F (hP d wd)), .int .i64 d, .slice A1 ws.length c1, .slice none 0 0, .float .f32 0, .complex .f32 0 0] 49)).alloc (.cells #[] 51)).ownsRow (w.heap.size + 1) 51 2 (.slice (some ⟨w.heap.size + 1, 0, none⟩) 0 0) 0 [] := by
    have := World.ownsRow_made (base := w.heap.size + 1) (e := 51) (size := 2) (w.alloc (.cells #[.complex .f32 (F cx) (F cy), .float .f32 (F (hP d wd)), .int .i64 d, .slice A1 ws.length c1, .slice none 0 0, .float .f32 0, .complex .f32 0 0] 49)) #[] 0 (by simp) (by decide) rfl
    simpa using this
  have HOWN := Lib.hid hown
  have HE1 := Lib.hid (show Ext (w.alloc (.cells #[.complex .f32 (F cx) (F cy), .float .f32 (F (hP d wd)), .int .i64 d, .slice A1 ws.length c1, .slice none 0 0, .float .f32 0, .complex .f32 0 0] 49)) ((w.alloc (.cells #[.complex .f32 (F cx) (F cy), .float .f32 (F (hP d wd)), .int .i64 d, .slice A1 ws.length c1, .slice none 0 0, .float .f32 0, .complex .f32 0 0] 49)).alloc (.cells #[] 51)) by (repeat first | with_reducible exact Ext.rfl' _ | with_reducible refine Ext.drewN ?_ _ | with_reducible refine Ext.drew' ?_ | with_reducible refine Ext.alloc' ?_ _ | with_reducible refine Ext.setCell_at ?_ _ _ _ (by first | exact Nat.le_refl _ | omega) | with_reducible assumption | refine Ext.trans ?_ (by with_reducible assumption)))
  clear hown hg0
  generalize hw0 : w.alloc (.cells #[.complex .f32 (F cx) (F cy), .float .f32 (F (hP d wd)), .int .i64 d, .slice A1 ws.length c1, .slice none 0 0, .float .f32 0, .complex .f32 0 0] 49) = W0 at *
  have hs0 : W0.heap.size = w.heap.size + 1 := by rw [← hw0]; simp
  have HS0 := Lib.hid hs0
  clear hw0 hs0
  generalize W0.alloc (.cells #[] 51) = W1 at *
  go_loopw [7, 25] (fun v i wr => ∃ (k gg cq : Nat), k ≤ ws.length ∧ i = .int .i64 k ∧ v = .slice (some ⟨gg, 0, none⟩) k cq ∧ wr.ownsRow (w.heap.size + 1) 51 2 v k (whVals ((ws.take k).map (atW ps))) ∧ Ext W0 wr) (fun _ i _ => ws.length - (intOf i).toNat)
  case atStart => exact ⟨0, w.heap.size + 1, 0, Nat.zero_le _, rfl, rfl, HOWN.out, HE1.out⟩
  case round =>
    obtain ⟨k, gg, cq, hk, rfl, rfl, hown, hbel⟩ := hrel
    have HOW := Lib.hid hown
    have HE := Lib.hid hbel
    clear hown hbel HOWN HE1
    have hk9 : k < 9223372036854775807 := by have := HWS.out; omega
    by_cases hlt : k < ws.length
    · obtain ⟨j, hj⟩ : ∃ j, ws[k]? = some j := ⟨ws[k], List.getElem?_eq_getElem hlt⟩
      have hjN : j < ps.length := HPRE.out.below j (List.mem_of_getElem? hj)
      have hjI : (j : Int) < (ps.length : Int) := by omega
      obtain ⟨b1, o1, rfl, hb1, hc1⟩ := HW.out.cell (by rw [intVals_len]; omega)
      obtain ⟨b2, o2, hA2, hb2, hc2⟩ := HL.out.cell (by rw [whVals_len]; omega)
      simp only [Option.some.injEq, Addr.mk.injEq, and_true] at hA2
      obtain ⟨rfl, rfl⟩ := hA2
      have hEw : Ext w wr := Ext.trans HE0.out HE.out
      have d0 := (hEw.cell (p := ⟨b1, o1 + k, none⟩) hb1).trans (hc1 _ _ (intVals_at ws k j hj))
      obtain ⟨v1, v2⟩ := whVals_at ps j _ (HPS.out.at hjN).2
      have d1 := (hEw.cell (p := ⟨lb, lo + j * 2, none⟩) hb2).trans (hc2 _ _ v1)
      have d2 := (hEw.cell (p := ⟨lb, lo + j * 2 + 1, none⟩) hb2).trans (hc2 _ _ v2)
      have HEW := Lib.hid hEw
      have HJ := Lib.hid hj
      clear hc1 hc2 v1 v2 hEw hj
      go_wp2_with (first | (at_builtin; refine Stand.of ?_))
      refine Stand.out ?_
      refine wpList_append_lies _ rfl _ _ 38 rfl (w.heap.size + 1) 51 i1 _ 2 12 under_whirls hi1 jz0 jz1 jz2 hz1 (by omega) (.slice (some ⟨gg, 0, none⟩) k cq) k _ rfl (HOW.out.alloc _) ⟨wr.heap.size, 0, none⟩ 1 1 [.complex .f32 (F (atW ps j).1) (F (atW ps j).2.1), .float .f32 (F (atW ps j).2.2)] rfl rfl (World.news_of_block (cs := #[.complex .f32 (F (atW ps j).1) (F (atW ps j).2.1), .float .f32 (F (atW ps j).2.2)]) (t := 51) (fr := (0, 0)) (heap_alloc_new wr _)) (by simp [Value.oneCell']) (by omega) (by have := HWS.out; unfold maxLen; omega) (by have := HWS.out; omega) (by have := HE.out.size; have := HS0.out; simp; omega) _ rfl ?_
      intro g2 c2 w6 hown6 hgrow hat hlt6
      have hgl := HOW.out.lt
      have e6 : Ext W0 w6 := Ext.grown (Ext.trans HE.out (Ext.alloc' (Ext.rfl' wr) _)) hgrow (fun k hk => by have := (hgl k hk).1; have := HS0.out; omega)
      have HE6 := Lib.hid e6
      have HO6 := Lib.hid hown6
      clear hown6 hgrow hat hlt6 hgl e6 d0 d1 d2
      go_wp2_with fail
      refine ⟨⟨k + 1, g2, c2, by omega, by go_num, rfl, ?_, HE6.out⟩, by simp [intOf]; omega⟩
      obtain ⟨hk', hjj⟩ := List.getElem?_eq_some_iff.1 HJ.out
      rw [List.take_succ_eq_append_getElem hk', List.map_append, whVals_append, hjj]
      exact HO6.out
    · have hkl : k = ws.length := by omega
      subst hkl
      rw [List.take_length] at HOW
      have HL3 := Lib.hid (lies_of_owns HOW.out).1
      have HEW := Lib.hid (Ext.trans HE0.out HE.out)
      have HB2 := Lib.hid (HBX.out.ext HE.out)
      have b0 : wr.cell? ⟨w.heap.size, 0, none⟩ = some (.complex .f32 (F cx) (F cy)) := HB2.out.cell 0
      go_wp2_with fail
      refine (moments_n (some ⟨gg, 0, none⟩) cq ws.length (ws.map (atW ps)) cx cy (by simp) _ HL3.out HWS.out (HPS.out.map HPRE.out.below) (by have := HPRE.out.bx; omega) (by have := HPRE.out.by_; omega) HPRE.out.ex HPRE.out.ey).mono ?_
      rintro e w2 ⟨he2, rfl⟩
      rw [← spinP_L, ← momX_L, ← momY_L]
      have HE2 := Lib.hid (Ext.trans HEW.out he2)
      have HB3 := Lib.hid (HB2.out.ext he2)
      have HT2 := Lib.hid (HT.out.ext HE2.out)
      have b5 : w2.cell? ⟨w.heap.size, 5, none⟩ = some (.float .f32 0) := HB3.out.cell 5
      have b6 : w2.cell? ⟨w.heap.size, 6, none⟩ = some (.complex .f32 0 0) := HB3.out.cell 6
      have f5 := HB3.out.frozen 5
      have f6 := HB3.out.frozen 6
      have g0 : w2.cell? ⟨g, 0, none⟩ = some (.slice (some ⟨r, 0, none⟩) n cp) := HT2.out.var.cell 0
      have hgl : g < w.heap.size := HT.out.var.lt
      have hgn : ¬ g = w.heap.size := by omega
      have hgn' : ¬ w.heap.size = g := by omega
      clear he2 b0 HL3 HOW HE HB2
      go_upto_region 9 with fail
      have HB4 := Lib.hid (show Blk ((w2.setCell ⟨w.heap.size, 5, none⟩ (.float .f32 (F (spinP ps ws)))).setCell ⟨w.heap.size, 6, none⟩ (.complex .f32 (F (momX ps cx ws)) (F (momY ps cy ws)))) w.heap.size 49 (handed wd d cx cy ws.length A1 c1 (F (spinP ps ws)) (F (momX ps cx ws)) (F (momY ps cy ws))) from by
        have := (HB3.out.set_ 5 (.float .f32 (F (spinP ps ws)))).set_ 6 (.complex .f32 (F (momX ps cx ws)) (F (momY ps cy ws)))
        exact this)
      have HE4 := Lib.hid (show Ext w ((w2.setCell ⟨w.heap.size, 5, none⟩ (.float .f32 (F (spinP ps ws)))).setCell ⟨w.heap.size, 6, none⟩ (.complex .f32 (F (momX ps cx ws)) (F (momY ps cy ws)))) from Ext.setCell_at (Ext.setCell_at HE2.out _ _ _ (Nat.le_refl _)) _ _ _ (Nat.le_refl _))
      clear b5 b6 f5 f6 g0 HB3 HE2 HT2
      generalize (w2.setCell ⟨w.heap.size, 5, none⟩ (.float .f32 (F (spinP ps ws)))).setCell ⟨w.heap.size, 6, none⟩ (.complex .f32 (F (momX ps cx ws)) (F (momY ps cy ws))) = W4 at *
      have HT4 := Lib.hid (HT.out.ext HE4.out)
      have g0 : W4.cell? ⟨g, 0, none⟩ = some (.slice (some ⟨r, 0, none⟩) n cp) := HT4.out.var.cell 0
      have gf := HT4.out.var.frozen 0
      have k0 : W4.cell? ⟨w.heap.size, 0, none⟩ = some (.complex .f32 (F cx) (F cy)) := HB4.out.cell 0
      have k1 : W4.cell? ⟨w.heap.size, 1, none⟩ = some (.float .f32 (F (hP d wd))) := HB4.out.cell 1
      have k2 : W4.cell? ⟨w.heap.size, 2, none⟩ = some (.int .i64 d) := HB4.out.cell 2
      have k3 : W4.cell? ⟨w.heap.size, 3, none⟩ = some (.slice A1 ws.length c1) := HB4.out.cell 3
      have k4 : W4.cell? ⟨w.heap.size, 4, none⟩ = some (.slice none 0 0) := HB4.out.cell 4
      have k5 : W4.cell? ⟨w.heap.size, 5, none⟩ = some (.float .f32 (F (spinP ps ws))) := HB4.out.cell 5
      have k6 : W4.cell? ⟨w.heap.size, 6, none⟩ = some (.complex .f32 (F (momX ps cx ws)) (F (momY ps cy ws))) := HB4.out.cell 6
      have z1 : w.heap.size < W4.heap.size := HB4.out.lt
      have z2 : g < W4.heap.size := HT4.out.var.lt
      obtain ⟨i2, hi2, nz0, nz1, nz2⟩ := parts_of infoN
      have hz2 : (Value.agg #[.complex .f32 0 0, .float .f32 0, .int .i64 0, .slice none 0 0, .slice none 0 0, .float .f32 0, .complex .f32 0 0]).cells.size = 7 := by decide
      have hrl : r < w.heap.size := (HT.out.row.lt r rfl).2
      go_cut [] (fun wx => ∃ g2 cp2, Tr wx B g (.slice (some ⟨g2, 0, none⟩) (n + 1) cp2) (n + 1) (ys ++ [.complex .f32 (F cx) (F cy), .float .f32 (F (hP d wd)), .int .i64 d, .slice A1 ws.length c1, .slice none 0 0, .float .f32 (F (spinP ps ws)), .complex .f32 (F (momX ps cx ws)) (F (momY ps cy ws))]) ∧ Fr W4 wx g (.slice (some ⟨r, 0, none⟩) n cp) (.slice (some ⟨g2, 0, none⟩) (n + 1) cp2) ∧ (g2 = r ∨ W4.heap.size ≤ g2))
      case first =>
        go_region_law (first
          | (refine step_append_lies _ (by rfl) _ _ _ (by rfl) B 49 i2 _ 7 88 under_nodes hi2 nz0 nz1 nz2 hz2 (by omega) (.slice (some ⟨r, 0, none⟩) n cp) n ys (by rfl) ((show W4.drew.ownsRow _ _ _ _ _ _ from HT4.out.row).alloc _) ⟨W4.heap.size, 0, none⟩ 1 1 [.complex .f32 (F cx) (F cy), .float .f32 (F (hP d wd)), .int .i64 d, .slice A1 ws.length c1, .slice none 0 0, .float .f32 (F (spinP ps ws)), .complex .f32 (F (momX ps cx ws)) (F (momY ps cy ws))] (by rfl) rfl (World.news_of_block (cs := #[.complex .f32 (F cx) (F cy), .float .f32 (F (hP d wd)), .int .i64 d, .slice A1 ws.length c1, .slice none 0 0, .float .f32 (F (spinP ps ws)), .complex .f32 (F (momX ps cx ws)) (F (momY ps cy ws))]) (t := 49) (fr := (0, 0)) (heap_alloc_new W4.drew _)) (by simp [Value.oneCell']) (by omega) (by have := HN.out; unfold maxLen; omega) (by have := HN.out; omega) (by have := HT4.out.base; (try simp only [World.size_alloc, World.size_drew]); omega) _ rfl ?_; intro g2 cp2 w6 hown6 hgrow hat hlt6; have HGR := Lib.hid hgrow; have HAT := Lib.hid hat; have HO6 := Lib.hid hown6; (have gv6 : Blk w6 g 40 #[.slice (some ⟨r, 0, none⟩) n cp] := (hgrow.block g (by simp; omega) (fun e => (HT4.out.apart_own e).elim)).trans (show Blk _ _ _ _ from (show Blk W4.drew _ _ _ from HT4.out.var).alloc _)); have HGV := Lib.hid gv6; (have c6 : w6.cell? ⟨g, 0, none⟩ = some (.slice (some ⟨r, 0, none⟩) n cp) := gv6.cell 0); (have cf6 := gv6.frozen 0); clear hown6 hgrow hat hlt6 gv6 g0 gf))
        all_goals
          go_wp2_with fail
          go_meet
          case rel =>
            obtain ⟨p1, p2⟩ := HT4.out.pushed (W' := W4.drew.alloc (.cells #[.complex .f32 (F cx) (F cy), .float .f32 (F (hP d wd)), .int .i64 d, .slice A1 ws.length c1, .slice none 0 0, .float .f32 (F (spinP ps ws)), .complex .f32 (F (momX ps cx ws)) (F (momY ps cy ws))] 49)) (by (repeat first | with_reducible exact Ext.rfl' _ | with_reducible refine Ext.drewN ?_ _ | with_reducible refine Ext.drew' ?_ | with_reducible refine Ext.alloc' ?_ _ | with_reducible refine Ext.setCell_at ?_ _ _ _ (by first | exact Nat.le_refl _ | omega) | with_reducible assumption | refine Ext.trans ?_ (by with_reducible assumption))) HGR.out HO6.out HAT.out
            refine ⟨g2, cp2, p1, p2, ?_⟩
            rcases HAT.out with e | e
            · simp only [Value.ownBlock, Option.some.injEq] at e; exact .inl e.symm
            · exact .inr (by rw [e]; simp)
      case rest =>
        obtain ⟨g2, cp2, hT5, hF5, hg2⟩ := hcut
        rename World => w5
        have HT5 := Lib.hid hT5
        have HF5 := Lib.hid (Fr.trans (Fr.of_ext g (.slice (some ⟨r, 0, none⟩) n cp) HE4.out) hF5)
        have HB5 := Lib.hid (HB4.out.fr hF5 hgn' (by simp [Value.ownBlock]; omega))
        have HG2 := Lib.hid (show g2 ≠ w.heap.size by omega)
        have HW5 := Lib.hid (HW.out.fr HT.out HF5.out (by decide) (by decide))
        have HL5 := Lib.hid (HL.out.fr HT.out HF5.out (by decide) (by decide))
        have e1 : w5.cell? ⟨w.heap.size, 1, none⟩ = some (.float .f32 (F (hP d wd))) := HB5.out.cell 1
        have e2 : w5.cell? ⟨w.heap.size, 2, none⟩ = some (.int .i64 d) := HB5.out.cell 2
        have e3 : w5.cell? ⟨w.heap.size, 3, none⟩ = some (.slice A1 ws.length c1) := HB5.out.cell 3
        have hgt : fcmp .gtr .f32 (F (hP d wd)) 0 = decide (0 < hP d wd) := by
          rw [← F_zero .f32]
          exact F_cmp .f32 .gtr _ 0 (by have := HPRE.out.bx; omega) (by decide)
        clear hT5 hF5 hg2 HE4 HB4 k0 k1 k2 k3 k4 k5 k6 z1 z2 g0 gf HT4
        have hz5 : w.heap.size < w5.heap.size := HB5.out.lt
        have q1 : ¬ (ws.length : Int) ≤ 3 := by have := HLEAF.out.1; omega
        have q2 : ¬ (6 : Int) ≤ (d : Int) := by have := HD.out; omega
        have hgf : fcmp .gtr .f32 (F (hP d wd)) 0 = true := by
          rw [hgt]
          refine decide_eq_true ?_
          unfold hP
          have h1 : 0 < 2 ^ (7 - d) * wd := Nat.mul_pos (Nat.two_pow_pos _) (by have := HLEAF.out.2; omega)
          omega
        clear hgt
        go_wp2_with (first | (refine wpList_fcmpD rfl .gtr _ _ _ _ rfl rfl _ _ _ rfl rfl _ hgf ?_))
        have hP6 : Blk (w5.alloc (.cells #[.slice none 0 0, .slice none 0 0, .slice none 0 0, .slice none 0 0] 132)) w5.heap.size 132 (partsArr ps cx cy [] (fun _ => none) (fun _ => 0)) := Blk.new _ _ _
        have HP6 := Lib.hid hP6
        have HE6 := Lib.hid (show Ext w5 (w5.alloc (.cells #[.slice none 0 0, .slice none 0 0, .slice none 0 0, .slice none 0 0] 132)) by (repeat first | with_reducible exact Ext.rfl' _ | with_reducible refine Ext.drewN ?_ _ | with_reducible refine Ext.drew' ?_ | with_reducible refine Ext.alloc' ?_ _ | with_reducible refine Ext.setCell_at ?_ _ _ _ (by first | exact Nat.le_refl _ | omega) | with_reducible assumption | refine Ext.trans ?_ (by with_reducible assumption)))
        clear hP6 e1 e2 e3 hz5
        generalize (w5.alloc (.cells #[.slice none 0 0, .slice none 0 0, .slice none 0 0, .slice none 0 0] 132)) = W6 at *
        obtain ⟨ii, hii, iz0, iz1, iz2⟩ := parts_of infoI
        have hzi : (Value.int .i64 0).cells.size = 1 := by decide
        go_loopw [78] (fun i wr => ∃ (k : Nat) (A : Nat → Option Addr) (c : Nat → Nat), k ≤ ws.length ∧ i = .int .i64 k ∧ Blk wr w5.heap.size 132 (partsArr ps cx cy (ws.take k) A c) ∧ Parts wr w5.heap.size ps cx cy (ws.take k) A c ∧ Ext w5 wr) (fun i _ => ws.length - (intOf i).toNat)
        case atStart => exact ⟨0, _, _, Nat.zero_le _, rfl, HP6.out, Parts.nil _ _ _ _ _, HE6.out⟩
        case round =>
          obtain ⟨k, A, c, hk, rfl, hblk, hparts, hbel⟩ := hrel
          have HPB := Lib.hid hblk
          have HPA := Lib.hid hparts
          have HE := Lib.hid hbel
          clear hblk hparts hbel HP6 HE6
          have hk9 : k < 9223372036854775807 := by have := HWS.out; omega
          by_cases hlt : k < ws.length
          · obtain ⟨j, hj⟩ : ∃ j, ws[k]? = some j := ⟨ws[k], List.getElem?_eq_getElem hlt⟩
            have hjN : j < ps.length := HPRE.out.below j (List.mem_of_getElem? hj)
            have hjI : (j : Int) < (ps.length : Int) := by omega
            obtain ⟨b1, o1, rfl, hb1, hc1⟩ := HW5.out.cell (by rw [intVals_len]; omega)
            obtain ⟨b2, o2, hA2, hb2, hc2⟩ := HL5.out.cell (by rw [whVals_len]; omega)
            simp only [Option.some.injEq, Addr.mk.injEq, and_true] at hA2
            obtain ⟨rfl, rfl⟩ := hA2
            have d0 := (HE.out.cell (p := ⟨b1, o1 + k, none⟩) hb1).trans (hc1 _ _ (intVals_at ws k j hj))
            obtain ⟨v1, v2⟩ := whVals_at ps j _ (HPS.out.at hjN).2
            have d1 := (HE.out.cell (p := ⟨lb, lo + j * 2, none⟩) hb2).trans (hc2 _ _ v1)
            have HBR := Lib.hid (HB5.out.ext HE.out)
            have x0 : wr.cell? ⟨w.heap.size, 0, none⟩ = some (.complex .f32 (F cx) (F cy)) := HBR.out.cell 0
            have x3 : wr.cell? ⟨w.heap.size, 3, none⟩ = some (.slice (some ⟨b1, o1, none⟩) ws.length c1) := HBR.out.cell 3
            have hterm := ((HPS.out.at hjN).1).term (c := 0) (by decide) (by decide)
            have hbx := HPRE.out.bx
            have hby := HPRE.out.by_
            have f1 := F_cmp .f32 .geq (atW ps j).1 cx (by omega) (by omega)
            have f2 := F_cmp .f32 .geq (atW ps j).2.1 cy (by omega) (by omega)
            dsimp only at f1 f2
            obtain ⟨bb1, hbb1⟩ : ∃ b, decide (cx ≤ (atW ps j).1) = b := ⟨_, rfl⟩
            obtain ⟨bb2, hbb2⟩ : ∃ b, decide (cy ≤ (atW ps j).2.1) = b := ⟨_, rfl⟩
            rw [hbb1] at f1
            rw [hbb2] at f2
            have h17 : (FloatKind.f32.format.order (F (atW ps j).1) (F cx) == some Ordering.gt || FloatKind.f32.format.order (F (atW ps j).1) (F cx) == some Ordering.eq) = bb1 := by
              exact f1
            have h19 : (FloatKind.f32.format.order (F (atW ps j).2.1) (F cy) == some Ordering.gt || FloatKind.f32.format.order (F (atW ps j).2.1) (F cy) == some Ordering.eq) = bb2 := by
              exact f2
            obtain ⟨q, hq⟩ : ∃ q : Nat, q = (if bb1 = true then 1 else 0) + (if bb2 = true then 2 else 0) := ⟨_, rfl⟩
            have hqq : quadP ps cx cy j = q := by
              unfold quadP; rw [hq, ← hbb1, ← hbb2]; simp
            have hq4 : q < 4 := by rw [hq]; split <;> split <;> omega
            have pq : wr.cell? ⟨w5.heap.size, q, none⟩ = some (.slice (A q) (partN ps cx cy (ws.take k) q) (c q)) := by
              rcases (by omega : q = 0 ∨ q = 1 ∨ q = 2 ∨ q = 3) with rfl | rfl | rfl | rfl
              · exact HPB.out.cell 0
              · exact HPB.out.cell 1
              · exact HPB.out.cell 2
              · exact HPB.out.cell 3
            have pf := HPB.out.frozen q
            have hpn : partN ps cx cy (ws.take k) q ≤ 12 := by
              refine Nat.le_trans (List.length_filter_le _ _) ?_
              rw [List.length_take]
              have := HWS.out
              omega
            have hlw : w.heap.size < wr.heap.size := HBR.out.lt
            have hl5 : w5.heap.size < wr.heap.size := HPB.out.lt
            have HJ := Lib.hid hj
            have HQ := Lib.hid hqq
            have H17 := Lib.hid h17
            have H19 := Lib.hid h19
            clear h17 h19
            clear hc1 hc2 v1 v2 hj hterm hbx hby f1 f2 hbb1 hbb2 hqq
            cases bb1 <;> cases bb2
            all_goals
              first | (obtain rfl : q = 0 := hq) | (obtain rfl : q = 1 := hq) | (obtain rfl : q = 2 := hq) | (obtain rfl : q = 3 := hq)
              go_wp2_with fail
              go_still (by kernel_rfl)
              rw [H17.out, show ({ heap := wr.heap, tape := wr.tape, drawn := wr.drawn + 1, os := wr.os, output := wr.output } : World) = wr.drew from rfl]
              have HEd := Lib.hid (show Ext w5 wr.drew from Ext.trans HE.out (by (repeat first | with_reducible exact Ext.rfl' _ | with_reducible refine Ext.drewN ?_ _ | with_reducible refine Ext.drew' ?_ | with_reducible refine Ext.alloc' ?_ _ | with_reducible refine Ext.setCell_at ?_ _ _ _ (by first | exact Nat.le_refl _ | omega) | with_reducible assumption | refine Ext.trans ?_ (by with_reducible assumption))))
              have HPBd := Lib.hid (show Blk wr.drew w5.heap.size 132 (partsArr ps cx cy (ws.take k) A c) from HPB.out)
              have HPAd := Lib.hid (show Parts wr.drew w5.heap.size ps cx cy (ws.take k) A c from HPA.out.ext (by (repeat first | with_reducible exact Ext.rfl' _ | with_reducible refine Ext.drewN ?_ _ | with_reducible refine Ext.drew' ?_ | with_reducible refine Ext.alloc' ?_ _ | with_reducible refine Ext.setCell_at ?_ _ _ _ (by first | exact Nat.le_refl _ | omega) | with_reducible assumption | refine Ext.trans ?_ (by with_reducible assumption))))
              have HBRd := Lib.hid (show Blk wr.drew w.heap.size 49 _ from HBR.out)
              have d1' : wr.drew.cell? ⟨lb, lo + j * 2, none⟩ = _ := d1
              have x0' : wr.drew.cell? ⟨w.heap.size, 0, none⟩ = _ := x0
              have pq' : wr.drew.cell? ⟨w5.heap.size, _, none⟩ = _ := pq
              have hlw' : w.heap.size < wr.drew.heap.size := hlw
              have hl5' : w5.heap.size < wr.drew.heap.size := hl5
              clear d0 d1 x0 x3 pq pf hlw hl5 HE HPB HPA HBR
              generalize wr.drew = W7 at *
              go_wp2_with fail
              go_still (by kernel_rfl)
              rw [H19.out, show ({ heap := W7.heap, tape := W7.tape, drawn := W7.drawn + 1, os := W7.os, output := W7.output } : World) = W7.drew from rfl]
              have HEe := Lib.hid (show Ext w5 W7.drew from Ext.trans HEd.out (by (repeat first | with_reducible exact Ext.rfl' _ | with_reducible refine Ext.drewN ?_ _ | with_reducible refine Ext.drew' ?_ | with_reducible refine Ext.alloc' ?_ _ | with_reducible refine Ext.setCell_at ?_ _ _ _ (by first | exact Nat.le_refl _ | omega) | with_reducible assumption | refine Ext.trans ?_ (by with_reducible assumption))))
              have HPBe := Lib.hid (show Blk W7.drew w5.heap.size 132 (partsArr ps cx cy (ws.take k) A c) from HPBd.out)
              have HPAe := Lib.hid (show Parts W7.drew w5.heap.size ps cx cy (ws.take k) A c from HPAd.out.ext (by (repeat first | with_reducible exact Ext.rfl' _ | with_reducible refine Ext.drewN ?_ _ | with_reducible refine Ext.drew' ?_ | with_reducible refine Ext.alloc' ?_ _ | with_reducible refine Ext.setCell_at ?_ _ _ _ (by first | exact Nat.le_refl _ | omega) | with_reducible assumption | refine Ext.trans ?_ (by with_reducible assumption))))
              have pq2 : W7.drew.cell? ⟨w5.heap.size, _, none⟩ = _ := pq'
              have hl52 : w5.heap.size < W7.drew.heap.size := hl5'
              clear d1' x0' pq' hlw' hl5' HEd HPBd HPAd HBRd
              generalize W7.drew = W8 at *
              go_wp2_with (first | (at_builtin; refine Stand.of ?_))
              refine Stand.out ?_
              have HRW := Lib.hid (HPAe.out.row _ hq4)
              refine wpList_append_lies _ rfl _ _ 43 rfl w5.heap.size 2 ii _ 1 8 under_ints hii iz0 iz1 iz2 hzi (by omega) _ _ _ rfl (HRW.out.alloc _) ⟨W8.heap.size, 0, none⟩ 1 1 [.int .i64 j] rfl rfl (World.news_of_block (cs := #[.int .i64 j]) (t := 2) (fr := (0, 0)) (heap_alloc_new W8 _)) (by simp [Value.oneCell']) (by omega) (by unfold maxLen; omega) (by omega) (by simp; omega) _ rfl ?_
              intro g2 c2 w6 hown6 hgrow hat hlt6
              have HPB6 := Lib.hid (show Blk w6 w5.heap.size 132 (partsArr ps cx cy (ws.take k) A c) from (hgrow.block w5.heap.size (by simp; omega) (owns_apart HRW.out HPBe.out (by decide))).trans (HPBe.out.alloc _))
              have HPA6 := Lib.hid ((HPAe.out.ext (by (repeat first | with_reducible exact Ext.rfl' _ | with_reducible refine Ext.drewN ?_ _ | with_reducible refine Ext.drew' ?_ | with_reducible refine Ext.alloc' ?_ _ | with_reducible refine Ext.setCell_at ?_ _ _ _ (by first | exact Nat.le_refl _ | omega) | with_reducible assumption | refine Ext.trans ?_ (by with_reducible assumption)))).push j _ g2 c2 hq4 HQ.out hown6 hgrow hat)
              have HE6 := Lib.hid (Ext.grown (Ext.trans HEe.out (by (repeat first | with_reducible exact Ext.rfl' _ | with_reducible refine Ext.drewN ?_ _ | with_reducible refine Ext.drew' ?_ | with_reducible refine Ext.alloc' ?_ _ | with_reducible refine Ext.setCell_at ?_ _ _ _ (by first | exact Nat.le_refl _ | omega) | with_reducible assumption | refine Ext.trans ?_ (by with_reducible assumption)))) hgrow (fun k hk => (HRW.out.lt k hk).1))
              clear hown6 hgrow hat hlt6 pq2 hl52
              have c60 : w6.cell? ⟨w5.heap.size, 0, none⟩ = some (partV ps cx cy (ws.take k) A c 0) := HPB6.out.cell 0
              have c61 : w6.cell? ⟨w5.heap.size, 1, none⟩ = some (partV ps cx cy (ws.take k) A c 1) := HPB6.out.cell 1
              have c62 : w6.cell? ⟨w5.heap.size, 2, none⟩ = some (partV ps cx cy (ws.take k) A c 2) := HPB6.out.cell 2
              have c63 : w6.cell? ⟨w5.heap.size, 3, none⟩ = some (partV ps cx cy (ws.take k) A c 3) := HPB6.out.cell 3
              have f60 := HPB6.out.frozen 0
              have f61 := HPB6.out.frozen 1
              have f62 := HPB6.out.frozen 2
              have f63 := HPB6.out.frozen 3
              go_wp2_with fail
              obtain ⟨hk', hjj⟩ := List.getElem?_eq_some_iff.1 HJ.out
              have htk : ws.take (k + 1) = ws.take k ++ [j] := by rw [List.take_succ_eq_append_getElem hk', hjj]
              exact ⟨⟨k + 1, _, _, by omega, by go_num, by
                rw [htk, ← partsArr_set ps cx cy (ws.take k) A c j _ g2 c2 hq4 HQ.out]
                exact HPB6.out.set_ _ _, (HPA6.out.cell HPB6.out (by decide) _).eq htk, Ext.setCell_at HE6.out _ _ _ (Nat.le_refl _)⟩, by simp [intOf]; omega⟩
          · have hkl : k = ws.length := by omega
            subst hkl
            rw [List.take_length] at HPB HPA
            have HBR := Lib.hid (HB5.out.ext HE.out)
            have x1 : wr.cell? ⟨w.heap.size, 1, none⟩ = some (.float .f32 (F (hP d wd))) := HBR.out.cell 1
            have p0 : wr.cell? ⟨w5.heap.size, 0, none⟩ = some (.slice (A 0) (partN ps cx cy ws 0) (c 0)) := HPB.out.cell 0
            have p1 : wr.cell? ⟨w5.heap.size, 1, none⟩ = some (.slice (A 1) (partN ps cx cy ws 1) (c 1)) := HPB.out.cell 1
            have p2 : wr.cell? ⟨w5.heap.size, 2, none⟩ = some (.slice (A 2) (partN ps cx cy ws 2) (c 2)) := HPB.out.cell 2
            have p3 : wr.cell? ⟨w5.heap.size, 3, none⟩ = some (.slice (A 3) (partN ps cx cy ws 3) (c 3)) := HPB.out.cell 3
            have hlw : w.heap.size < wr.heap.size := HBR.out.lt
            have hl5 : w5.heap.size < wr.heap.size := HPB.out.lt
            have hq := F_half HD.out (Nat.lt_succ_of_le HWD.out)
            have hneg := F_neg (show d + 1 < 7 by have := HD.out; omega) (Nat.lt_succ_of_le HWD.out) HLEAF.out.2
            go_wp2_with (first | (refine wpList_floatD rfl .quo _ _ _ _ rfl (by simp) _ _ _ rfl rfl _ hq ?_) | (refine wpList_negD rfl _ _ rfl _ _ rfl _ hneg ?_))
            have HTa := Lib.hid ((HT5.out.ext HE.out).ext (show Ext wr (wr.alloc (.cells #[.float .f32 (F (-hP (d + 1) wd)), .float .f32 (F (hP (d + 1) wd))] 133)) by (repeat first | with_reducible exact Ext.rfl' _ | with_reducible refine Ext.drewN ?_ _ | with_reducible refine Ext.drew' ?_ | with_reducible refine Ext.alloc' ?_ _ | with_reducible refine Ext.setCell_at ?_ _ _ _ (by first | exact Nat.le_refl _ | omega) | with_reducible assumption | refine Ext.trans ?_ (by with_reducible assumption))))
            have HEa := Lib.hid (Ext.trans HE.out (show Ext wr (wr.alloc (.cells #[.float .f32 (F (-hP (d + 1) wd)), .float .f32 (F (hP (d + 1) wd))] 133)) by (repeat first | with_reducible exact Ext.rfl' _ | with_reducible refine Ext.drewN ?_ _ | with_reducible refine Ext.drew' ?_ | with_reducible refine Ext.alloc' ?_ _ | with_reducible refine Ext.setCell_at ?_ _ _ _ (by first | exact Nat.le_refl _ | omega) | with_reducible assumption | refine Ext.trans ?_ (by with_reducible assumption))))
            have HFa := Lib.hid (Fr.trans HF5.out (Fr.of_ext g (.slice (some ⟨g2, 0, none⟩) (n + 1) cp2) HEa.out))
            have HHF := Lib.hid (Blk.new wr 133 #[.float .f32 (F (-hP (d + 1) wd)), .float .f32 (F (hP (d + 1) wd))])
            have HBA := Lib.hid (HB5.out.ext HEa.out)
            have HPA2 := Lib.hid (HPA.out.ext (show Ext wr (wr.alloc (.cells #[.float .f32 (F (-hP (d + 1) wd)), .float .f32 (F (hP (d + 1) wd))] 133)) by (repeat first | with_reducible exact Ext.rfl' _ | with_reducible refine Ext.drewN ?_ _ | with_reducible refine Ext.drew' ?_ | with_reducible refine Ext.alloc' ?_ _ | with_reducible refine Ext.setCell_at ?_ _ _ _ (by first | exact Nat.le_refl _ | omega) | with_reducible assumption | refine Ext.trans ?_ (by with_reducible assumption))))
            have HPLT := Lib.hid (show ∀ q, q < 4 → ∀ b o, A q = some ⟨b, o, none⟩ → w.heap.size ≤ b ∧ b < wr.heap.size from fun q hq b o e => by
              have h1 := (HPA.out.row q hq).lt b (by unfold partV; rw [e]; rfl)
              have h2 := HF5.out.size
              exact ⟨by omega, h1.2⟩)
            have hsa : (wr.alloc (.cells #[.float .f32 (F (-hP (d + 1) wd)), .float .f32 (F (hP (d + 1) wd))] 133)).heap.size = wr.heap.size + 1 := by simp
            have HSA := Lib.hid hsa
            have HOWN := Lib.hid (show ((wr.alloc (.cells #[.float .f32 (F (-hP (d + 1) wd)), .float .f32 (F (hP (d + 1) wd))] 133)).alloc (.cells #[] 2)).ownsRow (wr.heap.size + 1) 2 1 (.slice (some ⟨wr.heap.size + 1, 0, none⟩) 0 0) 0 [] from by
              have := World.ownsRow_made (base := wr.heap.size + 1) (e := 2) (size := 1) (wr.alloc (.cells #[.float .f32 (F (-hP (d + 1) wd)), .float .f32 (F (hP (d + 1) wd))] 133)) #[] 0 (by simp) (by decide) rfl
              simpa using this)
            clear x1 p0 p1 p2 p3 hl5 hq hneg hsa HPB HPA HBR HE
            generalize wr.alloc (.cells #[.float .f32 (F (-hP (d + 1) wd)), .float .f32 (F (hP (d + 1) wd))] 133) = Wa at *
            have HEb := Lib.hid (show Ext Wa (Wa.alloc (.cells #[] 2)) by (repeat first | with_reducible exact Ext.rfl' _ | with_reducible refine Ext.drewN ?_ _ | with_reducible refine Ext.drew' ?_ | with_reducible refine Ext.alloc' ?_ _ | with_reducible refine Ext.setCell_at ?_ _ _ _ (by first | exact Nat.le_refl _ | omega) | with_reducible assumption | refine Ext.trans ?_ (by with_reducible assumption)))
            generalize Wa.alloc (.cells #[] 2) = Wb at *
            generalize wr.heap.size = m at *
            go_loopw [17, 124] (fun v i wx => ∃ q : Nat, q ≤ 4 ∧ i = .int .i64 q ∧ KidsRel f ps wd B g n d cx cy ws m w.heap.size Wa (.slice (some ⟨g2, 0, none⟩) (n + 1) cp2) (ys ++ [.complex .f32 (F cx) (F cy), .float .f32 (F (hP d wd)), .int .i64 d, .slice A1 ws.length c1, .slice none 0 0, .float .f32 (F (spinP ps ws)), .complex .f32 (F (momX ps cx ws)) (F (momY ps cy ws))]) q v wx) (fun _ i _ => 4 - (intOf i).toNat)
            case atStart =>
              refine ⟨0, Nat.zero_le _, rfl, ([], []), g2, cp2, m + 1, 0, [], rfl, rfl, HOWN.out, ?_, NodesAt.nil _ _, Fr.of_ext _ _ HEb.out, AddrsIn.nil _⟩
              rw [List.append_nil]
              exact HTa.out.ext HEb.out
            case round =>
              obtain ⟨q, hq4, rfl, hrel⟩ := hrel
              have HKR := Lib.hid hrel
              obtain ⟨K, r7, c7, gq, cq, zs, hKe, rfl, hown, hTx, hNx, hFx, hAx⟩ := hrel
              have HKE := Lib.hid hKe
              have HOW := Lib.hid hown
              have HTX := Lib.hid hTx
              have HNX := Lib.hid hNx
              have HFX := Lib.hid hFx
              have HAX := Lib.hid hAx
              rename World => wx
              clear hKe hown hTx hNx hFx hAx
              have HBX := Lib.hid (HBA.out.fr HFX.out hgn' (by have := HG2.out; simp [Value.ownBlock]; omega))
              have HHX := Lib.hid (HHF.out.fr HFX.out (HTa.out.apart HHF.out (by decide) (by decide)).1 (HTa.out.apart HHF.out (by decide) (by decide)).2)
              have hmx : m < wx.heap.size := HHX.out.lt
              have hbx : w.heap.size < wx.heap.size := HBX.out.lt
              have x0 : wx.cell? ⟨w.heap.size, 0, none⟩ = some (.complex .f32 (F cx) (F cy)) := HBX.out.cell 0
              have x2 : wx.cell? ⟨w.heap.size, 2, none⟩ = some (.int .i64 d) := HBX.out.cell 2
              have y0 : wx.cell? ⟨m, 0, none⟩ = some (.float .f32 (F (-hP (d + 1) wd))) := HHX.out.cell 0
              have y1 : wx.cell? ⟨m, 1, none⟩ = some (.float .f32 (F (hP (d + 1) wd))) := HHX.out.cell 1
              have HAQ := Lib.hid (show ∀ q, q < 4 → ∀ b o, A q = some ⟨b, o, none⟩ → w.heap.size ≤ b ∧ b < m from HPLT.out)
              have i0 : ∀ w : World, (Instr.index 132 (.agg #[.slice (A 0) (partN ps cx cy ws 0) (c 0), .slice (A 1) (partN ps cx cy ws 1) (c 1), .slice (A 2) (partN ps cx cy ws 2) (c 2), .slice (A 3) (partN ps cx cy ws 3) (c 3)]) (.int .i64 0)).run Try.prog w = .ok (.slice (A 0) (partN ps cx cy ws 0) (c 0)) w := fun w => ix0 _ _ _ _ w
              have i1 : ∀ w : World, (Instr.index 132 (.agg #[.slice (A 0) (partN ps cx cy ws 0) (c 0), .slice (A 1) (partN ps cx cy ws 1) (c 1), .slice (A 2) (partN ps cx cy ws 2) (c 2), .slice (A 3) (partN ps cx cy ws 3) (c 3)]) (.int .i64 1)).run Try.prog w = .ok (.slice (A 1) (partN ps cx cy ws 1) (c 1)) w := fun w => ix1 _ _ _ _ w
              have i2 : ∀ w : World, (Instr.index 132 (.agg #[.slice (A 0) (partN ps cx cy ws 0) (c 0), .slice (A 1) (partN ps cx cy ws 1) (c 1), .slice (A 2) (partN ps cx cy ws 2) (c 2), .slice (A 3) (partN ps cx cy ws 3) (c 3)]) (.int .i64 2)).run Try.prog w = .ok (.slice (A 2) (partN ps cx cy ws 2) (c 2)) w := fun w => ix2 _ _ _ _ w
              have i3 : ∀ w : World, (Instr.index 132 (.agg #[.slice (A 0) (partN ps cx cy ws 0) (c 0), .slice (A 1) (partN ps cx cy ws 1) (c 1), .slice (A 2) (partN ps cx cy ws 2) (c 2), .slice (A 3) (partN ps cx cy ws 3) (c 3)]) (.int .i64 3)).run Try.prog w = .ok (.slice (A 3) (partN ps cx cy ws 3) (c 3)) w := fun w => ix3 _ _ _ _ w
              have hb1 := HPRE.out.bx
              have hb2 := HPRE.out.by_
              have hb3 := hP_two d wd HD.out
              have a0 : ∀ w : World, (binOp .add 34 (.float .f32 (F cx)) (.float .f32 (F (-hP (d + 1) wd)))).run Try.prog w = .ok (.float .f32 (F (cx + -hP (d + 1) wd))) w := fun w => run_float_arith w .add _ .f32 _ _ _ (F_add .f32 _ _ (by omega) (by omega) (by omega))
              have a1 : ∀ w : World, (binOp .add 34 (.float .f32 (F cx)) (.float .f32 (F (hP (d + 1) wd)))).run Try.prog w = .ok (.float .f32 (F (cx + hP (d + 1) wd))) w := fun w => run_float_arith w .add _ .f32 _ _ _ (F_add .f32 _ _ (by omega) (by omega) (by omega))
              have a2 : ∀ w : World, (binOp .add 34 (.float .f32 (F cy)) (.float .f32 (F (-hP (d + 1) wd)))).run Try.prog w = .ok (.float .f32 (F (cy + -hP (d + 1) wd))) w := fun w => run_float_arith w .add _ .f32 _ _ _ (F_add .f32 _ _ (by omega) (by omega) (by omega))
              have a3 : ∀ w : World, (binOp .add 34 (.float .f32 (F cy)) (.float .f32 (F (hP (d + 1) wd)))).run Try.prog w = .ok (.float .f32 (F (cy + hP (d + 1) wd))) w := fun w => run_float_arith w .add _ .f32 _ _ _ (F_add .f32 _ _ (by omega) (by omega) (by omega))
              clear hb1 hb2 hb3
              have qw0 : IntKind.i64.wrap 0 = 0 := by decide
              have qw1 : IntKind.i64.wrap 1 = 1 := by decide
              by_cases hlt : q < 4
              · by_cases hpe : partN ps cx cy ws q = 0
                · have q3 : ¬ 0 < (partN ps cx cy ws q : Int) := by omega
                  have HPE := Lib.hid hpe
                  clear hpe
                  rcases (by omega : q = 0 ∨ q = 1 ∨ q = 2 ∨ q = 3) with rfl | rfl | rfl | rfl
                  all_goals
                    go_wp2_with fail
                    exact ⟨⟨_, hlt, rfl, HKR.out.skip HPE.out⟩, by simp [intOf]⟩
                · have q3 : 0 < (partN ps cx cy ws q : Int) := by omega
                  have HPE := Lib.hid hpe
                  clear hpe
                  obtain ⟨hk3, hk4, hkc⟩ := kids_call (q := q) HREC.out HPRE.out HD.out HFD.out HN.out HWS.out hlt HSA.out (Nat.le_of_lt hlw) HPE.out HKE.out HOW.out HTX.out HNX.out HFX.out HAX.out HTa.out (HL5.out.ext HEa.out) HPA2.out HPLT.out
                  have HKC := Lib.hid hkc
                  clear hkc
                  rcases (by omega : q = 0 ∨ q = 1 ∨ q = 2 ∨ q = 3) with rfl | rfl | rfl | rfl
                  all_goals
                    go_wp2_with fail
                    go_still (by kernel_rfl)
                    go_wp2_with fail
                    refine (HKC.out _ (by (repeat first | with_reducible exact Ext.rfl' _ | with_reducible refine Ext.drewN ?_ _ | with_reducible refine Ext.drew' ?_ | with_reducible refine Ext.alloc' ?_ _ | with_reducible refine Ext.setCell_at ?_ _ _ _ (by first | exact Nat.le_refl _ | omega) | with_reducible assumption | refine Ext.trans ?_ (by with_reducible assumption)))).mono ?_
                    rintro e w2 ⟨rfl, hown2, hsz2, hnext⟩
                    have HOW2 := Lib.hid hown2
                    have HNEXT := Lib.hid hnext
                    clear hown2 hnext
                    go_wp2_with (first | (at_builtin; refine Stand.of ?_))
                    refine Stand.out ?_
                    refine wpList_append_lies _ rfl _ _ 43 rfl (m + 1) 2 ii _ 1 8 under_ints hii iz0 iz1 iz2 hzi (by omega) _ _ _ rfl (HOW2.out.alloc _) ⟨w2.heap.size, 0, none⟩ 1 1 [.int .i64 ((n + 1 + K.1.length : Nat) : Int)] rfl rfl (World.news_of_block (cs := #[.int .i64 ((n + 1 + K.1.length : Nat) : Int)]) (t := 2) (fr := (0, 0)) (heap_alloc_new w2 _)) (by simp [Value.oneCell']) (by omega) (by unfold maxLen; omega) (by omega) (by simp; omega) _ rfl ?_
                    intro g3 c3 w6 hown6 hgrow hat hlt6
                    have HKN := Lib.hid (HNEXT.out _ g3 c3 w6 hown6 hgrow hat)
                    clear hown6 hgrow hat hlt6
                    go_wp2_with fail
                    exact ⟨⟨_, hlt, rfl, HKN.out⟩, by simp [intOf]⟩
              · have hq4' : q = 4 := by omega
                subst hq4'
                have hyl : ys.length = n * 7 := HT.out.row.1
                have g0 : wx.cell? ⟨g, 0, none⟩ = some (.slice (some ⟨r7, 0, none⟩) (n + 1 + K.1.length) c7) := HTX.out.var.cell 0
                have c4 : wx.cell? ⟨r7, n * 7 + 4, none⟩ = some (.slice none 0 0) := by
                  rw [HTX.out.row.cellAt (n * 7 + 4) (by omega), List.append_assoc, List.getElem?_append_right (by omega), hyl, show n * 7 + 4 - n * 7 = 4 by omega]
                  rfl
                have f4 := HTX.out.row.frozenAt (n * 7 + 4)
                have hr7 : r7 < wx.heap.size := (HTX.out.row.lt r7 rfl).2
                have hgx : g < wx.heap.size := HTX.out.var.lt
                have hnk : (n : Int) < ((n + 1 + K.1.length : Nat) : Int) := by omega
                have hnb : n < 1000 := by
                  have := HN.out
                  have h6 : 0 < ws.length := List.length_pos_iff.2 HPRE.out.some_
                  have h5 : (f + 2) * ws.length = (f + 1) * ws.length + ws.length := Nat.succ_mul _ _
                  omega
                have HYL := Lib.hid hyl
                clear hyl i0 i1 i2 i3 a0 a1 a2 a3 x0 x2 y0 y1
                go_wp2_with fail
                go_ret
                exact kids_done (s0 := 0) HSA.out HKE.out (fun h => by have := HLEAF.out; omega) HYL.out HOW.out HTX.out HNX.out HFa.out HFX.out HAX.out ((HW5.out.ext HEa.out).fr HTa.out HFX.out (by decide) (by decide))
end Go.Proofs.Ytfehhbmmdbpdpaa
