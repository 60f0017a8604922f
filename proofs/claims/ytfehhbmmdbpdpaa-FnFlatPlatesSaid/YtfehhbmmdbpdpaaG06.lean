/- Walks: a node laid behind others. -/
import Derived.Test.YtfehhbmmdbpdpaaG05
import Derived.Deep.DeepCutAuto
import Derived.Test.YtfehhbmmdbpdpaaG03
import Derived.Lib.SliceRun
import Derived.Test.YtfehhbmmdbpdpaaG04
import Derived.Laws.OwnMore
namespace Go.Proofs.Ytfehhbmmdbpdpaa
open Go Go.RowKit
set_option linter.unusedVariables false
set_option linter.unusedSimpArgs false
attribute [local go_sem] run_store_float run_store_complex

theorem infoN : (Try.prog.info? 49).map (fun i => (i.zero, i.size, i.bytes)) = some (some (.agg #[.complex .f32 0 0, .float .f32 0, .int .i64 0, .slice none 0 0, .slice none 0 0, .float .f32 0, .complex .f32 0 0]), 7, 88) := by kernel_rfl
theorem infoW : (Try.prog.info? 51).map (fun i => (i.zero, i.size, i.bytes)) = some (some (.agg #[.complex .f32 0 0, .float .f32 0]), 2, 12) := by kernel_rfl
theorem infoI : (Try.prog.info? 2).map (fun i => (i.zero, i.size, i.bytes)) = some (some (.int .i64 0), 1, 8) := by kernel_rfl
theorem under_nodes : Try.prog.underlying 40 = some (.slice 49) := by kernel_rfl
theorem under_whirls : Try.prog.underlying 38 = some (.slice 51) := by kernel_rfl
theorem under_ints : Try.prog.underlying 43 = some (.slice 2) := by kernel_rfl
theorem parts_of {P : Program} {t : TypeId} {z : Value} {s b : Nat} (h : (P.info? t).map (fun i => (i.zero, i.size, i.bytes)) = some (some z, s, b)) : ∃ i, P.info? t = some i ∧ i.zero = some z ∧ i.size = s ∧ i.bytes = b := by
  cases hi : P.info? t with
  | none => rw [hi] at h; cases h
  | some i =>
    rw [hi] at h
    simp only [Option.map_some, Option.some.injEq, Prod.mk.injEq] at h
    exact ⟨i, rfl, h.1, h.2.1, h.2.2⟩
theorem moments_n (A : Option Addr) (cap n : Nat) (us : List Wh) (cx cy : Int) (hn : us.length = n) (w : World) (hA : Lies w 51 A (whVals us)) (hl : n ≤ 12) (hok : ∀ u ∈ us, OkW u) (hx : cx.natAbs ≤ 8192) (hy : cy.natAbs ≤ 8192) (ex : cx % 2 = 0) (ey : cy % 2 = 0) :
    Calls Try.prog 49 #[.slice A n cap, .complex .f32 (F cx) (F cy)] w fun e w' => Ext w w' ∧ e = .returned (.tuple #[.float .f32 (F (spinL us)), .complex .f32 (F (momXL cx us)) (F (momYL cy us))]) := by
  subst hn
  exact moments_any A cap us cx cy w hA hl hok hx hy ex ey
theorem spinP_L (ps : List Wh) (ws : List Nat) : spinP ps ws = spinL (ws.map (atW ps)) := by unfold spinP spinL; rw [List.foldl_map]
theorem momX_L (ps : List Wh) (c : Int) (ws : List Nat) : momX ps c ws = momXL c (ws.map (atW ps)) := by unfold momX momXL; rw [List.foldl_map]
theorem momY_L (ps : List Wh) (c : Int) (ws : List Nat) : momY ps c ws = momYL c (ws.map (atW ps)) := by unfold momY momYL; rw [List.foldl_map]
/-- the list's whirls are such as are drawn -/
def OkPs (ps : List Wh) : Prop := ps.length ≤ 12 ∧ ∀ u ∈ ps, OkW u
theorem OkPs.at {ps : List Wh} (h : OkPs ps) {i : Nat} (hi : i < ps.length) : OkW (atW ps i) ∧ ps[i]? = some (atW ps i) := by
  have he : ps[i]? = some (atW ps i) := by unfold atW; rw [List.getD_eq_getElem?_getD, List.getElem?_eq_getElem hi]; rfl
  exact ⟨h.2 _ (List.mem_of_getElem? he), he⟩
theorem OkPs.map {ps : List Wh} (h : OkPs ps) {ws : List Nat} (hw : ∀ i ∈ ws, i < ps.length) : ∀ u ∈ ws.map (atW ps), OkW u := fun u hu => by
  obtain ⟨i, hi, rfl⟩ := List.mem_map.1 hu
  exact (h.at (hw i hi)).1
/-- the cells of a node as it is handed on -/
def handed (wd d : Nat) (cx cy : Int) (n : Nat) (A : Option Addr) (c : Nat) (sp mx my : Nat) : Array Value :=
  #[.complex .f32 (F cx) (F cy), .float .f32 (F (hP d wd)), .int .i64 d, .slice A n c, .slice none 0 0, .float .f32 sp, .complex .f32 mx my]

set_option maxRecDepth 100000 in
set_option maxHeartbeats 1600000 in
theorem growLeaf_any (ps : List Wh) (wd B g r cp n d : Nat) (cx cy : Int) (ws : List Nat) (ys : List Value) (lb lo lcap : Nat) (A1 : Option Addr) (c1 : Nat) (w : World) (hps : OkPs ps) (hpre : Pre ps wd ps.length d cx cy ws)
    (hT : Tr w B g (.slice (some ⟨r, 0, none⟩) n cp) n ys) (hL : Lies w 51 (some ⟨lb, lo, none⟩) (whVals ps)) (hW : Lies w 2 A1 (intVals ws)) (hn : n ≤ 1000) (hws : ws.length ≤ 12)
    (hleaf : ws.length ≤ 3 ∨ 6 ≤ d ∨ wd = 0) (hwd : wd ≤ 32) (hd : d ≤ 6) :
    Calls Try.prog 86 #[.pointer (some ⟨g, 0, none⟩), .slice (some ⟨lb, lo, none⟩) ps.length lcap, .agg (handed wd d cx cy ws.length A1 c1 0 0 0)] w fun e w' =>
      e = .returned (.int .i64 n) ∧ ∃ r' cp' zs, Tr w' B g (.slice (some ⟨r', 0, none⟩) (n + 1) cp') (n + 1) (ys ++ zs) ∧ NodesAt w' wd [nodeP ps d cx cy ws []] zs ∧ Fr w w' g (.slice (some ⟨r, 0, none⟩) n cp) (.slice (some ⟨r', 0, none⟩) (n + 1) cp') ∧ AddrsIn (fun b => (w.heap.size ≤ b ∨ ∃ o, A1 = some ⟨b, o, none⟩) ∧ b < w'.heap.size) zs := by
  have HPS := Lib.hid hps
  have HPRE := Lib.hid hpre
  have HT := Lib.hid hT
  have HL := Lib.hid hL
  have HW := Lib.hid hW
  have HN := Lib.hid hn
  have HWS := Lib.hid hws
  have HLEAF := Lib.hid hleaf
  have HWD := Lib.hid hwd
  have HD := Lib.hid hd
  obtain ⟨i1, hi1, jz0, jz1, jz2⟩ := parts_of infoW
  have hz1 : (Value.agg #[.complex .f32 0 0, .float .f32 0]).cells.size = 2 := by decide
  have hg0 : w.cell? ⟨g, 0, none⟩ = some (.slice (some ⟨r, 0, none⟩) n cp) := hT.var.cell 0
  have HBX := Lib.hid (Blk.new w 49 (handed wd d cx cy ws.length A1 c1 0 0 0))
  have HE0 := Lib.hid (show Ext w (w.alloc (.cells (handed wd d cx cy ws.length A1 c1 0 0 0) 49)) by (repeat first | with_reducible exact Ext.rfl' _ | with_reducible refine Ext.drewN ?_ _ | with_reducible refine Ext.drew' ?_ | with_reducible refine Ext.alloc' ?_ _ | with_reducible refine Ext.setCell_at ?_ _ _ _ (by first | exact Nat.le_refl _ | omega) | with_reducible assumption | refine Ext.trans ?_ (by with_reducible assumption)))
  clear hps hpre hT hL hW hn hws hleaf hwd hd
  unfold handed at *
  go_enter Try.func86, Try.ntmps86
  go_wp2_with fail
  have hown : ((w.alloc (.cells #[.complex .f32 (F cx) (F cy), .float .f32 (F (hP d wd)), .int .i64 d, .slice A1 ws.length c1, .slice none 0 0, .float .f32 0, .complex .f32 0 0] 49)).alloc (.cells #[] 51)).ownsRow (w.heap.size + 1) 51 2 (.slice (some ⟨w.heap.size + 1, 0, none⟩) 0 0) 0 [] := by
    have := World.ownsRow_made (base := w.heap.size + 1) (e := 51) (size := 2) (w.alloc (.cells #[.complex .f32 (F cx) (F cy), .float .f32 (F (hP d wd)), .int .i64 d, .slice A1 ws.length c1, .slice none 0 0, .float .f32 0, .complex .f32 0 0] 49)) #[] 0 (by simp) (by decide) rfl
    simpa using this
  have HOWN := Lib.hid hown
  have HE1 := Lib.hid (show Ext (w.alloc (.cells #[.complex .f32 (F cx) (F cy), .float .f32 (F (hP d wd)), .int .i64 d, .slice A1 ws.length c1, .slice none 0 0, .float .f32 0, .complex .f32 0 0] 49)) ((w.alloc (.cells #[.complex .f32 (F cx) (F cy), .float .f32 (F (hP d wd)), .int .i64 d, .slice A1 ws.length c1, .slice none 0 0, .float .f32 0, .complex .f32 0 0] 49)).alloc (.cells #[] 51)) by (repeat first | with_reducible exact Ext.rfl' _ | with_reducible refine Ext.drewN ?_ _ | with_reducible refine Ext.drew' ?_ | with_reducible refine Ext.alloc' ?_ _ | with_reducible refine Ext.setCell_at ?_ _ _ _ (by first | exact Nat.le_refl _ | omega) | with_reducible assumption | refine Ext.trans ?_ (by with_reducible assumption)))
  clear hown hg0
  generalize hw0 : w.alloc (.cells #[.complex .f32 (F cx) (F cy), .float .f32 (F (hP d wd)), .int .i64 d, .slice A1 ws.length c1, .slice none 0 0, .float .f32 0, .complex .f32 0 0] 49) = W0 at *
  have hs0 : W0.heap.size = w.heap.size + 1 := by rw [← hw0]; simp
  have HS0 := Lib.hid hs0
  clear hw0 hs0
  generalize W0.alloc (.cells #[] 51) = W1 at *
  go_loopw [7, 25] (fun v i wr => ∃ (k gg cq : Nat), k ≤ ws.length ∧ i = .int .i64 k ∧ v = .slice (some ⟨gg, 0, none⟩) k cq ∧ wr.ownsRow (w.heap.size + 1) 51 2 v k (whVals ((ws.take k).map (atW ps))) ∧ Ext W0 wr) (fun _ i _ => ws.length - (intOf i).toNat)
  case atStart => exact ⟨0, w.heap.size + 1, 0, Nat.zero_le _, rfl, rfl, HOWN.out, HE1.out⟩
  case round =>
    obtain ⟨k, gg, cq, hk, rfl, rfl, hown, hbel⟩ := hrel
    have HOW := Lib.hid hown
    have HE := Lib.hid hbel
    clear hown hbel HOWN HE1
    have hk9 : k < 9223372036854775807 := by have := HWS.out; omega
    by_cases hlt : k < ws.length
    · obtain ⟨j, hj⟩ : ∃ j, ws[k]? = some j := ⟨ws[k], List.getElem?_eq_getElem hlt⟩
      have hjN : j < ps.length := HPRE.out.below j (List.mem_of_getElem? hj)
      have hjI : (j : Int) < (ps.length : Int) := by omega
      obtain ⟨b1, o1, rfl, hb1, hc1⟩ := HW.out.cell (by rw [intVals_len]; omega)
      obtain ⟨b2, o2, hA2, hb2, hc2⟩ := HL.out.cell (by rw [whVals_len]; omega)
      simp only [Option.some.injEq, Addr.mk.injEq, and_true] at hA2
      obtain ⟨rfl, rfl⟩ := hA2
      have hEw : Ext w wr := Ext.trans HE0.out HE.out
      have d0 := (hEw.cell (p := ⟨b1, o1 + k, none⟩) hb1).trans (hc1 _ _ (intVals_at ws k j hj))
      obtain ⟨v1, v2⟩ := whVals_at ps j _ (HPS.out.at hjN).2
      have d1 := (hEw.cell (p := ⟨lb, lo + j * 2, none⟩) hb2).trans (hc2 _ _ v1)
      have d2 := (hEw.cell (p := ⟨lb, lo + j * 2 + 1, none⟩) hb2).trans (hc2 _ _ v2)
      have HEW := Lib.hid hEw
      have HJ := Lib.hid hj
      clear hc1 hc2 v1 v2 hEw hj
      go_wp2_with (first | (at_builtin; refine Stand.of ?_))
      refine Stand.out ?_
      refine wpList_append_lies _ rfl _ _ 38 rfl (w.heap.size + 1) 51 i1 _ 2 12 under_whirls hi1 jz0 jz1 jz2 hz1 (by omega) (.slice (some ⟨gg, 0, none⟩) k cq) k _ rfl (HOW.out.alloc _) ⟨wr.heap.size, 0, none⟩ 1 1 [.complex .f32 (F (atW ps j).1) (F (atW ps j).2.1), .float .f32 (F (atW ps j).2.2)] rfl rfl (World.news_of_block (cs := #[.complex .f32 (F (atW ps j).1) (F (atW ps j).2.1), .float .f32 (F (atW ps j).2.2)]) (t := 51) (fr := (0, 0)) (heap_alloc_new wr _)) (by simp [Value.oneCell']) (by omega) (by have := HWS.out; unfold maxLen; omega) (by have := HWS.out; omega) (by have := HE.out.size; have := HS0.out; simp; omega) _ rfl ?_
      intro g2 c2 w6 hown6 hgrow hat hlt6
      have hgl := HOW.out.lt
      have e6 : Ext W0 w6 := Ext.grown (Ext.trans HE.out (Ext.alloc' (Ext.rfl' wr) _)) hgrow (fun k hk => by have := (hgl k hk).1; have := HS0.out; omega)
      have HE6 := Lib.hid e6
      have HO6 := Lib.hid hown6
      clear hown6 hgrow hat hlt6 hgl e6 d0 d1 d2
      go_wp2_with fail
      refine ⟨⟨k + 1, g2, c2, by omega, by go_num, rfl, ?_, HE6.out⟩, by simp [intOf]; omega⟩
      obtain ⟨hk', hjj⟩ := List.getElem?_eq_some_iff.1 HJ.out
      rw [List.take_succ_eq_append_getElem hk', List.map_append, whVals_append, hjj]
      exact HO6.out
    · have hkl : k = ws.length := by omega
      subst hkl
      rw [List.take_length] at HOW
      have HL3 := Lib.hid (lies_of_owns HOW.out).1
      have HEW := Lib.hid (Ext.trans HE0.out HE.out)
      have HB2 := Lib.hid (HBX.out.ext HE.out)
      have b0 : wr.cell? ⟨w.heap.size, 0, none⟩ = some (.complex .f32 (F cx) (F cy)) := HB2.out.cell 0
      go_wp2_with fail
      refine (moments_n (some ⟨gg, 0, none⟩) cq ws.length (ws.map (atW ps)) cx cy (by simp) _ HL3.out HWS.out (HPS.out.map HPRE.out.below) (by have := HPRE.out.bx; omega) (by have := HPRE.out.by_; omega) HPRE.out.ex HPRE.out.ey).mono ?_
      rintro e w2 ⟨he2, rfl⟩
      rw [← spinP_L, ← momX_L, ← momY_L]
      have HE2 := Lib.hid (Ext.trans HEW.out he2)
      have HB3 := Lib.hid (HB2.out.ext he2)
      have HT2 := Lib.hid (HT.out.ext HE2.out)
      have b5 : w2.cell? ⟨w.heap.size, 5, none⟩ = some (.float .f32 0) := HB3.out.cell 5
      have b6 : w2.cell? ⟨w.heap.size, 6, none⟩ = some (.complex .f32 0 0) := HB3.out.cell 6
      have f5 := HB3.out.frozen 5
      have f6 := HB3.out.frozen 6
      have g0 : w2.cell? ⟨g, 0, none⟩ = some (.slice (some ⟨r, 0, none⟩) n cp) := HT2.out.var.cell 0
      have hgl : g < w.heap.size := HT.out.var.lt
      have hgn : ¬ g = w.heap.size := by omega
      have hgn' : ¬ w.heap.size = g := by omega
      clear he2 b0 HL3 HOW HE HB2
      go_upto_region 9 with fail
      have HB4 := Lib.hid (show Blk ((w2.setCell ⟨w.heap.size, 5, none⟩ (.float .f32 (F (spinP ps ws)))).setCell ⟨w.heap.size, 6, none⟩ (.complex .f32 (F (momX ps cx ws)) (F (momY ps cy ws)))) w.heap.size 49 (handed wd d cx cy ws.length A1 c1 (F (spinP ps ws)) (F (momX ps cx ws)) (F (momY ps cy ws))) from by
        have := (HB3.out.set_ 5 (.float .f32 (F (spinP ps ws)))).set_ 6 (.complex .f32 (F (momX ps cx ws)) (F (momY ps cy ws)))
        exact this)
      have HE4 := Lib.hid (show Ext w ((w2.setCell ⟨w.heap.size, 5, none⟩ (.float .f32 (F (spinP ps ws)))).setCell ⟨w.heap.size, 6, none⟩ (.complex .f32 (F (momX ps cx ws)) (F (momY ps cy ws)))) from Ext.setCell_at (Ext.setCell_at HE2.out _ _ _ (Nat.le_refl _)) _ _ _ (Nat.le_refl _))
      clear b5 b6 f5 f6 g0 HB3 HE2 HT2
      generalize (w2.setCell ⟨w.heap.size, 5, none⟩ (.float .f32 (F (spinP ps ws)))).setCell ⟨w.heap.size, 6, none⟩ (.complex .f32 (F (momX ps cx ws)) (F (momY ps cy ws))) = W4 at *
      have HT4 := Lib.hid (HT.out.ext HE4.out)
      have g0 : W4.cell? ⟨g, 0, none⟩ = some (.slice (some ⟨r, 0, none⟩) n cp) := HT4.out.var.cell 0
      have gf := HT4.out.var.frozen 0
      have k0 : W4.cell? ⟨w.heap.size, 0, none⟩ = some (.complex .f32 (F cx) (F cy)) := HB4.out.cell 0
      have k1 : W4.cell? ⟨w.heap.size, 1, none⟩ = some (.float .f32 (F (hP d wd))) := HB4.out.cell 1
      have k2 : W4.cell? ⟨w.heap.size, 2, none⟩ = some (.int .i64 d) := HB4.out.cell 2
      have k3 : W4.cell? ⟨w.heap.size, 3, none⟩ = some (.slice A1 ws.length c1) := HB4.out.cell 3
      have k4 : W4.cell? ⟨w.heap.size, 4, none⟩ = some (.slice none 0 0) := HB4.out.cell 4
      have k5 : W4.cell? ⟨w.heap.size, 5, none⟩ = some (.float .f32 (F (spinP ps ws))) := HB4.out.cell 5
      have k6 : W4.cell? ⟨w.heap.size, 6, none⟩ = some (.complex .f32 (F (momX ps cx ws)) (F (momY ps cy ws))) := HB4.out.cell 6
      have z1 : w.heap.size < W4.heap.size := HB4.out.lt
      have z2 : g < W4.heap.size := HT4.out.var.lt
      obtain ⟨i2, hi2, nz0, nz1, nz2⟩ := parts_of infoN
      have hz2 : (Value.agg #[.complex .f32 0 0, .float .f32 0, .int .i64 0, .slice none 0 0, .slice none 0 0, .float .f32 0, .complex .f32 0 0]).cells.size = 7 := by decide
      have hrl : r < w.heap.size := (HT.out.row.lt r rfl).2
      go_cut [] (fun wx => ∃ g2 cp2, Tr wx B g (.slice (some ⟨g2, 0, none⟩) (n + 1) cp2) (n + 1) (ys ++ [.complex .f32 (F cx) (F cy), .float .f32 (F (hP d wd)), .int .i64 d, .slice A1 ws.length c1, .slice none 0 0, .float .f32 (F (spinP ps ws)), .complex .f32 (F (momX ps cx ws)) (F (momY ps cy ws))]) ∧ Fr W4 wx g (.slice (some ⟨r, 0, none⟩) n cp) (.slice (some ⟨g2, 0, none⟩) (n + 1) cp2) ∧ (g2 = r ∨ W4.heap.size ≤ g2))
      case first =>
        go_region_law (first
          | (refine step_append_lies _ (by rfl) _ _ _ (by rfl) B 49 i2 _ 7 88 under_nodes hi2 nz0 nz1 nz2 hz2 (by omega) (.slice (some ⟨r, 0, none⟩) n cp) n ys (by rfl) ((show W4.drew.ownsRow _ _ _ _ _ _ from HT4.out.row).alloc _) ⟨W4.heap.size, 0, none⟩ 1 1 [.complex .f32 (F cx) (F cy), .float .f32 (F (hP d wd)), .int .i64 d, .slice A1 ws.length c1, .slice none 0 0, .float .f32 (F (spinP ps ws)), .complex .f32 (F (momX ps cx ws)) (F (momY ps cy ws))] (by rfl) rfl (World.news_of_block (cs := #[.complex .f32 (F cx) (F cy), .float .f32 (F (hP d wd)), .int .i64 d, .slice A1 ws.length c1, .slice none 0 0, .float .f32 (F (spinP ps ws)), .complex .f32 (F (momX ps cx ws)) (F (momY ps cy ws))]) (t := 49) (fr := (0, 0)) (heap_alloc_new W4.drew _)) (by simp [Value.oneCell']) (by omega) (by have := HN.out; unfold maxLen; omega) (by have := HN.out; omega) (by have := HT4.out.base; (try simp only [World.size_alloc, World.size_drew]); omega) _ rfl ?_; intro g2 cp2 w6 hown6 hgrow hat hlt6; have HGR := Lib.hid hgrow; have HAT := Lib.hid hat; have HO6 := Lib.hid hown6; (have gv6 : Blk w6 g 40 #[.slice (some ⟨r, 0, none⟩) n cp] := (hgrow.block g (by simp; omega) (fun e => (HT4.out.apart_own e).elim)).trans (show Blk _ _ _ _ from (show Blk W4.drew _ _ _ from HT4.out.var).alloc _)); have HGV := Lib.hid gv6; (have c6 : w6.cell? ⟨g, 0, none⟩ = some (.slice (some ⟨r, 0, none⟩) n cp) := gv6.cell 0); (have cf6 := gv6.frozen 0); clear hown6 hgrow hat hlt6 gv6 g0 gf))
        all_goals
          go_wp2_with fail
          go_meet
          case rel =>
            obtain ⟨p1, p2⟩ := HT4.out.pushed (W' := W4.drew.alloc (.cells #[.complex .f32 (F cx) (F cy), .float .f32 (F (hP d wd)), .int .i64 d, .slice A1 ws.length c1, .slice none 0 0, .float .f32 (F (spinP ps ws)), .complex .f32 (F (momX ps cx ws)) (F (momY ps cy ws))] 49)) (by (repeat first | with_reducible exact Ext.rfl' _ | with_reducible refine Ext.drewN ?_ _ | with_reducible refine Ext.drew' ?_ | with_reducible refine Ext.alloc' ?_ _ | with_reducible refine Ext.setCell_at ?_ _ _ _ (by first | exact Nat.le_refl _ | omega) | with_reducible assumption | refine Ext.trans ?_ (by with_reducible assumption))) HGR.out HO6.out HAT.out
            refine ⟨g2, cp2, p1, p2, ?_⟩
            rcases HAT.out with e | e
            · simp only [Value.ownBlock, Option.some.injEq] at e; exact .inl e.symm
            · exact .inr (by rw [e]; simp)
      case rest =>
        obtain ⟨g2, cp2, hT5, hF5, hg2⟩ := hcut
        rename World => w5
        have HT5 := Lib.hid hT5
        have HF5 := Lib.hid (Fr.trans (Fr.of_ext g (.slice (some ⟨r, 0, none⟩) n cp) HE4.out) hF5)
        have HB5 := Lib.hid (HB4.out.fr hF5 hgn' (by simp [Value.ownBlock]; omega))
        have HG2 := Lib.hid (show g2 ≠ w.heap.size by omega)
        have HW5 := Lib.hid (HW.out.fr HT.out HF5.out (by decide) (by decide))
        have HL5 := Lib.hid (HL.out.fr HT.out HF5.out (by decide) (by decide))
        have e1 : w5.cell? ⟨w.heap.size, 1, none⟩ = some (.float .f32 (F (hP d wd))) := HB5.out.cell 1
        have e2 : w5.cell? ⟨w.heap.size, 2, none⟩ = some (.int .i64 d) := HB5.out.cell 2
        have e3 : w5.cell? ⟨w.heap.size, 3, none⟩ = some (.slice A1 ws.length c1) := HB5.out.cell 3
        have hgt : fcmp .gtr .f32 (F (hP d wd)) 0 = decide (0 < hP d wd) := by
          rw [← F_zero .f32]
          exact F_cmp .f32 .gtr _ 0 (by have := HPRE.out.bx; omega) (by decide)
        clear hT5 hF5 hg2 HE4 HB4 k0 k1 k2 k3 k4 k5 k6 z1 z2 g0 gf HT4
        have HNA := Lib.hid (show NodesAt w5 wd [nodeP ps d cx cy ws []] [.complex .f32 (F cx) (F cy), .float .f32 (F (hP d wd)), .int .i64 d, .slice A1 ws.length c1, .slice none 0 0, .float .f32 (F (spinP ps ws)), .complex .f32 (F (momX ps cx ws)) (F (momY ps cy ws))] from
          ⟨rfl, fun i m hm => by
            cases i with
            | zero =>
              simp only [List.getElem?_cons_zero, Option.some.injEq] at hm
              subst hm
              exact ⟨A1, c1, none, 0, rfl, rfl, rfl, rfl, rfl, rfl, rfl, HW5.out, fun h => absurd h (Nat.lt_irrefl 0)⟩
            | succ i => simp at hm⟩)
        have HAI := Lib.hid (show AddrsIn (fun b => (w.heap.size ≤ b ∨ ∃ o, A1 = some ⟨b, o, none⟩) ∧ b < w5.heap.size) [.complex .f32 (F cx) (F cy), .float .f32 (F (hP d wd)), .int .i64 d, .slice A1 ws.length c1, .slice none 0 0, .float .f32 (F (spinP ps ws)), .complex .f32 (F (momX ps cx ws)) (F (momY ps cy ws))] from
          .node (fun hl b o x e => by
            obtain ⟨b', o', cur, e', hb, -⟩ := HW5.out (by rw [intVals_len]; exact hl)
            rw [e'] at e
            cases e
            exact ⟨.inr ⟨_, e'⟩, hb.lt⟩) (fun hl => absurd hl (Nat.lt_irrefl 0)))
        by_cases q1 : (ws.length : Int) ≤ 3
        · go_wp2_with fail
          go_ret
          exact ⟨rfl, g2, cp2, _, HT5.out, HNA.out, HF5.out, HAI.out⟩
        · by_cases q2 : (6 : Int) ≤ (d : Int)
          · go_wp2_with fail
            go_ret
            exact ⟨rfl, g2, cp2, _, HT5.out, HNA.out, HF5.out, HAI.out⟩
          · have hw0 : wd = 0 := by rcases HLEAF.out with h | h | h <;> omega
            have hh0 : hP d wd = 0 := by rw [hw0]; unfold hP; simp
            rw [hh0] at hgt
            have hgf : fcmp .gtr .f32 (F (hP d wd)) 0 = false := by rw [hh0]; exact hgt.trans (by decide)
            clear hgt hw0
            have HH0 := Lib.hid hh0
            clear hh0
            go_wp2_with (first | (refine wpList_fcmpD rfl .gtr _ _ _ _ rfl rfl _ _ _ rfl rfl _ hgf ?_))
            go_ret
            exact ⟨rfl, g2, cp2, _, HT5.out, HNA.out, HF5.out, HAI.out⟩
end Go.Proofs.Ytfehhbmmdbpdpaa
/- Four rows of whole numbers, each grown by itself. -/
namespace Go.Proofs.Ytfehhbmmdbpdpaa
open Go Go.RowKit
set_option linter.unusedVariables false
set_option linter.unusedSimpArgs false

theorem ownsRow_fr {w w' : World} {B g n m size B2 : Nat} {v v' u : Value} {ys xs : List Value} {t : TypeId} (h : w.ownsRow B2 t size u m xs) (hT : Tr w B g v n ys) (hf : Fr w w' g v v') (h1 : t ≠ 49) (h2 : t ≠ 40) : w'.ownsRow B2 t size u m xs := by
  refine ⟨h.1, ?_⟩
  rcases h.2 with h0 | ⟨g', cap', cur, hv, hB, hb, rest⟩
  · exact .inl h0
  · obtain ⟨e1, e2⟩ := hT.apart (k := g') (cs := cur) (t := t) hb h1 h2
    exact .inr ⟨g', cap', cur, hv, hB, (hf.block g' (Blk.lt (t := t) (cs := cur) hb) e1 e2).trans hb, rest⟩
def partN (ps : List Wh) (cx cy : Int) (us : List Nat) (q : Nat) : Nat := (partP ps cx cy us q).length
def partV (ps : List Wh) (cx cy : Int) (us : List Nat) (A : Nat → Option Addr) (c : Nat → Nat) (q : Nat) : Value := .slice (A q) (partN ps cx cy us q) (c q)
def partsArr (ps : List Wh) (cx cy : Int) (us : List Nat) (A : Nat → Option Addr) (c : Nat → Nat) : Array Value :=
  #[partV ps cx cy us A c 0, partV ps cx cy us A c 1, partV ps cx cy us A c 2, partV ps cx cy us A c 3]
structure Parts (w : World) (B : Nat) (ps : List Wh) (cx cy : Int) (us : List Nat) (A : Nat → Option Addr) (c : Nat → Nat) : Prop where
  row : ∀ q, q < 4 → w.ownsRow B 2 1 (partV ps cx cy us A c q) (partN ps cx cy us q) (intVals (partP ps cx cy us q))
  dis : ∀ q q', q < 4 → q' < 4 → q ≠ q' → (partV ps cx cy us A c q).ownBlock = none ∨ (partV ps cx cy us A c q).ownBlock ≠ (partV ps cx cy us A c q').ownBlock
theorem part_snoc (ps : List Wh) (cx cy : Int) (us : List Nat) (j q : Nat) : partP ps cx cy (us ++ [j]) q = partP ps cx cy us q ++ (if quadP ps cx cy j = q then [j] else []) := by
  unfold partP
  rw [List.filter_append]
  congr 1
  by_cases h : quadP ps cx cy j = q <;> simp [List.filter_cons, h]
theorem Parts.nil (w : World) (B : Nat) (ps : List Wh) (cx cy : Int) : Parts w B ps cx cy [] (fun _ => none) (fun _ => 0) :=
  ⟨fun q _ => World.ownsRow_nil w B _ 1, fun q q' _ _ _ => .inl rfl⟩
theorem Parts.ext {w w' : World} {B : Nat} {ps : List Wh} {cx cy : Int} {us : List Nat} {A : Nat → Option Addr} {c : Nat → Nat} (h : Parts w B ps cx cy us A c) (he : Ext w w') : Parts w' B ps cx cy us A c :=
  ⟨fun q hq => (h.row q hq).kept (row := none) ⟨he.os, he.tape, he.output, he.size, fun k hk _ => he.block k hk⟩ (Classical.em _), h.dis⟩
/-- one number more in the row of its quarter -/
theorem Parts.push {w w' : World} {B : Nat} {ps : List Wh} {cx cy : Int} {us : List Nat} {A : Nat → Option Addr} {c : Nat → Nat} (h : Parts w B ps cx cy us A c) (j q g cap : Nat) (hq : q < 4) (hj : quadP ps cx cy j = q)
    (hown : w'.ownsRow B 2 1 (.slice (some ⟨g, 0, none⟩) (partN ps cx cy us q + 1) cap) (partN ps cx cy us q + 1) (intVals (partP ps cx cy us q) ++ [.int .i64 j]))
    (hgrow : w.grownBy w' (partV ps cx cy us A c q).ownBlock) (hat : (partV ps cx cy us A c q).ownBlock = some g ∨ g = w.heap.size) :
    Parts w' B ps cx cy (us ++ [j]) (fun i => if i = q then some ⟨g, 0, none⟩ else A i) (fun i => if i = q then cap else c i) := by
  have hsame : ∀ i, i ≠ q → partP ps cx cy (us ++ [j]) i = partP ps cx cy us i := fun i hi => by rw [part_snoc, if_neg (fun e => hi (by rw [← e, hj])), List.append_nil]
  have hnew : partP ps cx cy (us ++ [j]) q = partP ps cx cy us q ++ [j] := by rw [part_snoc, if_pos hj]
  have hv : ∀ i, i ≠ q → partV ps cx cy (us ++ [j]) (fun i => if i = q then some ⟨g, 0, none⟩ else A i) (fun i => if i = q then cap else c i) i = partV ps cx cy us A c i := fun i hi => by
    unfold partV partN
    rw [hsame i hi]
    simp only [if_neg hi]
  have hvq : partV ps cx cy (us ++ [j]) (fun i => if i = q then some ⟨g, 0, none⟩ else A i) (fun i => if i = q then cap else c i) q = .slice (some ⟨g, 0, none⟩) (partN ps cx cy us q + 1) cap := by
    unfold partV partN
    rw [hnew]
    simp
  have hold : ∀ i, i < 4 → i ≠ q → (partV ps cx cy us A c i).ownBlock = none ∨ (partV ps cx cy us A c i).ownBlock ≠ some g := fun i hi hiq => by
    rcases h.dis i q hi hq hiq with e | e
    · exact .inl e
    · rcases hat with e' | e'
      · exact .inr (by rw [e'] at e; exact e)
      · refine .inr fun e2 => ?_
        have := ((h.row i hi).lt g e2).2
        omega
  refine ⟨fun i hi => ?_, fun i i' hi hi' hne => ?_⟩
  · by_cases hiq : i = q
    · subst hiq
      rw [hvq]
      unfold partN intVals
      rw [hnew, List.map_append, List.length_append]
      exact hown
    · rw [hv i hiq]
      unfold partN
      rw [hsame i hiq]
      exact (h.row i hi).kept hgrow (h.dis i q hi hq hiq)
  · by_cases hiq : i = q
    · subst hiq
      rw [hvq, hv i' (fun e => hne e.symm)]
      refine .inr fun e => ?_
      rcases hold i' hi' (fun e => hne e.symm) with e' | e'
      · rw [e'] at e; cases e
      · exact e' e.symm
    · rw [hv i hiq]
      by_cases hiq' : i' = q
      · subst hiq'
        rw [hvq]
        exact hold i hi hiq
      · rw [hv i' hiq']
        exact h.dis i i' hi hi' hne
theorem partsArr_set (ps : List Wh) (cx cy : Int) (us : List Nat) (A : Nat → Option Addr) (c : Nat → Nat) (j q g cap : Nat) (hq : q < 4) (hj : quadP ps cx cy j = q) :
    (partsArr ps cx cy us A c).setIfInBounds q (.slice (some ⟨g, 0, none⟩) (partN ps cx cy us q + 1) cap) = partsArr ps cx cy (us ++ [j]) (fun i => if i = q then some ⟨g, 0, none⟩ else A i) (fun i => if i = q then cap else c i) := by
  have hN : ∀ i, partN ps cx cy (us ++ [j]) i = partN ps cx cy us i + if q = i then 1 else 0 := fun i => by
    unfold partN
    rw [part_snoc, List.length_append, hj]
    by_cases h : q = i <;> simp [h]
  unfold partsArr partV
  simp only [hN]
  rcases (by omega : q = 0 ∨ q = 1 ∨ q = 2 ∨ q = 3) with rfl | rfl | rfl | rfl <;> simp
theorem Parts.lies {w : World} {B : Nat} {ps : List Wh} {cx cy : Int} {us : List Nat} {A : Nat → Option Addr} {c : Nat → Nat} (h : Parts w B ps cx cy us A c) {q : Nat} (hq : q < 4) : Lies w 2 (A q) (intVals (partP ps cx cy us q)) := fun hp => by
  have hr := h.row q hq
  have hr2 := hr.2
  rcases hr2 with ⟨h0, h1⟩ | ⟨g', cap', cur, hv, hB, hb, rest⟩
  · exfalso
    rw [intVals_len] at hp
    unfold partN at h1
    omega
  · unfold partV at hr hv
    simp only [Value.slice.injEq] at hv
    rw [hv.1] at hr ⊢
    exact (lies_of_owns hr).1 hp
theorem owns_apart {w : World} {B size n k : Nat} {t u : TypeId} {v : Value} {xs : List Value} {cs : Array Value} (h : w.ownsRow B t size v n xs) (hk : Blk w k u cs) (hne : t ≠ u) : ¬ some k = v.ownBlock := fun e => by
  rcases h.2 with ⟨h0, _⟩ | ⟨g', cap', cur, hv, hB, hb, _⟩
  · rw [h0] at e; cases e
  · rw [hv] at e
    simp only [Value.ownBlock, Option.some.injEq] at e
    subst e
    have hb' : Blk w k t cur := hb
    exact hne (hb'.type hk)
theorem Parts.eq {w : World} {B : Nat} {ps : List Wh} {cx cy : Int} {us us' : List Nat} {A : Nat → Option Addr} {c : Nat → Nat} (h : Parts w B ps cx cy us A c) (e : us' = us) : Parts w B ps cx cy us' A c := e ▸ h
theorem Parts.cell {w : World} {B k off : Nat} {ps : List Wh} {cx cy : Int} {us : List Nat} {A : Nat → Option Addr} {c : Nat → Nat} {u : TypeId} {cs : Array Value} (h : Parts w B ps cx cy us A c) (hb : Blk w k u cs) (hne : 2 ≠ u) (v : Value) : Parts (w.setCell ⟨k, off, none⟩ v) B ps cx cy us A c :=
  ⟨fun q hq => (h.row q hq).kept (row := some k) (only_setCell (g := k) (p := ⟨k, off, none⟩) (only_refl _ _) rfl _) (Or.inr fun e => owns_apart (h.row q hq) hb hne e.symm), h.dis⟩
theorem Fr.grown {a b c : World} {g : Nat} {v v' : Value} {row : Option Nat} (h : Fr a b g v v') (hg : b.grownBy c row) (hr : ∀ k, row = some k → a.heap.size ≤ k) : Fr a c g v v' :=
  ⟨hg.os.trans h.os, hg.tape.trans h.tape, hg.output.trans h.output, Nat.le_trans h.size hg.size, fun k hk h1 h2 =>
    (hg.block k (Nat.lt_of_lt_of_le hk h.size) (fun e => by have := hr k e.symm; omega)).trans (h.block k hk h1 h2), h.own⟩
theorem Fr.own_set {a b : World} {g r off : Nat} {v v' u : Value} (h : Fr a b g v v') (hr : v'.ownBlock = some r) : Fr a (b.setCell ⟨r, off, none⟩ u) g v v' :=
  ⟨h.os, h.tape, h.output, by simpa using h.size, fun k hk h1 h2 => by
    rw [heap_setCell_other b ⟨r, off, none⟩ k u (fun e => ?_)]
    · exact h.block k hk h1 h2
    · have e' : k = r := by simpa using e
      subst e'
      rcases h.own with e2 | e2
      · exact h2 (hr.symm.trans e2)
      · have := e2 _ hr
        omega, h.own⟩
theorem Tr.grown {w w' : World} {B B2 g n m size : Nat} {v u : Value} {ys xs : List Value} {t : TypeId} (h : Tr w B g v n ys) (hr : w.ownsRow B2 t size u m xs) (h1 : t ≠ 49) (h2 : t ≠ 40) (hg : w.grownBy w' u.ownBlock) : Tr w' B g v n ys := by
  refine ⟨(hg.block g h.var.lt (owns_apart hr h.var h2)).trans h.var, h.row.kept hg ?_, h.base⟩
  cases hv : v.ownBlock with
  | none => exact .inl rfl
  | some k =>
    refine .inr fun e => ?_
    obtain ⟨cur, hc, -⟩ := h.own_blk hv
    exact owns_apart hr hc h1 e
theorem Tr.stored {w : World} {B g r n cap j : Nat} {u : Value} {ys : List Value} (h : Tr w B g (.slice (some ⟨r, 0, none⟩) n cap) n ys) : Tr (w.setCell ⟨r, j, none⟩ u) B g (.slice (some ⟨r, 0, none⟩) n cap) n (ys.set j u) :=
  ⟨((h.row.stored j u).2.block g h.var.lt (fun e => h.apart_own e)).trans h.var, (h.row.stored j u).1, h.base⟩
theorem Lies.set_node {w : World} {r off : Nat} {u : Value} {cur : Array Value} {A : Option Addr} {xs : List Value} (h : Lies w 2 A xs) (hb : Blk w r 49 cur) : Lies (w.setCell ⟨r, off, none⟩ u) 2 A xs := fun hp => by
  obtain ⟨b, o, c, a1, a2, a3⟩ := h hp
  refine ⟨b, o, c, a1, ?_, a3⟩
  refine (heap_setCell_other w ⟨r, off, none⟩ b u (fun e => ?_)).trans a2
  have e' : b = r := by simpa using e
  subst e'
  exact absurd (a2.type hb) (by decide)
theorem Lies.grown {w w' : World} {t : TypeId} {row : Option Nat} {A : Option Addr} {xs : List Value} (h : Lies w t A xs) (hg : w.grownBy w' row) (hne : 0 < xs.length → ∀ b o, A = some ⟨b, o, none⟩ → some b ≠ row) : Lies w' t A xs := fun hp => by
  obtain ⟨b, o, c, a1, a2, a3⟩ := h hp
  exact ⟨b, o, c, a1, (hg.block b a2.lt (hne hp b o a1)).trans a2, a3⟩
theorem NodesAt.grown {w w' : World} {wd : Nat} {L : List Nd} {ys : List Value} {row : Option Nat} (h : NodesAt w wd L ys) (hg : w.grownBy w' row) (ha : AddrsIn (fun b => some b ≠ row) ys) : NodesAt w' wd L ys := by
  refine ⟨h.1, fun i n hn => ?_⟩
  obtain ⟨A1, c1, A2, c2, a0, a1, a2, a3, a4, a5, a6, l1, l2⟩ := h.2 i n hn
  refine ⟨A1, c1, A2, c2, a0, a1, a2, a3, a4, a5, a6, l1.grown hg fun hp b o e => ?_, l2.grown hg fun hp b o e => ?_⟩
  · subst e; exact ha _ (List.mem_of_getElem? a3) b o none _ _ rfl (by rw [intVals_len] at hp; exact hp)
  · subst e; exact ha _ (List.mem_of_getElem? a4) b o none _ _ rfl (by rw [intVals_len] at hp; exact hp)
end Go.Proofs.Ytfehhbmmdbpdpaa
/- What a growth leaves; the quarters of a node one by one. -/
namespace Go.Proofs.Ytfehhbmmdbpdpaa
open Go Go.RowKit
set_option linter.unusedVariables false
set_option linter.unusedSimpArgs false

/-- what a growth leaves -/
def GrowPost (wd B g r cp n : Nat) (A1 : Option Addr) (w : World) (ys : List Value) (L : List Nd) : Ending → World → Prop := fun e w' =>
  e = .returned (.int .i64 n) ∧ ∃ r' cp' zs, Tr w' B g (.slice (some ⟨r', 0, none⟩) (n + L.length) cp') (n + L.length) (ys ++ zs) ∧ NodesAt w' wd L zs ∧ Fr w w' g (.slice (some ⟨r, 0, none⟩) n cp) (.slice (some ⟨r', 0, none⟩) (n + L.length) cp') ∧ AddrsIn (fun b => (w.heap.size ≤ b ∨ ∃ o, A1 = some ⟨b, o, none⟩) ∧ b < w'.heap.size) zs
/-- nodes of this depth are grown as told -/
def Grows (f : Nat) (ps : List Wh) (wd B g lb lo lcap d : Nat) : Prop :=
  ∀ (r cp n : Nat) (cx cy : Int) (ws : List Nat) (ys : List Value) (A1 : Option Addr) (c1 : Nat) (w : World), Pre ps wd ps.length d cx cy ws → Tr w B g (.slice (some ⟨r, 0, none⟩) n cp) n ys → Lies w 51 (some ⟨lb, lo, none⟩) (whVals ps) → Lies w 2 A1 (intVals ws) → n + (f + 1) * ws.length ≤ 1000 → ws.length ≤ 12 →
    Calls Try.prog 86 #[.pointer (some ⟨g, 0, none⟩), .slice (some ⟨lb, lo, none⟩) ps.length lcap, .agg (handed wd d cx cy ws.length A1 c1 0 0 0)] w (GrowPost wd B g r cp n A1 w ys (growP ps wd f n d cx cy ws))
/-- the first q quarters are grown -/
def KidsRel (f : Nat) (ps : List Wh) (wd B g n d : Nat) (cx cy : Int) (ws : List Nat) (m s0 : Nat) (Wa : World) (V5 : Value) (YS : List Value) (q : Nat) (v : Value) (wx : World) : Prop :=
  ∃ (K : List Nd × List Nat) (r7 c7 gq cq : Nat) (zs : List Value), K = kidsP (fun b => growP ps wd f b (d + 1)) ps wd n d cx cy ws q ∧ v = .slice (some ⟨gq, 0, none⟩) K.2.length cq ∧ wx.ownsRow (m + 1) 2 1 v K.2.length (intVals K.2) ∧
    Tr wx B g (.slice (some ⟨r7, 0, none⟩) (n + 1 + K.1.length) c7) (n + 1 + K.1.length) (YS ++ zs) ∧ NodesAt wx wd K.1 zs ∧ Fr Wa wx g V5 (.slice (some ⟨r7, 0, none⟩) (n + 1 + K.1.length) c7) ∧ AddrsIn (fun b => s0 ≤ b ∧ b < wx.heap.size ∧ b ≠ gq) zs
theorem KidsRel.skip {f : Nat} {ps : List Wh} {wd B g n d : Nat} {cx cy : Int} {ws : List Nat} {m s0 : Nat} {Wa : World} {V5 : Value} {YS : List Value} {q : Nat} {v : Value} {wx : World} (h : KidsRel f ps wd B g n d cx cy ws m s0 Wa V5 YS q v wx) (h0 : (partP ps cx cy ws q).length = 0) :
    KidsRel f ps wd B g n d cx cy ws m s0 Wa V5 YS (q + 1) v wx := by
  unfold KidsRel at h ⊢
  unfold kidsP kidP
  rw [if_pos h0]
  exact h
theorem kids_push {f : Nat} {ps : List Wh} {wd B g n d : Nat} {cx cy : Int} {ws : List Nat} {m s0 : Nat} {Wa : World} {V5 : Value} {YS : List Value} {q : Nat} {wx w2 w6 : World} {K : List Nd × List Nat} {r7 c7 gq cq g3 c3 : Nat} {zs : List Value} {Aq : Option Addr} {x : Value} {e : Ending}
    (hm : Wa.heap.size = m + 1) (h0 : (partP ps cx cy ws q).length ≠ 0) (hK : K = kidsP (fun b => growP ps wd f b (d + 1)) ps wd n d cx cy ws q)
    (hown : wx.ownsRow (m + 1) 2 1 (.slice (some ⟨gq, 0, none⟩) K.2.length cq) K.2.length (intVals K.2))
    (hT : Tr wx B g (.slice (some ⟨r7, 0, none⟩) (n + 1 + K.1.length) c7) (n + 1 + K.1.length) (YS ++ zs)) (hN : NodesAt wx wd K.1 zs) (hF : Fr Wa wx g V5 (.slice (some ⟨r7, 0, none⟩) (n + 1 + K.1.length) c7)) (hA : AddrsIn (fun b => s0 ≤ b ∧ b < wx.heap.size ∧ b ≠ gq) zs)
    (hAq : ∀ b o, Aq = some ⟨b, o, none⟩ → s0 ≤ b ∧ b < m) (hs0 : s0 ≤ m)
    (hpost : GrowPost wd B g r7 c7 (n + 1 + K.1.length) Aq wx (YS ++ zs) (growP ps wd f (n + 1 + K.1.length) (d + 1) (cx + sgnP (q % 2) (hP (d + 1) wd)) (cy + sgnP (q / 2) (hP (d + 1) wd)) (partP ps cx cy ws q)) e w2)
    (hown6 : w6.ownsRow (m + 1) 2 1 (.slice (some ⟨g3, 0, none⟩) (K.2.length + 1) c3) (K.2.length + 1) (intVals K.2 ++ [.int .i64 ((n + 1 + K.1.length : Nat) : Int)]))
    (hgrow : (w2.alloc (.cells #[x] 2)).grownBy w6 (some gq)) (hat : some gq = some g3 ∨ g3 = (w2.alloc (.cells #[x] 2)).heap.size) :
    KidsRel f ps wd B g n d cx cy ws m s0 Wa V5 YS (q + 1) (.slice (some ⟨g3, 0, none⟩) (K.2.length + 1) c3) w6 := by
  obtain ⟨he, r', cp', zs', pT, pN, pF, pA⟩ := hpost
  generalize hL : growP ps wd f (n + 1 + K.1.length) (d + 1) (cx + sgnP (q % 2) (hP (d + 1) wd)) (cy + sgnP (q / 2) (hP (d + 1) wd)) (partP ps cx cy ws q) = L at *
  have hK' : kidsP (fun b => growP ps wd f b (d + 1)) ps wd n d cx cy ws (q + 1) = (K.1 ++ L, K.2 ++ [n + 1 + K.1.length]) := by
    unfold kidsP kidP
    rw [if_neg h0, ← hK]
    dsimp only
    rw [hL]
  have hgl := hown.lt gq rfl
  have hex : Ext w2 (w2.alloc (.cells #[x] 2)) := by (repeat first | with_reducible exact Ext.rfl' _ | with_reducible refine Ext.drewN ?_ _ | with_reducible refine Ext.drew' ?_ | with_reducible refine Ext.alloc' ?_ _ | with_reducible refine Ext.setCell_at ?_ _ _ _ (by first | exact Nat.le_refl _ | omega) | with_reducible assumption | refine Ext.trans ?_ (by with_reducible assumption))
  have hown2 := (ownsRow_fr hown hT pF (by decide) (by decide)).kept (row := none) (w' := w2.alloc (.cells #[x] 2)) ⟨hex.os, hex.tape, hex.output, hex.size, fun k hk _ => hex.block k hk⟩ (.inr (by simp [Value.ownBlock]))
  have pT3 := (pT.ext hex).grown hown2 (by decide) (by decide) hgrow
  have e1 : n + 1 + K.1.length + L.length = n + 1 + (K.1 ++ L).length := by rw [List.length_append]; omega
  have hsz := pF.size
  have hs6 := hgrow.size
  have hs3 := hex.size
  have hs4 : (w2.alloc (.cells #[x] 2)).heap.size = w2.heap.size + 1 := by simp
  rw [e1, List.append_assoc] at pT3
  have F3 := (Fr.trans (Fr.trans hF pF) (Fr.of_ext g _ hex)).grown hgrow (fun k hk => by cases hk; omega)
  rw [e1] at F3
  have hA1 : AddrsIn (fun b => some b ≠ some gq) zs := hA.mono fun b hb e => hb.2.2 (by injection e)
  have pA1 : AddrsIn (fun b => some b ≠ some gq) zs' := pA.mono fun b hb e => by
    injection e with e
    subst e
    rcases hb.1 with h | ⟨o, h⟩
    · omega
    · have := hAq _ _ h; omega
  refine ⟨_, r', cp', g3, c3, zs ++ zs', hK'.symm, by rw [List.length_append]; rfl, ?_, pT3, ?_, F3, ?_⟩
  · unfold intVals at hown6 ⊢
    rw [List.map_append, List.length_append]
    exact hown6
  · refine NodesAt.append ?_ ?_
    · exact ((hN.map fun A xs h => (h.fr hT pF (by decide) (by decide)).ext hex)).grown hgrow hA1
    · exact (pN.map fun A xs h => h.ext hex).grown hgrow pA1
  · refine AddrsIn.append (hA.mono fun b hb => ⟨hb.1, by omega, ?_⟩) (pA.mono fun b hb => ⟨?_, by omega, ?_⟩)
    · rcases hat with h | h
      · injection h with h; rw [← h]; exact hb.2.2
      · omega
    · rcases hb.1 with h | ⟨o, h⟩
      · have := hF.size; omega
      · exact (hAq _ _ h).1
    · rcases hat with h | h
      · injection h with h
        subst h
        rcases hb.1 with h | ⟨o, h⟩
        · omega
        · have := hAq _ _ h; omega
      · omega
theorem kids_done {f : Nat} {ps : List Wh} {wd B g n d r cp : Nat} {cx cy : Int} {ws : List Nat} {m s0 : Nat} {w Wa wx : World} {V5 : Value} {ys zs : List Value} {K : List Nd × List Nat} {r7 c7 gq cq : Nat} {A1 : Option Addr} {c1 : Nat}
    (hm : Wa.heap.size = m + 1) (hK : K = kidsP (fun b => growP ps wd f b (d + 1)) ps wd n d cx cy ws 4) (hws : ¬ (ws.length ≤ 3 ∨ wd = 0)) (hyl : ys.length = n * 7)
    (hown : wx.ownsRow (m + 1) 2 1 (.slice (some ⟨gq, 0, none⟩) K.2.length cq) K.2.length (intVals K.2))
    (hT : Tr wx B g (.slice (some ⟨r7, 0, none⟩) (n + 1 + K.1.length) c7) (n + 1 + K.1.length) ((ys ++ [.complex .f32 (F cx) (F cy), .float .f32 (F (hP d wd)), .int .i64 d, .slice A1 ws.length c1, .slice none 0 0, .float .f32 (F (spinP ps ws)), .complex .f32 (F (momX ps cx ws)) (F (momY ps cy ws))]) ++ zs))
    (hN : NodesAt wx wd K.1 zs) (hF0 : Fr w Wa g (.slice (some ⟨r, 0, none⟩) n cp) V5) (hF : Fr Wa wx g V5 (.slice (some ⟨r7, 0, none⟩) (n + 1 + K.1.length) c7)) (hA : AddrsIn (fun b => w.heap.size ≤ b ∧ b < wx.heap.size ∧ b ≠ gq) zs)
    (hW : Lies wx 2 A1 (intVals ws)) :
    GrowPost wd B g r cp n A1 w ys (growP ps wd (f + 1) n d cx cy ws) (.returned (.int .i64 n)) (wx.setCell ⟨r7, n * 7 + 4, none⟩ (.slice (some ⟨gq, 0, none⟩) K.2.length cq)) := by
  have hgr : growP ps wd (f + 1) n d cx cy ws = nodeP ps d cx cy ws K.2 :: K.1 := by
    conv => lhs; unfold growP
    rw [if_neg hws, ← hK]
  rw [hgr]
  obtain ⟨cur, hb7, -⟩ := hT.own_blk (r := r7) rfl
  have hlen : n + 1 + K.1.length = n + (nodeP ps d cx cy ws K.2 :: K.1).length := by rw [List.length_cons]; omega
  have hT2 := hT.stored (j := n * 7 + 4) (u := .slice (some ⟨gq, 0, none⟩) K.2.length cq)
  have hset : ((ys ++ [Value.complex .f32 (F cx) (F cy), .float .f32 (F (hP d wd)), .int .i64 d, .slice A1 ws.length c1, .slice none 0 0, .float .f32 (F (spinP ps ws)), .complex .f32 (F (momX ps cx ws)) (F (momY ps cy ws))]) ++ zs).set (n * 7 + 4) (.slice (some ⟨gq, 0, none⟩) K.2.length cq) =
      ys ++ ([.complex .f32 (F cx) (F cy), .float .f32 (F (hP d wd)), .int .i64 d, .slice A1 ws.length c1, .slice (some ⟨gq, 0, none⟩) K.2.length cq, .float .f32 (F (spinP ps ws)), .complex .f32 (F (momX ps cx ws)) (F (momY ps cy ws))] ++ zs) := by
    rw [List.append_assoc, List.set_append, if_neg (by omega), hyl, show n * 7 + 4 - n * 7 = 4 by omega]
    rfl
  rw [hset] at hT2
  have hFF := (Fr.trans hF0 hF).own_set (r := r7) (off := n * 7 + 4) (u := .slice (some ⟨gq, 0, none⟩) K.2.length cq) rfl
  rw [hlen] at hT2 hFF
  have hgl := hown.lt gq rfl
  have hs0 := hF0.size
  refine ⟨rfl, r7, c7, _, hT2, ?_, hFF, ?_⟩
  · refine NodesAt.append (L := [_]) (ys := [_, _, _, _, _, _, _]) ⟨rfl, fun i nd hn => ?_⟩ (hN.map fun A xs h => h.set_node hb7)
    cases i with
    | zero =>
      simp only [List.getElem?_cons_zero, Option.some.injEq] at hn
      subst hn
      exact ⟨A1, c1, some ⟨gq, 0, none⟩, cq, rfl, rfl, rfl, rfl, rfl, rfl, rfl, hW.set_node hb7, (lies_of_owns hown).1.set_node hb7⟩
    | succ i => simp at hn
  · refine AddrsIn.append (.node (fun hl b o x e => ?_) (fun hl b o x e => ?_)) (hA.mono fun b hb => ⟨.inl hb.1, by simpa using hb.2.1⟩)
    · obtain ⟨b', o', cur', e', hb, -⟩ := hW (by rw [intVals_len]; exact hl)
      rw [e'] at e
      cases e
      exact ⟨.inr ⟨_, e'⟩, by simpa using hb.lt⟩
    · cases e
      exact ⟨.inl (by omega), by simpa using hgl.2⟩
theorem ix0 (a b c d : Value) (w : World) : (Instr.index 132 (.agg #[a, b, c, d]) (.int .i64 0)).run Try.prog w = .ok a w := by kernel_rfl
theorem ix1 (a b c d : Value) (w : World) : (Instr.index 132 (.agg #[a, b, c, d]) (.int .i64 1)).run Try.prog w = .ok b w := by kernel_rfl
theorem ix2 (a b c d : Value) (w : World) : (Instr.index 132 (.agg #[a, b, c, d]) (.int .i64 2)).run Try.prog w = .ok c w := by kernel_rfl
theorem ix3 (a b c d : Value) (w : World) : (Instr.index 132 (.agg #[a, b, c, d]) (.int .i64 3)).run Try.prog w = .ok d w := by kernel_rfl
theorem partsTo_mono (ps : List Wh) (cx cy : Int) (ws : List Nat) (q : Nat) : ∀ k, partsTo ps cx cy ws q ≤ partsTo ps cx cy ws (q + k)
  | 0 => Nat.le_refl _
  | k + 1 => Nat.le_trans (partsTo_mono ps cx cy ws q k) (Nat.le_add_right _ _)
theorem kids_bound {f : Nat} {ps : List Wh} {wd n d : Nat} {cx cy : Int} {ws : List Nat} (h : Pre ps wd ps.length d cx cy ws) (hd : d < 6) (hfd : f + (d + 1) = 6) (hn : n + (f + 2) * ws.length ≤ 1000) (q : Nat) (hq : q < 4) :
    n + 1 + (kidsP (fun b => growP ps wd f b (d + 1)) ps wd n d cx cy ws q).1.length + (f + 1) * (partP ps cx cy ws q).length ≤ 1000 ∧ (kidsP (fun b => growP ps wd f b (d + 1)) ps wd n d cx cy ws q).2.length ≤ q := by
  have hk := kids_ok (base := n) (f := f) h hd (fun b x y us hp => grow_ok f b (d + 1) x y us hfd hp) q
  have h1 := hk.size
  have h2 : partsTo ps cx cy ws (q + 1) ≤ ws.length := by
    rw [← parts_all ps cx cy ws]
    have := partsTo_mono ps cx cy ws (q + 1) (4 - (q + 1))
    rw [show q + 1 + (4 - (q + 1)) = 4 by omega] at this
    exact this
  have h3 : (f + 1) * partsTo ps cx cy ws (q + 1) ≤ (f + 1) * ws.length := Nat.mul_le_mul_left _ h2
  have h4 : (f + 1) * partsTo ps cx cy ws (q + 1) = (f + 1) * partsTo ps cx cy ws q + (f + 1) * (partP ps cx cy ws q).length := Nat.mul_add _ _ _
  have h5 : (f + 2) * ws.length = (f + 1) * ws.length + ws.length := Nat.succ_mul _ _
  have h6 : 0 < ws.length := List.length_pos_iff.2 h.some_
  exact ⟨by omega, hk.few⟩
theorem kids_call {f : Nat} {ps : List Wh} {wd B g n d : Nat} {cx cy : Int} {ws : List Nat} {m s0 : Nat} {Wa wx : World} {V5 : Value} {YS zs : List Value} {q r7 c7 gq cq lb lo lcap : Nat} {K : List Nd × List Nat} {A : Nat → Option Addr} {c : Nat → Nat} {w5s n5 : Nat} {ys5 : List Value}
    (hrec : Grows f ps wd B g lb lo lcap (d + 1)) (hpre : Pre ps wd ps.length d cx cy ws) (hd : d < 6) (hfd : f + (d + 1) = 6) (hn : n + (f + 2) * ws.length ≤ 1000) (hws : ws.length ≤ 12) (hq : q < 4)
    (hm : Wa.heap.size = m + 1) (hs0 : s0 ≤ m) (h0 : (partP ps cx cy ws q).length ≠ 0) (hK : K = kidsP (fun b => growP ps wd f b (d + 1)) ps wd n d cx cy ws q)
    (hown : wx.ownsRow (m + 1) 2 1 (.slice (some ⟨gq, 0, none⟩) K.2.length cq) K.2.length (intVals K.2))
    (hT : Tr wx B g (.slice (some ⟨r7, 0, none⟩) (n + 1 + K.1.length) c7) (n + 1 + K.1.length) (YS ++ zs)) (hN : NodesAt wx wd K.1 zs) (hF : Fr Wa wx g V5 (.slice (some ⟨r7, 0, none⟩) (n + 1 + K.1.length) c7)) (hA : AddrsIn (fun b => s0 ≤ b ∧ b < wx.heap.size ∧ b ≠ gq) zs)
    (hTa : Tr Wa B g V5 n5 ys5) (hLa : Lies Wa 51 (some ⟨lb, lo, none⟩) (whVals ps)) (hPa : Parts Wa w5s ps cx cy ws A c)
    (hAq : ∀ q, q < 4 → ∀ b o, A q = some ⟨b, o, none⟩ → s0 ≤ b ∧ b < m) :
    K.2.length ≤ 3 ∧ n + 1 + K.1.length ≤ 1000 ∧ ∀ wy, Ext wx wy → Calls Try.prog 86 #[.pointer (some ⟨g, 0, none⟩), .slice (some ⟨lb, lo, none⟩) ps.length lcap, .agg #[.complex .f32 (F (cx + sgnP (q % 2) (hP (d + 1) wd))) (F (cy + sgnP (q / 2) (hP (d + 1) wd))), .float .f32 (F (hP (d + 1) wd)), .int .i64 ((d : Int) + 1), .slice (A q) (partN ps cx cy ws q) (c q), .slice none 0 0, .float .f32 0, .complex .f32 0 0]] wy fun e w2 =>
      e = .returned (.int .i64 ((n + 1 + K.1.length : Nat) : Int)) ∧ w2.ownsRow (m + 1) 2 1 (.slice (some ⟨gq, 0, none⟩) K.2.length cq) K.2.length (intVals K.2) ∧ m + 1 ≤ w2.heap.size ∧
      ∀ x g3 c3 w6, w6.ownsRow (m + 1) 2 1 (.slice (some ⟨g3, 0, none⟩) (K.2.length + 1) c3) (K.2.length + 1) (intVals K.2 ++ [.int .i64 ((n + 1 + K.1.length : Nat) : Int)]) →
        (w2.alloc (.cells #[x] 2)).grownBy w6 (some gq) → (some gq = some g3 ∨ g3 = (w2.alloc (.cells #[x] 2)).heap.size) →
        KidsRel f ps wd B g n d cx cy ws m s0 Wa V5 YS (q + 1) (.slice (some ⟨g3, 0, none⟩) (K.2.length + 1) c3) w6 := by
  obtain ⟨hb1, hb2⟩ := kids_bound hpre hd hfd hn q hq
  rw [← hK] at hb1 hb2
  refine ⟨by omega, by omega, fun wy hxy => ?_⟩
  have hs := hxy.size
  have hTy := hT.ext hxy
  have hFy := Fr.trans hF (Fr.of_ext g _ hxy)
  have howny : wy.ownsRow (m + 1) 2 1 (.slice (some ⟨gq, 0, none⟩) K.2.length cq) K.2.length (intVals K.2) := hown.kept (row := none) ⟨hxy.os, hxy.tape, hxy.output, hxy.size, fun k hk _ => hxy.block k hk⟩ (.inr (by simp [Value.ownBlock]))
  refine (hrec r7 c7 (n + 1 + K.1.length) _ _ (partP ps cx cy ws q) (YS ++ zs) (A q) (c q) wy (hpre.kid hd q h0) hTy (hLa.fr hTa hFy (by decide) (by decide)) ((hPa.lies hq).fr hTa hFy (by decide) (by decide)) hb1 (Nat.le_trans (List.length_filter_le _ _) hws)).mono ?_
  intro e w2 hpost
  have hpost' := hpost
  obtain ⟨he, r', cp', zs', pT, pN, pF, pA⟩ := hpost'
  refine ⟨he, ownsRow_fr howny hTy pF (by decide) (by decide), ?_, fun x g3 c3 w6 ho hg hat => ?_⟩
  · have h1 := hFy.size; have h2 := pF.size; omega
  · exact kids_push hm h0 hK howny hTy (hN.map fun A xs h => h.ext hxy) hFy (hA.mono fun b hb => ⟨hb.1, by omega, hb.2.2⟩) (hAq q hq) hs0 hpost ho hg hat
end Go.Proofs.Ytfehhbmmdbpdpaa
/- Walks: a node that is parted in quarters. -/
namespace Go.Proofs.Ytfehhbmmdbpdpaa
open Go Go.RowKit
set_option linter.unusedVariables false
set_option linter.unusedSimpArgs false
attribute [local go_sem] run_store_float run_store_complex

set_option maxRecDepth 100000 in
set_option maxHeartbeats 1600000 in
theorem growBranch_any (f : Nat) (ps : List Wh) (wd B g r cp n d : Nat) (cx cy : Int) (ws : List Nat) (ys : List Value) (lb lo lcap : Nat) (A1 : Option Addr) (c1 : Nat) (w : World) (hps : OkPs ps) (hpre : Pre ps wd ps.length d cx cy ws)
    (hT : Tr w B g (.slice (some ⟨r, 0, none⟩) n cp) n ys) (hL : Lies w 51 (some ⟨lb, lo, none⟩) (whVals ps)) (hW : Lies w 2 A1 (intVals ws)) (hn : n + (f + 2) * ws.length ≤ 1000) (hws : ws.length ≤ 12)
    (hrec : Grows f ps wd B g lb lo lcap (d + 1)) (hleaf : ¬ (ws.length ≤ 3 ∨ wd = 0)) (hwd : wd ≤ 32) (hd : d < 6) (hfd : f + (d + 1) = 6) :
    Calls Try.prog 86 #[.pointer (some ⟨g, 0, none⟩), .slice (some ⟨lb, lo, none⟩) ps.length lcap, .agg (handed wd d cx cy ws.length A1 c1 0 0 0)] w (GrowPost wd B g r cp n A1 w ys (growP ps wd (f + 1) n d cx cy ws)) := by
  have HPS := Lib.hid hps
  have HPRE := Lib.hid hpre
  have HT := Lib.hid hT
  have HL := Lib.hid hL
  have HW := Lib.hid hW
  have HN := Lib.hid hn
  have HWS := Lib.hid hws
  have HREC := Lib.hid hrec
  have HLEAF := Lib.hid (show ¬ ws.length ≤ 3 ∧ wd ≠ 0 by omega)
  have HFD := Lib.hid hfd
  have HWD := Lib.hid hwd
  have HD := Lib.hid hd
  obtain ⟨i1, hi1, jz0, jz1, jz2⟩ := parts_of infoW
  have hz1 : (Value.agg #[.complex .f32 0 0, .float .f32 0]).cells.size = 2 := by decide
  have hg0 : w.cell? ⟨g, 0, none⟩ = some (.slice (some ⟨r, 0, none⟩) n cp) := hT.var.cell 0
  have HBX := Lib.hid (Blk.new w 49 (handed wd d cx cy ws.length A1 c1 0 0 0))
  have HE0 := Lib.hid (show Ext w (w.alloc (.cells (handed wd d cx cy ws.length A1 c1 0 0 0) 49)) by (repeat first | with_reducible exact Ext.rfl' _ | with_reducible refine Ext.drewN ?_ _ | with_reducible refine Ext.drew' ?_ | with_reducible refine Ext.alloc' ?_ _ | with_reducible refine Ext.setCell_at ?_ _ _ _ (by first | exact Nat.le_refl _ | omega) | with_reducible assumption | refine Ext.trans ?_ (by with_reducible assumption)))
  clear hps hpre hT hL hW hn hws hleaf hwd hd hrec hfd
  unfold handed at *
  go_enter Try.func86, Try.ntmps86
  go_wp2_with fail
  have hown : ((w.alloc (.cells #[.complex .f32 (F cx) (F cy), .float .f32 (F (hP d wd)), .int .i64 d, .slice A1 ws.length c1, .slice none 0 0, .float .f32 0, .complex .f32 0 0] 49)).alloc (.cells #[] 51)).ownsRow (w.heap.size + 1) 51 2 (.slice (some ⟨w.heap.size + 1, 0, none⟩) 0 0) 0 [] := by
    have := World.ownsRow_made (base := w.heap.size + 1) (e := 51) (size := 2) (w.alloc (.cells #[.complex .f32 (F cx) (F cy), .float .f32 (F (hP d wd)), .int .i64 d, .slice A1 ws.length c1, .slice none 0 0, .float .f32 0, .complex .f32 0 0] 49)) #[] 0 (by simp) (by decide) rfl
    simpa using this
  have HOWN := Lib.hid hown
  have HE1 := Lib.hid (show Ext (w.alloc (.cells #[.complex .f32 (F cx) (F cy), .float .f32 (F (hP d wd)), .int .i64 d, .slice A1 ws.length c1, .slice none 0 0, .float .f32 0, .complex .f32 0 0] 49)) ((w.alloc (.cells #[.complex .f32 (F cx) (F cy), .float .f32 (F (hP d wd)), .int .i64 d, .slice A1 ws.length c1, .slice none 0 0, .float .f32 0, .complex .f32 0 0] 49)).alloc (.cells #[] 51)) by (repeat first | with_reducible exact Ext.rfl' _ | with_reducible refine Ext.drewN ?_ _ | with_reducible refine Ext.drew' ?_ | with_reducible refine Ext.alloc' ?_ _ | with_reducible refine Ext.setCell_at ?_ _ _ _ (by first | exact Nat.le_refl _ | omega) | with_reducible assumption | refine Ext.trans ?_ (by with_reducible assumption)))
  clear hown hg0
  generalize hw0 : w.alloc (.cells #[.complex .f32 (F cx) (F cy), .float .f32 (F (hP d wd)), .int .i64 d, .slice A1 ws.length c1, .slice none 0 0, .float .f32 0, .complex .f32 0 0] 49) = W0 at *
  have hs0 : W0.heap.size = w.heap.size + 1 := by rw [← hw0]; simp
  have HS0 := Lib.hid hs0
  clear hw0 hs0
  generalize W0.alloc (.cells #[] 51) = W1 at *
  go_loopw [7, 25] (fun v i wr => ∃ (k gg cq : Nat), k ≤ ws.length ∧ i = .int .i64 k ∧ v = .slice (some ⟨gg, 0, none⟩) k cq ∧ wr.ownsRow (w.heap.size + 1) 51 2 v k (whVals ((ws.take k).map (atW ps))) ∧ Ext W0 wr) (fun _ i _ => ws.length - (intOf i).toNat)
  case atStart => exact ⟨0, w.heap.size + 1, 0, Nat.zero_le _, rfl, rfl, HOWN.out, HE1.out⟩
  case round =>
    obtain ⟨k, gg, cq, hk, rfl, rfl, hown, hbel⟩ := hrel
    have HOW := Lib.hid hown
    have HE := Lib.hid hbel
    clear hown hbel HOWN HE1
    have hk9 : k < 9223372036854775807 := by have := HWS.out; omega
    by_cases hlt : k < ws.length
    · obtain ⟨j, hj⟩ : ∃ j, ws[k]? = some j := ⟨ws[k], List.getElem?_eq_getElem hlt⟩
      have hjN : j < ps.length := HPRE.out.below j (List.mem_of_getElem? hj)
      have hjI : (j : Int) < (ps.length : Int) := by omega
      obtain ⟨b1, o1, rfl, hb1, hc1⟩ := HW.out.cell (by rw [intVals_len]; omega)
      obtain ⟨b2, o2, hA2, hb2, hc2⟩ := HL.out.cell (by rw [whVals_len]; omega)
      simp only [Option.some.injEq, Addr.mk.injEq, and_true] at hA2
      obtain ⟨rfl, rfl⟩ := hA2
      have hEw : Ext w wr := Ext.trans HE0.out HE.out
      have d0 := (hEw.cell (p := ⟨b1, o1 + k, none⟩) hb1).trans (hc1 _ _ (intVals_at ws k j hj))
      obtain ⟨v1, v2⟩ := whVals_at ps j _ (HPS.out.at hjN).2
      have d1 := (hEw.cell (p := ⟨lb, lo + j * 2, none⟩) hb2).trans (hc2 _ _ v1)
      have d2 := (hEw.cell (p := ⟨lb, lo + j * 2 + 1, none⟩) hb2).trans (hc2 _ _ v2)
      have HEW := Lib.hid hEw
      have HJ := Lib.hid hj
      clear hc1 hc2 v1 v2 hEw hj
      go_wp2_with (first | (at_builtin; refine Stand.of ?_))
      refine Stand.out ?_
      refine wpList_append_lies _ rfl _ _ 38 rfl (w.heap.size + 1) 51 i1 _ 2 12 under_whirls hi1 jz0 jz1 jz2 hz1 (by omega) (.slice (some ⟨gg, 0, none⟩) k cq) k _ rfl (HOW.out.alloc _) ⟨wr.heap.size, 0, none⟩ 1 1 [.complex .f32 (F (atW ps j).1) (F (atW ps j).2.1), .float .f32 (F (atW ps j).2.2)] rfl rfl (World.news_of_block (cs := #[.complex .f32 (F (atW ps j).1) (F (atW ps j).2.1), .float .f32 (F (atW ps j).2.2)]) (t := 51) (fr := (0, 0)) (heap_alloc_new wr _)) (by simp [Value.oneCell']) (by omega) (by have := HWS.out; unfold maxLen; omega) (by have := HWS.out; omega) (by have := HE.out.size; have := HS0.out; simp; omega) _ rfl ?_
      intro g2 c2 w6 hown6 hgrow hat hlt6
      have hgl := HOW.out.lt
      have e6 : Ext W0 w6 := Ext.grown (Ext.trans HE.out (Ext.alloc' (Ext.rfl' wr) _)) hgrow (fun k hk => by have := (hgl k hk).1; have := HS0.out; omega)
      have HE6 := Lib.hid e6
      have HO6 := Lib.hid hown6
      clear hown6 hgrow hat hlt6 hgl e6 d0 d1 d2
      go_wp2_with fail
      refine ⟨⟨k + 1, g2, c2, by omega, by go_num, rfl, ?_, HE6.out⟩, by simp [intOf]; omega⟩
      obtain ⟨hk', hjj⟩ := List.getElem?_eq_some_iff.1 HJ.out
      rw [List.take_succ_eq_append_getElem hk', List.map_append, whVals_append, hjj]
      exact HO6.out
    · have hkl : k = ws.length := by omega
      subst hkl
      rw [List.take_length] at HOW
      have HL3 := Lib.hid (lies_of_owns HOW.out).1
      have HEW := Lib.hid (Ext.trans HE0.out HE.out)
      have HB2 := Lib.hid (HBX.out.ext HE.out)
      have b0 : wr.cell? ⟨w.heap.size, 0, none⟩ = some (.complex .f32 (F cx) (F cy)) := HB2.out.cell 0
      go_wp2_with fail
      refine (moments_n (some ⟨gg, 0, none⟩) cq ws.length (ws.map (atW ps)) cx cy (by simp) _ HL3.out HWS.out (HPS.out.map HPRE.out.below) (by have := HPRE.out.bx; omega) (by have := HPRE.out.by_; omega) HPRE.out.ex HPRE.out.ey).mono ?_
      rintro e w2 ⟨he2, rfl⟩
      rw [← spinP_L, ← momX_L, ← momY_L]
      have HE2 := Lib.hid (Ext.trans HEW.out he2)
      have HB3 := Lib.hid (HB2.out.ext he2)
      have HT2 := Lib.hid (HT.out.ext HE2.out)
      have b5 : w2.cell? ⟨w.heap.size, 5, none⟩ = some (.float .f32 0) := HB3.out.cell 5
      have b6 : w2.cell? ⟨w.heap.size, 6, none⟩ = some (.complex .f32 0 0) := HB3.out.cell 6
      have f5 := HB3.out.frozen 5
      have f6 := HB3.out.frozen 6
      have g0 : w2.cell? ⟨g, 0, none⟩ = some (.slice (some ⟨r, 0, none⟩) n cp) := HT2.out.var.cell 0
      have hgl : g < w.heap.size := HT.out.var.lt
      have hgn : ¬ g = w.heap.size := by omega
      have hgn' : ¬ w.heap.size = g := by omega
      clear he2 b0 HL3 HOW HE HB2
      go_upto_region 9 with fail
      have HB4 := Lib.hid (show Blk ((w2.setCell ⟨w.heap.size, 5, none⟩ (.float .f32 (F (spinP ps ws)))).setCell ⟨w.heap.size, 6, none⟩ (.complex .f32 (F (momX ps cx ws)) (F (momY ps cy ws)))) w.heap.size 49 (handed wd d cx cy ws.length A1 c1 (F (spinP ps ws)) (F (momX ps cx ws)) (F (momY ps cy ws))) from by
        have := (HB3.out.set_ 5 (.float .f32 (F (spinP ps ws)))).set_ 6 (.complex .f32 (F (momX ps cx ws)) (F (momY ps cy ws)))
        exact this)
      have HE4 := Lib.hid (show Ext w ((w2.setCell ⟨w.heap.size, 5, none⟩ (.float .f32 (F (spinP ps ws)))).setCell ⟨w.heap.size, 6, none⟩ (.complex .f32 (F (momX ps cx ws)) (F (momY ps cy ws)))) from Ext.setCell_at (Ext.setCell_at HE2.out _ _ _ (Nat.le_refl _)) _ _ _ (Nat.le_refl _))
      clear b5 b6 f5 f6 g0 HB3 HE2 HT2
      generalize (w2.setCell ⟨w.heap.size, 5, none⟩ (.float .f32 (F (spinP ps ws)))).setCell ⟨w.heap.size, 6, none⟩ (.complex .f32 (F (momX ps cx ws)) (F (momY ps cy ws))) = W4 at *
      have HT4 := Lib.hid (HT.out.ext HE4.out)
      have g0 : W4.cell? ⟨g, 0, none⟩ = some (.slice (some ⟨r, 0, none⟩) n cp) := HT4.out.var.cell 0
      have gf := HT4.out.var.frozen 0
      have k0 : W4.cell? ⟨w.heap.size, 0, none⟩ = some (.complex .f32 (F cx) (F cy)) := HB4.out.cell 0
      have k1 : W4.cell? ⟨w.heap.size, 1, none⟩ = some (.float .f32 (F (hP d wd))) := HB4.out.cell 1
      have k2 : W4.cell? ⟨w.heap.size, 2, none⟩ = some (.int .i64 d) := HB4.out.cell 2
      have k3 : W4.cell? ⟨w.heap.size, 3, none⟩ = some (.slice A1 ws.length c1) := HB4.out.cell 3
      have k4 : W4.cell? ⟨w.heap.size, 4, none⟩ = some (.slice none 0 0) := HB4.out.cell 4
      have k5 : W4.cell? ⟨w.heap.size, 5, none⟩ = some (.float .f32 (F (spinP ps ws))) := HB4.out.cell 5
      have k6 : W4.cell? ⟨w.heap.size, 6, none⟩ = some (.complex .f32 (F (momX ps cx ws)) (F (momY ps cy ws))) := HB4.out.cell 6
      have z1 : w.heap.size < W4.heap.size := HB4.out.lt
      have z2 : g < W4.heap.size := HT4.out.var.lt
      obtain ⟨i2, hi2, nz0, nz1, nz2⟩ := parts_of infoN
      have hz2 : (Value.agg #[.complex .f32 0 0, .float .f32 0, .int .i64 0, .slice none 0 0, .slice none 0 0, .float .f32 0, .complex .f32 0 0]).cells.size = 7 := by decide
      have hrl : r < w.heap.size := (HT.out.row.lt r rfl).2
      go_cut [] (fun wx => ∃ g2 cp2, Tr wx B g (.slice (some ⟨g2, 0, none⟩) (n + 1) cp2) (n + 1) (ys ++ [.complex .f32 (F cx) (F cy), .float .f32 (F (hP d wd)), .int .i64 d, .slice A1 ws.length c1, .slice none 0 0, .float .f32 (F (spinP ps ws)), .complex .f32 (F (momX ps cx ws)) (F (momY ps cy ws))]) ∧ Fr W4 wx g (.slice (some ⟨r, 0, none⟩) n cp) (.slice (some ⟨g2, 0, none⟩) (n + 1) cp2) ∧ (g2 = r ∨ W4.heap.size ≤ g2))
      case first =>
        go_region_law (first
          | (refine step_append_lies _ (by rfl) _ _ _ (by rfl) B 49 i2 _ 7 88 under_nodes hi2 nz0 nz1 nz2 hz2 (by omega) (.slice (some ⟨r, 0, none⟩) n cp) n ys (by rfl) ((show W4.drew.ownsRow _ _ _ _ _ _ from HT4.out.row).alloc _) ⟨W4.heap.size, 0, none⟩ 1 1 [.complex .f32 (F cx) (F cy), .float .f32 (F (hP d wd)), .int .i64 d, .slice A1 ws.length c1, .slice none 0 0, .float .f32 (F (spinP ps ws)), .complex .f32 (F (momX ps cx ws)) (F (momY ps cy ws))] (by rfl) rfl (World.news_of_block (cs := #[.complex .f32 (F cx) (F cy), .float .f32 (F (hP d wd)), .int .i64 d, .slice A1 ws.length c1, .slice none 0 0, .float .f32 (F (spinP ps ws)), .complex .f32 (F (momX ps cx ws)) (F (momY ps cy ws))]) (t := 49) (fr := (0, 0)) (heap_alloc_new W4.drew _)) (by simp [Value.oneCell']) (by omega) (by have := HN.out; unfold maxLen; omega) (by have := HN.out; omega) (by have := HT4.out.base; (try simp only [World.size_alloc, World.size_drew]); omega) _ rfl ?_; intro g2 cp2 w6 hown6 hgrow hat hlt6; have HGR := Lib.hid hgrow; have HAT := Lib.hid hat; have HO6 := Lib.hid hown6; (have gv6 : Blk w6 g 40 #[.slice (some ⟨r, 0, none⟩) n cp] := (hgrow.block g (by simp; omega) (fun e => (HT4.out.apart_own e).elim)).trans (show Blk _ _ _ _ from (show Blk W4.drew _ _ _ from HT4.out.var).alloc _)); have HGV := Lib.hid gv6; (have c6 : w6.cell? ⟨g, 0, none⟩ = some (.slice (some ⟨r, 0, none⟩) n cp) := gv6.cell 0); (have cf6 := gv6.frozen 0); clear hown6 hgrow hat hlt6 gv6 g0 gf))
        all_goals
          go_wp2_with fail
          go_meet
          case rel =>
            obtain ⟨p1, p2⟩ := HT4.out.pushed (W' := W4.drew.alloc (.cells #[.complex .f32 (F cx) (F cy), .float .f32 (F (hP d wd)), .int .i64 d, .slice A1 ws.length c1, .slice none 0 0, .float .f32 (F (spinP ps ws)), .complex .f32 (F (momX ps cx ws)) (F (momY ps cy ws))] 49)) (by (repeat first | with_reducible exact Ext.rfl' _ | with_reducible refine Ext.drewN ?_ _ | with_reducible refine Ext.drew' ?_ | with_reducible refine Ext.alloc' ?_ _ | with_reducible refine Ext.setCell_at ?_ _ _ _ (by first | exact Nat.le_refl _ | omega) | with_reducible assumption | refine Ext.trans ?_ (by with_reducible assumption))) HGR.out HO6.out HAT.out
            refine ⟨g2, cp2, p1, p2, ?_⟩
            rcases HAT.out with e | e
            · simp only [Value.ownBlock, Option.some.injEq] at e; exact .inl e.symm
            · exact .inr (by rw [e]; simp)
      case rest =>
        obtain ⟨g2, cp2, hT5, hF5, hg2⟩ := hcut
        rename World => w5
        have HT5 := Lib.hid hT5
        have HF5 := Lib.hid (Fr.trans (Fr.of_ext g (.slice (some ⟨r, 0, none⟩) n cp) HE4.out) hF5)
        have HB5 := Lib.hid (HB4.out.fr hF5 hgn' (by simp [Value.ownBlock]; omega))
        have HG2 := Lib.hid (show g2 ≠ w.heap.size by omega)
        have HW5 := Lib.hid (HW.out.fr HT.out HF5.out (by decide) (by decide))
        have HL5 := Lib.hid (HL.out.fr HT.out HF5.out (by decide) (by decide))
        have e1 : w5.cell? ⟨w.heap.size, 1, none⟩ = some (.float .f32 (F (hP d wd))) := HB5.out.cell 1
        have e2 : w5.cell? ⟨w.heap.size, 2, none⟩ = some (.int .i64 d) := HB5.out.cell 2
        have e3 : w5.cell? ⟨w.heap.size, 3, none⟩ = some (.slice A1 ws.length c1) := HB5.out.cell 3
        have hgt : fcmp .gtr .f32 (F (hP d wd)) 0 = decide (0 < hP d wd) := by
          rw [← F_zero .f32]
          exact F_cmp .f32 .gtr _ 0 (by have := HPRE.out.bx; omega) (by decide)
        clear hT5 hF5 hg2 HE4 HB4 k0 k1 k2 k3 k4 k5 k6 z1 z2 g0 gf HT4
        have hz5 : w.heap.size < w5.heap.size := HB5.out.lt
        have q1 : ¬ (ws.length : Int) ≤ 3 := by have := HLEAF.out.1; omega
        have q2 : ¬ (6 : Int) ≤ (d : Int) := by have := HD.out; omega
        have hgf : fcmp .gtr .f32 (F (hP d wd)) 0 = true := by
          rw [hgt]
          refine decide_eq_true ?_
          unfold hP
          have h1 : 0 < 2 ^ (7 - d) * wd := Nat.mul_pos (Nat.two_pow_pos _) (by have := HLEAF.out.2; omega)
          omega
        clear hgt
        go_wp2_with (first | (refine wpList_fcmpD rfl .gtr _ _ _ _ rfl rfl _ _ _ rfl rfl _ hgf ?_))
        have hP6 : Blk (w5.alloc (.cells #[.slice none 0 0, .slice none 0 0, .slice none 0 0, .slice none 0 0] 132)) w5.heap.size 132 (partsArr ps cx cy [] (fun _ => none) (fun _ => 0)) := Blk.new _ _ _
        have HP6 := Lib.hid hP6
        have HE6 := Lib.hid (show Ext w5 (w5.alloc (.cells #[.slice none 0 0, .slice none 0 0, .slice none 0 0, .slice none 0 0] 132)) by (repeat first | with_reducible exact Ext.rfl' _ | with_reducible refine Ext.drewN ?_ _ | with_reducible refine Ext.drew' ?_ | with_reducible refine Ext.alloc' ?_ _ | with_reducible refine Ext.setCell_at ?_ _ _ _ (by first | exact Nat.le_refl _ | omega) | with_reducible assumption | refine Ext.trans ?_ (by with_reducible assumption)))
        clear hP6 e1 e2 e3 hz5
        generalize (w5.alloc (.cells #[.slice none 0 0, .slice none 0 0, .slice none 0 0, .slice none 0 0] 132)) = W6 at *
        obtain ⟨ii, hii, iz0, iz1, iz2⟩ := parts_of infoI
        have hzi : (Value.int .i64 0).cells.size = 1 := by decide
        go_loopw [78] (fun i wr => ∃ (k : Nat) (A : Nat → Option Addr) (c : Nat → Nat), k ≤ ws.length ∧ i = .int .i64 k ∧ Blk wr w5.heap.size 132 (partsArr ps cx cy (ws.take k) A c) ∧ Parts wr w5.heap.size ps cx cy (ws.take k) A c ∧ Ext w5 wr) (fun i _ => ws.length - (intOf i).toNat)
        case atStart => exact ⟨0, _, _, Nat.zero_le _, rfl, HP6.out, Parts.nil _ _ _ _ _, HE6.out⟩
        case round =>
          obtain ⟨k, A, c, hk, rfl, hblk, hparts, hbel⟩ := hrel
          have HPB := Lib.hid hblk
          have HPA := Lib.hid hparts
          have HE := Lib.hid hbel
          clear hblk hparts hbel HP6 HE6
          have hk9 : k < 9223372036854775807 := by have := HWS.out; omega
          by_cases hlt : k < ws.length
          · obtain ⟨j, hj⟩ : ∃ j, ws[k]? = some j := ⟨ws[k], List.getElem?_eq_getElem hlt⟩
            have hjN : j < ps.length := HPRE.out.below j (List.mem_of_getElem? hj)
            have hjI : (j : Int) < (ps.length : Int) := by omega
            obtain ⟨b1, o1, rfl, hb1, hc1⟩ := HW5.out.cell (by rw [intVals_len]; omega)
            obtain ⟨b2, o2, hA2, hb2, hc2⟩ := HL5.out.cell (by rw [whVals_len]; omega)
            simp only [Option.some.injEq, Addr.mk.injEq, and_true] at hA2
            obtain ⟨rfl, rfl⟩ := hA2
            have d0 := (HE.out.cell (p := ⟨b1, o1 + k, none⟩) hb1).trans (hc1 _ _ (intVals_at ws k j hj))
            obtain ⟨v1, v2⟩ := whVals_at ps j _ (HPS.out.at hjN).2
            have d1 := (HE.out.cell (p := ⟨lb, lo + j * 2, none⟩) hb2).trans (hc2 _ _ v1)
            have HBR := Lib.hid (HB5.out.ext HE.out)
            have x0 : wr.cell? ⟨w.heap.size, 0, none⟩ = some (.complex .f32 (F cx) (F cy)) := HBR.out.cell 0
            have x3 : wr.cell? ⟨w.heap.size, 3, none⟩ = some (.slice (some ⟨b1, o1, none⟩) ws.length c1) := HBR.out.cell 3
            have hterm := ((HPS.out.at hjN).1).term (c := 0) (by decide) (by decide)
            have hbx := HPRE.out.bx
            have hby := HPRE.out.by_
            have f1 := F_cmp .f32 .geq (atW ps j).1 cx (by omega) (by omega)
            have f2 := F_cmp .f32 .geq (atW ps j).2.1 cy (by omega) (by omega)
            dsimp only at f1 f2
            obtain ⟨bb1, hbb1⟩ : ∃ b, decide (cx ≤ (atW ps j).1) = b := ⟨_, rfl⟩
            obtain ⟨bb2, hbb2⟩ : ∃ b, decide (cy ≤ (atW ps j).2.1) = b := ⟨_, rfl⟩
            rw [hbb1] at f1
            rw [hbb2] at f2
            have h17 : (FloatKind.f32.format.order (F (atW ps j).1) (F cx) == some Ordering.gt || FloatKind.f32.format.order (F (atW ps j).1) (F cx) == some Ordering.eq) = bb1 := by
              exact f1
            have h19 : (FloatKind.f32.format.order (F (atW ps j).2.1) (F cy) == some Ordering.gt || FloatKind.f32.format.order (F (atW ps j).2.1) (F cy) == some Ordering.eq) = bb2 := by
              exact f2
            obtain ⟨q, hq⟩ : ∃ q : Nat, q = (if bb1 = true then 1 else 0) + (if bb2 = true then 2 else 0) := ⟨_, rfl⟩
            have hqq : quadP ps cx cy j = q := by
              unfold quadP; rw [hq, ← hbb1, ← hbb2]; simp
            have hq4 : q < 4 := by rw [hq]; split <;> split <;> omega
            have pq : wr.cell? ⟨w5.heap.size, q, none⟩ = some (.slice (A q) (partN ps cx cy (ws.take k) q) (c q)) := by
              rcases (by omega : q = 0 ∨ q = 1 ∨ q = 2 ∨ q = 3) with rfl | rfl | rfl | rfl
              · exact HPB.out.cell 0
              · exact HPB.out.cell 1
              · exact HPB.out.cell 2
              · exact HPB.out.cell 3
            have pf := HPB.out.frozen q
            have hpn : partN ps cx cy (ws.take k) q ≤ 12 := by
              refine Nat.le_trans (List.length_filter_le _ _) ?_
              rw [List.length_take]
              have := HWS.out
              omega
            have hlw : w.heap.size < wr.heap.size := HBR.out.lt
            have hl5 : w5.heap.size < wr.heap.size := HPB.out.lt
            have HJ := Lib.hid hj
            have HQ := Lib.hid hqq
            have H17 := Lib.hid h17
            have H19 := Lib.hid h19
            clear h17 h19
            clear hc1 hc2 v1 v2 hj hterm hbx hby f1 f2 hbb1 hbb2 hqq
            cases bb1 <;> cases bb2
            all_goals
              first | (obtain rfl : q = 0 := hq) | (obtain rfl : q = 1 := hq) | (obtain rfl : q = 2 := hq) | (obtain rfl : q = 3 := hq)
              go_wp2_with fail
              go_still (by kernel_rfl)
              rw [H17.out, show ({ heap := wr.heap, tape := wr.tape, drawn := wr.drawn + 1, os := wr.os, output := wr.output } : World) = wr.drew from rfl]
              have HEd := Lib.hid (show Ext w5 wr.drew from Ext.trans HE.out (by (repeat first | with_reducible exact Ext.rfl' _ | with_reducible refine Ext.drewN ?_ _ | with_reducible refine Ext.drew' ?_ | with_reducible refine Ext.alloc' ?_ _ | with_reducible refine Ext.setCell_at ?_ _ _ _ (by first | exact Nat.le_refl _ | omega) | with_reducible assumption | refine Ext.trans ?_ (by with_reducible assumption))))
              have HPBd := Lib.hid (show Blk wr.drew w5.heap.size 132 (partsArr ps cx cy (ws.take k) A c) from HPB.out)
              have HPAd := Lib.hid (show Parts wr.drew w5.heap.size ps cx cy (ws.take k) A c from HPA.out.ext (by (repeat first | with_reducible exact Ext.rfl' _ | with_reducible refine Ext.drewN ?_ _ | with_reducible refine Ext.drew' ?_ | with_reducible refine Ext.alloc' ?_ _ | with_reducible refine Ext.setCell_at ?_ _ _ _ (by first | exact Nat.le_refl _ | omega) | with_reducible assumption | refine Ext.trans ?_ (by with_reducible assumption))))
              have HBRd := Lib.hid (show Blk wr.drew w.heap.size 49 _ from HBR.out)
              have d1' : wr.drew.cell? ⟨lb, lo + j * 2, none⟩ = _ := d1
              have x0' : wr.drew.cell? ⟨w.heap.size, 0, none⟩ = _ := x0
              have pq' : wr.drew.cell? ⟨w5.heap.size, _, none⟩ = _ := pq
              have hlw' : w.heap.size < wr.drew.heap.size := hlw
              have hl5' : w5.heap.size < wr.drew.heap.size := hl5
              clear d0 d1 x0 x3 pq pf hlw hl5 HE HPB HPA HBR
              generalize wr.drew = W7 at *
              go_wp2_with fail
              go_still (by kernel_rfl)
              rw [H19.out, show ({ heap := W7.heap, tape := W7.tape, drawn := W7.drawn + 1, os := W7.os, output := W7.output } : World) = W7.drew from rfl]
              have HEe := Lib.hid (show Ext w5 W7.drew from Ext.trans HEd.out (by (repeat first | with_reducible exact Ext.rfl' _ | with_reducible refine Ext.drewN ?_ _ | with_reducible refine Ext.drew' ?_ | with_reducible refine Ext.alloc' ?_ _ | with_reducible refine Ext.setCell_at ?_ _ _ _ (by first | exact Nat.le_refl _ | omega) | with_reducible assumption | refine Ext.trans ?_ (by with_reducible assumption))))
              have HPBe := Lib.hid (show Blk W7.drew w5.heap.size 132 (partsArr ps cx cy (ws.take k) A c) from HPBd.out)
              have HPAe := Lib.hid (show Parts W7.drew w5.heap.size ps cx cy (ws.take k) A c from HPAd.out.ext (by (repeat first | with_reducible exact Ext.rfl' _ | with_reducible refine Ext.drewN ?_ _ | with_reducible refine Ext.drew' ?_ | with_reducible refine Ext.alloc' ?_ _ | with_reducible refine Ext.setCell_at ?_ _ _ _ (by first | exact Nat.le_refl _ | omega) | with_reducible assumption | refine Ext.trans ?_ (by with_reducible assumption))))
              have pq2 : W7.drew.cell? ⟨w5.heap.size, _, none⟩ = _ := pq'
              have hl52 : w5.heap.size < W7.drew.heap.size := hl5'
              clear d1' x0' pq' hlw' hl5' HEd HPBd HPAd HBRd
              generalize W7.drew = W8 at *
              go_wp2_with (first | (at_builtin; refine Stand.of ?_))
              refine Stand.out ?_
              have HRW := Lib.hid (HPAe.out.row _ hq4)
              refine wpList_append_lies _ rfl _ _ 43 rfl w5.heap.size 2 ii _ 1 8 under_ints hii iz0 iz1 iz2 hzi (by omega) _ _ _ rfl (HRW.out.alloc _) ⟨W8.heap.size, 0, none⟩ 1 1 [.int .i64 j] rfl rfl (World.news_of_block (cs := #[.int .i64 j]) (t := 2) (fr := (0, 0)) (heap_alloc_new W8 _)) (by simp [Value.oneCell']) (by omega) (by unfold maxLen; omega) (by omega) (by simp; omega) _ rfl ?_
              intro g2 c2 w6 hown6 hgrow hat hlt6
              have HPB6 := Lib.hid (show Blk w6 w5.heap.size 132 (partsArr ps cx cy (ws.take k) A c) from (hgrow.block w5.heap.size (by simp; omega) (owns_apart HRW.out HPBe.out (by decide))).trans (HPBe.out.alloc _))
              have HPA6 := Lib.hid ((HPAe.out.ext (by (repeat first | with_reducible exact Ext.rfl' _ | with_reducible refine Ext.drewN ?_ _ | with_reducible refine Ext.drew' ?_ | with_reducible refine Ext.alloc' ?_ _ | with_reducible refine Ext.setCell_at ?_ _ _ _ (by first | exact Nat.le_refl _ | omega) | with_reducible assumption | refine Ext.trans ?_ (by with_reducible assumption)))).push j _ g2 c2 hq4 HQ.out hown6 hgrow hat)
              have HE6 := Lib.hid (Ext.grown (Ext.trans HEe.out (by (repeat first | with_reducible exact Ext.rfl' _ | with_reducible refine Ext.drewN ?_ _ | with_reducible refine Ext.drew' ?_ | with_reducible refine Ext.alloc' ?_ _ | with_reducible refine Ext.setCell_at ?_ _ _ _ (by first | exact Nat.le_refl _ | omega) | with_reducible assumption | refine Ext.trans ?_ (by with_reducible assumption)))) hgrow (fun k hk => (HRW.out.lt k hk).1))
              clear hown6 hgrow hat hlt6 pq2 hl52
              have c60 : w6.cell? ⟨w5.heap.size, 0, none⟩ = some (partV ps cx cy (ws.take k) A c 0) := HPB6.out.cell 0
              have c61 : w6.cell? ⟨w5.heap.size, 1, none⟩ = some (partV ps cx cy (ws.take k) A c 1) := HPB6.out.cell 1
              have c62 : w6.cell? ⟨w5.heap.size, 2, none⟩ = some (partV ps cx cy (ws.take k) A c 2) := HPB6.out.cell 2
              have c63 : w6.cell? ⟨w5.heap.size, 3, none⟩ = some (partV ps cx cy (ws.take k) A c 3) := HPB6.out.cell 3
              have f60 := HPB6.out.frozen 0
              have f61 := HPB6.out.frozen 1
              have f62 := HPB6.out.frozen 2
              have f63 := HPB6.out.frozen 3
              go_wp2_with fail
              obtain ⟨hk', hjj⟩ := List.getElem?_eq_some_iff.1 HJ.out
              have htk : ws.take (k + 1) = ws.take k ++ [j] := by rw [List.take_succ_eq_append_getElem hk', hjj]
              exact ⟨⟨k + 1, _, _, by omega, by go_num, by
                rw [htk, ← partsArr_set ps cx cy (ws.take k) A c j _ g2 c2 hq4 HQ.out]
                exact HPB6.out.set_ _ _, (HPA6.out.cell HPB6.out (by decide) _).eq htk, Ext.setCell_at HE6.out _ _ _ (Nat.le_refl _)⟩, by simp [intOf]; omega⟩
          · have hkl : k = ws.length := by omega
            subst hkl
            rw [List.take_length] at HPB HPA
            have HBR := Lib.hid (HB5.out.ext HE.out)
            have x1 : wr.cell? ⟨w.heap.size, 1, none⟩ = some (.float .f32 (F (hP d wd))) := HBR.out.cell 1
            have p0 : wr.cell? ⟨w5.heap.size, 0, none⟩ = some (.slice (A 0) (partN ps cx cy ws 0) (c 0)) := HPB.out.cell 0
            have p1 : wr.cell? ⟨w5.heap.size, 1, none⟩ = some (.slice (A 1) (partN ps cx cy ws 1) (c 1)) := HPB.out.cell 1
            have p2 : wr.cell? ⟨w5.heap.size, 2, none⟩ = some (.slice (A 2) (partN ps cx cy ws 2) (c 2)) := HPB.out.cell 2
            have p3 : wr.cell? ⟨w5.heap.size, 3, none⟩ = some (.slice (A 3) (partN ps cx cy ws 3) (c 3)) := HPB.out.cell 3
            have hlw : w.heap.size < wr.heap.size := HBR.out.lt
            have hl5 : w5.heap.size < wr.heap.size := HPB.out.lt
            have hq := F_half HD.out (Nat.lt_succ_of_le HWD.out)
            have hneg := F_neg (show d + 1 < 7 by have := HD.out; omega) (Nat.lt_succ_of_le HWD.out) HLEAF.out.2
            go_wp2_with (first | (refine wpList_floatD rfl .quo _ _ _ _ rfl (by simp) _ _ _ rfl rfl _ hq ?_) | (refine wpList_negD rfl _ _ rfl _ _ rfl _ hneg ?_))
            have HTa := Lib.hid ((HT5.out.ext HE.out).ext (show Ext wr (wr.alloc (.cells #[.float .f32 (F (-hP (d + 1) wd)), .float .f32 (F (hP (d + 1) wd))] 133)) by (repeat first | with_reducible exact Ext.rfl' _ | with_reducible refine Ext.drewN ?_ _ | with_reducible refine Ext.drew' ?_ | with_reducible refine Ext.alloc' ?_ _ | with_reducible refine Ext.setCell_at ?_ _ _ _ (by first | exact Nat.le_refl _ | omega) | with_reducible assumption | refine Ext.trans ?_ (by with_reducible assumption))))
            have HEa := Lib.hid (Ext.trans HE.out (show Ext wr (wr.alloc (.cells #[.float .f32 (F (-hP (d + 1) wd)), .float .f32 (F (hP (d + 1) wd))] 133)) by (repeat first | with_reducible exact Ext.rfl' _ | with_reducible refine Ext.drewN ?_ _ | with_reducible refine Ext.drew' ?_ | with_reducible refine Ext.alloc' ?_ _ | with_reducible refine Ext.setCell_at ?_ _ _ _ (by first | exact Nat.le_refl _ | omega) | with_reducible assumption | refine Ext.trans ?_ (by with_reducible assumption))))
            have HFa := Lib.hid (Fr.trans HF5.out (Fr.of_ext g (.slice (some ⟨g2, 0, none⟩) (n + 1) cp2) HEa.out))
            have HHF := Lib.hid (Blk.new wr 133 #[.float .f32 (F (-hP (d + 1) wd)), .float .f32 (F (hP (d + 1) wd))])
            have HBA := Lib.hid (HB5.out.ext HEa.out)
            have HPA2 := Lib.hid (HPA.out.ext (show Ext wr (wr.alloc (.cells #[.float .f32 (F (-hP (d + 1) wd)), .float .f32 (F (hP (d + 1) wd))] 133)) by (repeat first | with_reducible exact Ext.rfl' _ | with_reducible refine Ext.drewN ?_ _ | with_reducible refine Ext.drew' ?_ | with_reducible refine Ext.alloc' ?_ _ | with_reducible refine Ext.setCell_at ?_ _ _ _ (by first | exact Nat.le_refl _ | omega) | with_reducible assumption | refine Ext.trans ?_ (by with_reducible assumption))))
            have HPLT := Lib.hid (show ∀ q, q < 4 → ∀ b o, A q = some ⟨b, o, none⟩ → w.heap.size ≤ b ∧ b < wr.heap.size from fun q hq b o e => by
              have h1 := (HPA.out.row q hq).lt b (by unfold partV; rw [e]; rfl)
              have h2 := HF5.out.size
              exact ⟨by omega, h1.2⟩)
            have hsa : (wr.alloc (.cells #[.float .f32 (F (-hP (d + 1) wd)), .float .f32 (F (hP (d + 1) wd))] 133)).heap.size = wr.heap.size + 1 := by simp
            have HSA := Lib.hid hsa
            have HOWN := Lib.hid (show ((wr.alloc (.cells #[.float .f32 (F (-hP (d + 1) wd)), .float .f32 (F (hP (d + 1) wd))] 133)).alloc (.cells #[] 2)).ownsRow (wr.heap.size + 1) 2 1 (.slice (some ⟨wr.heap.size + 1, 0, none⟩) 0 0) 0 [] from by
              have := World.ownsRow_made (base := wr.heap.size + 1) (e := 2) (size := 1) (wr.alloc (.cells #[.float .f32 (F (-hP (d + 1) wd)), .float .f32 (F (hP (d + 1) wd))] 133)) #[] 0 (by simp) (by decide) rfl
              simpa using this)
            clear x1 p0 p1 p2 p3 hl5 hq hneg hsa HPB HPA HBR HE
            generalize wr.alloc (.cells #[.float .f32 (F (-hP (d + 1) wd)), .float .f32 (F (hP (d + 1) wd))] 133) = Wa at *
            have HEb := Lib.hid (show Ext Wa (Wa.alloc (.cells #[] 2)) by (repeat first | with_reducible exact Ext.rfl' _ | with_reducible refine Ext.drewN ?_ _ | with_reducible refine Ext.drew' ?_ | with_reducible refine Ext.alloc' ?_ _ | with_reducible refine Ext.setCell_at ?_ _ _ _ (by first | exact Nat.le_refl _ | omega) | with_reducible assumption | refine Ext.trans ?_ (by with_reducible assumption)))
            generalize Wa.alloc (.cells #[] 2) = Wb at *
            generalize wr.heap.size = m at *
            go_loopw [17, 124] (fun v i wx => ∃ q : Nat, q ≤ 4 ∧ i = .int .i64 q ∧ KidsRel f ps wd B g n d cx cy ws m w.heap.size Wa (.slice (some ⟨g2, 0, none⟩) (n + 1) cp2) (ys ++ [.complex .f32 (F cx) (F cy), .float .f32 (F (hP d wd)), .int .i64 d, .slice A1 ws.length c1, .slice none 0 0, .float .f32 (F (spinP ps ws)), .complex .f32 (F (momX ps cx ws)) (F (momY ps cy ws))]) q v wx) (fun _ i _ => 4 - (intOf i).toNat)
            case atStart =>
              refine ⟨0, Nat.zero_le _, rfl, ([], []), g2, cp2, m + 1, 0, [], rfl, rfl, HOWN.out, ?_, NodesAt.nil _ _, Fr.of_ext _ _ HEb.out, AddrsIn.nil _⟩
              rw [List.append_nil]
              exact HTa.out.ext HEb.out
            case round =>
              obtain ⟨q, hq4, rfl, hrel⟩ := hrel
              have HKR := Lib.hid hrel
              obtain ⟨K, r7, c7, gq, cq, zs, hKe, rfl, hown, hTx, hNx, hFx, hAx⟩ := hrel
              have HKE := Lib.hid hKe
              have HOW := Lib.hid hown
              have HTX := Lib.hid hTx
              have HNX := Lib.hid hNx
              have HFX := Lib.hid hFx
              have HAX := Lib.hid hAx
              rename World => wx
              clear hKe hown hTx hNx hFx hAx
              have HBX := Lib.hid (HBA.out.fr HFX.out hgn' (by have := HG2.out; simp [Value.ownBlock]; omega))
              have HHX := Lib.hid (HHF.out.fr HFX.out (HTa.out.apart HHF.out (by decide) (by decide)).1 (HTa.out.apart HHF.out (by decide) (by decide)).2)
              have hmx : m < wx.heap.size := HHX.out.lt
              have hbx : w.heap.size < wx.heap.size := HBX.out.lt
              have x0 : wx.cell? ⟨w.heap.size, 0, none⟩ = some (.complex .f32 (F cx) (F cy)) := HBX.out.cell 0
              have x2 : wx.cell? ⟨w.heap.size, 2, none⟩ = some (.int .i64 d) := HBX.out.cell 2
              have y0 : wx.cell? ⟨m, 0, none⟩ = some (.float .f32 (F (-hP (d + 1) wd))) := HHX.out.cell 0
              have y1 : wx.cell? ⟨m, 1, none⟩ = some (.float .f32 (F (hP (d + 1) wd))) := HHX.out.cell 1
              have HAQ := Lib.hid (show ∀ q, q < 4 → ∀ b o, A q = some ⟨b, o, none⟩ → w.heap.size ≤ b ∧ b < m from HPLT.out)
              have i0 : ∀ w : World, (Instr.index 132 (.agg #[.slice (A 0) (partN ps cx cy ws 0) (c 0), .slice (A 1) (partN ps cx cy ws 1) (c 1), .slice (A 2) (partN ps cx cy ws 2) (c 2), .slice (A 3) (partN ps cx cy ws 3) (c 3)]) (.int .i64 0)).run Try.prog w = .ok (.slice (A 0) (partN ps cx cy ws 0) (c 0)) w := fun w => ix0 _ _ _ _ w
              have i1 : ∀ w : World, (Instr.index 132 (.agg #[.slice (A 0) (partN ps cx cy ws 0) (c 0), .slice (A 1) (partN ps cx cy ws 1) (c 1), .slice (A 2) (partN ps cx cy ws 2) (c 2), .slice (A 3) (partN ps cx cy ws 3) (c 3)]) (.int .i64 1)).run Try.prog w = .ok (.slice (A 1) (partN ps cx cy ws 1) (c 1)) w := fun w => ix1 _ _ _ _ w
              have i2 : ∀ w : World, (Instr.index 132 (.agg #[.slice (A 0) (partN ps cx cy ws 0) (c 0), .slice (A 1) (partN ps cx cy ws 1) (c 1), .slice (A 2) (partN ps cx cy ws 2) (c 2), .slice (A 3) (partN ps cx cy ws 3) (c 3)]) (.int .i64 2)).run Try.prog w = .ok (.slice (A 2) (partN ps cx cy ws 2) (c 2)) w := fun w => ix2 _ _ _ _ w
              have i3 : ∀ w : World, (Instr.index 132 (.agg #[.slice (A 0) (partN ps cx cy ws 0) (c 0), .slice (A 1) (partN ps cx cy ws 1) (c 1), .slice (A 2) (partN ps cx cy ws 2) (c 2), .slice (A 3) (partN ps cx cy ws 3) (c 3)]) (.int .i64 3)).run Try.prog w = .ok (.slice (A 3) (partN ps cx cy ws 3) (c 3)) w := fun w => ix3 _ _ _ _ w
              have hb1 := HPRE.out.bx
              have hb2 := HPRE.out.by_
              have hb3 := hP_two d wd HD.out
              have a0 : ∀ w : World, (binOp .add 34 (.float .f32 (F cx)) (.float .f32 (F (-hP (d + 1) wd)))).run Try.prog w = .ok (.float .f32 (F (cx + -hP (d + 1) wd))) w := fun w => run_float_arith w .add _ .f32 _ _ _ (F_add .f32 _ _ (by omega) (by omega) (by omega))
              have a1 : ∀ w : World, (binOp .add 34 (.float .f32 (F cx)) (.float .f32 (F (hP (d + 1) wd)))).run Try.prog w = .ok (.float .f32 (F (cx + hP (d + 1) wd))) w := fun w => run_float_arith w .add _ .f32 _ _ _ (F_add .f32 _ _ (by omega) (by omega) (by omega))
              have a2 : ∀ w : World, (binOp .add 34 (.float .f32 (F cy)) (.float .f32 (F (-hP (d + 1) wd)))).run Try.prog w = .ok (.float .f32 (F (cy + -hP (d + 1) wd))) w := fun w => run_float_arith w .add _ .f32 _ _ _ (F_add .f32 _ _ (by omega) (by omega) (by omega))
              have a3 : ∀ w : World, (binOp .add 34 (.float .f32 (F cy)) (.float .f32 (F (hP (d + 1) wd)))).run Try.prog w = .ok (.float .f32 (F (cy + hP (d + 1) wd))) w := fun w => run_float_arith w .add _ .f32 _ _ _ (F_add .f32 _ _ (by omega) (by omega) (by omega))
              clear hb1 hb2 hb3
              have qw0 : IntKind.i64.wrap 0 = 0 := by decide
              have qw1 : IntKind.i64.wrap 1 = 1 := by decide
              by_cases hlt : q < 4
              · by_cases hpe : partN ps cx cy ws q = 0
                · have q3 : ¬ 0 < (partN ps cx cy ws q : Int) := by omega
                  have HPE := Lib.hid hpe
                  clear hpe
                  rcases (by omega : q = 0 ∨ q = 1 ∨ q = 2 ∨ q = 3) with rfl | rfl | rfl | rfl
                  all_goals
                    go_wp2_with fail
                    exact ⟨⟨_, hlt, rfl, HKR.out.skip HPE.out⟩, by simp [intOf]⟩
                · have q3 : 0 < (partN ps cx cy ws q : Int) := by omega
                  have HPE := Lib.hid hpe
                  clear hpe
                  obtain ⟨hk3, hk4, hkc⟩ := kids_call (q := q) HREC.out HPRE.out HD.out HFD.out HN.out HWS.out hlt HSA.out (Nat.le_of_lt hlw) HPE.out HKE.out HOW.out HTX.out HNX.out HFX.out HAX.out HTa.out (HL5.out.ext HEa.out) HPA2.out HPLT.out
                  have HKC := Lib.hid hkc
                  clear hkc
                  rcases (by omega : q = 0 ∨ q = 1 ∨ q = 2 ∨ q = 3) with rfl | rfl | rfl | rfl
                  all_goals
                    go_wp2_with fail
                    go_still (by kernel_rfl)
                    go_wp2_with fail
                    refine (HKC.out _ (by (repeat first | with_reducible exact Ext.rfl' _ | with_reducible refine Ext.drewN ?_ _ | with_reducible refine Ext.drew' ?_ | with_reducible refine Ext.alloc' ?_ _ | with_reducible refine Ext.setCell_at ?_ _ _ _ (by first | exact Nat.le_refl _ | omega) | with_reducible assumption | refine Ext.trans ?_ (by with_reducible assumption)))).mono ?_
                    rintro e w2 ⟨rfl, hown2, hsz2, hnext⟩
                    have HOW2 := Lib.hid hown2
                    have HNEXT := Lib.hid hnext
                    clear hown2 hnext
                    go_wp2_with (first | (at_builtin; refine Stand.of ?_))
                    refine Stand.out ?_
                    refine wpList_append_lies _ rfl _ _ 43 rfl (m + 1) 2 ii _ 1 8 under_ints hii iz0 iz1 iz2 hzi (by omega) _ _ _ rfl (HOW2.out.alloc _) ⟨w2.heap.size, 0, none⟩ 1 1 [.int .i64 ((n + 1 + K.1.length : Nat) : Int)] rfl rfl (World.news_of_block (cs := #[.int .i64 ((n + 1 + K.1.length : Nat) : Int)]) (t := 2) (fr := (0, 0)) (heap_alloc_new w2 _)) (by simp [Value.oneCell']) (by omega) (by unfold maxLen; omega) (by omega) (by simp; omega) _ rfl ?_
                    intro g3 c3 w6 hown6 hgrow hat hlt6
                    have HKN := Lib.hid (HNEXT.out _ g3 c3 w6 hown6 hgrow hat)
                    clear hown6 hgrow hat hlt6
                    go_wp2_with fail
                    exact ⟨⟨_, hlt, rfl, HKN.out⟩, by simp [intOf]⟩
              · have hq4' : q = 4 := by omega
                subst hq4'
                have hyl : ys.length = n * 7 := HT.out.row.1
                have g0 : wx.cell? ⟨g, 0, none⟩ = some (.slice (some ⟨r7, 0, none⟩) (n + 1 + K.1.length) c7) := HTX.out.var.cell 0
                have c4 : wx.cell? ⟨r7, n * 7 + 4, none⟩ = some (.slice none 0 0) := by
                  rw [HTX.out.row.cellAt (n * 7 + 4) (by omega), List.append_assoc, List.getElem?_append_right (by omega), hyl, show n * 7 + 4 - n * 7 = 4 by omega]
                  rfl
                have f4 := HTX.out.row.frozenAt (n * 7 + 4)
                have hr7 : r7 < wx.heap.size := (HTX.out.row.lt r7 rfl).2
                have hgx : g < wx.heap.size := HTX.out.var.lt
                have hnk : (n : Int) < ((n + 1 + K.1.length : Nat) : Int) := by omega
                have hnb : n < 1000 := by
                  have := HN.out
                  have h6 : 0 < ws.length := List.length_pos_iff.2 HPRE.out.some_
                  have h5 : (f + 2) * ws.length = (f + 1) * ws.length + ws.length := Nat.succ_mul _ _
                  omega
                have HYL := Lib.hid hyl
                clear hyl i0 i1 i2 i3 a0 a1 a2 a3 x0 x2 y0 y1
                go_wp2_with fail
                go_ret
                exact kids_done (s0 := 0) HSA.out HKE.out (fun h => by have := HLEAF.out; omega) HYL.out HOW.out HTX.out HNX.out HFa.out HFX.out HAX.out ((HW5.out.ext HEa.out).fr HTa.out HFX.out (by decide) (by decide))
end Go.Proofs.Ytfehhbmmdbpdpaa
/- The growth of a node, at any depth. -/
namespace Go.Proofs.Ytfehhbmmdbpdpaa
open Go Go.RowKit
set_option linter.unusedVariables false

theorem grow_any (ps : List Wh) (wd B g lb lo lcap : Nat) (hps : OkPs ps) (hwd : wd ≤ 32) : ∀ f d, f + d = 6 → Grows f ps wd B g lb lo lcap d
  | 0, d, hfd => fun r cp n cx cy ws ys A1 c1 w hpre hT hL hW hn hws => by
    refine (growLeaf_any ps wd B g r cp n d cx cy ws ys lb lo lcap A1 c1 w hps hpre hT hL hW (by omega) hws (.inr (.inl (by omega))) hwd (by omega)).mono ?_
    rintro e w' ⟨he, r', cp', zs, h1, h2, h3, h4⟩
    exact ⟨he, r', cp', zs, h1, h2, h3, h4⟩
  | f + 1, d, hfd => fun r cp n cx cy ws ys A1 c1 w hpre hT hL hW hn hws => by
    by_cases hleaf : ws.length ≤ 3 ∨ wd = 0
    · refine (growLeaf_any ps wd B g r cp n d cx cy ws ys lb lo lcap A1 c1 w hps hpre hT hL hW (by omega) hws (by rcases hleaf with h | h; exact .inl h; exact .inr (.inr h)) hwd (by omega)).mono ?_
      rintro e w' ⟨he, r', cp', zs, h1, h2, h3, h4⟩
      have hg : growP ps wd (f + 1) n d cx cy ws = [nodeP ps d cx cy ws []] := by
        conv => lhs; unfold growP
        rw [if_pos hleaf]
      rw [hg]
      exact ⟨he, r', cp', zs, h1, h2, h3, h4⟩
    · exact growBranch_any f ps wd B g r cp n d cx cy ws ys lb lo lcap A1 c1 w hps hpre hT hL hW hn hws (grow_any ps wd B g lb lo lcap hps hwd f (d + 1) (by omega)) hleaf hwd (by omega) (by omega)
end Go.Proofs.Ytfehhbmmdbpdpaa
/- Walks: lists of finite numbers are finite. -/
namespace Go.Proofs.Ytfehhbmmdbpdpaa
open Go Go.RowKit
set_option linter.unusedVariables false
set_option linter.unusedSimpArgs false
attribute [local go_sem] run_store_float run_store_complex

def fltVals (ks : List Int) : List Value := ks.map (fun k => .float .f32 (F k))
def cpxVals (ps : List (Int × Int)) : List Value := ps.map (fun p => .complex .f32 (F p.1) (F p.2))
theorem IsFinite_F (k : Int) (hk : k.natAbs < 16777216) (w : World) : Calls Try.prog 50 #[.float .f32 (F k)] w fun e w' => Ext w w' ∧ e = .returned (.bool true) := by
  have hs : floatBits .sub .f32 (F k) (F k) = some 0 := by
    rw [← F_zero .f32, ← Int.sub_self k]
    exact F_sub .f32 k k hk hk (by omega)
  have he : fcmp .eql .f32 0 0 = true := by decide
  go_enter Try.func50, Try.ntmps50
  go_wp2_with (first
    | (refine wpList_floatD rfl _ _ _ _ _ rfl (by decide) _ _ _ rfl rfl _ hs ?_)
    | (refine wpList_fcmpD rfl .eql _ _ _ _ rfl rfl _ _ _ rfl rfl _ he ?_))
  go_ret
  exact ⟨Ext.rfl' _, rfl⟩
theorem finite1_F (k : Int) (hk : k.natAbs < 16777216) (w : World) : Calls Try.prog 105 #[.float .f32 (F k)] w fun e w' => Ext w w' ∧ e = .returned (.bool false) := by
  go_enter Try.func105, Try.ntmps105
  go_wp2_with fail
  refine (IsFinite_F k hk _).mono ?_
  rintro e w1 ⟨he, rfl⟩
  go_wp2_with fail
  go_ret
  exact ⟨he, rfl⟩

set_option maxRecDepth 100000 in
theorem IndexF_none (A : Option Addr) (cap n : Nat) (ks : List Int) (w : World) (hA : Lies w 34 A (fltVals ks)) (hn : ks.length = n) (hl : n ≤ 1000)
    (hp : ∀ (k : Nat) (v : Int), ks[k]? = some v → ∀ w, Calls Try.prog 105 #[.float .f32 (F v)] w fun e w' => Ext w w' ∧ e = .returned (.bool false)) :
    Calls Try.prog 113 #[.slice A n cap, .func (.func 105) #[] #[]] w fun e w' => Ext w w' ∧ e = .returned (.int .i64 (-1)) := by
  have HA := Lib.hid hA
  have HL := Lib.hid hl
  have HP := Lib.hid hp
  clear hA hl hp
  go_enter Try.func113, Try.ntmps113
  go_wp2_with fail
  go_loopw [8] (fun i wr => ∃ (k : Nat), k ≤ n ∧ i = .int .i64 k ∧ Ext w wr) (fun i _ => n - (intOf i).toNat)
  case atStart => exact ⟨0, Nat.zero_le _, rfl, Ext.rfl' _⟩
  case round =>
    obtain ⟨k, hk, rfl, hbel⟩ := hrel
    have HE := Lib.hid hbel
    clear hbel
    have hk9 : k < 9223372036854775807 := by have := HL.out; omega
    by_cases hlt : k < n
    · obtain ⟨v, hv⟩ : ∃ v, ks[k]? = some v := ⟨ks[k]'(by omega), List.getElem?_eq_getElem (by omega)⟩
      obtain ⟨b, o, rfl, hbw, hcc⟩ := HA.out.cell (by unfold fltVals; rw [List.length_map]; omega)
      have d0 := (HE.out.cell (p := ⟨b, o + k, none⟩) hbw).trans (hcc k (.float .f32 (F v)) (by unfold fltVals; rw [List.getElem?_map, hv]; rfl))
      have HV := Lib.hid hv
      clear hcc hv
      go_wp2_with fail
      refine (HP.out k v HV.out _).mono ?_
      rintro e w1 ⟨he, rfl⟩
      have HF := Lib.hid (Ext.trans HE.out (Ext.trans (by (repeat first | with_reducible exact Ext.rfl' _ | with_reducible refine Ext.drewN ?_ _ | with_reducible refine Ext.drew' ?_ | with_reducible refine Ext.alloc' ?_ _ | with_reducible refine Ext.setCell_at ?_ _ _ _ (by first | exact Nat.le_refl _ | omega) | with_reducible assumption | refine Ext.trans ?_ (by with_reducible assumption))) he))
      clear he d0
      go_wp2_with fail
      exact ⟨⟨k + 1, by omega, by go_num, HF.out⟩, by simp [intOf]; omega⟩
    · go_wp2_with fail
      go_ret
      exact ⟨HE.out, rfl⟩
set_option maxRecDepth 100000 in
theorem ContainsF_none (A : Option Addr) (cap n : Nat) (ks : List Int) (w : World) (hA : Lies w 34 A (fltVals ks)) (hn : ks.length = n) (hl : n ≤ 1000)
    (hp : ∀ (k : Nat) (v : Int), ks[k]? = some v → ∀ w, Calls Try.prog 105 #[.float .f32 (F v)] w fun e w' => Ext w w' ∧ e = .returned (.bool false)) :
    Calls Try.prog 93 #[.slice A n cap, .func (.func 105) #[] #[]] w fun e w' => Ext w w' ∧ e = .returned (.bool false) := by
  have HC := Lib.hid (IndexF_none A cap n ks w hA hn hl hp)
  clear hA hl hp
  go_enter Try.func93, Try.ntmps93
  go_wp2_with fail
  refine HC.out.mono ?_
  rintro e w1 ⟨he, rfl⟩
  go_wp2_with fail
  go_ret
  exact ⟨he, rfl⟩

theorem finite_F (A : Option Addr) (cap n : Nat) (ks : List Int) (w : World) (hA : Lies w 34 A (fltVals ks)) (hn : ks.length = n) (hl : n ≤ 1000) (hok : ∀ k ∈ ks, k.natAbs < 16777216) :
    Calls Try.prog 70 #[.slice A n cap] w fun e w' => Ext w w' ∧ e = .returned (.bool true) := by
  have HC := Lib.hid (ContainsF_none A cap n ks w hA hn hl (fun k v hv w => finite1_F v (hok v (List.mem_of_getElem? hv)) w))
  clear hA hl hok
  go_enter Try.func70, Try.ntmps70
  go_wp2_with fail
  refine HC.out.mono ?_
  rintro e w1 ⟨he, rfl⟩
  go_wp2_with fail
  go_ret
  exact ⟨he, rfl⟩
theorem lies_new (w : World) (t : TypeId) (xs : Array Value) : Lies (w.alloc (.cells xs t)) t (some ⟨w.heap.size, 0, none⟩) xs.toList := fun _ =>
  ⟨w.heap.size, 0, xs, rfl, Blk.new w t xs, fun j hj => by simp⟩
theorem IsFiniteComplex_F (a b : Int) (ha : a.natAbs < 16777216) (hb : b.natAbs < 16777216) (w : World) : Calls Try.prog 48 #[.complex .f32 (F a) (F b)] w fun e w' => Ext w w' ∧ e = .returned (.bool true) := by
  go_enter Try.func48, Try.ntmps48
  go_wp2_with fail
  refine (finite_F _ _ 2 [a, b] _ (lies_new w 34 #[.float .f32 (F a), .float .f32 (F b)]) rfl (by decide) (fun k hk => by simp at hk; rcases hk with rfl | rfl <;> assumption)).mono ?_
  rintro e w1 ⟨he, rfl⟩
  go_wp2_with fail
  go_ret
  exact ⟨Ext.trans (by (repeat first | with_reducible exact Ext.rfl' _ | with_reducible refine Ext.drewN ?_ _ | with_reducible refine Ext.drew' ?_ | with_reducible refine Ext.alloc' ?_ _ | with_reducible refine Ext.setCell_at ?_ _ _ _ (by first | exact Nat.le_refl _ | omega) | with_reducible assumption | refine Ext.trans ?_ (by with_reducible assumption))) he, rfl⟩
theorem finiteAll1_F (a b : Int) (ha : a.natAbs < 16777216) (hb : b.natAbs < 16777216) (w : World) : Calls Try.prog 111 #[.complex .f32 (F a) (F b)] w fun e w' => Ext w w' ∧ e = .returned (.bool false) := by
  go_enter Try.func111, Try.ntmps111
  go_wp2_with fail
  refine (IsFiniteComplex_F a b ha hb _).mono ?_
  rintro e w1 ⟨he, rfl⟩
  go_wp2_with fail
  go_ret
  exact ⟨he, rfl⟩

set_option maxRecDepth 100000 in
theorem IndexC_none (A : Option Addr) (cap n : Nat) (cs : List (Int × Int)) (w : World) (hA : Lies w 27 A (cpxVals cs)) (hn : cs.length = n) (hl : n ≤ 1000)
    (hp : ∀ (k : Nat) (v : Int × Int), cs[k]? = some v → ∀ w, Calls Try.prog 111 #[.complex .f32 (F v.1) (F v.2)] w fun e w' => Ext w w' ∧ e = .returned (.bool false)) :
    Calls Try.prog 118 #[.slice A n cap, .func (.func 111) #[] #[]] w fun e w' => Ext w w' ∧ e = .returned (.int .i64 (-1)) := by
  have HA := Lib.hid hA
  have HL := Lib.hid hl
  have HP := Lib.hid hp
  clear hA hl hp
  go_enter Try.func118, Try.ntmps118
  go_wp2_with fail
  go_loopw [8] (fun i wr => ∃ (k : Nat), k ≤ n ∧ i = .int .i64 k ∧ Ext w wr) (fun i _ => n - (intOf i).toNat)
  case atStart => exact ⟨0, Nat.zero_le _, rfl, Ext.rfl' _⟩
  case round =>
    obtain ⟨k, hk, rfl, hbel⟩ := hrel
    have HE := Lib.hid hbel
    clear hbel
    have hk9 : k < 9223372036854775807 := by have := HL.out; omega
    by_cases hlt : k < n
    · obtain ⟨v, hv⟩ : ∃ v, cs[k]? = some v := ⟨cs[k]'(by omega), List.getElem?_eq_getElem (by omega)⟩
      obtain ⟨b, o, rfl, hbw, hcc⟩ := HA.out.cell (by unfold cpxVals; rw [List.length_map]; omega)
      have d0 := (HE.out.cell (p := ⟨b, o + k, none⟩) hbw).trans (hcc k (.complex .f32 (F v.1) (F v.2)) (by unfold cpxVals; rw [List.getElem?_map, hv]; rfl))
      have HV := Lib.hid hv
      clear hcc hv
      go_wp2_with fail
      refine (HP.out k v HV.out _).mono ?_
      rintro e w1 ⟨he, rfl⟩
      have HF := Lib.hid (Ext.trans HE.out (Ext.trans (by (repeat first | with_reducible exact Ext.rfl' _ | with_reducible refine Ext.drewN ?_ _ | with_reducible refine Ext.drew' ?_ | with_reducible refine Ext.alloc' ?_ _ | with_reducible refine Ext.setCell_at ?_ _ _ _ (by first | exact Nat.le_refl _ | omega) | with_reducible assumption | refine Ext.trans ?_ (by with_reducible assumption))) he))
      clear he d0
      go_wp2_with fail
      exact ⟨⟨k + 1, by omega, by go_num, HF.out⟩, by simp [intOf]; omega⟩
    · go_wp2_with fail
      go_ret
      exact ⟨HE.out, rfl⟩
set_option maxRecDepth 100000 in
theorem ContainsC_none (A : Option Addr) (cap n : Nat) (cs : List (Int × Int)) (w : World) (hA : Lies w 27 A (cpxVals cs)) (hn : cs.length = n) (hl : n ≤ 1000)
    (hp : ∀ (k : Nat) (v : Int × Int), cs[k]? = some v → ∀ w, Calls Try.prog 111 #[.complex .f32 (F v.1) (F v.2)] w fun e w' => Ext w w' ∧ e = .returned (.bool false)) :
    Calls Try.prog 99 #[.slice A n cap, .func (.func 111) #[] #[]] w fun e w' => Ext w w' ∧ e = .returned (.bool false) := by
  have HC := Lib.hid (IndexC_none A cap n cs w hA hn hl hp)
  clear hA hl hp
  go_enter Try.func99, Try.ntmps99
  go_wp2_with fail
  refine HC.out.mono ?_
  rintro e w1 ⟨he, rfl⟩
  go_wp2_with fail
  go_ret
  exact ⟨he, rfl⟩

theorem finiteAll_F (A : Option Addr) (cap n : Nat) (cs : List (Int × Int)) (w : World) (hA : Lies w 27 A (cpxVals cs)) (hn : cs.length = n) (hl : n ≤ 1000) (hok : ∀ c ∈ cs, c.1.natAbs < 16777216 ∧ c.2.natAbs < 16777216) :
    Calls Try.prog 89 #[.slice A n cap] w fun e w' => Ext w w' ∧ e = .returned (.bool true) := by
  have HC := Lib.hid (ContainsC_none A cap n cs w hA hn hl (fun k v hv w => finiteAll1_F v.1 v.2 (hok v (List.mem_of_getElem? hv)).1 (hok v (List.mem_of_getElem? hv)).2 w))
  clear hA hl hok
  go_enter Try.func89, Try.ntmps89
  go_wp2_with fail
  refine HC.out.mono ?_
  rintro e w1 ⟨he, rfl⟩
  go_wp2_with fail
  go_ret
  exact ⟨he, rfl⟩
set_option maxRecDepth 100000 in
theorem finiteWhirls1_F (u : Wh) (h1 : u.1.natAbs < 16777216) (h2 : u.2.1.natAbs < 16777216) (h3 : u.2.2.natAbs < 16777216) (w : World) : Calls Try.prog 109 #[.agg #[.complex .f32 (F u.1) (F u.2.1), .float .f32 (F u.2.2)]] w fun e w' => Ext w w' ∧ e = .returned (.bool false) := by
  have HB := Lib.hid (Blk.new w 51 #[.complex .f32 (F u.1) (F u.2.1), .float .f32 (F u.2.2)])
  go_enter Try.func109, Try.ntmps109
  go_wp2_with fail
  refine (IsFiniteComplex_F _ _ h1 h2 _).mono ?_
  rintro e w1 ⟨he, rfl⟩
  have d1 : w1.cell? ⟨w.heap.size, 1, none⟩ = some (.float .f32 (F u.2.2)) := (HB.out.ext he).cell 1
  have HE := Lib.hid (Ext.trans (show Ext w _ by (repeat first | with_reducible exact Ext.rfl' _ | with_reducible refine Ext.drewN ?_ _ | with_reducible refine Ext.drew' ?_ | with_reducible refine Ext.alloc' ?_ _ | with_reducible refine Ext.setCell_at ?_ _ _ _ (by first | exact Nat.le_refl _ | omega) | with_reducible assumption | refine Ext.trans ?_ (by with_reducible assumption))) he)
  clear he
  go_wp2_with fail
  refine (IsFinite_F _ h3 _).mono ?_
  rintro e w2 ⟨he, rfl⟩
  have HE2 := Lib.hid (Ext.trans HE.out he)
  clear he
  go_wp2_with fail
  go_ret
  exact ⟨HE2.out, rfl⟩

set_option maxRecDepth 100000 in
theorem IndexW_none (A : Option Addr) (cap n : Nat) (us : List Wh) (w : World) (hA : Lies w 51 A (whVals us)) (hn : us.length = n) (hl : n ≤ 1000)
    (hp : ∀ (k : Nat) (v : Wh), us[k]? = some v → ∀ w, Calls Try.prog 109 #[.agg #[.complex .f32 (F v.1) (F v.2.1), .float .f32 (F v.2.2)]] w fun e w' => Ext w w' ∧ e = .returned (.bool false)) :
    Calls Try.prog 124 #[.slice A n cap, .func (.func 109) #[] #[]] w fun e w' => Ext w w' ∧ e = .returned (.int .i64 (-1)) := by
  have HA := Lib.hid hA
  have HL := Lib.hid hl
  have HP := Lib.hid hp
  clear hA hl hp
  go_enter Try.func124, Try.ntmps124
  go_wp2_with fail
  go_loopw [8] (fun i wr => ∃ (k : Nat), k ≤ n ∧ i = .int .i64 k ∧ Ext w wr) (fun i _ => n - (intOf i).toNat)
  case atStart => exact ⟨0, Nat.zero_le _, rfl, Ext.rfl' _⟩
  case round =>
    obtain ⟨k, hk, rfl, hbel⟩ := hrel
    have HE := Lib.hid hbel
    clear hbel
    have hk9 : k < 9223372036854775807 := by have := HL.out; omega
    by_cases hlt : k < n
    · obtain ⟨v, hv⟩ : ∃ v, us[k]? = some v := ⟨us[k]'(by omega), List.getElem?_eq_getElem (by omega)⟩
      obtain ⟨b, o, rfl, hbw, hcc⟩ := HA.out.cell (by rw [whVals_len]; omega)
      obtain ⟨v1, v2⟩ := whVals_at us k v hv
      have d0 := (HE.out.cell (p := ⟨b, o + k * 2, none⟩) hbw).trans (hcc _ _ v1)
      have d1 := (HE.out.cell (p := ⟨b, o + k * 2 + 1, none⟩) hbw).trans (hcc _ _ v2)
      have HV := Lib.hid hv
      clear hcc hv v1 v2
      go_wp2_with fail
      refine (HP.out k v HV.out _).mono ?_
      rintro e w1 ⟨he, rfl⟩
      have HF := Lib.hid (Ext.trans HE.out (Ext.trans (by (repeat first | with_reducible exact Ext.rfl' _ | with_reducible refine Ext.drewN ?_ _ | with_reducible refine Ext.drew' ?_ | with_reducible refine Ext.alloc' ?_ _ | with_reducible refine Ext.setCell_at ?_ _ _ _ (by first | exact Nat.le_refl _ | omega) | with_reducible assumption | refine Ext.trans ?_ (by with_reducible assumption))) he))
      clear he d0 d1
      go_wp2_with fail
      exact ⟨⟨k + 1, by omega, by go_num, HF.out⟩, by simp [intOf]; omega⟩
    · go_wp2_with fail
      go_ret
      exact ⟨HE.out, rfl⟩
set_option maxRecDepth 100000 in
theorem ContainsW_none (A : Option Addr) (cap n : Nat) (us : List Wh) (w : World) (hA : Lies w 51 A (whVals us)) (hn : us.length = n) (hl : n ≤ 1000)
    (hp : ∀ (k : Nat) (v : Wh), us[k]? = some v → ∀ w, Calls Try.prog 109 #[.agg #[.complex .f32 (F v.1) (F v.2.1), .float .f32 (F v.2.2)]] w fun e w' => Ext w w' ∧ e = .returned (.bool false)) :
    Calls Try.prog 108 #[.slice A n cap, .func (.func 109) #[] #[]] w fun e w' => Ext w w' ∧ e = .returned (.bool false) := by
  have HC := Lib.hid (IndexW_none A cap n us w hA hn hl hp)
  clear hA hl hp
  go_enter Try.func108, Try.ntmps108
  go_wp2_with fail
  refine HC.out.mono ?_
  rintro e w1 ⟨he, rfl⟩
  go_wp2_with fail
  go_ret
  exact ⟨he, rfl⟩

theorem finiteWhirls_F (A : Option Addr) (cap n : Nat) (us : List Wh) (w : World) (hA : Lies w 51 A (whVals us)) (hn : us.length = n) (hl : n ≤ 1000) (hok : ∀ u ∈ us, OkW u) :
    Calls Try.prog 82 #[.slice A n cap] w fun e w' => Ext w w' ∧ e = .returned (.bool true) := by
  have HC := Lib.hid (ContainsW_none A cap n us w hA hn hl (fun k v hv w => by
    obtain ⟨-, -, -, -, h1, h2, h3⟩ := (hok v (List.mem_of_getElem? hv)).term (c := 0) (by decide) (by decide)
    exact finiteWhirls1_F v (by omega) (by omega) (by omega) w))
  clear hA hl hok
  go_enter Try.func82, Try.ntmps82
  go_wp2_with fail
  refine HC.out.mono ?_
  rintro e w1 ⟨he, rfl⟩
  go_wp2_with fail
  go_ret
  exact ⟨he, rfl⟩
theorem AreWhirls_F (A : Option Addr) (cap n : Nat) (us : List Wh) (w : World) (hA : Lies w 51 A (whVals us)) (hn : us.length = n) (hl : n ≤ 12) (hok : ∀ u ∈ us, OkW u) :
    Calls Try.prog 45 #[.slice A n cap] w fun e w' => Ext w w' ∧ e = .returned (.bool true) := by
  have HC := Lib.hid (finiteWhirls_F A cap n us w hA hn (by omega) hok)
  have h32 : (n : Int) ≤ 32 := by omega
  clear hA hl hok
  go_enter Try.func45, Try.ntmps45
  go_wp2_with fail
  refine HC.out.mono ?_
  rintro e w1 ⟨he, rfl⟩
  go_wp2_with fail
  go_ret
  exact ⟨he, rfl⟩
end Go.Proofs.Ytfehhbmmdbpdpaa
/- Walks: lists of finite numbers are finite (numbers as rationals). -/
namespace Go.Proofs.Ytfehhbmmdbpdpaa
open Go Go.RowKit
set_option linter.unusedVariables false
set_option linter.unusedSimpArgs false
attribute [local go_sem] run_store_float run_store_complex

theorem lies_newY (w : World) (t : TypeId) (xs : Array Value) : Lies (w.alloc (.cells xs t)) t (some ⟨w.heap.size, 0, none⟩) xs.toList := fun _ =>
  ⟨w.heap.size, 0, xs, rfl, Blk.new w t xs, fun j hj => by simp⟩
/-- a finite number -/
def Num (x : Nat) : Prop := ∃ a, Val .f32 x a
theorem num_zero : Val .f32 0 0 := by
  have := write_exact .f32 false 0 0 (by decide) (by decide) (by decide)
  have e : rat false 0 0 = 0 := by decide +kernel
  rw [e] at this
  exact this
theorem val_sub_self {k : FloatKind} {x : Nat} {a : Rat} (h : Val k x a) : ∃ r, floatBits .sub k x x = some r ∧ Val k r 0 := by
  obtain ⟨-, s, m, i, e1, rfl⟩ := h
  obtain ⟨z, M, p, hs, hv⟩ := sum_val s (!s) m m i i
  rw [val_neg_datum, ← Rat.sub_eq_add_neg, show rat s m i - rat s m i = 0 by grind] at hv
  have hM : M = 0 := by
    by_cases h0 : M = 0
    · exact h0
    · exfalso
      have h1 := rat_abs z M p
      rw [hv, Rat.abs_zero] at h1
      have h2 : (0 : Rat) < (M : Rat) := Rat.natCast_pos.2 (by omega)
      have := Rat.mul_pos h2 (pw_pos p)
      grind
  subst hM
  have hz := write_exact k z 0 0 (by decide) (by cases k <;> decide) (by decide)
  have e : rat z 0 0 = 0 := by cases z <;> decide +kernel
  rw [e] at hz
  refine ⟨_, ?_, hz⟩
  unfold floatBits Ieee.Format.sub
  rw [show k.format.read x = _ from e1]
  simp only [Ieee.Datum.opposite]
  rw [hs]
  show some (k.format.nearest z 0 p) = some (k.format.nearest z 0 0)
  unfold Ieee.Format.nearest
  rw [if_pos rfl, if_pos rfl]
def fltB (xs : List Nat) : List Value := xs.map (fun x => .float .f32 x)
def cpxB (cs : List (Nat × Nat)) : List Value := cs.map (fun c => .complex .f32 c.1 c.2)
theorem fltB_at {xs : List Nat} {k x : Nat} (h : xs[k]? = some x) : (fltB xs)[k]? = some (.float .f32 x) := by unfold fltB; rw [List.getElem?_map, h]; rfl
theorem cpxB_at {cs : List (Nat × Nat)} {k : Nat} {c : Nat × Nat} (h : cs[k]? = some c) : (cpxB cs)[k]? = some (.complex .f32 c.1 c.2) := by unfold cpxB; rw [List.getElem?_map, h]; rfl
theorem fltB_len (xs : List Nat) : (fltB xs).length = xs.length := by simp [fltB]
theorem cpxB_len (cs : List (Nat × Nat)) : (cpxB cs).length = cs.length := by simp [cpxB]
theorem IsFinite_V {x : Nat} (hx : Num x) (w : World) : Calls Try.prog 50 #[.float .f32 x] w fun e w' => Ext w w' ∧ e = .returned (.bool true) := by
  obtain ⟨a, hx⟩ := hx
  obtain ⟨r, hs, hr⟩ := val_sub_self hx
  have he : fcmp .eql .f32 r 0 = true := (val_eql hr num_zero).trans (by simp)
  clear hx hr
  go_enter Try.func50, Try.ntmps50
  go_wp2_with (first
    | (refine wpList_floatD rfl _ _ _ _ _ rfl (by decide) _ _ _ rfl rfl _ hs ?_)
    | (refine wpList_fcmpD rfl .eql _ _ _ _ rfl rfl _ _ _ rfl rfl _ he ?_))
  go_ret
  exact ⟨Ext.rfl' _, rfl⟩
theorem finite1_V (k : Nat) (hk : Num k) (w : World) : Calls Try.prog 105 #[.float .f32 k] w fun e w' => Ext w w' ∧ e = .returned (.bool false) := by
  go_enter Try.func105, Try.ntmps105
  go_wp2_with fail
  refine (IsFinite_V hk _).mono ?_
  rintro e w1 ⟨he, rfl⟩
  go_wp2_with fail
  go_ret
  exact ⟨he, rfl⟩

set_option maxRecDepth 100000 in
theorem IndexF_V (A : Option Addr) (cap n : Nat) (ks : List Nat) (w : World) (hA : Lies w 34 A (fltB ks)) (hn : ks.length = n) (hl : n ≤ 1000)
    (hp : ∀ (k : Nat) (v : Nat), ks[k]? = some v → ∀ w, Calls Try.prog 105 #[.float .f32 v] w fun e w' => Ext w w' ∧ e = .returned (.bool false)) :
    Calls Try.prog 113 #[.slice A n cap, .func (.func 105) #[] #[]] w fun e w' => Ext w w' ∧ e = .returned (.int .i64 (-1)) := by
  have HA := Lib.hid hA
  have HL := Lib.hid hl
  have HP := Lib.hid hp
  clear hA hl hp
  go_enter Try.func113, Try.ntmps113
  go_wp2_with fail
  go_loopw [8] (fun i wr => ∃ (k : Nat), k ≤ n ∧ i = .int .i64 k ∧ Ext w wr) (fun i _ => n - (intOf i).toNat)
  case atStart => exact ⟨0, Nat.zero_le _, rfl, Ext.rfl' _⟩
  case round =>
    obtain ⟨k, hk, rfl, hbel⟩ := hrel
    have HE := Lib.hid hbel
    clear hbel
    have hk9 : k < 9223372036854775807 := by have := HL.out; omega
    by_cases hlt : k < n
    · obtain ⟨v, hv⟩ : ∃ v, ks[k]? = some v := ⟨ks[k]'(by omega), List.getElem?_eq_getElem (by omega)⟩
      obtain ⟨b, o, rfl, hbw, hcc⟩ := HA.out.cell (by unfold fltB; rw [List.length_map]; omega)
      have d0 := (HE.out.cell (p := ⟨b, o + k, none⟩) hbw).trans (hcc k (.float .f32 v) (by unfold fltB; rw [List.getElem?_map, hv]; rfl))
      have HV := Lib.hid hv
      clear hcc hv
      go_wp2_with fail
      refine (HP.out k v HV.out _).mono ?_
      rintro e w1 ⟨he, rfl⟩
      have HF := Lib.hid (Ext.trans HE.out (Ext.trans (by (repeat first | with_reducible exact Ext.rfl' _ | with_reducible refine Ext.drewN ?_ _ | with_reducible refine Ext.drew' ?_ | with_reducible refine Ext.alloc' ?_ _ | with_reducible refine Ext.setCell_at ?_ _ _ _ (by first | exact Nat.le_refl _ | omega) | with_reducible assumption | refine Ext.trans ?_ (by with_reducible assumption))) he))
      clear he d0
      go_wp2_with fail
      exact ⟨⟨k + 1, by omega, by go_num, HF.out⟩, by simp [intOf]; omega⟩
    · go_wp2_with fail
      go_ret
      exact ⟨HE.out, rfl⟩
set_option maxRecDepth 100000 in
theorem ContainsF_V (A : Option Addr) (cap n : Nat) (ks : List Nat) (w : World) (hA : Lies w 34 A (fltB ks)) (hn : ks.length = n) (hl : n ≤ 1000)
    (hp : ∀ (k : Nat) (v : Nat), ks[k]? = some v → ∀ w, Calls Try.prog 105 #[.float .f32 v] w fun e w' => Ext w w' ∧ e = .returned (.bool false)) :
    Calls Try.prog 93 #[.slice A n cap, .func (.func 105) #[] #[]] w fun e w' => Ext w w' ∧ e = .returned (.bool false) := by
  have HC := Lib.hid (IndexF_V A cap n ks w hA hn hl hp)
  clear hA hl hp
  go_enter Try.func93, Try.ntmps93
  go_wp2_with fail
  refine HC.out.mono ?_
  rintro e w1 ⟨he, rfl⟩
  go_wp2_with fail
  go_ret
  exact ⟨he, rfl⟩

theorem finite_V (A : Option Addr) (cap n : Nat) (ks : List Nat) (w : World) (hA : Lies w 34 A (fltB ks)) (hn : ks.length = n) (hl : n ≤ 1000) (hok : ∀ k ∈ ks, Num k) :
    Calls Try.prog 70 #[.slice A n cap] w fun e w' => Ext w w' ∧ e = .returned (.bool true) := by
  have HC := Lib.hid (ContainsF_V A cap n ks w hA hn hl (fun k v hv w => finite1_V v (hok v (List.mem_of_getElem? hv)) w))
  clear hA hl hok
  go_enter Try.func70, Try.ntmps70
  go_wp2_with fail
  refine HC.out.mono ?_
  rintro e w1 ⟨he, rfl⟩
  go_wp2_with fail
  go_ret
  exact ⟨he, rfl⟩
theorem IsFiniteComplex_V (a b : Nat) (ha : Num a) (hb : Num b) (w : World) : Calls Try.prog 48 #[.complex .f32 a b] w fun e w' => Ext w w' ∧ e = .returned (.bool true) := by
  go_enter Try.func48, Try.ntmps48
  go_wp2_with fail
  refine (finite_V _ _ 2 [a, b] _ (lies_newY w 34 #[.float .f32 a, .float .f32 b]) rfl (by decide) (fun k hk => by simp at hk; rcases hk with rfl | rfl <;> assumption)).mono ?_
  rintro e w1 ⟨he, rfl⟩
  go_wp2_with fail
  go_ret
  exact ⟨Ext.trans (by (repeat first | with_reducible exact Ext.rfl' _ | with_reducible refine Ext.drewN ?_ _ | with_reducible refine Ext.drew' ?_ | with_reducible refine Ext.alloc' ?_ _ | with_reducible refine Ext.setCell_at ?_ _ _ _ (by first | exact Nat.le_refl _ | omega) | with_reducible assumption | refine Ext.trans ?_ (by with_reducible assumption))) he, rfl⟩
theorem finiteAll1_V (a b : Nat) (ha : Num a) (hb : Num b) (w : World) : Calls Try.prog 111 #[.complex .f32 a b] w fun e w' => Ext w w' ∧ e = .returned (.bool false) := by
  go_enter Try.func111, Try.ntmps111
  go_wp2_with fail
  refine (IsFiniteComplex_V a b ha hb _).mono ?_
  rintro e w1 ⟨he, rfl⟩
  go_wp2_with fail
  go_ret
  exact ⟨he, rfl⟩

set_option maxRecDepth 100000 in
theorem IndexC_V (A : Option Addr) (cap n : Nat) (cs : List (Nat × Nat)) (w : World) (hA : Lies w 27 A (cpxB cs)) (hn : cs.length = n) (hl : n ≤ 1000)
    (hp : ∀ (k : Nat) (v : Nat × Nat), cs[k]? = some v → ∀ w, Calls Try.prog 111 #[.complex .f32 v.1 v.2] w fun e w' => Ext w w' ∧ e = .returned (.bool false)) :
    Calls Try.prog 118 #[.slice A n cap, .func (.func 111) #[] #[]] w fun e w' => Ext w w' ∧ e = .returned (.int .i64 (-1)) := by
  have HA := Lib.hid hA
  have HL := Lib.hid hl
  have HP := Lib.hid hp
  clear hA hl hp
  go_enter Try.func118, Try.ntmps118
  go_wp2_with fail
  go_loopw [8] (fun i wr => ∃ (k : Nat), k ≤ n ∧ i = .int .i64 k ∧ Ext w wr) (fun i _ => n - (intOf i).toNat)
  case atStart => exact ⟨0, Nat.zero_le _, rfl, Ext.rfl' _⟩
  case round =>
    obtain ⟨k, hk, rfl, hbel⟩ := hrel
    have HE := Lib.hid hbel
    clear hbel
    have hk9 : k < 9223372036854775807 := by have := HL.out; omega
    by_cases hlt : k < n
    · obtain ⟨v, hv⟩ : ∃ v, cs[k]? = some v := ⟨cs[k]'(by omega), List.getElem?_eq_getElem (by omega)⟩
      obtain ⟨b, o, rfl, hbw, hcc⟩ := HA.out.cell (by unfold cpxB; rw [List.length_map]; omega)
      have d0 := (HE.out.cell (p := ⟨b, o + k, none⟩) hbw).trans (hcc k (.complex .f32 v.1 v.2) (by unfold cpxB; rw [List.getElem?_map, hv]; rfl))
      have HV := Lib.hid hv
      clear hcc hv
      go_wp2_with fail
      refine (HP.out k v HV.out _).mono ?_
      rintro e w1 ⟨he, rfl⟩
      have HF := Lib.hid (Ext.trans HE.out (Ext.trans (by (repeat first | with_reducible exact Ext.rfl' _ | with_reducible refine Ext.drewN ?_ _ | with_reducible refine Ext.drew' ?_ | with_reducible refine Ext.alloc' ?_ _ | with_reducible refine Ext.setCell_at ?_ _ _ _ (by first | exact Nat.le_refl _ | omega) | with_reducible assumption | refine Ext.trans ?_ (by with_reducible assumption))) he))
      clear he d0
      go_wp2_with fail
      exact ⟨⟨k + 1, by omega, by go_num, HF.out⟩, by simp [intOf]; omega⟩
    · go_wp2_with fail
      go_ret
      exact ⟨HE.out, rfl⟩
set_option maxRecDepth 100000 in
theorem ContainsC_V (A : Option Addr) (cap n : Nat) (cs : List (Nat × Nat)) (w : World) (hA : Lies w 27 A (cpxB cs)) (hn : cs.length = n) (hl : n ≤ 1000)
    (hp : ∀ (k : Nat) (v : Nat × Nat), cs[k]? = some v → ∀ w, Calls Try.prog 111 #[.complex .f32 v.1 v.2] w fun e w' => Ext w w' ∧ e = .returned (.bool false)) :
    Calls Try.prog 99 #[.slice A n cap, .func (.func 111) #[] #[]] w fun e w' => Ext w w' ∧ e = .returned (.bool false) := by
  have HC := Lib.hid (IndexC_V A cap n cs w hA hn hl hp)
  clear hA hl hp
  go_enter Try.func99, Try.ntmps99
  go_wp2_with fail
  refine HC.out.mono ?_
  rintro e w1 ⟨he, rfl⟩
  go_wp2_with fail
  go_ret
  exact ⟨he, rfl⟩

theorem finiteAll_V (A : Option Addr) (cap n : Nat) (cs : List (Nat × Nat)) (w : World) (hA : Lies w 27 A (cpxB cs)) (hn : cs.length = n) (hl : n ≤ 1000) (hok : ∀ c ∈ cs, Num c.1 ∧ Num c.2) :
    Calls Try.prog 89 #[.slice A n cap] w fun e w' => Ext w w' ∧ e = .returned (.bool true) := by
  have HC := Lib.hid (ContainsC_V A cap n cs w hA hn hl (fun k v hv w => finiteAll1_V v.1 v.2 (hok v (List.mem_of_getElem? hv)).1 (hok v (List.mem_of_getElem? hv)).2 w))
  clear hA hl hok
  go_enter Try.func89, Try.ntmps89
  go_wp2_with fail
  refine HC.out.mono ?_
  rintro e w1 ⟨he, rfl⟩
  go_wp2_with fail
  go_ret
  exact ⟨he, rfl⟩
end Go.Proofs.Ytfehhbmmdbpdpaa
/- Walks: a number without its sign; the pivot's row; a row's copy. -/
namespace Go.Proofs.Ytfehhbmmdbpdpaa
open Go Go.RowKit
set_option linter.unusedVariables false
set_option linter.unusedSimpArgs false
attribute [local go_sem] run_store_float run_store_complex

theorem andNot_sign (x : Nat) (h : x < 4294967296) : bits .andNot .u32 (x : Int) 2147483648 = ((x % 2147483648 : Nat) : Int) := by
  have e1 : (BitVec.ofInt 32 (x : Int)).toNat = x := by
    rw [BitVec.ofInt_natCast, BitVec.toNat_ofNat]
    exact Nat.mod_eq_of_lt (by simpa using h)
  have e2 : (~~~ (BitVec.ofInt 32 2147483648)).toNat = 2 ^ 31 - 1 := by decide
  have e3 : (BitVec.ofInt 32 (x : Int) &&& ~~~ BitVec.ofInt 32 2147483648).toNat = x % 2147483648 := by
    rw [BitVec.toNat_and, e1, e2, Nat.and_two_pow_sub_one_eq_mod]
  show IntKind.u32.wrap (((BitVec.ofInt 32 (x : Int) &&& ~~~ BitVec.ofInt 32 2147483648).toNat : Nat) : Int) = _
  rw [e3]
  show ((x % 2147483648 : Nat) : Int) % 4294967296 = _
  omega
theorem run_bitsY (x : Nat) (w : World) : (callFunc 112 #[.float .f32 x]).run Try.prog w = .ok (.value (.int .u32 x)) w := by
  rw [run_callFunc_extern Try.func112 (by kernel_rfl) (by kernel_rfl) (by kernel_rfl) (e := Extern.MathFloatBits.float32bits) (by kernel_rfl)]
  rfl
theorem run_frombits (x : Nat) (h : x < 4294967296) (w : World) : (callFunc 120 #[.int .u32 (x : Int)]).run Try.prog w = .ok (.value (.float .f32 x)) w := by
  rw [run_callFunc_extern Try.func120 (by kernel_rfl) (by kernel_rfl) (by kernel_rfl) (e := Extern.MathFloatBits.float32frombits) (by kernel_rfl)]
  rfl
theorem andNot_sign' (x : Nat) (h : x < 4294967296) : bits .andNot .u32 (x : Int) 2147483648 = (x : Int) % 2147483648 := (andNot_sign x h).trans (by omega)
theorem run_frombits' (x : Nat) (w : World) : (callFunc 120 #[.int .u32 ((x : Int) % 2147483648)]).run Try.prog w = .ok (.value (.float .f32 (x % 2147483648))) w := by
  rw [show (x : Int) % 2147483648 = ((x % 2147483648 : Nat) : Int) by omega]
  exact run_frombits _ (by omega) w
set_option maxRecDepth 100000 in
theorem abs_V {x : Nat} {a : Rat} (hx : Val .f32 x a) (w : World) : Calls Try.prog 106 #[.float .f32 x] w fun e w' => w' = w ∧ e = .returned (.float .f32 (x % 2147483648)) := by
  have hl : x < 4294967296 := hx.1
  have h1 := fun w => run_bitsY x w
  have h2 := andNot_sign' x hl
  have h3 := fun w => run_frombits' x w
  clear hx
  go_enter Try.func106, Try.ntmps106
  go_wp2_with fail
  go_ret
  exact ⟨rfl, rfl⟩
theorem under_floats : Try.prog.underlying 67 = some (.slice 34) := by kernel_rfl
theorem under_rows : Try.prog.underlying 95 = some (.slice 67) := by kernel_rfl
theorem infoF : (Try.prog.info? 34).map (fun i => (i.zero, i.size, i.bytes)) = some (some (.float .f32 0), 1, 4) := by kernel_rfl
theorem infoR : (Try.prog.info? 67).map (fun i => (i.zero, i.size, i.bytes)) = some (some (.slice none 0 0), 1, 24) := by kernel_rfl
/-- a row that is known whole -/
theorem blk_of_owns {w : World} {B n g cap : Nat} {e : TypeId} {xs : List Value} (h : w.ownsRow B e 1 (.slice (some ⟨g, 0, none⟩) n cap) n xs) (hx : xs.length = n) : ∃ arr : Array Value, Blk w g e arr ∧ B ≤ g ∧ ∀ c, c < n → arr[c]? = xs[c]? := by
  obtain ⟨h1, h2⟩ := lies_of_owns h
  by_cases hn : n = 0
  · subst hn
    rcases h.2 with ⟨h0, _⟩ | ⟨g', cap', cur, hv, hB, hb, _⟩
    · cases h0
    · simp only [Value.slice.injEq, Option.some.injEq, Addr.mk.injEq, and_true, true_and] at hv
      obtain ⟨rfl, rfl⟩ := hv
      exact ⟨cur, hb, hB, fun c hc => absurd hc (Nat.not_lt_zero c)⟩
  · obtain ⟨b, o, cur, e1, e2, e3⟩ := h1 (by omega)
    cases e1
    exact ⟨cur, e2, h2.1, fun c hc => by have := e3 c (by omega); rwa [Nat.zero_add] at this⟩
theorem vec_of_owns {w : World} {B n g cap : Nat} {xs : List Nat} (h : w.ownsRow B 34 1 (.slice (some ⟨g, 0, none⟩) n cap) n (fltB xs)) (hx : xs.length = n) : Vec w g n (fun c => xs.getD c 0) ∧ B ≤ g := by
  obtain ⟨arr, h1, h2, h3⟩ := blk_of_owns h (by rw [fltB_len]; exact hx)
  refine ⟨⟨arr, h1, fun c hc => ?_⟩, h2⟩
  rw [h3 c hc, fltB_at (x := xs.getD c 0) (by rw [List.getD_eq_getElem?_getD, List.getElem?_eq_getElem (by omega)]; rfl)]
set_option maxRecDepth 100000 in
theorem Clone_V (b o n cap : Nat) (xs : List Nat) (w : World) (hA : Lies w 34 (some ⟨b, o, none⟩) (fltB xs)) (hx : xs.length = n) (h0 : 0 < n) (hn : n ≤ 1000) :
    Calls Try.prog 71 #[.slice (some ⟨b, o, none⟩) n cap] w fun e w' => Ext w w' ∧ ∃ g c, e = .returned (.slice (some ⟨g, 0, none⟩) n c) ∧ Vec w' g n (fun c => xs.getD c 0) ∧ w.heap.size ≤ g := by
  have q22 : ∀ (w : World) (a : Option Addr) (n c n' c' : Nat), (binOp .eql 67 (.slice a n c) (.slice none n' c')).run Try.prog w = .ok (.bool a.isNone) w := fun w a n c n' c' => Lib.run_eql_slice_nil w _ _ a n c n' c' under_floats
  obtain ⟨i1, hi1, jz0, jz1, jz2⟩ := parts_of infoF
  have hz1 : (Value.float .f32 0).cells.size = 1 := by decide
  obtain ⟨b', o', e1, hb, hcc⟩ := hA.cell (by rw [fltB_len]; omega)
  cases e1
  have HCC := Lib.hid hcc
  have HX := Lib.hid hx
  have HB := Lib.hid hb
  clear hA hcc hx hb
  go_enter Try.func71, Try.ntmps71
  go_wp2_with (first | (at_builtin; refine Stand.of ?_))
  refine Stand.out ?_
  refine wpList_append_lies _ rfl _ _ 67 rfl w.heap.size 34 i1 _ 1 4 under_floats hi1 jz0 jz1 jz2 hz1 (by omega) _ 0 _ rfl (World.ownsRow_made (base := w.heap.size) (e := 34) (size := 1) w #[] 0 (Nat.le_refl _) (by decide) rfl) ⟨b, o, none⟩ n cap (fltB xs) rfl (by rw [fltB_len, HX.out, Nat.mul_one]) (fun j u hu => ?_) (fun u hu => ?_) h0 (by unfold maxLen; omega) (by omega) (by simp) _ rfl ?_
  · have := HCC.out j u hu
    have hE : Ext w (w.alloc (.cells #[] 34)) := by (repeat first | with_reducible exact Ext.rfl' _ | with_reducible refine Ext.drewN ?_ _ | with_reducible refine Ext.drew' ?_ | with_reducible refine Ext.alloc' ?_ _ | with_reducible refine Ext.setCell_at ?_ _ _ _ (by first | exact Nat.le_refl _ | omega) | with_reducible assumption | refine Ext.trans ?_ (by with_reducible assumption))
    have e2 : (⟨b, o, none⟩ : Addr).add j = ⟨b, o + j, none⟩ := by
      unfold Addr.add
      split
      · rename_i h; subst h; rfl
      · rfl
    rw [e2]
    exact (hE.cell (p := ⟨b, o + j, none⟩) HB.out).trans this
  · unfold fltB at hu
    obtain ⟨x, -, rfl⟩ := List.mem_map.1 hu
    simp [Value.oneCell']
  · intro g2 c2 w6 hown6 hgrow hat6 hlt6
    have HV := Lib.hid (vec_of_owns (xs := xs) (by simpa using hown6) HX.out)
    have HE := Lib.hid (Ext.grown (show Ext w (w.alloc (.cells #[] 34)) by (repeat first | with_reducible exact Ext.rfl' _ | with_reducible refine Ext.drewN ?_ _ | with_reducible refine Ext.drew' ?_ | with_reducible refine Ext.alloc' ?_ _ | with_reducible refine Ext.setCell_at ?_ _ _ _ (by first | exact Nat.le_refl _ | omega) | with_reducible assumption | refine Ext.trans ?_ (by with_reducible assumption))) hgrow (fun k hk => by have e2 : w.heap.size = k := Option.some.inj hk; omega))
    clear hown6 hgrow hat6 hlt6
    go_wp2_with fail
    go_ret
    exact ⟨HE.out, g2, c2, rfl, HV.out⟩
set_option maxRecDepth 100000 in
set_option maxHeartbeats 800000 in
theorem pivot_V (R cap n k : Nat) (G C : Nat → Nat) (V : Nat → Nat → Nat) (a : Nat → Rat) (w : World) (hM : Mat w R G C n V) (hk : k < n) (hn : n ≤ 5) (hv : ∀ r, k ≤ r → r < n → Val .f32 (V r k) (a r)) (h30 : 30 ≤ a k) (h8 : ∀ r, k < r → r < n → (a r).abs ≤ 8) :
    Calls Try.prog 72 #[.slice (some ⟨R, 0, none⟩) n cap, .int .i64 k] w fun e w' => w' = w ∧ e = .returned (.int .i64 k) := by
  have HM := Lib.hid hM
  have HV := Lib.hid hv
  have H30 := Lib.hid h30
  have H8 := Lib.hid h8
  clear hM hv h30 h8
  go_enter Try.func72, Try.ntmps72
  go_wp2_with fail
  go_loopw [5, 6, 7] (fun best most i wr => ∃ r : Nat, k ≤ r ∧ r ≤ n ∧ i = .int .i64 r ∧ wr = w ∧ ((r = k ∧ best = .int .i64 (-1) ∧ most = .float .f32 0) ∨ (k < r ∧ best = .int .i64 k ∧ most = .float .f32 (V k k % 2147483648)))) (fun _ _ i _ => n - (intOf i).toNat)
  case atStart => exact ⟨k, Nat.le_refl _, by omega, rfl, rfl, .inl ⟨rfl, rfl, rfl⟩⟩
  case round =>
    obtain ⟨r, hkr, hrn, rfl, rfl, hcase⟩ := hrel
    by_cases hlt : r < n
    · have d0 := HM.out.cell_row hlt
      have d1 := HM.out.cell hlt hk
      have hk0 : (k : Int) < (n : Int) := by omega
      have hv := HV.out r hkr hlt
      have HVR := Lib.hid hv
      have hwr : IntKind.i64.wrap ((r : Int) + 1) = ((r + 1 : Nat) : Int) := by rw [IntWalk.i64_in _ (by omega)]; omega
      rcases hcase with ⟨rfl, rfl, rfl⟩ | ⟨hkr2, rfl, rfl⟩
      · have hc : fcmp .gtr .f32 (V r r % 2147483648) 0 = true := (val_gtr (val_abs hv) num_zero).trans (by
          have := H30.out
          rw [Rat.abs_of_nonneg (by grind)]
          simp
          grind)
        clear hv
        go_wp2_with fail
        refine (abs_V HVR.out _).mono ?_
        rintro e w1 ⟨rfl, rfl⟩
        go_wp2_with (first | (refine wpList_fcmpD rfl .gtr _ _ _ _ rfl rfl _ _ _ rfl rfl _ hc ?_))
        exact ⟨⟨r + 1, by omega, by omega, by go_num, trivial, .inr ⟨by omega, rfl, rfl⟩⟩, by simp [intOf]; omega⟩
      · have hc : fcmp .gtr .f32 (V r k % 2147483648) (V k k % 2147483648) = false := (val_gtr (val_abs hv) (val_abs (HV.out k (Nat.le_refl _) hk))).trans (by
          have h1 := H30.out
          have h2 := H8.out r hkr2 hlt
          have h3 : (a k).abs = a k := Rat.abs_of_nonneg (by grind)
          rw [h3]
          simp
          grind)
        clear hv
        go_wp2_with fail
        refine (abs_V HVR.out _).mono ?_
        rintro e w1 ⟨rfl, rfl⟩
        go_wp2_with (first | (refine wpList_fcmpD rfl .gtr _ _ _ _ rfl rfl _ _ _ rfl rfl _ hc ?_))
        exact ⟨⟨r + 1, by omega, by omega, by go_num, trivial, .inr ⟨by omega, rfl, rfl⟩⟩, by simp [intOf]; omega⟩
    · have hrn2 : r = n := by omega
      rcases hcase with ⟨rfl, -, -⟩ | ⟨hkr2, rfl, rfl⟩
      · omega
      · go_wp2_with fail
        go_ret
        exact ⟨rfl, rfl⟩
end Go.Proofs.Ytfehhbmmdbpdpaa
/- The square under elimination: memory and values together. -/
namespace Go.Proofs.Ytfehhbmmdbpdpaa
open Go Go.RowKit
set_option linter.unusedVariables false
set_option linter.unusedSimpArgs false

theorem Vec.grown {w w' : World} {g n gg : Nat} {v : Nat → Nat} (h : Vec w g n v) (hg : w.grownBy w' (some gg)) (hne : g ≠ gg) : Vec w' g n v :=
  h.elim fun arr k => ⟨arr, (hg.block g k.1.lt (fun e => hne (Option.some.inj e))).trans k.1, k.2⟩
theorem Vec.apart {w : World} {g n gg : Nat} {v : Nat → Nat} {t : TypeId} {cs : Array Value} (h : Vec w g n v) (k : Blk w gg t cs) (ht : t ≠ 34) : g ≠ gg := fun e => by
  obtain ⟨arr, h1, -⟩ := h
  rw [e] at h1
  exact ht (k.type h1)
/-- values -/
def uqd (b : Nat → Rat) (i : Nat) (x : Rat) : Nat → Rat := fun c => if c = i then x else b c
theorem uqd_here (b : Nat → Rat) (i : Nat) (x : Rat) : uqd b i x i = x := by unfold uqd; rw [if_pos rfl]
theorem uqd_far {b : Nat → Rat} {i c : Nat} {x : Rat} (h : c ≠ i) : uqd b i x c = b c := by unfold uqd; rw [if_neg h]
def uqm (M : Nat → Nat → Rat) (r c : Nat) (x : Rat) : Nat → Nat → Rat := fun r' c' => if r' = r ∧ c' = c then x else M r' c'
theorem uqm_here (M : Nat → Nat → Rat) (r c : Nat) (x : Rat) : uqm M r c x r c = x := by unfold uqm; rw [if_pos ⟨rfl, rfl⟩]
theorem uqm_far {M : Nat → Nat → Rat} {r c r' c' : Nat} {x : Rat} (h : r' ≠ r ∨ c' ≠ c) : uqm M r c x r' c' = M r' c' := by unfold uqm; rw [if_neg (by omega)]
structure Sq (w0 w : World) (R gb n : Nat) (G C : Nat → Nat) (V : Nat → Nat → Nat) (v : Nat → Nat) (M : Nat → Nat → Rat) (b : Nat → Rat) : Prop where
  mat : Mat w R G C n V
  vec : Vec w gb n v
  ext : Ext w0 w
  apart : ∀ r, r < n → G r ≠ gb
  hR : w0.heap.size ≤ R
  hb : w0.heap.size ≤ gb
  hG : ∀ r, r < n → w0.heap.size ≤ G r
  vm : ∀ r c, r < n → c < n → Val .f32 (V r c) (M r c)
  vb : ∀ r, r < n → Val .f32 (v r) (b r)
section
variable {w0 w w' : World} {R gb n : Nat} {G C : Nat → Nat} {V : Nat → Nat → Nat} {v : Nat → Nat} {M : Nat → Nat → Rat} {b : Nat → Rat}
theorem Sq.neR (h : Sq w0 w R gb n G C V v M b) : R ≠ gb := fun e => by
  obtain ⟨arr, h1, -⟩ := h.mat.rows
  exact h.vec.apart h1 (by decide) e.symm
theorem Sq.drewN (h : Sq w0 w R gb n G C V v M b) (m : Nat) : Sq w0 (w.drewN m) R gb n G C V v M b := ⟨h.mat.drewN m, h.vec.drewN m, h.ext.drewN m, h.apart, h.hR, h.hb, h.hG, h.vm, h.vb⟩
theorem Sq.drew (h : Sq w0 w R gb n G C V v M b) : Sq w0 w.drew R gb n G C V v M b := ⟨h.mat.drew, h.vec.drew, Ext.drew' h.ext, h.apart, h.hR, h.hb, h.hG, h.vm, h.vb⟩
theorem Sq.grown (h : Sq w0 w R gb n G C V v M b) (he : Ext w w') : Sq w0 w' R gb n G C V v M b := ⟨h.mat.ext he, h.vec.ext he, Ext.trans h.ext he, h.apart, h.hR, h.hb, h.hG, h.vm, h.vb⟩
theorem Sq.setM (h : Sq w0 w R gb n G C V v M b) {r c x : Nat} {a : Rat} (hr : r < n) (hc : c < n) (hx : Val .f32 x a) : Sq w0 (w.setCell ⟨G r, c, none⟩ (.float .f32 x)) R gb n G C (upm V r c x) v (uqm M r c a) b := by
  refine ⟨h.mat.set hr c x, h.vec.other (h.apart r hr).symm c, Ext.setCell_at h.ext _ _ _ (h.hG r hr), h.apart, h.hR, h.hb, h.hG, fun s d hs hd => ?_, h.vb⟩
  by_cases e : s = r ∧ d = c
  · obtain ⟨rfl, rfl⟩ := e
    rw [upm_here, uqm_here]
    exact hx
  · rw [upm_far (by omega), uqm_far (by omega)]
    exact h.vm s d hs hd
theorem Sq.setB (h : Sq w0 w R gb n G C V v M b) {r x : Nat} {a : Rat} (hr : r < n) (hx : Val .f32 x a) : Sq w0 (w.setCell ⟨gb, r, none⟩ (.float .f32 x)) R gb n G C V (upd v r x) M (uqd b r a) := by
  refine ⟨h.mat.other h.neR (fun s hs => h.apart s hs) r, h.vec.set r x, Ext.setCell_at h.ext _ _ _ h.hb, h.apart, h.hR, h.hb, h.hG, h.vm, fun s hs => ?_⟩
  by_cases e : s = r
  · subst e
    rw [upd_here, uqd_here]
    exact hx
  · rw [upd_far e, uqd_far e]
    exact h.vb s hs
theorem Sq.other {u : Value} {g : Nat} (h : Sq w0 w R gb n G C V v M b) (h0 : w0.heap.size ≤ g) (h1 : R ≠ g) (h2 : gb ≠ g) (h3 : ∀ r, r < n → G r ≠ g) (i : Nat) : Sq w0 (w.setCell ⟨g, i, none⟩ u) R gb n G C V v M b :=
  ⟨h.mat.other h1 h3 i, h.vec.other h2 i, Ext.setCell_at h.ext _ _ _ h0, h.apart, h.hR, h.hb, h.hG, h.vm, h.vb⟩
end
/-- rows that are done -/
def Done (n k : Nat) (M : Nat → Nat → Rat) (b : Nat → Rat) : Prop := ∀ i, i < k → i < n → (∀ c, i ≤ c → c < n → (M i c - unit40 i c).abs ≤ growD i) ∧ (b i).abs ≤ growB i
theorem Done.step {n k : Nat} {M M' : Nat → Nat → Rat} {b b' : Nat → Rat} (h : Done n k M b) (B : Bnd n k M b) (hk : k < n) (hlow : ∀ r c, r ≤ k → c < n → M' r c = M r c) (hlb : ∀ r, r ≤ k → b' r = b r) : Done n (k + 1) M' b' := fun i hi hin => by
  by_cases e : i = k
  · subst e
    exact ⟨fun c h1 h2 => by rw [hlow i c (Nat.le_refl _) h2]; exact B.ent i c (Nat.le_refl _) hk h1 h2, by rw [hlb i (Nat.le_refl _)]; exact B.rhs i (Nat.le_refl _) hk⟩
  · obtain ⟨h1, h2⟩ := h i (by omega) hin
    exact ⟨fun c h3 h4 => by rw [hlow i c (by omega) h4]; exact h1 c h3 h4, by rw [hlb i (by omega)]; exact h2⟩
/-- the square at a stage -/
structure Stage (n : Nat) (A : Nat → Nat → Rat) (β : Nat → Rat) (k : Nat) (M : Nat → Nat → Rat) (b : Nat → Rat) : Prop where
  bnd : Bnd n k M b
  stg : Stg n A β k M b
  done : Done n k M b
/-- the rows up to r are less their parts of the pivot's row -/
structure Part (n k r : Nat) (M M' : Nat → Nat → Rat) (b b' : Nat → Rat) : Prop where
  ent : ∀ s c, s ≤ k ∨ r ≤ s → M' s c = M s c
  rhs : ∀ s, s ≤ k ∨ r ≤ s → b' s = b s
  row : ∀ s, k < s → s < r → ∃ F, RowOk n k s M M' b b' F
theorem Part.start (n k : Nat) (M : Nat → Nat → Rat) (b : Nat → Rat) : Part n k (k + 1) M M b b := ⟨fun _ _ _ => rfl, fun _ _ => rfl, fun s h1 h2 => by omega⟩
theorem Stage.next {n k : Nat} {A M M' : Nat → Nat → Rat} {β b b' : Nat → Rat} (hn : n ≤ 5) (hk : k < n) (h : Stage n A β k M b) (p : Part n k n M M' b b') : Stage n A β (k + 1) M' b' :=
  ⟨stage_bnd hn h.bnd p.row, Stg.step hn hk h.stg (fun r c hr _ => p.ent r c (.inl hr)) (fun r hr => p.rhs r (.inl hr)) p.row, h.done.step h.bnd hk (fun r c hr _ => p.ent r c (.inl hr)) (fun r hr => p.rhs r (.inl hr))⟩
/-- one row, up to a column -/
structure Cols (k r j : Nat) (M M' M'' : Nat → Nat → Rat) (F : Rat) : Prop where
  same : ∀ s c, s ≠ r ∨ c ≤ k ∨ j ≤ c → M'' s c = M' s c
  ent : ∀ c, k < c → c < j → (M'' r c - (M r c - F * M k c)).abs ≤ 1 / 131072
theorem Cols.start (k r : Nat) (M M' : Nat → Nat → Rat) (F : Rat) : Cols k r (k + 1) M M' M' F := ⟨fun _ _ _ => rfl, fun c h1 h2 => by omega⟩
theorem Cols.next {k r j : Nat} {M M' M'' : Nat → Nat → Rat} {F a : Rat} (h : Cols k r j M M' M'' F) (hkj : k < j) (ha : (a - (M r j - F * M k j)).abs ≤ 1 / 131072) : Cols k r (j + 1) M M' (uqm M'' r j a) F := by
  refine ⟨fun s c hsc => ?_, fun c h1 h2 => ?_⟩
  · rw [uqm_far (by omega)]
    exact h.same s c (by omega)
  · by_cases e : c = j
    · subst e
      rw [uqm_here]
      exact ha
    · rw [uqm_far (by omega)]
      exact h.ent c h1 (by omega)
theorem Part.next {n k r : Nat} {M M' M'' : Nat → Nat → Rat} {b b' : Nat → Rat} {F a : Rat} (h : Part n k r M M' b b') (hk : k < r) (hr : r < n) (hF : F.abs ≤ growF k) (hc : (M r k - F * M k k).abs ≤ 1 / 131072)
    (q : Cols k r n M M' M'' F) (ha : (a - (b r - F * b k)).abs ≤ 1 / 131072) : Part n k (r + 1) M M'' b (uqd b' r a) := by
  refine ⟨fun s c hs => ?_, fun s hs => ?_, fun s h1 h2 => ?_⟩
  · rw [q.same s c (.inl (by omega))]
    exact h.ent s c (by omega)
  · rw [uqd_far (by omega)]
    exact h.rhs s (by omega)
  · by_cases e : s = r
    · subst e
      exact ⟨F, hF, hc, q.ent, by rw [uqd_here]; exact ha⟩
    · obtain ⟨F', g⟩ := h.row s h1 (by omega)
      exact ⟨F', g.f, g.col, fun j h3 h4 => by rw [q.same s j (.inl e)]; exact g.ent j h3 h4, by rw [uqd_far e]; exact g.rhs⟩
end Go.Proofs.Ytfehhbmmdbpdpaa
/- The square's other way: from the last row to the first. No Go in sight. -/
namespace Go.Proofs.Ytfehhbmmdbpdpaa
open Go
set_option linter.unusedVariables false

structure Bak (n m : Nat) (M : Nat → Nat → Rat) (b x : Nat → Rat) : Prop where
  small : ∀ j, m ≤ j → j < n → (x j).abs ≤ 1 / 2
  res : ∀ j, m ≤ j → j < n → (resid M b x j n j).abs ≤ 1 / 65536
/-- what is left of a right side -/
def Sm (M : Nat → Nat → Rat) (b x : Nat → Rat) (k j : Nat) (S : Rat) : Prop := (S - (b k - sr (fun c => M k c * x c) (k + 1) j)).abs ≤ ((j - (k + 1) : Nat) : Rat) * (9 / 4194304)
theorem Sm.start (M : Nat → Nat → Rat) (b x : Nat → Rat) (k : Nat) : Sm M b x k (k + 1) (b k) := by
  unfold Sm
  rw [sr_self, Nat.sub_self, show b k - (b k - 0) = 0 by grind, Rat.abs_zero, show ((0 : Nat) : Rat) = 0 from rfl]
  grind
theorem Sm.next {M : Nat → Nat → Rat} {b x : Nat → Rat} {k j : Nat} {S T : Rat} (h : Sm M b x k j S) (hk : k < j) (hT : (T - (S - M k j * x j)).abs ≤ 9 / 4194304) : Sm M b x k (j + 1) T := by
  unfold Sm at h ⊢
  rw [sr_succ, show j + 1 - (k + 1) = (j - (k + 1)) + 1 by omega, Rat.natCast_add, show ((1 : Nat) : Rat) = 1 from rfl]
  have q1 := abs_le.1 h
  have q2 := abs_le.1 hT
  exact abs_le.2 ⟨by grind, by grind⟩
theorem Done.off {n k i c : Nat} {M : Nat → Nat → Rat} {b : Nat → Rat} (h : Done n k M b) (hi : i < k) (hn : i < n) (hc : i < c) (hcn : c < n) : (M i c).abs ≤ growD i := by
  have := (h i hi hn).1 c (by omega) hcn
  rw [unit40_ne (by omega)] at this
  rwa [show M i c - 0 = M i c by grind] at this
theorem Done.diag {n k i : Nat} {M : Nat → Nat → Rat} {b : Nat → Rat} (h : Done n k M b) (hi : i < k) (hn : i < n) : 40 - growD i ≤ M i i ∧ M i i ≤ 48 := by
  have := abs_le.1 ((h i hi hn).1 i (Nat.le_refl _) hn)
  rw [unit40_self] at this
  have := (growD_le i).2
  constructor <;> grind
theorem Sm.bound {n k j : Nat} {M : Nat → Nat → Rat} {b x : Nat → Rat} {S : Rat} (h : Sm M b x k j S) (hd : Done n n M b) (hn : n ≤ 5) (hk : k < j) (hj : j ≤ n) (hx : ∀ c, k < c → c < n → (x c).abs ≤ 1 / 2) :
    S.abs ≤ 45 / 100 * (40 - growD k) + 36 / 4194304 ∧ S.abs ≤ 28 := by
  have hg := growD_le k
  have h1 := sr_bound (fun c => M k c * x c) (growD k * (1 / 2)) (k + 1) j hk (fun c h1 h2 => mul_abs_le (hd.off (by omega) (by omega) (by omega) (by omega)) (hx c (by omega) (by omega)))
  have h2 := back_bound k n hn (by omega)
  have h3 := (hd k (by omega) (by omega)).2
  have hc : ((j - (k + 1) : Nat) : Rat) ≤ ((n - (k + 1) : Nat) : Rat) := Rat.natCast_le_natCast.2 (by omega)
  have hc4 : ((j - (k + 1) : Nat) : Rat) ≤ 4 := by
    have : ((j - (k + 1) : Nat) : Rat) ≤ ((4 : Nat) : Rat) := Rat.natCast_le_natCast.2 (by omega)
    exact this
  have h4 := Rat.mul_le_mul_of_nonneg_right hc (show 0 ≤ growD k * (1 / 2) by grind)
  have h5 : ((j - (k + 1) : Nat) : Rat) * (9 / 4194304) ≤ 36 / 4194304 := by grind
  unfold Sm at h
  have q1 := abs_le.1 h
  have q2 := abs_le.1 h1
  have q3 := abs_le.1 h3
  have key : S.abs ≤ 45 / 100 * (40 - growD k) + 36 / 4194304 := abs_le.2 ⟨by grind, by grind⟩
  exact ⟨key, by grind⟩
theorem Sm.quot {n k : Nat} {M : Nat → Nat → Rat} {b x : Nat → Rat} {S : Rat} (h : Sm M b x k n S) (hd : Done n n M b) (hn : n ≤ 5) (hk : k < n) (hx : ∀ c, k < c → c < n → (x c).abs ≤ 1 / 2) :
    S.abs ≤ 46 / 100 * M k k ∧ 30 ≤ M k k ∧ M k k ≤ 48 := by
  obtain ⟨d1, d2⟩ := hd.diag hk hk
  have := (h.bound hd hn hk (Nat.le_refl _) hx).1
  have := growD_le k
  refine ⟨by grind, by grind, d2⟩
theorem Bak.next {n k : Nat} {M : Nat → Nat → Rat} {b x : Nat → Rat} {S X : Rat} (h : Bak n (k + 1) M b x) (hn : n ≤ 5) (hk : k < n) (hs : Sm M b x k n S) (hX : X.abs ≤ 1 / 2) (hr : (X * M k k - S).abs ≤ 24 / 4194304) : Bak n k M b (uqd x k X) := by
  have hsame : ∀ j, k < j → uqd x k X j = x j := fun j hj => uqd_far (by omega)
  refine ⟨fun j h1 h2 => ?_, fun j h1 h2 => ?_⟩
  · by_cases e : j = k
    · subst e; rw [uqd_here]; exact hX
    · rw [hsame j (by omega)]; exact h.small j (by omega) h2
  · by_cases e : j = k
    · subst e
      unfold Sm at hs
      unfold resid
      rw [sr_head, uqd_here]
      have e2 : sr (fun c => M j c * uqd x j X c) (j + 1) n = sr (fun c => M j c * x c) (j + 1) n := sr_congr _ _ (by omega) (fun c h1 h2 => by rw [hsame c (by omega)])
      rw [e2]
      have hc4 : ((n - (j + 1) : Nat) : Rat) ≤ 4 := by
        have : ((n - (j + 1) : Nat) : Rat) ≤ ((4 : Nat) : Rat) := Rat.natCast_le_natCast.2 (by omega)
        exact this
      have q1 := abs_le.1 hs
      have q2 := abs_le.1 hr
      exact abs_le.2 ⟨by grind, by grind⟩
    · have : resid M b (uqd x k X) j n j = resid M b x j n j := by
        unfold resid
        rw [sr_congr _ _ (by omega) (fun c h1 h2 => by rw [hsame c (by omega)])]
      rw [this]
      exact h.res j (by omega) h2
end Go.Proofs.Ytfehhbmmdbpdpaa
/- Walks: numbers told; rows of a square laid. -/
namespace Go.Proofs.Ytfehhbmmdbpdpaa
open Go Go.RowKit
set_option linter.unusedVariables false
set_option linter.unusedSimpArgs false
attribute [local go_sem] run_store_float run_store_complex

theorem run_arithY (op : BinOp) (t : TypeId) (k : FloatKind) (x y r : Nat) (h : floatBits op k x y = some r) (w : World) : (binOp op t (.float k x) (.float k y)).run Try.prog w = .ok (.float k r) w := run_float_arith w op t k x y r h
theorem run_make_Y (n : Nat) (hn : n ≤ 1048576) (w : World) :
    (Instr.makeSlice 67 (.int .i64 (n : Int)) (.int .i64 (n : Int))).run Try.prog w = .ok (.slice (some ⟨w.heap.size, 0, none⟩) n n) (w.alloc (.cells (madeCells #[.float .f32 0] n) 34)) := by
  obtain ⟨i, h1, h2, h3, h4⟩ := parts_of infoF
  have := run_make_rowN (P := Try.prog) 67 34 i _ under_floats h1 h2 .i64 .i64 n n (Nat.le_refl _) (by rw [h4]; omega) (by omega) w
  rw [h3, Nat.mul_one] at this
  exact this
theorem made_vec (w : World) (n : Nat) : Vec (w.alloc (.cells (madeCells #[.float .f32 0] n) 34)) w.heap.size n (fun _ => 0) := by
  refine ⟨_, Blk.new _ _ _, fun c hc => ?_⟩
  rw [← Array.getElem?_toList, toList_madeCells_one, List.getElem?_replicate, if_pos hc]
theorem Bnd.le48 {n k : Nat} {M : Nat → Nat → Rat} {b : Nat → Rat} (h : Bnd n k M b) {r c : Nat} (h1 : k ≤ r) (h2 : r < n) (h3 : k ≤ c) (h4 : c < n) : (M r c).abs ≤ 48 := by
  have := abs_le.1 (h.ent r c h1 h2 h3 h4)
  have := growD_le k
  unfold unit40 at *
  refine abs_le.2 ?_
  by_cases e : r = c
  · simp only [if_pos e] at *; constructor <;> grind
  · simp only [if_neg e] at *; constructor <;> grind
theorem Bnd.off14 {n k : Nat} {M : Nat → Nat → Rat} {b : Nat → Rat} (h : Bnd n k M b) {r c : Nat} (h1 : k ≤ r) (h2 : r < n) (h3 : k ≤ c) (h4 : c < n) (hne : r ≠ c) : (M r c).abs ≤ 225 / 16 := by
  have := h.off h1 h2 h3 h4 hne
  have := growD_le k
  grind
theorem Bnd.off8 {n k : Nat} {M : Nat → Nat → Rat} {b : Nat → Rat} (h : Bnd n k M b) {r c : Nat} (h1 : k ≤ r) (h2 : r < n) (h3 : k ≤ c) (h4 : c < n) (hne : r ≠ c) : (M r c).abs ≤ 8 := by
  have := h.off h1 h2 h3 h4 hne
  have := growD_le k
  grind
theorem Bnd.diag30 {n k : Nat} {M : Nat → Nat → Rat} {b : Nat → Rat} (h : Bnd n k M b) {r : Nat} (h1 : k ≤ r) (h2 : r < n) : 30 ≤ M r r := by
  have := (h.diag h1 h2).1
  have := growD_le k
  grind
theorem Bnd.rhs14 {n k : Nat} {M : Nat → Nat → Rat} {b : Nat → Rat} (h : Bnd n k M b) {r : Nat} (h1 : k ≤ r) (h2 : r < n) : (b r).abs ≤ 225 / 16 := by
  have := h.rhs r h1 h2
  have := growB_le k
  grind
theorem Bnd.rhs48 {n k : Nat} {M : Nat → Nat → Rat} {b : Nat → Rat} (h : Bnd n k M b) {r : Nat} (h1 : k ≤ r) (h2 : r < n) : (b r).abs ≤ 48 := by
  have := h.rhs14 h1 h2
  grind
theorem Done.off7 {n k i c : Nat} {M : Nat → Nat → Rat} {b : Nat → Rat} (h : Done n k M b) (hi : i < k) (hn : i < n) (hc : i < c) (hcn : c < n) : (M i c).abs ≤ 113 / 16 := by
  have := h.off hi hn hc hcn
  have := growD_le i
  grind
theorem Vec.lies {w : World} {g n : Nat} {v : Nat → Nat} (h : Vec w g n v) : Lies w 34 (some ⟨g, 0, none⟩) (fltB ((List.range n).map v)) := fun hp => by
  obtain ⟨arr, h1, h2⟩ := h
  refine ⟨g, 0, arr, rfl, h1, fun j hj => ?_⟩
  rw [fltB_len, List.length_map, List.length_range] at hj
  rw [Nat.zero_add, h2 j hj, fltB_at (x := v j) (by simp [hj])]
theorem in_V (n lo hi : Int) (h1 : lo ≤ n) (h2 : n ≤ hi) (w : World) : Calls Try.prog 52 #[.int .i64 n, .int .i64 lo, .int .i64 hi] w fun e w' => w' = w ∧ e = .returned (.bool true) := by
  go_enter Try.func52, Try.ntmps52
  go_wp2_with fail
  go_ret
  exact ⟨rfl, rfl⟩
theorem toldNumbers_V (A : Option Addr) (cap n : Nat) (xs : List Nat) (w : World) (hA : Lies w 34 A (fltB xs)) (hn : xs.length = n) (hl : n ≤ 1000) (hok : ∀ x ∈ xs, Num x) :
    Calls Try.prog 73 #[.slice A n cap] w fun e w' => Ext w w' ∧ e = .returned (.tuple #[.slice A n cap, .bool true]) := by
  have HC := Lib.hid (finite_V A cap n xs w hA hn hl hok)
  clear hA hl hok
  go_enter Try.func73, Try.ntmps73
  go_wp2_with fail
  refine HC.out.mono ?_
  rintro e w1 ⟨he, rfl⟩
  go_wp2_with fail
  go_ret2
  exact ⟨he, rfl⟩
/-- a part of a row that came in -/
theorem Lies.part {w : World} {t : TypeId} {b o : Nat} {xs : List Value} (h : Lies w t (some ⟨b, o, none⟩) xs) (i n : Nat) (hin : i + n ≤ xs.length) : Lies w t (some ⟨b, o + i, none⟩) ((xs.drop i).take n) := fun hp => by
  have hl : ((xs.drop i).take n).length = n := by rw [List.length_take, List.length_drop]; omega
  obtain ⟨b', o', cur, e1, h2, h3⟩ := h (by omega)
  cases e1
  refine ⟨b, o + i, cur, rfl, h2, fun j hj => ?_⟩
  rw [hl] at hj
  rw [Nat.add_assoc, h3 (i + j) (by omega), List.getElem?_take_of_lt hj, List.getElem?_drop]
theorem fltB_part (xs : List Nat) (i n : Nat) : ((fltB xs).drop i).take n = fltB ((xs.drop i).take n) := by unfold fltB; rw [List.map_take, List.map_drop]
/-- the rows' cells -/
def rowVals (G C : Nat → Nat) (n k : Nat) : List Value := (List.range k).map (fun r => .slice (some ⟨G r, 0, none⟩) n (C r))
theorem rowVals_succ (G C : Nat → Nat) (n k : Nat) : rowVals G C n (k + 1) = rowVals G C n k ++ [.slice (some ⟨G k, 0, none⟩) n (C k)] := by unfold rowVals; rw [List.range_succ, List.map_append]; rfl
theorem rowVals_congr {G C G' C' : Nat → Nat} {n k : Nat} (h : ∀ r, r < k → G' r = G r ∧ C' r = C r) : rowVals G' C' n k = rowVals G C n k := by
  unfold rowVals
  apply List.map_congr_left
  intro r hr
  obtain ⟨h1, h2⟩ := h r (List.mem_range.1 hr)
  rw [h1, h2]
theorem rowVals_at {G C : Nat → Nat} {n k r : Nat} (h : r < k) : (rowVals G C n k)[r]? = some (.slice (some ⟨G r, 0, none⟩) n (C r)) := by unfold rowVals; simp [h]
theorem rowVals_len (G C : Nat → Nat) (n k : Nat) : (rowVals G C n k).length = k := by simp [rowVals]
/-- the first rows are laid -/
structure Laying (w0 w : World) (B gg cq gb n k : Nat) (G C : Nat → Nat) (xs : List Nat) (v : Nat → Nat) : Prop where
  own : w.ownsRow B 67 1 (.slice (some ⟨gg, 0, none⟩) k cq) k (rowVals G C n k)
  row : ∀ r, r < k → Vec w (G r) n (fun c => xs.getD (r * n + c) 0)
  inj : ∀ r s, r < k → s < k → G r = G s → r = s
  vec : Vec w gb n v
  ext : Ext w0 w
  apart : ∀ r, r < k → G r ≠ gb
  hG : ∀ r, r < k → w0.heap.size ≤ G r
  hB : w0.heap.size ≤ B
  size : B ≤ w.heap.size
theorem Laying.next {w0 w w2 w3 w6 : World} {B gg cq gb n k g g2 c2 c : Nat} {G C : Nat → Nat} {xs : List Nat} {v : Nat → Nat} {o : Obj} (h : Laying w0 w B gg cq gb n k G C xs v)
    (he : Ext w w2) (hv : Vec w2 g n (fun c => xs.getD (k * n + c) 0)) (hg : w.heap.size ≤ g) (h3 : w3 = w2.alloc o)
    (hown : w6.ownsRow B 67 1 (.slice (some ⟨g2, 0, none⟩) (k + 1) c2) (k + 1) (rowVals G C n k ++ [.slice (some ⟨g, 0, none⟩) n c]))
    (hgrow : w3.grownBy w6 (some gg)) :
    Laying w0 w6 B g2 c2 gb n (k + 1) (upd G k g) (upd C k c) xs v := by
  have hgl := h.own.lt gg rfl
  obtain ⟨arr, hblk, -⟩ := blk_of_owns h.own (rowVals_len _ _ _ _)
  have hE : Ext w w3 := by rw [h3]; exact Ext.alloc' he o
  have hE2 : Ext w2 w3 := by rw [h3]; exact Ext.alloc' (Ext.rfl' _) o
  have hGk : ∀ r, r < k → upd G k g r = G r := fun r hr => upd_far (by omega)
  have hlt : ∀ r, r < k → G r < w.heap.size := fun r hr => (h.row r hr).lt
  have hne : ∀ r, r < k → G r ≠ gg := fun r hr => (h.row r hr).apart hblk (by decide)
  refine ⟨?_, fun r hr => ?_, fun r s hr hs e => ?_, ?_, ?_, fun r hr => ?_, fun r hr => ?_, h.hB, ?_⟩
  · rw [rowVals_succ, upd_here, upd_here, rowVals_congr (G := G) (C := C) (fun r hr => ⟨upd_far (by omega), upd_far (by omega)⟩)]
    exact hown
  · by_cases e : r = k
    · subst e
      rw [upd_here]
      exact (hv.ext hE2).grown hgrow (by omega)
    · rw [hGk r (by omega)]
      exact ((h.row r (by omega)).ext hE).grown hgrow (hne r (by omega))
  · by_cases e1 : r = k
    · subst e1
      by_cases e2 : s = r
      · exact e2.symm
      · rw [upd_here, hGk s (by omega)] at e
        have := hlt s (by omega)
        omega
    · by_cases e2 : s = k
      · subst e2
        rw [upd_here, hGk r (by omega)] at e
        have := hlt r (by omega)
        omega
      · rw [hGk r (by omega), hGk s (by omega)] at e
        exact h.inj r s (by omega) (by omega) e
  · exact (h.vec.ext hE).grown hgrow (h.vec.apart hblk (by decide))
  · exact Ext.grown (Ext.trans h.ext hE) hgrow (fun q hq => by cases hq; exact Nat.le_trans h.hB hgl.1)
  · by_cases e : r = k
    · subst e
      rw [upd_here]
      have := h.vec.lt
      omega
    · rw [hGk r (by omega)]; exact h.apart r (by omega)
  · by_cases e : r = k
    · subst e
      rw [upd_here]
      have := h.ext.size
      omega
    · rw [hGk r (by omega)]; exact h.hG r (by omega)
  · have := hgrow.size
    have := hE.size
    have := h.size
    omega
theorem Laying.sq {w0 w : World} {B gg cq gb n : Nat} {G C : Nat → Nat} {xs : List Nat} {v : Nat → Nat} {A : Nat → Nat → Rat} {β : Nat → Rat} (h : Laying w0 w B gg cq gb n n G C xs v) (hb : w0.heap.size ≤ gb)
    (hA : ∀ r c, r < n → c < n → Val .f32 (xs.getD (r * n + c) 0) (A r c)) (hβ : ∀ r, r < n → Val .f32 (v r) (β r)) : Sq w0 w gg gb n G C (fun r c => xs.getD (r * n + c) 0) v A β := by
  obtain ⟨arr, h1, h2, h3⟩ := blk_of_owns h.own (rowVals_len _ _ _ _)
  refine ⟨⟨⟨arr, h1, fun r hr => ?_⟩, h.row, h.inj⟩, h.vec, h.ext, h.apart, Nat.le_trans h.hB h2, hb, h.hG, hA, hβ⟩
  rw [h3 r hr, rowVals_at hr]
end Go.Proofs.Ytfehhbmmdbpdpaa
