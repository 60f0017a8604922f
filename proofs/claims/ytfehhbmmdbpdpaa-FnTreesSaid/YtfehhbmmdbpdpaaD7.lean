/- Walks: a node laid behind others. -/
import Derived.Test.YtfehhbmmdbpdpaaD6
import Derived.Deep.DeepCutAuto
namespace Go.Proofs.Ytfehhbmmdbpdpaa
open Go Go.RowKit
set_option linter.unusedVariables false
set_option linter.unusedSimpArgs false
attribute [local go_sem] run_store_float run_store_complex

theorem infoN : (Try.prog.info? 49).map (fun i => (i.zero, i.size, i.bytes)) = some (some (.agg #[.complex .f32 0 0, .float .f32 0, .int .i64 0, .slice none 0 0, .slice none 0 0, .float .f32 0, .complex .f32 0 0]), 7, 88) := by kernel_rfl
theorem infoW : (Try.prog.info? 51).map (fun i => (i.zero, i.size, i.bytes)) = some (some (.agg #[.complex .f32 0 0, .float .f32 0]), 2, 12) := by kernel_rfl
theorem infoI : (Try.prog.info? 2).map (fun i => (i.zero, i.size, i.bytes)) = some (some (.int .i64 0), 1, 8) := by kernel_rfl
theorem under_nodes : Try.prog.underlying 40 = some (.slice 49) := by kernel_rfl
theorem under_whirls : Try.prog.underlying 38 = some (.slice 51) := by kernel_rfl
theorem under_ints : Try.prog.underlying 43 = some (.slice 2) := by kernel_rfl
theorem parts_of {P : Program} {t : TypeId} {z : Value} {s b : Nat} (h : (P.info? t).map (fun i => (i.zero, i.size, i.bytes)) = some (some z, s, b)) : ∃ i, P.info? t = some i ∧ i.zero = some z ∧ i.size = s ∧ i.bytes = b := by
  cases hi : P.info? t with
  | none => rw [hi] at h; cases h
  | some i =>
    rw [hi] at h
    simp only [Option.map_some, Option.some.injEq, Prod.mk.injEq] at h
    exact ⟨i, rfl, h.1, h.2.1, h.2.2⟩
theorem moments_n (A : Option Addr) (cap n : Nat) (us : List Wh) (cx cy : Int) (hn : us.length = n) (w : World) (hA : Lies w 51 A (whVals us)) (hl : n ≤ 12) (hok : ∀ u ∈ us, OkW u) (hx : cx.natAbs ≤ 8192) (hy : cy.natAbs ≤ 8192) (ex : cx % 2 = 0) (ey : cy % 2 = 0) :
    Calls Try.prog 49 #[.slice A n cap, .complex .f32 (F cx) (F cy)] w fun e w' => Ext w w' ∧ e = .returned (.tuple #[.float .f32 (F (spinL us)), .complex .f32 (F (momXL cx us)) (F (momYL cy us))]) := by
  subst hn
  exact moments_any A cap us cx cy w hA hl hok hx hy ex ey
theorem spinP_L (ps : List Wh) (ws : List Nat) : spinP ps ws = spinL (ws.map (atW ps)) := by unfold spinP spinL; rw [List.foldl_map]
theorem momX_L (ps : List Wh) (c : Int) (ws : List Nat) : momX ps c ws = momXL c (ws.map (atW ps)) := by unfold momX momXL; rw [List.foldl_map]
theorem momY_L (ps : List Wh) (c : Int) (ws : List Nat) : momY ps c ws = momYL c (ws.map (atW ps)) := by unfold momY momYL; rw [List.foldl_map]
/-- the list's whirls are such as are drawn -/
def OkPs (ps : List Wh) : Prop := ps.length ≤ 12 ∧ ∀ u ∈ ps, OkW u
theorem OkPs.at {ps : List Wh} (h : OkPs ps) {i : Nat} (hi : i < ps.length) : OkW (atW ps i) ∧ ps[i]? = some (atW ps i) := by
  have he : ps[i]? = some (atW ps i) := by unfold atW; rw [List.getD_eq_getElem?_getD, List.getElem?_eq_getElem hi]; rfl
  exact ⟨h.2 _ (List.mem_of_getElem? he), he⟩
theorem OkPs.map {ps : List Wh} (h : OkPs ps) {ws : List Nat} (hw : ∀ i ∈ ws, i < ps.length) : ∀ u ∈ ws.map (atW ps), OkW u := fun u hu => by
  obtain ⟨i, hi, rfl⟩ := List.mem_map.1 hu
  exact (h.at (hw i hi)).1
/-- the cells of a node as it is handed on -/
def handed (wd d : Nat) (cx cy : Int) (n : Nat) (A : Option Addr) (c : Nat) (sp mx my : Nat) : Array Value :=
  #[.complex .f32 (F cx) (F cy), .float .f32 (F (hP d wd)), .int .i64 d, .slice A n c, .slice none 0 0, .float .f32 sp, .complex .f32 mx my]

set_option maxRecDepth 100000 in
set_option maxHeartbeats 1600000 in
theorem growLeaf_any (ps : List Wh) (wd B g r cp n d : Nat) (cx cy : Int) (ws : List Nat) (ys : List Value) (lb lo lcap : Nat) (A1 : Option Addr) (c1 : Nat) (w : World) (hps : OkPs ps) (hpre : Pre ps wd ps.length d cx cy ws)
    (hT : Tr w B g (.slice (some ⟨r, 0, none⟩) n cp) n ys) (hL : Lies w 51 (some ⟨lb, lo, none⟩) (whVals ps)) (hW : Lies w 2 A1 (intVals ws)) (hn : n ≤ 1000) (hws : ws.length ≤ 12)
    (hleaf : ws.length ≤ 3 ∨ 6 ≤ d ∨ wd = 0) (hwd : wd ≤ 32) (hd : d ≤ 6) :
    Calls Try.prog 86 #[.pointer (some ⟨g, 0, none⟩), .slice (some ⟨lb, lo, none⟩) ps.length lcap, .agg (handed wd d cx cy ws.length A1 c1 0 0 0)] w fun e w' =>
      e = .returned (.int .i64 n) ∧ ∃ r' cp' zs, Tr w' B g (.slice (some ⟨r', 0, none⟩) (n + 1) cp') (n + 1) (ys ++ zs) ∧ NodesAt w' wd [nodeP ps d cx cy ws []] zs ∧ Fr w w' g (.slice (some ⟨r, 0, none⟩) n cp) (.slice (some ⟨r', 0, none⟩) (n + 1) cp') ∧ AddrsIn (fun b => (w.heap.size ≤ b ∨ ∃ o, A1 = some ⟨b, o, none⟩) ∧ b < w'.heap.size) zs := by
  have HPS := Lib.hid hps
  have HPRE := Lib.hid hpre
  have HT := Lib.hid hT
  have HL := Lib.hid hL
  have HW := Lib.hid hW
  have HN := Lib.hid hn
  have HWS := Lib.hid hws
  have HLEAF := Lib.hid hleaf
  have HWD := Lib.hid hwd
  have HD := Lib.hid hd
  obtain ⟨i1, hi1, jz0, jz1, jz2⟩ := parts_of infoW
  have hz1 : (Value.agg #[.complex .f32 0 0, .float .f32 0]).cells.size = 2 := by decide
  have hg0 : w.cell? ⟨g, 0, none⟩ = some (.slice (some ⟨r, 0, none⟩) n cp) := hT.var.cell 0
  have HBX := Lib.hid (Blk.new w 49 (handed wd d cx cy ws.length A1 c1 0 0 0))
  have HE0 := Lib.hid (show Ext w (w.alloc (.cells (handed wd d cx cy ws.length A1 c1 0 0 0) 49)) by (repeat first | with_reducible exact Ext.rfl' _ | with_reducible refine Ext.drewN ?_ _ | with_reducible refine Ext.drew' ?_ | with_reducible refine Ext.alloc' ?_ _ | with_reducible refine Ext.setCell_at ?_ _ _ _ (by first | exact Nat.le_refl _ | omega) | with_reducible assumption | refine Ext.trans ?_ (by with_reducible assumption)))
  clear hps hpre hT hL hW hn hws hleaf hwd hd
  unfold handed at *
  go_enter Try.func86, Try.ntmps86
  go_wp2_with fail
  have hown : ((w.alloc (.cells #[.complex .f32 (F cx) (F cy), .float .f32 (F (hP d wd)), .int .i64 d, .slice A1 ws.length c1, .slice none 0 0, .float .f32 0, .complex .f32 0 0] 49)).alloc (.cells #[] 51)).ownsRow (w.heap.size + 1) 51 2 (.slice (some ⟨w.heap.size + 1, 0, none⟩) 0 0) 0 [] := by
    have := World.ownsRow_made (base := w.heap.size + 1) (e := 51) (size := 2) (w.alloc (.cells #[.complex .f32 (F cx) (F cy), .float .f32 (F (hP d wd)), .int .i64 d, .slice A1 ws.length c1, .slice none 0 0, .float .f32 0, .complex .f32 0 0] 49)) #[] 0 (by simp) (by decide) rfl
    simpa using this
  have HOWN := Lib.hid hown
  have HE1 := Lib.hid (show Ext (w.alloc (.cells #[.complex .f32 (F cx) (F cy), .float .f32 (F (hP d wd)), .int .i64 d, .slice A1 ws.length c1, .slice none 0 0, .float .f32 0, .complex .f32 0 0] 49)) ((w.alloc (.cells #[.complex .f32 (F cx) (F cy), .float .f32 (F (hP d wd)), .int .i64 d, .slice A1 ws.length c1, .slice none 0 0, .float .f32 0, .complex .f32 0 0] 49)).alloc (.cells #[] 51)) by (repeat first | with_reducible exact Ext.rfl' _ | with_reducible refine Ext.drewN ?_ _ | with_reducible refine Ext.drew' ?_ | with_reducible refine Ext.alloc' ?_ _ | with_reducible refine Ext.setCell_at ?_ _ _ _ (by first | exact Nat.le_refl _ | omega) | with_reducible assumption | refine Ext.trans ?_ (by with_reducible assumption)))
  clear hown hg0
  generalize hw0 : w.alloc (.cells #[.complex .f32 (F cx) (F cy), .float .f32 (F (hP d wd)), .int .i64 d, .slice A1 ws.length c1, .slice none 0 0, .float .f32 0, .complex .f32 0 0] 49) = W0 at *
  have hs0 : W0.heap.size = w.heap.size + 1 := by rw [← hw0]; simp
  have HS0 := Lib.hid hs0
  clear hw0 hs0
  generalize W0.alloc (.cells #[] 51) = W1 at *
  go_loopw [7, 25] (fun v i wr => ∃ (k gg cq : Nat), k ≤ ws.length ∧ i = .int .i64 k ∧ v = .slice (some ⟨gg, 0, none⟩) k cq ∧ wr.ownsRow (w.heap.size + 1) 51 2 v k (whVals ((ws.take k).map (atW ps))) ∧ Ext W0 wr) (fun _ i _ => ws.length - (intOf i).toNat)
  case atStart => exact ⟨0, w.heap.size + 1, 0, Nat.zero_le _, rfl, rfl, HOWN.out, HE1.out⟩
  case round =>
    obtain ⟨k, gg, cq, hk, rfl, rfl, hown, hbel⟩ := hrel
    have HOW := Lib.hid hown
    have HE := Lib.hid hbel
    clear hown hbel HOWN HE1
    have hk9 : k < 9223372036854775807 := by have := HWS.out; omega
    by_cases hlt : k < ws.length
    · obtain ⟨j, hj⟩ : ∃ j, ws[k]? = some j := ⟨ws[k], List.getElem?_eq_getElem hlt⟩
      have hjN : j < ps.length := HPRE.out.below j (List.mem_of_getElem? hj)
      have hjI : (j : Int) < (ps.length : Int) := by omega
      obtain ⟨b1, o1, rfl, hb1, hc1⟩ := HW.out.cell (by rw [intVals_len]; omega)
      obtain ⟨b2, o2, hA2, hb2, hc2⟩ := HL.out.cell (by rw [whVals_len]; omega)
      simp only [Option.some.injEq, Addr.mk.injEq, and_true] at hA2
      obtain ⟨rfl, rfl⟩ := hA2
      have hEw : Ext w wr := Ext.trans HE0.out HE.out
      have d0 := (hEw.cell (p := ⟨b1, o1 + k, none⟩) hb1).trans (hc1 _ _ (intVals_at ws k j hj))
      obtain ⟨v1, v2⟩ := whVals_at ps j _ (HPS.out.at hjN).2
      have d1 := (hEw.cell (p := ⟨lb, lo + j * 2, none⟩) hb2).trans (hc2 _ _ v1)
      have d2 := (hEw.cell (p := ⟨lb, lo + j * 2 + 1, none⟩) hb2).trans (hc2 _ _ v2)
      have HEW := Lib.hid hEw
      have HJ := Lib.hid hj
      clear hc1 hc2 v1 v2 hEw hj
      go_wp2_with (first | (at_builtin; refine Stand.of ?_))
      refine Stand.out ?_
      refine wpList_append_lies _ rfl _ _ 38 rfl (w.heap.size + 1) 51 i1 _ 2 12 under_whirls hi1 jz0 jz1 jz2 hz1 (by omega) (.slice (some ⟨gg, 0, none⟩) k cq) k _ rfl (HOW.out.alloc _) ⟨wr.heap.size, 0, none⟩ 1 1 [.complex .f32 (F (atW ps j).1) (F (atW ps j).2.1), .float .f32 (F (atW ps j).2.2)] rfl rfl (World.news_of_block (cs := #[.complex .f32 (F (atW ps j).1) (F (atW ps j).2.1), .float .f32 (F (atW ps j).2.2)]) (t := 51) (fr := (0, 0)) (heap_alloc_new wr _)) (by simp [Value.oneCell']) (by omega) (by have := HWS.out; unfold maxLen; omega) (by have := HWS.out; omega) (by have := HE.out.size; have := HS0.out; simp; omega) _ rfl ?_
      intro g2 c2 w6 hown6 hgrow hat hlt6
      have hgl := HOW.out.lt
      have e6 : Ext W0 w6 := Ext.grown (Ext.trans HE.out (Ext.alloc' (Ext.rfl' wr) _)) hgrow (fun k hk => by have := (hgl k hk).1; have := HS0.out; omega)
      have HE6 := Lib.hid e6
      have HO6 := Lib.hid hown6
      clear hown6 hgrow hat hlt6 hgl e6 d0 d1 d2
      go_wp2_with fail
      refine ⟨⟨k + 1, g2, c2, by omega, by go_num, rfl, ?_, HE6.out⟩, by simp [intOf]; omega⟩
      obtain ⟨hk', hjj⟩ := List.getElem?_eq_some_iff.1 HJ.out
      rw [List.take_succ_eq_append_getElem hk', List.map_append, whVals_append, hjj]
      exact HO6.out
    · have hkl : k = ws.length := by omega
      subst hkl
      rw [List.take_length] at HOW
      have HL3 := Lib.hid (lies_of_owns HOW.out).1
      have HEW := Lib.hid (Ext.trans HE0.out HE.out)
      have HB2 := Lib.hid (HBX.out.ext HE.out)
      have b0 : wr.cell? ⟨w.heap.size, 0, none⟩ = some (.complex .f32 (F cx) (F cy)) := HB2.out.cell 0
      go_wp2_with fail
      refine (moments_n (some ⟨gg, 0, none⟩) cq ws.length (ws.map (atW ps)) cx cy (by simp) _ HL3.out HWS.out (HPS.out.map HPRE.out.below) (by have := HPRE.out.bx; omega) (by have := HPRE.out.by_; omega) HPRE.out.ex HPRE.out.ey).mono ?_
      rintro e w2 ⟨he2, rfl⟩
      rw [← spinP_L, ← momX_L, ← momY_L]
      have HE2 := Lib.hid (Ext.trans HEW.out he2)
      have HB3 := Lib.hid (HB2.out.ext he2)
      have HT2 := Lib.hid (HT.out.ext HE2.out)
      have b5 : w2.cell? ⟨w.heap.size, 5, none⟩ = some (.float .f32 0) := HB3.out.cell 5
      have b6 : w2.cell? ⟨w.heap.size, 6, none⟩ = some (.complex .f32 0 0) := HB3.out.cell 6
      have f5 := HB3.out.frozen 5
      have f6 := HB3.out.frozen 6
      have g0 : w2.cell? ⟨g, 0, none⟩ = some (.slice (some ⟨r, 0, none⟩) n cp) := HT2.out.var.cell 0
      have hgl : g < w.heap.size := HT.out.var.lt
      have hgn : ¬ g = w.heap.size := by omega
      have hgn' : ¬ w.heap.size = g := by omega
      clear he2 b0 HL3 HOW HE HB2
      go_upto_region 9 with fail
      have HB4 := Lib.hid (show Blk ((w2.setCell ⟨w.heap.size, 5, none⟩ (.float .f32 (F (spinP ps ws)))).setCell ⟨w.heap.size, 6, none⟩ (.complex .f32 (F (momX ps cx ws)) (F (momY ps cy ws)))) w.heap.size 49 (handed wd d cx cy ws.length A1 c1 (F (spinP ps ws)) (F (momX ps cx ws)) (F (momY ps cy ws))) from by
        have := (HB3.out.set_ 5 (.float .f32 (F (spinP ps ws)))).set_ 6 (.complex .f32 (F (momX ps cx ws)) (F (momY ps cy ws)))
        exact this)
      have HE4 := Lib.hid (show Ext w ((w2.setCell ⟨w.heap.size, 5, none⟩ (.float .f32 (F (spinP ps ws)))).setCell ⟨w.heap.size, 6, none⟩ (.complex .f32 (F (momX ps cx ws)) (F (momY ps cy ws)))) from Ext.setCell_at (Ext.setCell_at HE2.out _ _ _ (Nat.le_refl _)) _ _ _ (Nat.le_refl _))
      clear b5 b6 f5 f6 g0 HB3 HE2 HT2
      generalize (w2.setCell ⟨w.heap.size, 5, none⟩ (.float .f32 (F (spinP ps ws)))).setCell ⟨w.heap.size, 6, none⟩ (.complex .f32 (F (momX ps cx ws)) (F (momY ps cy ws))) = W4 at *
      have HT4 := Lib.hid (HT.out.ext HE4.out)
      have g0 : W4.cell? ⟨g, 0, none⟩ = some (.slice (some ⟨r, 0, none⟩) n cp) := HT4.out.var.cell 0
      have gf := HT4.out.var.frozen 0
      have k0 : W4.cell? ⟨w.heap.size, 0, none⟩ = some (.complex .f32 (F cx) (F cy)) := HB4.out.cell 0
      have k1 : W4.cell? ⟨w.heap.size, 1, none⟩ = some (.float .f32 (F (hP d wd))) := HB4.out.cell 1
      have k2 : W4.cell? ⟨w.heap.size, 2, none⟩ = some (.int .i64 d) := HB4.out.cell 2
      have k3 : W4.cell? ⟨w.heap.size, 3, none⟩ = some (.slice A1 ws.length c1) := HB4.out.cell 3
      have k4 : W4.cell? ⟨w.heap.size, 4, none⟩ = some (.slice none 0 0) := HB4.out.cell 4
      have k5 : W4.cell? ⟨w.heap.size, 5, none⟩ = some (.float .f32 (F (spinP ps ws))) := HB4.out.cell 5
      have k6 : W4.cell? ⟨w.heap.size, 6, none⟩ = some (.complex .f32 (F (momX ps cx ws)) (F (momY ps cy ws))) := HB4.out.cell 6
      have z1 : w.heap.size < W4.heap.size := HB4.out.lt
      have z2 : g < W4.heap.size := HT4.out.var.lt
      obtain ⟨i2, hi2, nz0, nz1, nz2⟩ := parts_of infoN
      have hz2 : (Value.agg #[.complex .f32 0 0, .float .f32 0, .int .i64 0, .slice none 0 0, .slice none 0 0, .float .f32 0, .complex .f32 0 0]).cells.size = 7 := by decide
      have hrl : r < w.heap.size := (HT.out.row.lt r rfl).2
      go_cut [] (fun wx => ∃ g2 cp2, Tr wx B g (.slice (some ⟨g2, 0, none⟩) (n + 1) cp2) (n + 1) (ys ++ [.complex .f32 (F cx) (F cy), .float .f32 (F (hP d wd)), .int .i64 d, .slice A1 ws.length c1, .slice none 0 0, .float .f32 (F (spinP ps ws)), .complex .f32 (F (momX ps cx ws)) (F (momY ps cy ws))]) ∧ Fr W4 wx g (.slice (some ⟨r, 0, none⟩) n cp) (.slice (some ⟨g2, 0, none⟩) (n + 1) cp2) ∧ (g2 = r ∨ W4.heap.size ≤ g2))
      case first =>
        go_region_law (first
          | (refine step_append_lies _ (by rfl) _ _ _ (by rfl) B 49 i2 _ 7 88 under_nodes hi2 nz0 nz1 nz2 hz2 (by omega) (.slice (some ⟨r, 0, none⟩) n cp) n ys (by rfl) ((show W4.drew.ownsRow _ _ _ _ _ _ from HT4.out.row).alloc _) ⟨W4.heap.size, 0, none⟩ 1 1 [.complex .f32 (F cx) (F cy), .float .f32 (F (hP d wd)), .int .i64 d, .slice A1 ws.length c1, .slice none 0 0, .float .f32 (F (spinP ps ws)), .complex .f32 (F (momX ps cx ws)) (F (momY ps cy ws))] (by rfl) rfl (World.news_of_block (cs := #[.complex .f32 (F cx) (F cy), .float .f32 (F (hP d wd)), .int .i64 d, .slice A1 ws.length c1, .slice none 0 0, .float .f32 (F (spinP ps ws)), .complex .f32 (F (momX ps cx ws)) (F (momY ps cy ws))]) (t := 49) (fr := (0, 0)) (heap_alloc_new W4.drew _)) (by simp [Value.oneCell']) (by omega) (by have := HN.out; unfold maxLen; omega) (by have := HN.out; omega) (by have := HT4.out.base; (try simp only [World.size_alloc, World.size_drew]); omega) _ rfl ?_; intro g2 cp2 w6 hown6 hgrow hat hlt6; have HGR := Lib.hid hgrow; have HAT := Lib.hid hat; have HO6 := Lib.hid hown6; (have gv6 : Blk w6 g 40 #[.slice (some ⟨r, 0, none⟩) n cp] := (hgrow.block g (by simp; omega) (fun e => (HT4.out.apart_own e).elim)).trans (show Blk _ _ _ _ from (show Blk W4.drew _ _ _ from HT4.out.var).alloc _)); have HGV := Lib.hid gv6; (have c6 : w6.cell? ⟨g, 0, none⟩ = some (.slice (some ⟨r, 0, none⟩) n cp) := gv6.cell 0); (have cf6 := gv6.frozen 0); clear hown6 hgrow hat hlt6 gv6 g0 gf))
        all_goals
          go_wp2_with fail
          go_meet
          case rel =>
            obtain ⟨p1, p2⟩ := HT4.out.pushed (W' := W4.drew.alloc (.cells #[.complex .f32 (F cx) (F cy), .float .f32 (F (hP d wd)), .int .i64 d, .slice A1 ws.length c1, .slice none 0 0, .float .f32 (F (spinP ps ws)), .complex .f32 (F (momX ps cx ws)) (F (momY ps cy ws))] 49)) (by (repeat first | with_reducible exact Ext.rfl' _ | with_reducible refine Ext.drewN ?_ _ | with_reducible refine Ext.drew' ?_ | with_reducible refine Ext.alloc' ?_ _ | with_reducible refine Ext.setCell_at ?_ _ _ _ (by first | exact Nat.le_refl _ | omega) | with_reducible assumption | refine Ext.trans ?_ (by with_reducible assumption))) HGR.out HO6.out HAT.out
            refine ⟨g2, cp2, p1, p2, ?_⟩
            rcases HAT.out with e | e
            · simp only [Value.ownBlock, Option.some.injEq] at e; exact .inl e.symm
            · exact .inr (by rw [e]; simp)
      case rest =>
        obtain ⟨g2, cp2, hT5, hF5, hg2⟩ := hcut
        rename World => w5
        have HT5 := Lib.hid hT5
        have HF5 := Lib.hid (Fr.trans (Fr.of_ext g (.slice (some ⟨r, 0, none⟩) n cp) HE4.out) hF5)
        have HB5 := Lib.hid (HB4.out.fr hF5 hgn' (by simp [Value.ownBlock]; omega))
        have HG2 := Lib.hid (show g2 ≠ w.heap.size by omega)
        have HW5 := Lib.hid (HW.out.fr HT.out HF5.out (by decide) (by decide))
        have HL5 := Lib.hid (HL.out.fr HT.out HF5.out (by decide) (by decide))
        have e1 : w5.cell? ⟨w.heap.size, 1, none⟩ = some (.float .f32 (F (hP d wd))) := HB5.out.cell 1
        have e2 : w5.cell? ⟨w.heap.size, 2, none⟩ = some (.int .i64 d) := HB5.out.cell 2
        have e3 : w5.cell? ⟨w.heap.size, 3, none⟩ = some (.slice A1 ws.length c1) := HB5.out.cell 3
        have hgt : fcmp .gtr .f32 (F (hP d wd)) 0 = decide (0 < hP d wd) := by
          rw [← F_zero .f32]
          exact F_cmp .f32 .gtr _ 0 (by have := HPRE.out.bx; omega) (by decide)
        clear hT5 hF5 hg2 HE4 HB4 k0 k1 k2 k3 k4 k5 k6 z1 z2 g0 gf HT4
        have HNA := Lib.hid (show NodesAt w5 wd [nodeP ps d cx cy ws []] [.complex .f32 (F cx) (F cy), .float .f32 (F (hP d wd)), .int .i64 d, .slice A1 ws.length c1, .slice none 0 0, .float .f32 (F (spinP ps ws)), .complex .f32 (F (momX ps cx ws)) (F (momY ps cy ws))] from
          ⟨rfl, fun i m hm => by
            cases i with
            | zero =>
              simp only [List.getElem?_cons_zero, Option.some.injEq] at hm
              subst hm
              exact ⟨A1, c1, none, 0, rfl, rfl, rfl, rfl, rfl, rfl, rfl, HW5.out, fun h => absurd h (Nat.lt_irrefl 0)⟩
            | succ i => simp at hm⟩)
        have HAI := Lib.hid (show AddrsIn (fun b => (w.heap.size ≤ b ∨ ∃ o, A1 = some ⟨b, o, none⟩) ∧ b < w5.heap.size) [.complex .f32 (F cx) (F cy), .float .f32 (F (hP d wd)), .int .i64 d, .slice A1 ws.length c1, .slice none 0 0, .float .f32 (F (spinP ps ws)), .complex .f32 (F (momX ps cx ws)) (F (momY ps cy ws))] from
          .node (fun hl b o x e => by
            obtain ⟨b', o', cur, e', hb, -⟩ := HW5.out (by rw [intVals_len]; exact hl)
            rw [e'] at e
            cases e
            exact ⟨.inr ⟨_, e'⟩, hb.lt⟩) (fun hl => absurd hl (Nat.lt_irrefl 0)))
        by_cases q1 : (ws.length : Int) ≤ 3
        · go_wp2_with fail
          go_ret
          exact ⟨rfl, g2, cp2, _, HT5.out, HNA.out, HF5.out, HAI.out⟩
        · by_cases q2 : (6 : Int) ≤ (d : Int)
          · go_wp2_with fail
            go_ret
            exact ⟨rfl, g2, cp2, _, HT5.out, HNA.out, HF5.out, HAI.out⟩
          · have hw0 : wd = 0 := by rcases HLEAF.out with h | h | h <;> omega
            have hh0 : hP d wd = 0 := by rw [hw0]; unfold hP; simp
            rw [hh0] at hgt
            have hgf : fcmp .gtr .f32 (F (hP d wd)) 0 = false := by rw [hh0]; exact hgt.trans (by decide)
            clear hgt hw0
            have HH0 := Lib.hid hh0
            clear hh0
            go_wp2_with (first | (refine wpList_fcmpD rfl .gtr _ _ _ _ rfl rfl _ _ _ rfl rfl _ hgf ?_))
            go_ret
            exact ⟨rfl, g2, cp2, _, HT5.out, HNA.out, HF5.out, HAI.out⟩
end Go.Proofs.Ytfehhbmmdbpdpaa
