/- Walks: two threads joined, by the reference: the good case. -/
import Derived.Test.YtbaohbpfnlicpaaJ1
import Derived.Test.YtbaohbpfnlicpaaW7
import Derived.Deep.RegionLaw
import Derived.Deep.AppendLies
import Derived.Lib.SmallJoins
namespace Go.Proofs.Ytbaohbpfnlicpaa
open Go Go.RowKit
set_option linter.unusedVariables false
set_option linter.unusedSimpArgs false
attribute [local go_sem] run_store_float

/-- a struct whose slice is the call's own, in block g -/
def OLaid (w0 wx : World) (e t : TypeId) (g gg cp n sp : Nat) (xs : List Value) : Prop :=
  w0.heap.size ≤ g ∧ Blk wx g t #[.slice (some ⟨gg, 0, none⟩) n cp, .float .f32 sp] ∧ wx.ownsRow w0.heap.size e 3 (.slice (some ⟨gg, 0, none⟩) n cp) n xs ∧ Ext w0 wx
theorem OLaid.new {w0 w3 : World} {Bs : Nat} {e t : TypeId} {gg cp n sp : Nat} {xs : List Value} (E : Ext w0 w3) (ho : w3.ownsRow Bs e 3 (.slice (some ⟨gg, 0, none⟩) n cp) n xs) (hB : w0.heap.size ≤ Bs) :
    OLaid w0 (w3.alloc (.cells #[.slice (some ⟨gg, 0, none⟩) n cp, .float .f32 sp] t)) e t w3.heap.size gg cp n sp xs :=
  ⟨E.size, Blk.new _ _ _, (Joins.ownsRow_le ho hB).alloc _, E.alloc' _⟩
theorem OLaid.set {w0 w3 : World} {Bs : Nat} {e t : TypeId} {g gg cp n sp : Nat} {xs : List Value} {x y : Value} (E : Ext w0 w3) (ho : w3.ownsRow Bs e 3 (.slice (some ⟨gg, 0, none⟩) n cp) n xs) (hB : w0.heap.size ≤ Bs) (hb : Blk w3 g t #[x, y]) (hg : w0.heap.size ≤ g) (hne : e ≠ t) :
    OLaid w0 ((w3.setCell ⟨g, 0, none⟩ (.slice (some ⟨gg, 0, none⟩) n cp)).setCell ⟨g, 1, none⟩ (.float .f32 sp)) e t g gg cp n sp xs := by
  have hb2 : Blk ((w3.setCell ⟨g, 0, none⟩ (.slice (some ⟨gg, 0, none⟩) n cp)).setCell ⟨g, 1, none⟩ (.float .f32 sp)) g t #[.slice (some ⟨gg, 0, none⟩) n cp, .float .f32 sp] := by
    have := (hb.set_ 0 (.slice (some ⟨gg, 0, none⟩) n cp)).set_ 1 (.float .f32 sp)
    simpa using this
  obtain ⟨cur, hcur⟩ := own_block ho
  have hgg := blk_ne hcur hb hne
  refine ⟨hg, hb2, (Joins.ownsRow_le ho hB).kept (row := some g) (only_setCell (g := g) (p := ⟨g, 1, none⟩) (only_setCell (g := g) (p := ⟨g, 0, none⟩) (only_refl _ _) rfl _) rfl _) (Or.inr (by simp [Value.ownBlock]; omega)), (E.setCell_at _ _ _ hg).setCell_at _ _ _ hg⟩

set_option maxRecDepth 100000 in
set_option maxHeartbeats 3200000 in
theorem specJoinYes_any (A : Option Addr) (cap sp : Nat) (B : Option Addr) (cap' sq : Nat) (i k : Nat) (cs ds : List V3) (w : World) (hA : VS w A cs) (hB : VS w B ds) (hcap : cs.length ≤ cap) (hcap' : ds.length ≤ cap') (hi : hasP cs (cn .f32 sp) i = true) (hk : hasP ds (cn .f32 sq) k = true) (hq : fcmp .neq .f32 (cn .f32 sp) (cn .f32 sq) = false) :
    Calls Try.prog 67 #[.agg #[.slice A cs.length cap, .float .f32 sp], .agg #[.slice B ds.length cap', .float .f32 sq], .int .i64 i, .int .i64 k] w fun e w' => Ext w w' ∧ RT w w' e (giveP (joined i k cs ds) (cn .f32 sp)) := by
  obtain ⟨hn3, hn32, -, hin⟩ := hasP_bounds hi
  obtain ⟨hm3, hm32, -, hkm⟩ := hasP_bounds hk
  obtain ⟨i0, hi0, iz0, iz1, iz2⟩ := info_parts infoV
  have HA := Lib.hid hA
  have HB := Lib.hid hB
  have HI := Lib.hid hi
  have HK := Lib.hid hk
  have HCAP := Lib.hid hcap
  have HCAP' := Lib.hid hcap'
  have HN := Lib.hid (show 3 ≤ cs.length ∧ cs.length ≤ 32 ∧ i < cs.length from ⟨hn3, hn32, by omega⟩)
  have HM := Lib.hid (show 3 ≤ ds.length ∧ ds.length ≤ 32 ∧ k < ds.length from ⟨hm3, hm32, by omega⟩)
  have HT := Lib.hid (show TAt (((w.alloc (.cells #[.slice A cs.length cap, .float .f32 sp] 48)).alloc (.cells #[.slice B ds.length cap', .float .f32 sq] 48)).alloc (.cells #[.slice none 0 0, .float .f32 0] 48)) w.heap.size 0 A cs.length cap sp from ⟨by simp <;> omega, by go_simp, by go_simp⟩)
  have HT' := Lib.hid (show TAt (((w.alloc (.cells #[.slice A cs.length cap, .float .f32 sp] 48)).alloc (.cells #[.slice B ds.length cap', .float .f32 sq] 48)).alloc (.cells #[.slice none 0 0, .float .f32 0] 48)) (w.heap.size + 1) 0 B ds.length cap' sq from ⟨by simp <;> omega, by go_simp, by go_simp⟩)
  have HRs := Lib.hid (show Blk (((w.alloc (.cells #[.slice A cs.length cap, .float .f32 sp] 48)).alloc (.cells #[.slice B ds.length cap', .float .f32 sq] 48)).alloc (.cells #[.slice none 0 0, .float .f32 0] 48)) (w.heap.size + 1 + 1) 48 #[.slice none 0 0, .float .f32 0] from Blk.at_ _ _ _ _ (by simp))
  have HE1 := Lib.hid (show Ext w (((w.alloc (.cells #[.slice A cs.length cap, .float .f32 sp] 48)).alloc (.cells #[.slice B ds.length cap', .float .f32 sq] 48)).alloc (.cells #[.slice none 0 0, .float .f32 0] 48)) by (repeat first | with_reducible exact Ext.rfl' _ | with_reducible refine Ext.drewN ?_ _ | with_reducible refine Ext.drew' ?_ | with_reducible refine Ext.alloc' ?_ _ | with_reducible refine Ext.setCell_at ?_ _ _ _ (by first | exact Nat.le_refl _ | omega) | with_reducible assumption | refine Ext.trans ?_ (by with_reducible assumption)))
  have hne : cs ≠ [] := by intro h; rw [h] at hn3; simp at hn3
  have hne' : ds ≠ [] := by intro h; rw [h] at hm3; simp at hm3
  have hw1 : IntKind.i64.wrap ((i : Int) + 1) = (i : Int) + 1 := IntWalk.i64_in _ (by omega)
  have hw1' : IntKind.i64.wrap ((k : Int) + 1) = (k : Int) + 1 := IntWalk.i64_in _ (by omega)
  have ht := tmod_next i cs.length (by omega)
  have ht' := tmod_next k ds.length (by omega)
  have ham : (i + 1) % cs.length < cs.length := Nat.mod_lt _ (by omega)
  have ham' : (k + 1) % ds.length < ds.length := Nat.mod_lt _ (by omega)
  have hw2 : IntKind.i64.wrap (((i + 1) % cs.length : Nat) : Int) = (((i + 1) % cs.length : Nat) : Int) := IntWalk.i64_in _ (by omega)
  have hw2' : IntKind.i64.wrap (((k + 1) % ds.length : Nat) : Int) = (((k + 1) % ds.length : Nat) : Int) := IntWalk.i64_in _ (by omega)
  have ht2 : ((i : Int) + 1) % (cs.length : Int) = (((i + 1) % cs.length : Nat) : Int) := by rw [Int.natCast_emod, Int.natCast_add]; rfl
  have ht2' : ((k : Int) + 1) % (ds.length : Int) = (((k + 1) % ds.length : Nat) : Int) := by rw [Int.natCast_emod, Int.natCast_add]; rfl
  have hj : joined i k cs ds = fromP cs ((i + 1) % cs.length) ++ fromP ds ((k + 1) % ds.length) := by unfold joined; simp
  rw [hj]
  clear hA hB hi hk hcap hcap' hj hn3 hm3 hn32 hm32 hin hkm
  generalize (i + 1) % cs.length = a at *
  generalize (k + 1) % ds.length = c at *
  have HAM := Lib.hid ham
  have HAM' := Lib.hid ham'
  clear ham ham'
  go_enter Try.func67, Try.ntmps67
  go_wp2_with fail
  generalize (((w.alloc (.cells #[.slice A cs.length cap, .float .f32 sp] 48)).alloc (.cells #[.slice B ds.length cap', .float .f32 sq] 48)).alloc (.cells #[.slice none 0 0, .float .f32 0] 48)) = W1 at *
  refine (l06Point_any w.heap.size 0 A cap sp cs i _ HT.out (HA.out.ext HE1.out) (by have := HN.out; omega) true HI.out).mono ?_
  rintro e w1 ⟨he1, rfl⟩
  have HEa := Lib.hid (Ext.trans HE1.out he1)
  have HTa := Lib.hid (HT.out.ext he1)
  have HT'a := Lib.hid (HT'.out.ext he1)
  have HBa := Lib.hid (HRs.out.ext he1)
  clear he1
  go_wp2_with fail
  refine (l06Point_any (w.heap.size + 1) 0 B cap' sq ds k _ HT'a.out (HB.out.ext HEa.out) (by have := HM.out; omega) true HK.out).mono ?_
  rintro e w2 ⟨he2, rfl⟩
  have HE2 := Lib.hid (Ext.trans HEa.out he2)
  have HB2 := Lib.hid (HBa.out.ext he2)
  have HT2 := Lib.hid (HTa.out.ext he2)
  have HT2' := Lib.hid (HT'a.out.ext he2)
  obtain ⟨tl, t0, t1⟩ := HT2.out
  obtain ⟨tl', t0', t1'⟩ := HT2'.out
  clear he2
  go_upto_region 3 with (first | (refine wpList_float rfl _ _ _ _ _ rfl (by decide) _ _ _ rfl rfl ?_; intro r1 n1 q1) | (refine wpList_fcmp rfl _ _ _ _ _ rfl rfl _ _ _ rfl rfl _ (by first | with_reducible assumption | rfl) ?_) | (refine wpList_fneg rfl _ _ rfl _ _ rfl ?_; intro r1 q1))
  go_cut [10] (fun p wx => ∃ (g gg cp : Nat) (xs : List Value), p = .pointer (some ⟨g, 0, none⟩) ∧ OLaid w2 wx 54 48 g gg cp cs.length sp xs ∧ LVs xs (fromP cs a))
  case first =>
    go_region_held3 (fun W => W.cell? ⟨w.heap.size, 0, none⟩ = some (.slice A cs.length cap) ∧ W.cell? ⟨w.heap.size, 0 + 1, none⟩ = some (.float .f32 sp)) (((try dsimp only); (repeat' apply And.intro) <;> (simp [*, go_sem]; done)))
      (first
        | (go_at_call 141; refine (l06From_own _ _ A cap sp a cs _ (HT2.out.ext (by (repeat first | with_reducible exact Ext.rfl' _ | with_reducible refine Ext.drewN ?_ _ | with_reducible refine Ext.drew' ?_ | with_reducible refine Ext.alloc' ?_ _ | with_reducible refine Ext.setCell_at ?_ _ _ _ (by first | exact Nat.le_refl _ | omega) | with_reducible assumption | refine Ext.trans ?_ (by with_reducible assumption)))) (HA.out.ext (Ext.trans HE2.out (by (repeat first | with_reducible exact Ext.rfl' _ | with_reducible refine Ext.drewN ?_ _ | with_reducible refine Ext.drew' ?_ | with_reducible refine Ext.alloc' ?_ _ | with_reducible refine Ext.setCell_at ?_ _ _ _ (by first | exact Nat.le_refl _ | omega) | with_reducible assumption | refine Ext.trans ?_ (by with_reducible assumption))))) HN.out.2.1 HCAP.out HAM.out).mono ?_; rintro e w3 ⟨he3, g3, cp3, xs3, rfl, ho3, hlv3⟩; have E3 : Ext w2 w3 := (by (repeat first | with_reducible exact Ext.rfl' _ | with_reducible refine Ext.drewN ?_ _ | with_reducible refine Ext.drew' ?_ | with_reducible refine Ext.alloc' ?_ _ | with_reducible refine Ext.setCell_at ?_ _ _ _ (by first | exact Nat.le_refl _ | omega) | with_reducible assumption | refine Ext.trans ?_ (by with_reducible assumption))); obtain ⟨hc3, hf3⟩ := bcell E3; have hs3 : w2.heap.size ≤ w3.heap.size := E3.size; have hz3 : w.heap.size < w3.heap.size := (by omega); (try ((first | have B3 := Blk.ext (Blk.at_drew _ 48 #[.slice none 0 0, .float .f32 0] _ rfl) he3 | have B3 := Blk.ext (Blk.at_ _ 48 #[.slice none 0 0, .float .f32 0] _ rfl) he3); have r0 : w3.cell? ⟨_, 0, none⟩ = some (.slice none 0 0) := B3.cell 0; have r1 : w3.cell? ⟨_, 1, none⟩ = some (.float .f32 0) := B3.cell 1; have rf0 := B3.frozen 0; have rf1 := B3.frozen 1))))
    all_goals
      go_wp2_with fail
      go_meet
      refine ⟨_, g3, cp3, xs3, rfl, ?_, hlv3⟩
      first
        | exact OLaid.new E3 ho3 (by (try simp only [World.size_alloc, World.size_drew]); omega)
        | exact OLaid.set E3 ho3 (by (try simp only [World.size_alloc, World.size_drew]); omega) B3 (by omega) (by decide)
  case rest =>
    obtain ⟨g, gg, cp, xs, rfl, ⟨hg, hblk, hown, hE⟩, hlv⟩ := hcut
    have HG := Lib.hid hg
    have HOUT := Lib.hid hblk
    have HOW := Lib.hid hown
    have HLV := Lib.hid hlv
    have HEc := Lib.hid hE
    have HEw := Lib.hid (Ext.trans HE2.out hE)
    have HT3' := Lib.hid (HT2'.out.ext hE)
    have HR3 := Lib.hid (HB2.out.ext hE)
    obtain ⟨tl3, s0, s1⟩ := HT3'.out
    have q0 : wc.cell? ⟨g, 0, none⟩ = some (.slice (some ⟨gg, 0, none⟩) cs.length cp) := hblk.cell 0
    have qlt : g < wc.heap.size := hblk.lt
    have hw2sz : w.heap.size + 1 + 1 < w2.heap.size := HB2.out.lt
    clear hg hblk hown hlv hE t0 t1 t0' t1' tl tl'
    rename World => w4
    go_upto_region 4 with fail
    go_cut [] (fun wx => ∃ (g2 cp2 : Nat) (xs2 : List Value), Blk wx g 48 #[.slice (some ⟨g2, 0, none⟩) (cs.length + ds.length) cp2, .float .f32 sp] ∧ wx.ownsRow w2.heap.size 54 3 (.slice (some ⟨g2, 0, none⟩) (cs.length + ds.length) cp2) (cs.length + ds.length) xs2 ∧ LVs xs2 (fromP cs a ++ fromP ds c) ∧ Ext w2 wx)
    case first =>
     go_region_law (first
      | (go_simp; go_at_call 141; refine (l06From_any _ _ B cap' sq c ds _ (HT3'.out.ext (Ext.drew' (Ext.rfl' _))) (HB.out.ext (Ext.trans HEw.out (Ext.drew' (Ext.rfl' _)))) HM.out.2.1 HCAP'.out HAM'.out).mono ?_; rintro e w5 ⟨he5, A5, cp5, rfl, hv5⟩; have he5' : Ext w4 w5 := Ext.trans (Ext.drew' (Ext.rfl' _)) he5; have HOUT5 := HOUT.out.ext he5'; (have p0 : w5.cell? ⟨g, 0, none⟩ = some (.slice (some ⟨gg, 0, none⟩) cs.length cp) := HOUT5.cell 0); have hown5 := HOW.out.kept (w' := w5) (row := none) ⟨he5'.os, he5'.tape, he5'.output, he5'.size, fun k hk _ => he5'.block k hk⟩ (Or.inr (by simp [Value.ownBlock])); (obtain ⟨b5, o5, rfl, -⟩ := hv5 (by rw [fromP_len]; have := HM.out; omega)); obtain ⟨news, hnw, hnc, hn1⟩ := hv5.vs.cells)
      | (refine step_append_lies _ (by rfl) _ _ _ (by rfl) w2.heap.size 54 i0 _ 3 12 under_points hi0 iz0 iz1 iz2 rfl (by omega) (.slice (some ⟨gg, 0, none⟩) cs.length cp) cs.length xs (by rfl) hown5 ⟨b5, o5, none⟩ ds.length cp5 news (by rfl) (by rw [hnw.1, fromP_len]) hnc hn1 (by have := HM.out; omega) (by have := HN.out; have := HM.out; unfold maxLen; omega) (by have := HN.out; have := HM.out; omega) (by have := HEc.out.size; have := he5'.size; omega) _ rfl ?_; intro g2 cp2 w6 hown6 hgrow hat hlt6; have hgl := hown5.lt; (have e6 : Ext w2 w6 := Ext.grown (Ext.trans HEc.out he5') hgrow (fun k hk => (hgl k hk).1)); obtain ⟨cur, hcur⟩ := own_block hown5; have hne := blk_ne hcur HOUT5 (by decide); (have hout6 : Blk w6 g 48 #[.slice (some ⟨gg, 0, none⟩) cs.length cp, .float .f32 sp] := (hgrow.block _ HOUT5.lt (by simp [Value.ownBlock]; omega)).trans HOUT5); have HOUT6 := Lib.hid hout6; have HE6 := Lib.hid e6; have HO6 := Lib.hid hown6; have HNW := Lib.hid hnw; (have z0 : w6.cell? ⟨g, 0, none⟩ = some (.slice (some ⟨gg, 0, none⟩) cs.length cp) := hout6.cell 0); have zf0 := hout6.frozen 0; clear hown6 hgrow hat hlt6 hgl e6 hcur hne hout6 cur HOUT5 p0 hown5 hnc hn1 hnw hv5 he5))
     all_goals
      go_wp2_with fail
      go_meet
      have hset := HOUT6.out.set_ 0 (.slice (some ⟨g2, 0, none⟩) (cs.length + ds.length) cp2)
      obtain ⟨cur, hcur⟩ := own_block HO6.out
      have hne := blk_ne hcur HOUT6.out (by decide)
      exact ⟨g2, cp2, _, by simpa using hset, HO6.out.kept (row := some g) (only_setCell (g := g) (p := ⟨g, 0, none⟩) (only_refl _ _) rfl _) (Or.inr (by simp [Value.ownBlock]; omega)), LVs.append HLV.out HNW.out, Ext.setCell_at HE6.out _ _ _ HG.out⟩
    case rest =>
      obtain ⟨g2, cp2, xs2, hblk, hown, hlv, hE⟩ := hcut
      rename World => w7
      have hlen : (fromP cs a ++ fromP ds c).length = cs.length + ds.length := by rw [List.length_append, fromP_len, fromP_len]
      have HVO := Lib.hid (show VO w7 w2.heap.size (some ⟨g2, 0, none⟩) (fromP cs a ++ fromP ds c) from by
        obtain ⟨A', cq, hA', hv⟩ := vo_of_owns hown hlv hlen.symm
        simp only [Value.slice.injEq] at hA'
        rw [← hA'.1] at hv
        exact hv)
      have p0 : w7.cell? ⟨g, 0, none⟩ = some (.slice (some ⟨g2, 0, none⟩) (cs.length + ds.length) cp2) := hblk.cell 0
      have p1 : w7.cell? ⟨g, 1, none⟩ = some (.float .f32 sp) := hblk.cell 1
      have HLEN := Lib.hid hlen
      have HE7 := Lib.hid (Ext.trans HE2.out hE)
      have HR7 := Lib.hid (HB2.out.ext hE)
      clear hblk hown hlv hE hlen s0 s1 q0 qlt
      go_wp2_with fail
      cases hgv : isTh (fromP cs a ++ fromP ds c) (cn .f32 sp) with
      | false =>
        have HG1 := Lib.hid hgv
        clear hgv
        have hgv := l06Give_any (some ⟨g2, 0, none⟩) cp2 sp (fromP cs a ++ fromP ds c) w7 HVO.out.vs (by rw [HLEN.out]; have := HN.out; have := HM.out; omega) _ HG1.out
        rw [HLEN.out] at hgv
        refine hgv.mono ?_
        clear hgv
        rintro e w8 ⟨he8, rfl⟩
        have HX8 := Lib.hid he8
        have HR8 := Lib.hid (HR7.out.ext he8)
        have r0 : w8.cell? ⟨w.heap.size + 1 + 1, 0, none⟩ = some (.slice none 0 0) := HR8.out.cell 0
        have r1 : w8.cell? ⟨w.heap.size + 1 + 1, 1, none⟩ = some (.float .f32 0) := HR8.out.cell 1
        have rf0 := HR8.out.frozen 0
        have rf1 := HR8.out.frozen 1
        clear he8 p0 p1
        go_wp2_with fail
        have hBS : Blk ((w8.setCell ⟨w.heap.size + 1 + 1, 0, none⟩ (.slice none 0 0)).setCell ⟨w.heap.size + 1 + 1, 1, none⟩ (.float .f32 0)) (w.heap.size + 1 + 1) 48 #[.slice none 0 0, .float .f32 0] := by
          have := (HR8.out.set_ 0 (.slice none 0 0)).set_ 1 (.float .f32 0)
          simpa using this
        have e3 : Ext w ((w8.setCell ⟨w.heap.size + 1 + 1, 0, none⟩ (.slice none 0 0)).setCell ⟨w.heap.size + 1 + 1, 1, none⟩ (.float .f32 0)) := Ext.setCell_at (Ext.setCell_at (Ext.trans HE7.out HX8.out) _ _ _ (by omega)) _ _ _ (by omega)
        generalize (w8.setCell ⟨w.heap.size + 1 + 1, 0, none⟩ (.slice none 0 0)).setCell ⟨w.heap.size + 1 + 1, 1, none⟩ (.float .f32 0) = W9 at *
        have z0 : W9.cell? ⟨w.heap.size + 1 + 1, 0, none⟩ = some (.slice none 0 0) := hBS.cell 0
        have z1 : W9.cell? ⟨w.heap.size + 1 + 1, 1, none⟩ = some (.float .f32 0) := hBS.cell 1
        refine bodyPost_ret (v := .tuple #[.agg #[.slice none 0 0, .float .f32 0], .bool false]) (by simp [results, Try.results67, go_sem, z0, z1]) rfl ?_
        unfold giveP
        rw [HG1.out]
        exact ⟨e3, none, 0, 0, rfl, fun h => absurd h (Nat.lt_irrefl 0), cn_zero32⟩
      | true =>
        have HG1 := Lib.hid hgv
        clear hgv
        have hgv := l06Give_any (some ⟨g2, 0, none⟩) cp2 sp (fromP cs a ++ fromP ds c) w7 HVO.out.vs (by rw [HLEN.out]; have := HN.out; have := HM.out; omega) _ HG1.out
        rw [HLEN.out] at hgv
        refine hgv.mono ?_
        clear hgv
        rintro e w8 ⟨he8, rfl⟩
        have HX8 := Lib.hid he8
        have HR8 := Lib.hid (HR7.out.ext he8)
        have r0 : w8.cell? ⟨w.heap.size + 1 + 1, 0, none⟩ = some (.slice none 0 0) := HR8.out.cell 0
        have r1 : w8.cell? ⟨w.heap.size + 1 + 1, 1, none⟩ = some (.float .f32 0) := HR8.out.cell 1
        have rf0 := HR8.out.frozen 0
        have rf1 := HR8.out.frozen 1
        clear he8 p0 p1
        go_wp2_with fail
        have hBS : Blk ((w8.setCell ⟨w.heap.size + 1 + 1, 0, none⟩ (.slice (some ⟨g2, 0, none⟩) (cs.length + ds.length) cp2)).setCell ⟨w.heap.size + 1 + 1, 1, none⟩ (.float .f32 sp)) (w.heap.size + 1 + 1) 48 #[.slice (some ⟨g2, 0, none⟩) (cs.length + ds.length) cp2, .float .f32 sp] := by
          have := (HR8.out.set_ 0 (.slice (some ⟨g2, 0, none⟩) (cs.length + ds.length) cp2)).set_ 1 (.float .f32 sp)
          simpa using this
        have e3 : Ext w ((w8.setCell ⟨w.heap.size + 1 + 1, 0, none⟩ (.slice (some ⟨g2, 0, none⟩) (cs.length + ds.length) cp2)).setCell ⟨w.heap.size + 1 + 1, 1, none⟩ (.float .f32 sp)) := Ext.setCell_at (Ext.setCell_at (Ext.trans HE7.out HX8.out) _ _ _ (by omega)) _ _ _ (by omega)
        have hvo : VO ((w8.setCell ⟨w.heap.size + 1 + 1, 0, none⟩ (.slice (some ⟨g2, 0, none⟩) (cs.length + ds.length) cp2)).setCell ⟨w.heap.size + 1 + 1, 1, none⟩ (.float .f32 sp)) w.heap.size (some ⟨g2, 0, none⟩) (fromP cs a ++ fromP ds c) := ((((HVO.out.ext HX8.out).set_lt _ _ _ hw2sz).set_lt _ _ _ hw2sz)).mono (by omega)
        generalize (w8.setCell ⟨w.heap.size + 1 + 1, 0, none⟩ (.slice (some ⟨g2, 0, none⟩) (cs.length + ds.length) cp2)).setCell ⟨w.heap.size + 1 + 1, 1, none⟩ (.float .f32 sp) = W9 at *
        have z0 : W9.cell? ⟨w.heap.size + 1 + 1, 0, none⟩ = some (.slice (some ⟨g2, 0, none⟩) (cs.length + ds.length) cp2) := hBS.cell 0
        have z1 : W9.cell? ⟨w.heap.size + 1 + 1, 1, none⟩ = some (.float .f32 sp) := hBS.cell 1
        refine bodyPost_ret (v := .tuple #[.agg #[.slice (some ⟨g2, 0, none⟩) (cs.length + ds.length) cp2, .float .f32 sp], .bool true]) (by simp [results, Try.results67, go_sem, z0, z1]) rfl ?_
        unfold giveP
        rw [HG1.out]
        exact ⟨e3, some ⟨g2, 0, none⟩, cp2, sp, by simp [HLEN.out], hvo, rfl⟩
theorem specJoin_any (A : Option Addr) (cap sp : Nat) (B : Option Addr) (cap' sq : Nat) (i k : Int) (cs ds : List V3) (w : World) (hA : VS w A cs) (hB : VS w B ds) (hl : cs.length ≤ 1048576) (hl' : ds.length ≤ 1048576) (hcap : cs.length ≤ cap) (hcap' : ds.length ≤ cap') :
    Calls Try.prog 67 #[.agg #[.slice A cs.length cap, .float .f32 sp], .agg #[.slice B ds.length cap', .float .f32 sq], .int .i64 i, .int .i64 k] w fun e w' => Ext w w' ∧ RT w w' e (joinP i k cs (cn .f32 sp) ds (cn .f32 sq)) := by
  unfold joinP
  cases hno : joinOk i k cs (cn .f32 sp) ds (cn .f32 sq) with
  | false => exact specJoinNo_any A cap sp B cap' sq i k cs ds w hA hB hl hl' hno
  | true =>
    unfold joinOk at hno
    simp only [Bool.and_eq_true, Bool.not_eq_true'] at hno
    obtain ⟨h1, h2, h3⟩ := hno
    obtain ⟨-, -, hi0, -⟩ := hasP_bounds h1
    obtain ⟨-, -, hk0, -⟩ := hasP_bounds h2
    obtain ⟨n, rfl⟩ : ∃ n : Nat, i = n := ⟨i.toNat, by omega⟩
    obtain ⟨m, rfl⟩ : ∃ m : Nat, k = m := ⟨k.toNat, by omega⟩
    exact specJoinYes_any A cap sp B cap' sq n m cs ds w hA hB hcap hcap' h1 h2 h3
end Go.Proofs.Ytbaohbpfnlicpaa
