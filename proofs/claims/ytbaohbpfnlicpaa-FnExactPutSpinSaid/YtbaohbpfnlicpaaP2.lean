/- Walks: a spin put into a cell, by the reference. -/
import Derived.Test.YtbaohbpfnlicpaaP1
import Derived.Test.YtbaohbpfnlicpaaSh2
import Derived.StillTailTactics
import Derived.Deep.RegionHeld3
import Derived.Deep.DeepCutAuto
namespace Go.Proofs.Ytbaohbpfnlicpaa
open Go Go.RowKit
set_option linter.unusedVariables false
set_option linter.unusedSimpArgs false
attribute [local go_sem] run_store_float

set_option maxRecDepth 100000 in
theorem l04New_any (a u : Int) (w : World) : Calls Try.prog 181 #[.int .i64 a, .int .i64 u] w fun e w' => Ext w w' ∧ ∃ g, e = .returned (.agg #[.int .i64 a, .int .i64 u, .slice (some ⟨g, 0, none⟩) 0 0]) ∧ w'.ownsRow w.heap.size 22 1 (.slice (some ⟨g, 0, none⟩) 0 0) 0 [] := by
  have hR := Blk.new w 35 #[.int .i64 0, .int .i64 0, .slice none 0 0]
  have hz : w.heap.size < (w.alloc (.cells #[.int .i64 0, .int .i64 0, .slice none 0 0] 35)).heap.size := by simp
  have hE : Ext w (w.alloc (.cells #[.int .i64 0, .int .i64 0, .slice none 0 0] 35)) := by (repeat first | with_reducible exact Ext.rfl' _ | with_reducible refine Ext.drewN ?_ _ | with_reducible refine Ext.drew' ?_ | with_reducible refine Ext.alloc' ?_ _ | with_reducible refine Ext.setCell_at ?_ _ _ _ (by first | exact Nat.le_refl _ | omega) | with_reducible assumption | refine Ext.trans ?_ (by with_reducible assumption))
  go_enter Try.func181, Try.ntmps181
  go_wp2_with fail
  have hb := Blk.alloc (Blk.new w 35 #[.int .i64 a, .int .i64 u, .slice (some ⟨w.heap.size + 1, 0, none⟩) 0 0]) (.cells #[] 22)
  have hsz : (w.alloc (.cells #[.int .i64 a, .int .i64 u, .slice (some ⟨w.heap.size + 1, 0, none⟩) 0 0] 35)).heap.size = w.heap.size + 1 := by simp
  have ho := World.ownsRow_made (base := w.heap.size) (e := 22) (size := 1) (w.alloc (.cells #[.int .i64 a, .int .i64 u, .slice (some ⟨w.heap.size + 1, 0, none⟩) 0 0] 35)) #[] 0 (by omega) (by decide) rfl
  rw [hsz] at ho
  have hx : Ext w ((w.alloc (.cells #[.int .i64 a, .int .i64 u, .slice (some ⟨w.heap.size + 1, 0, none⟩) 0 0] 35)).alloc (.cells #[] 22)) := by (repeat first | with_reducible exact Ext.rfl' _ | with_reducible refine Ext.drewN ?_ _ | with_reducible refine Ext.drew' ?_ | with_reducible refine Ext.alloc' ?_ _ | with_reducible refine Ext.setCell_at ?_ _ _ _ (by first | exact Nat.le_refl _ | omega) | with_reducible assumption | refine Ext.trans ?_ (by with_reducible assumption))
  generalize (w.alloc (.cells #[.int .i64 a, .int .i64 u, .slice (some ⟨w.heap.size + 1, 0, none⟩) 0 0] 35)).alloc (.cells #[] 22) = W9 at *
  have q0 : W9.cell? ⟨w.heap.size, 0, none⟩ = some (.int .i64 a) := hb.cell 0
  have q1 : W9.cell? ⟨w.heap.size, 1, none⟩ = some (.int .i64 u) := hb.cell 1
  have q2 : W9.cell? ⟨w.heap.size, 2, none⟩ = some (.slice (some ⟨w.heap.size + 1, 0, none⟩) 0 0) := hb.cell 2
  exact bodyPost_ret (v := .agg #[.int .i64 a, .int .i64 u, .slice (some ⟨w.heap.size + 1, 0, none⟩) 0 0]) (by simp [results, Try.results181, go_sem, q0, q1, q2]) rfl ⟨hx, _, rfl, ho⟩

/-- a basin whose slice is the call's own, in block g -/
def BLaid (w0 wx : World) (g gg cp n : Nat) (a u : Int) (xs : List Value) : Prop :=
  w0.heap.size ≤ g ∧ Blk wx g 35 #[.int .i64 a, .int .i64 u, .slice (some ⟨gg, 0, none⟩) n cp] ∧ wx.ownsRow w0.heap.size 22 1 (.slice (some ⟨gg, 0, none⟩) n cp) n xs ∧ Ext w0 wx
theorem own_block1 {w : World} {Bs e size g n m cap : Nat} {xs : List Value} (h : w.ownsRow Bs e size (.slice (some ⟨g, 0, none⟩) m cap) n xs) : ∃ cur, Blk w g e cur := by
  rcases h.2 with ⟨h0, _⟩ | ⟨g', cap', cur, hv, -, hb, _⟩
  · cases h0
  · simp only [Value.slice.injEq, Option.some.injEq, Addr.mk.injEq, and_true] at hv
    rw [hv.1]
    exact ⟨cur, hb⟩
theorem blk_ne1 {w : World} {g g' t t' : Nat} {c c' : Array Value} (h : Blk w g t c) (h' : Blk w g' t' c') (hne : t ≠ t') : g ≠ g' := by
  intro e
  subst e
  unfold Blk at h h'
  rw [h] at h'
  simp only [Option.some.injEq, Obj.cells.injEq] at h'
  exact hne h'.2.1
theorem BLaid.new {w0 w3 : World} {Bs gg cp n : Nat} {a u : Int} {xs : List Value} (E : Ext w0 w3) (ho : w3.ownsRow Bs 22 1 (.slice (some ⟨gg, 0, none⟩) n cp) n xs) (hB : w0.heap.size ≤ Bs) :
    BLaid w0 (w3.alloc (.cells #[.int .i64 a, .int .i64 u, .slice (some ⟨gg, 0, none⟩) n cp] 35)) w3.heap.size gg cp n a u xs :=
  ⟨E.size, Blk.new _ _ _, (Joins.ownsRow_le ho hB).alloc _, E.alloc' _⟩
theorem own_set {w : World} {Bs gg cp n g i : Nat} {v : Value} {xs : List Value} (ho : w.ownsRow Bs 22 1 (.slice (some ⟨gg, 0, none⟩) n cp) n xs) (hne : gg ≠ g) : (w.setCell ⟨g, i, none⟩ v).ownsRow Bs 22 1 (.slice (some ⟨gg, 0, none⟩) n cp) n xs :=
  ho.kept (row := some g) (only_setCell (g := g) (p := ⟨g, i, none⟩) (only_refl _ _) rfl _) (Or.inr (by simp [Value.ownBlock]; omega))
theorem BLaid.set {w0 w3 : World} {Bs g gg cp n : Nat} {a u : Int} {xs : List Value} {x y z : Value} (E : Ext w0 w3) (ho : w3.ownsRow Bs 22 1 (.slice (some ⟨gg, 0, none⟩) n cp) n xs) (hB : w0.heap.size ≤ Bs) (hb : Blk w3 g 35 #[x, y, z]) (hg : w0.heap.size ≤ g) :
    BLaid w0 (((w3.setCell ⟨g, 0, none⟩ (.int .i64 a)).setCell ⟨g, 1, none⟩ (.int .i64 u)).setCell ⟨g, 2, none⟩ (.slice (some ⟨gg, 0, none⟩) n cp)) g gg cp n a u xs := by
  obtain ⟨cur, hcur⟩ := own_block1 ho
  have hgg := blk_ne1 hcur hb (by decide)
  exact ⟨hg, hb.set3v _ _ _, own_set (own_set (own_set (Joins.ownsRow_le ho hB) hgg) hgg) hgg, ((E.setCell_at _ _ _ hg).setCell_at _ _ _ hg).setCell_at _ _ _ hg⟩

set_option maxRecDepth 100000 in
set_option maxHeartbeats 1600000 in
theorem l04Own_any (g o : Nat) (a u : Int) (A : Option Addr) (cap : Nat) (xs : List Nat) (w : World) (hT : BAt w g o a u A xs.length cap) (hA : FS w A xs) (hl : xs.length ≤ 1048576) (hp : 0 < xs.length) :
    Calls Try.prog 122 #[.pointer (some ⟨g, o, none⟩)] w fun e w' => Ext w w' ∧ ∃ A' cap', e = .returned (.agg #[.int .i64 a, .int .i64 u, .slice A' xs.length cap']) ∧ FO w' w.heap.size A' xs := by
  obtain ⟨i0, hi0, iz0, iz1, iz2⟩ := info_parts infoF
  obtain ⟨b, p, rfl, hb, hc⟩ := hA hp
  obtain ⟨news, hnw, hnc, hn1⟩ := hA.cells
  have hE1 : Ext w (w.alloc (.cells #[.int .i64 0, .int .i64 0, .slice none 0 0] 35)) := by (repeat first | with_reducible exact Ext.rfl' _ | with_reducible refine Ext.drewN ?_ _ | with_reducible refine Ext.drew' ?_ | with_reducible refine Ext.alloc' ?_ _ | with_reducible refine Ext.setCell_at ?_ _ _ _ (by first | exact Nat.le_refl _ | omega) | with_reducible assumption | refine Ext.trans ?_ (by with_reducible assumption))
  have HR := Lib.hid (Blk.new w 35 #[.int .i64 0, .int .i64 0, .slice none 0 0])
  have HT := Lib.hid (hT.ext hE1)
  have HNC := Lib.hid (news_ext hnc hE1)
  have HN := Lib.hid hnw
  have HL := Lib.hid hl
  have HE1 := Lib.hid hE1
  have hsz : (w.alloc (.cells #[.int .i64 0, .int .i64 0, .slice none 0 0] 35)).heap.size = w.heap.size + 1 := by simp
  clear hA hl hc hnw hnc hT hE1
  go_enter Try.func122, Try.ntmps122
  go_upto_region 1 with fail
  generalize w.alloc (.cells #[.int .i64 0, .int .i64 0, .slice none 0 0] 35) = W1 at *
  have HSZ := Lib.hid hsz
  clear hsz
  obtain ⟨tl, t0, t1, t2⟩ := HT.out
  go_cut [3] (fun q wx => ∃ (g2 gg cp : Nat), q = .pointer (some ⟨g2, 0, none⟩) ∧ BLaid W1 wx g2 gg cp 0 a u [])
  case first =>
    go_region_held3 (fun W => W.cell? ⟨g, o, none⟩ = some (.int .i64 a) ∧ W.cell? ⟨g, o + 1, none⟩ = some (.int .i64 u)) (((try dsimp only); (repeat' apply And.intro) <;> (simp [*, go_sem]; done)))
      (first
        | (go_at_call 181; refine (l04New_any _ _ _).mono ?_; rintro e w3 ⟨he3, g3, rfl, ho3⟩; have E3 : Ext W1 w3 := (by (repeat first | with_reducible exact Ext.rfl' _ | with_reducible refine Ext.drewN ?_ _ | with_reducible refine Ext.drew' ?_ | with_reducible refine Ext.alloc' ?_ _ | with_reducible refine Ext.setCell_at ?_ _ _ _ (by first | exact Nat.le_refl _ | omega) | with_reducible assumption | refine Ext.trans ?_ (by with_reducible assumption))); obtain ⟨hc3, hf3⟩ := bcell E3; have hs3 : W1.heap.size ≤ w3.heap.size := E3.size; have hz3 : g < w3.heap.size := (by omega); (try ((first | have B3 := Blk.ext (Blk.at_drew _ 35 #[.int .i64 0, .int .i64 0, .slice none 0 0] _ rfl) he3 | have B3 := Blk.ext (Blk.at_ _ 35 #[.int .i64 0, .int .i64 0, .slice none 0 0] _ rfl) he3); have r0 : w3.cell? ⟨_, 0, none⟩ = some (.int .i64 0) := B3.cell 0; have r1 : w3.cell? ⟨_, 1, none⟩ = some (.int .i64 0) := B3.cell 1; have r2 : w3.cell? ⟨_, 2, none⟩ = some (.slice none 0 0) := B3.cell 2; have rf0 := B3.frozen 0; have rf1 := B3.frozen 1; have rf2 := B3.frozen 2))))
    all_goals
      go_wp2_with fail
      go_meet
      refine ⟨_, g3, 0, rfl, ?_⟩
      first
        | exact BLaid.new E3 ho3 (by (try simp only [World.size_alloc, World.size_drew]); omega)
        | exact BLaid.set E3 ho3 (by (try simp only [World.size_alloc, World.size_drew]); omega) B3 (by omega)
  case rest =>
    obtain ⟨g2, gg, cp, rfl, hg2, hblk, hown, hE⟩ := hcut
    rename World => w4
    have HOUT := Lib.hid hblk
    have HOW := Lib.hid hown
    have HEc := Lib.hid hE
    have HR4 := Lib.hid (HR.out.ext hE)
    obtain ⟨tl4, s0, s1, s2⟩ := HT.out.ext hE
    have q2 : w4.cell? ⟨g2, 2, none⟩ = some (.slice (some ⟨gg, 0, none⟩) 0 cp) := hblk.cell 2
    clear hblk hown hE t0 t1 t2
    go_wp2_with fail
    go_still_tail 6, (by kernel_rfl)
    go_wp2_with (first | (at_builtin; refine StandF.of ?_))
    refine StandF.out ?_
    refine wpList_append_own _ rfl _ _ 29 rfl W1.heap.size 22 i0 _ 1 4 under_floats hi0 iz0 iz1 iz2 rfl (by decide) (.slice (some ⟨gg, 0, none⟩) 0 cp) 0 [] rfl (show w4.drew.ownsRow _ _ _ _ _ _ from HOW.out) ⟨b, p, none⟩ xs.length cap news rfl (by rw [HN.out.1, Nat.mul_one]) (news_ext HNC.out (Ext.trans HEc.out (Ext.drew' (Ext.rfl' _)))) hn1 (by have := HL.out; unfold maxLen; omega) (by have := HL.out; omega) HEc.out.size ?_
    intro v' w6 hown6 hgrow hnil
    have hgl := HOW.out.lt
    have e6 : Ext W1 w6 := Ext.grown (Ext.trans HEc.out (Ext.drew' (Ext.rfl' w4))) hgrow (fun k hk => (hgl k hk).1)
    simp only [Nat.zero_add, List.nil_append] at hown6
    obtain ⟨g6, c6, rfl⟩ := Joins.ownsRow_form hown6 hp
    obtain ⟨cur, hcur⟩ := own_block1 HOW.out
    have hne := blk_ne1 hcur HOUT.out (by decide)
    have hout6 : Blk w6 g2 35 #[.int .i64 a, .int .i64 u, .slice (some ⟨gg, 0, none⟩) 0 cp] := (hgrow.block _ HOUT.out.lt (by simp [Value.ownBlock]; omega)).trans (show Blk w4.drew _ _ _ from HOUT.out)
    have HOUT6 := Lib.hid hout6
    have HE6 := Lib.hid e6
    have HO6 := Lib.hid hown6
    have HR6 := Lib.hid (HR.out.ext e6)
    have p0 : w6.cell? ⟨g2, 0, none⟩ = some (.int .i64 a) := hout6.cell 0
    have p1 : w6.cell? ⟨g2, 1, none⟩ = some (.int .i64 u) := hout6.cell 1
    have p2 : w6.cell? ⟨g2, 2, none⟩ = some (.slice (some ⟨gg, 0, none⟩) 0 cp) := hout6.cell 2
    have pf2 := hout6.frozen 2
    have r0 : w6.cell? ⟨w.heap.size, 0, none⟩ = some (.int .i64 0) := HR6.out.cell 0
    have r1 : w6.cell? ⟨w.heap.size, 1, none⟩ = some (.int .i64 0) := HR6.out.cell 1
    have r2 : w6.cell? ⟨w.heap.size, 2, none⟩ = some (.slice none 0 0) := HR6.out.cell 2
    have rf0 := HR6.out.frozen 0
    have rf1 := HR6.out.frozen 1
    have rf2 := HR6.out.frozen 2
    have hgne : ¬ w.heap.size = g2 := by have := HSZ.out; omega
    have hgne' : ¬ g2 = w.heap.size := by have := HSZ.out; omega
    clear hown6 hgrow hnil hgl e6 hcur hne hout6 cur s0 s1 s2 q2
    go_wp2_with fail
    obtain ⟨cur, hcur⟩ := own_block1 HO6.out
    have hn1' := blk_ne1 hcur HOUT6.out (by decide)
    have hn2' := blk_ne1 hcur HR6.out (by decide)
    have hbs := (HR6.out.setoff (h := g2) hgne' 2 (.slice (some ⟨g6, 0, none⟩) xs.length c6)).set3v (.int .i64 a) (.int .i64 u) (.slice (some ⟨g6, 0, none⟩) xs.length c6)
    have e3 : Ext w ((((w6.setCell ⟨g2, 2, none⟩ (.slice (some ⟨g6, 0, none⟩) xs.length c6)).setCell ⟨w.heap.size, 0, none⟩ (.int .i64 a)).setCell ⟨w.heap.size, 1, none⟩ (.int .i64 u)).setCell ⟨w.heap.size, 2, none⟩ (.slice (some ⟨g6, 0, none⟩) xs.length c6)) := Ext.setCell_at (Ext.setCell_at (Ext.setCell_at (Ext.setCell_at (Ext.trans HE1.out HE6.out) _ _ _ (by have := HSZ.out; omega)) _ _ _ (Nat.le_refl _)) _ _ _ (Nat.le_refl _)) _ _ _ (Nat.le_refl _)
    have hown9 : ((((w6.setCell ⟨g2, 2, none⟩ (.slice (some ⟨g6, 0, none⟩) xs.length c6)).setCell ⟨w.heap.size, 0, none⟩ (.int .i64 a)).setCell ⟨w.heap.size, 1, none⟩ (.int .i64 u)).setCell ⟨w.heap.size, 2, none⟩ (.slice (some ⟨g6, 0, none⟩) xs.length c6)).ownsRow W1.heap.size 22 1 (.slice (some ⟨g6, 0, none⟩) xs.length c6) xs.length news := own_set (own_set (own_set (own_set HO6.out hn1') hn2') hn2') hn2'
    generalize (((w6.setCell ⟨g2, 2, none⟩ (.slice (some ⟨g6, 0, none⟩) xs.length c6)).setCell ⟨w.heap.size, 0, none⟩ (.int .i64 a)).setCell ⟨w.heap.size, 1, none⟩ (.int .i64 u)).setCell ⟨w.heap.size, 2, none⟩ (.slice (some ⟨g6, 0, none⟩) xs.length c6) = W9 at *
    obtain ⟨A', cap', hA', hfo⟩ := fo_of_owns hown9 HN.out rfl
    simp only [Value.slice.injEq, true_and] at hA'
    obtain ⟨rfl, rfl⟩ := hA'
    have q0 : W9.cell? ⟨w.heap.size, 0, none⟩ = some (.int .i64 a) := hbs.cell 0
    have q1 : W9.cell? ⟨w.heap.size, 1, none⟩ = some (.int .i64 u) := hbs.cell 1
    have q2 : W9.cell? ⟨w.heap.size, 2, none⟩ = some (.slice (some ⟨g6, 0, none⟩) xs.length c6) := hbs.cell 2
    exact bodyPost_ret (v := .agg #[.int .i64 a, .int .i64 u, .slice (some ⟨g6, 0, none⟩) xs.length c6]) (by simp [results, Try.results122, go_sem, q0, q1, q2]) rfl ⟨e3, _, _, rfl, hfo.mono (by have := HSZ.out; omega)⟩
end Go.Proofs.Ytbaohbpfnlicpaa
