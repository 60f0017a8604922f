/- Walks: a thread turned around, by the reference. -/
import Derived.Test.YtbaohbpfnlicpaaSh2
import Derived.Deep.AppendLies
import Derived.Deep.RegionLaw
import Derived.OwnWalk
import Derived.Lib.SmallJoins
namespace Go.Proofs.Ytbaohbpfnlicpaa
open Go Go.RowKit
set_option linter.unusedVariables false
set_option linter.unusedSimpArgs false
attribute [local go_sem] run_store_float

/-- the walk stands here -/
def Stand (p : Prop) : Prop := p
theorem Stand.of {p : Prop} (h : Stand p) : p := h
theorem Stand.out {p : Prop} (h : p) : Stand p := h

def backP (cs : List V3) (sp : Nat) : Bool × List V3 × Nat := if isTh cs sp then (true, cs.reverse, sp) else (false, [], 0)
theorem backP_len (cs : List V3) (sp : Nat) (h : cs.length ≤ 1048576) : (backP cs sp).2.1.length ≤ 1048576 := by
  unfold backP
  split
  · simpa using h
  · simp
theorem own_block {w : World} {B e size g n m cap : Nat} {xs : List Value} (h : w.ownsRow B e size (.slice (some ⟨g, 0, none⟩) m cap) n xs) : ∃ cur, Blk w g e cur := by
  rcases h.2 with ⟨h0, _⟩ | ⟨g', cap', cur, hv, -, hb, _⟩
  · cases h0
  · simp only [Value.slice.injEq, Option.some.injEq, Addr.mk.injEq, and_true] at hv
    rw [hv.1]
    exact ⟨cur, hb⟩
theorem blk_ne {w : World} {g g' t t' : Nat} {c c' : Array Value} (h : Blk w g t c) (h' : Blk w g' t' c') (hne : t ≠ t') : g ≠ g' := by
  intro e
  subst e
  unfold Blk at h h'
  rw [h] at h'
  simp only [Option.some.injEq, Obj.cells.injEq] at h'
  exact hne h'.2.1
theorem rev_take_succ (cs : List V3) (j k : Nat) (h : cs.length = j + k + 1) : cs.reverse.take (k + 1) = cs.reverse.take k ++ [cs.getD j (0, 0, 0)] := by
  rw [List.take_succ_eq_append_getElem (by simp; omega)]
  congr 2
  rw [List.getElem_reverse, List.getD_eq_getElem?_getD, List.getElem?_eq_getElem (by omega)]
  simp only [Option.getD_some]
  congr 1
  omega

set_option maxRecDepth 100000 in
theorem specBackNo_any (A : Option Addr) (cap sp : Nat) (cs : List V3) (w : World) (hA : VS w A cs) (hl : cs.length ≤ 1048576) (hi : isTh cs (cn .f32 sp) = false) :
    Calls Try.prog 56 #[.agg #[.slice A cs.length cap, .float .f32 sp]] w fun e w' => Ext w w' ∧ RT w w' e (false, [], 0) := by
  have HA := Lib.hid hA
  have HL := Lib.hid hl
  have HI := Lib.hid hi
  clear hA hl hi
  have HT := Lib.hid (show TAt ((w.alloc (.cells #[.slice A cs.length cap, .float .f32 sp] 48)).alloc (.cells #[.slice none 0 0, .float .f32 0] 48)) w.heap.size 0 A cs.length cap sp from ⟨by simp <;> omega, by go_simp, by go_simp⟩)
  have HRs := Lib.hid (Blk.at_ (w.alloc (.cells #[.slice A cs.length cap, .float .f32 sp] 48)) 48 #[.slice none 0 0, .float .f32 0] (w.heap.size + 1) (by simp))
  have HE1 := Lib.hid (show Ext w ((w.alloc (.cells #[.slice A cs.length cap, .float .f32 sp] 48)).alloc (.cells #[.slice none 0 0, .float .f32 0] 48)) by (repeat first | with_reducible exact Ext.rfl' _ | with_reducible refine Ext.drewN ?_ _ | with_reducible refine Ext.drew' ?_ | with_reducible refine Ext.alloc' ?_ _ | with_reducible refine Ext.setCell_at ?_ _ _ _ (by first | exact Nat.le_refl _ | omega) | with_reducible assumption | refine Ext.trans ?_ (by with_reducible assumption)))
  go_enter Try.func56, Try.ntmps56
  go_wp2_with fail
  generalize ((w.alloc (.cells #[.slice A cs.length cap, .float .f32 sp] 48)).alloc (.cells #[.slice none 0 0, .float .f32 0] 48)) = W1 at *
  refine (l06Is_any w.heap.size 0 A cap sp cs _ HT.out (HA.out.ext HE1.out) HL.out false HI.out).mono ?_
  rintro e w2 ⟨he2, rfl⟩
  have HE2 := Lib.hid he2
  have HB2 := Lib.hid (HRs.out.ext he2)
  have r0 : w2.cell? ⟨w.heap.size + 1, 0, none⟩ = some (.slice none 0 0) := HB2.out.cell 0
  have r1 : w2.cell? ⟨w.heap.size + 1, 1, none⟩ = some (.float .f32 0) := HB2.out.cell 1
  have rf0 := HB2.out.frozen 0
  have rf1 := HB2.out.frozen 1
  clear he2
  go_wp2_with fail
  have hBS : Blk ((w2.setCell ⟨w.heap.size + 1, 0, none⟩ (.slice none 0 0)).setCell ⟨w.heap.size + 1, 1, none⟩ (.float .f32 0)) (w.heap.size + 1) 48 #[.slice none 0 0, .float .f32 0] := by
    have := (HB2.out.set_ 0 (.slice none 0 0)).set_ 1 (.float .f32 0)
    simpa using this
  have e3 : Ext w ((w2.setCell ⟨w.heap.size + 1, 0, none⟩ (.slice none 0 0)).setCell ⟨w.heap.size + 1, 1, none⟩ (.float .f32 0)) := Ext.setCell_at (Ext.setCell_at (Ext.trans HE1.out HE2.out) _ _ _ (by omega)) _ _ _ (by omega)
  generalize (w2.setCell ⟨w.heap.size + 1, 0, none⟩ (.slice none 0 0)).setCell ⟨w.heap.size + 1, 1, none⟩ (.float .f32 0) = W9 at *
  have q0 : W9.cell? ⟨w.heap.size + 1, 0, none⟩ = some (.slice none 0 0) := hBS.cell 0
  have q1 : W9.cell? ⟨w.heap.size + 1, 1, none⟩ = some (.float .f32 0) := hBS.cell 1
  exact bodyPost_ret (v := .tuple #[.agg #[.slice none 0 0, .float .f32 0], .bool false]) (by simp [results, Try.results56, go_sem, q0, q1]) rfl ⟨e3, none, 0, 0, rfl, fun h => absurd h (Nat.lt_irrefl 0), cn_zero32⟩

set_option maxRecDepth 100000 in
set_option maxHeartbeats 1600000 in
theorem specBackYes_any (A : Option Addr) (cap sp : Nat) (cs : List V3) (w : World) (hA : VS w A cs) (hl : cs.length ≤ 1048576) (hi : isTh cs (cn .f32 sp) = true) :
    Calls Try.prog 56 #[.agg #[.slice A cs.length cap, .float .f32 sp]] w fun e w' => Ext w w' ∧ RT w w' e (true, cs.reverse, cn .f32 sp) := by
  have h32 : 3 ≤ cs.length ∧ cs.length ≤ 32 := by unfold isTh at hi; simp only [Bool.and_eq_true, decide_eq_true_eq] at hi; exact hi.1.1
  have HN := Lib.hid h32
  obtain ⟨i0, hi0, iz0, iz1, iz2⟩ := info_parts infoV
  have HA := Lib.hid hA
  have HL := Lib.hid hl
  have HI := Lib.hid hi
  clear hA hl hi h32
  have HT := Lib.hid (show TAt ((w.alloc (.cells #[.slice A cs.length cap, .float .f32 sp] 48)).alloc (.cells #[.slice none 0 0, .float .f32 0] 48)) w.heap.size 0 A cs.length cap sp from ⟨by simp <;> omega, by go_simp, by go_simp⟩)
  have HRs := Lib.hid (Blk.at_ (w.alloc (.cells #[.slice A cs.length cap, .float .f32 sp] 48)) 48 #[.slice none 0 0, .float .f32 0] (w.heap.size + 1) (by simp))
  have HE1 := Lib.hid (show Ext w ((w.alloc (.cells #[.slice A cs.length cap, .float .f32 sp] 48)).alloc (.cells #[.slice none 0 0, .float .f32 0] 48)) by (repeat first | with_reducible exact Ext.rfl' _ | with_reducible refine Ext.drewN ?_ _ | with_reducible refine Ext.drew' ?_ | with_reducible refine Ext.alloc' ?_ _ | with_reducible refine Ext.setCell_at ?_ _ _ _ (by first | exact Nat.le_refl _ | omega) | with_reducible assumption | refine Ext.trans ?_ (by with_reducible assumption)))
  go_enter Try.func56, Try.ntmps56
  go_wp2_with fail
  generalize ((w.alloc (.cells #[.slice A cs.length cap, .float .f32 sp] 48)).alloc (.cells #[.slice none 0 0, .float .f32 0] 48)) = W1 at *
  refine (l06Is_any w.heap.size 0 A cap sp cs _ HT.out (HA.out.ext HE1.out) HL.out true HI.out).mono ?_
  rintro e w2 ⟨he2, rfl⟩
  have HT2 := Lib.hid (HT.out.ext he2)
  have HE2 := Lib.hid (Ext.trans HE1.out he2)
  have HB2 := Lib.hid (HRs.out.ext he2)
  obtain ⟨tlt, t0, t1⟩ := HT2.out
  clear he2
  have hws : w.heap.size < w2.heap.size := tlt
  have hw1s : w.heap.size + 1 < w2.heap.size := HB2.out.lt
  go_wp2_with fail
  have hown : ((w2.alloc (.cells #[] 54)).alloc (.cells #[.slice (some ⟨w2.heap.size, 0, none⟩) 0 0, .float .f32 sp] 48)).ownsRow w2.heap.size 54 3 (.slice (some ⟨w2.heap.size, 0, none⟩) 0 0) 0 [] := (World.ownsRow_made w2 #[] 0 (Nat.le_refl _) (by decide) rfl).alloc _
  have hout : Blk ((w2.alloc (.cells #[] 54)).alloc (.cells #[.slice (some ⟨w2.heap.size, 0, none⟩) 0 0, .float .f32 sp] 48)) (w2.heap.size + 1) 48 #[.slice (some ⟨w2.heap.size, 0, none⟩) 0 0, .float .f32 sp] := Blk.at_ _ _ _ _ (by simp)
  have he3 : Ext w2 ((w2.alloc (.cells #[] 54)).alloc (.cells #[.slice (some ⟨w2.heap.size, 0, none⟩) 0 0, .float .f32 sp] 48)) := by (repeat first | with_reducible exact Ext.rfl' _ | with_reducible refine Ext.drewN ?_ _ | with_reducible refine Ext.drew' ?_ | with_reducible refine Ext.alloc' ?_ _ | with_reducible refine Ext.setCell_at ?_ _ _ _ (by first | exact Nat.le_refl _ | omega) | with_reducible assumption | refine Ext.trans ?_ (by with_reducible assumption))
  generalize (w2.alloc (.cells #[] 54)).alloc (.cells #[.slice (some ⟨w2.heap.size, 0, none⟩) 0 0, .float .f32 sp] 48) = W3 at *
  clear t0 t1 tlt
  have HO3 := Lib.hid hown
  have HB3 := Lib.hid hout
  have HE3 := Lib.hid he3
  clear hown hout he3
  have hwrap : wrap64 ((cs.length : Int) - 1) = (cs.length : Int) - 1 := by have := HL.out; unfold wrap64; omega
  rw [hwrap]
  clear hwrap
  go_loopw [5] (fun i wr => ∃ (k gg cp : Nat) (xs : List Value), k ≤ cs.length ∧ i = .int .i64 ((cs.length : Int) - 1 - k) ∧ wr.ownsRow w2.heap.size 54 3 (.slice (some ⟨gg, 0, none⟩) k cp) k xs ∧ LVs xs (cs.reverse.take k) ∧ Blk wr (w2.heap.size + 1) 48 #[.slice (some ⟨gg, 0, none⟩) k cp, .float .f32 sp] ∧ Ext w2 wr) (fun i _ => (intOf i + 1).toNat)
  case atStart => exact ⟨0, w2.heap.size, 0, [], Nat.zero_le _, by simp, HO3.out, LVs.nil, HB3.out, HE3.out⟩
  case round =>
    obtain ⟨k, gg, cp, xs, hk, rfl, hown, hlv, hout, hbel⟩ := hrel
    have HOW := Lib.hid hown
    have HLV := Lib.hid hlv
    have HOUT := Lib.hid hout
    have HE := Lib.hid hbel
    clear hown hlv hout hbel
    obtain ⟨tlt, s0, s1⟩ := HT2.out.ext HE.out
    have q0 : wr.cell? ⟨w2.heap.size + 1, 0, none⟩ = some (.slice (some ⟨gg, 0, none⟩) k cp) := HOUT.out.cell 0
    have q1 : wr.cell? ⟨w2.heap.size + 1, 1, none⟩ = some (.float .f32 sp) := HOUT.out.cell 1
    have qf0 := HOUT.out.frozen 0
    have qf1 := HOUT.out.frozen 1
    by_cases hlt : k < cs.length
    · obtain ⟨j, hj⟩ : ∃ j, cs.length = j + k + 1 := ⟨cs.length - k - 1, by omega⟩
      have hji : (cs.length : Int) - 1 - k = (j : Int) := by omega
      rw [hji]
      obtain ⟨b, o, hbo, hbw, hcc⟩ := HA.out (by omega)
      subst hbo
      obtain ⟨x, y, z, c0, c1, c2, hcv⟩ := hcc j (by omega)
      have hbb : Ext w wr := Ext.trans HE2.out HE.out
      have d0 := (hbb.cell (p := ⟨b, o + j * 3, none⟩) hbw).trans c0
      have d1 := (hbb.cell (p := ⟨b, o + j * 3 + 1, none⟩) hbw).trans c1
      have d2 := (hbb.cell (p := ⟨b, o + j * 3 + 2, none⟩) hbw).trans c2
      have HC := Lib.hid hcv
      have hge : (0 : Int) ≤ (j : Int) := by omega
      have hjl : (j : Int) < (cs.length : Int) := by omega
      have HJ := Lib.hid hj
      clear hcc c0 c1 c2 hbb hcv hj hji
      go_wp2_with fail
      have n3 : w2.heap.size + 1 < wr.heap.size := HOUT.out.lt
      go_region_law (first
        | (refine step_append_lies _ (by rfl) _ _ _ (by rfl) w2.heap.size 54 i0 _ 3 12 under_points hi0 iz0 iz1 iz2 rfl (by omega) (.slice (some ⟨gg, 0, none⟩) k cp) k xs (by rfl) ((show wr.drew.ownsRow _ _ _ _ _ _ from HOW.out).alloc _) ⟨wr.heap.size, 0, none⟩ 1 1 [.float .f32 x, .float .f32 y, .float .f32 z] (by rfl) rfl (World.news_of_block (cs := #[.float .f32 x, .float .f32 y, .float .f32 z]) (t := 54) (fr := (0, 0)) (heap_alloc_new wr.drew _)) (by simp [Value.oneCell']) (by omega) (by have := HN.out.2; unfold maxLen; omega) (by have := HN.out.2; omega) (by have := HE.out.size; (try simp only [World.size_alloc, World.size_drew]); omega) _ rfl ?_; intro g2 cp2 w6 hown6 hgrow hat hlt6; (have hgl := HOW.out.lt); (have e6 : Ext w2 w6 := Ext.grown (Ext.trans HE.out (Ext.alloc' (Ext.drew' (Ext.rfl' wr)) _)) hgrow (fun k hk => (hgl k hk).1)); obtain ⟨cur, hcur⟩ := own_block HOW.out; (have hne := blk_ne hcur HOUT.out (by decide)); (have hout6 : Blk w6 (w2.heap.size + 1) 48 #[.slice (some ⟨gg, 0, none⟩) k cp, .float .f32 sp] := (hgrow.block _ (by have := HOUT.out.lt; simp; omega) (by simp [Value.ownBlock]; omega)).trans (show Blk _ _ _ _ from (show Blk wr.drew _ _ _ from HOUT.out).alloc _)); (have HOUT6 := Lib.hid hout6); (have HE6 := Lib.hid e6); (have HO6 := Lib.hid hown6); (have p0 : w6.cell? ⟨w2.heap.size + 1, 0, none⟩ = some (.slice (some ⟨gg, 0, none⟩) k cp) := hout6.cell 0); (have pf0 := hout6.frozen 0); clear hown6 hgrow hat hlt6 hgl e6 hcur hne hout6 cur d0 d1 d2 s0 s1 q0 q1 qf0 qf1))
      all_goals
        go_wp2_with fail
        have hw1 : wrap64 ((j : Int) - 1) = (cs.length : Int) - 1 - ((k + 1 : Nat) : Int) := by have := HJ.out; have := HL.out; unfold wrap64; omega
        have hw2 : wrap64 ((j : Int) - 1) = (j : Int) - 1 := by have := HJ.out; have := HL.out; unfold wrap64; omega
        have hset := HOUT6.out.set_ 0 (.slice (some ⟨g2, 0, none⟩) (k + 1) cp2)
        obtain ⟨cur, hcur⟩ := own_block HO6.out
        have hne := blk_ne hcur HOUT6.out (by decide)
        go_roundw
        case rel =>
          refine ⟨k + 1, g2, cp2, xs ++ [.float .f32 x, .float .f32 y, .float .f32 z], by omega, by rw [hw1], HO6.out.kept (row := some (w2.heap.size + 1)) (only_setCell (g := w2.heap.size + 1) (p := ⟨w2.heap.size + 1, 0, none⟩) (only_refl _ _) rfl _) (Or.inr (by simp [Value.ownBlock]; omega)), ?_, by simpa using hset, Ext.setCell_at HE6.out _ _ _ (by omega)⟩
          rw [rev_take_succ cs j k HJ.out]
          refine LVs.append HLV.out ?_
          rw [← HC.out]
          exact LVs.one x y z
        case measure =>
          clear hw1
          simp only [intOf, hw2]
          omega
    · have hkl : k = cs.length := by omega
      subst hkl
      have hge : ¬ (0 : Int) ≤ (cs.length : Int) - 1 - (cs.length : Int) := by omega
      have HR := Lib.hid ((HB2.out.ext HE.out))
      have r0 : wr.cell? ⟨w.heap.size + 1, 0, none⟩ = some (.slice none 0 0) := HR.out.cell 0
      have r1 : wr.cell? ⟨w.heap.size + 1, 1, none⟩ = some (.float .f32 0) := HR.out.cell 1
      have rf0 := HR.out.frozen 0
      have rf1 := HR.out.frozen 1
      have HVO := Lib.hid (show VO wr w2.heap.size (some ⟨gg, 0, none⟩) cs.reverse from by
        have hlv := HLV.out
        rw [List.take_of_length_le (by simp)] at hlv
        obtain ⟨A', cp', hA', hv⟩ := vo_of_owns HOW.out hlv (by rw [List.length_reverse])
        simp only [Value.slice.injEq] at hA'
        rw [← hA'.1] at hv
        exact hv)
      go_wp2_with fail
      have hBS : Blk ((wr.setCell ⟨w.heap.size + 1, 0, none⟩ (.slice (some ⟨gg, 0, none⟩) cs.length cp)).setCell ⟨w.heap.size + 1, 1, none⟩ (.float .f32 sp)) (w.heap.size + 1) 48 #[.slice (some ⟨gg, 0, none⟩) cs.length cp, .float .f32 sp] := by
        have := (HR.out.set_ 0 (.slice (some ⟨gg, 0, none⟩) cs.length cp)).set_ 1 (.float .f32 sp)
        simpa using this
      have e3 : Ext w ((wr.setCell ⟨w.heap.size + 1, 0, none⟩ (.slice (some ⟨gg, 0, none⟩) cs.length cp)).setCell ⟨w.heap.size + 1, 1, none⟩ (.float .f32 sp)) := Ext.setCell_at (Ext.setCell_at (Ext.trans HE2.out HE.out) _ _ _ (by omega)) _ _ _ (by omega)
      have hvo : VO ((wr.setCell ⟨w.heap.size + 1, 0, none⟩ (.slice (some ⟨gg, 0, none⟩) cs.length cp)).setCell ⟨w.heap.size + 1, 1, none⟩ (.float .f32 sp)) w.heap.size (some ⟨gg, 0, none⟩) cs.reverse := ((HVO.out.set_lt _ _ _ hw1s).set_lt _ _ _ hw1s).mono (by omega)
      generalize (wr.setCell ⟨w.heap.size + 1, 0, none⟩ (.slice (some ⟨gg, 0, none⟩) cs.length cp)).setCell ⟨w.heap.size + 1, 1, none⟩ (.float .f32 sp) = W9 at *
      have q0 : W9.cell? ⟨w.heap.size + 1, 0, none⟩ = some (.slice (some ⟨gg, 0, none⟩) cs.length cp) := hBS.cell 0
      have q1 : W9.cell? ⟨w.heap.size + 1, 1, none⟩ = some (.float .f32 sp) := hBS.cell 1
      exact bodyPost_ret (v := .tuple #[.agg #[.slice (some ⟨gg, 0, none⟩) cs.length cp, .float .f32 sp], .bool true]) (by simp [results, Try.results56, go_sem, q0, q1]) rfl ⟨e3, some ⟨gg, 0, none⟩, cp, sp, by simp, hvo, rfl⟩
theorem specBack_any (A : Option Addr) (cap sp : Nat) (cs : List V3) (w : World) (hA : VS w A cs) (hl : cs.length ≤ 1048576) :
    Calls Try.prog 56 #[.agg #[.slice A cs.length cap, .float .f32 sp]] w fun e w' => Ext w w' ∧ RT w w' e (backP cs (cn .f32 sp)) := by
  unfold backP
  cases hi : isTh cs (cn .f32 sp) with
  | false => exact specBackNo_any A cap sp cs w hA hl hi
  | true => exact specBackYes_any A cap sp cs w hA hl hi
end Go.Proofs.Ytbaohbpfnlicpaa
