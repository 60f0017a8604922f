/- Walks: the tree of whirls. -/
import Derived.Test.YtfehhbmmdbpdpaaDF
namespace Go.Proofs.Ytfehhbmmdbpdpaa
open Go Go.RowKit
set_option linter.unusedVariables false
set_option linter.unusedSimpArgs false
attribute [local go_sem] run_store_float run_store_complex

theorem middleX_any (A : Option Addr) (cap n : Nat) (ps : List Wh) (w : World) (hA : Lies w 51 A (whVals ps)) (hn : ps.length = n) (h0 : 0 < n) (hps : OkPs ps) :
    Calls Try.prog 83 #[.slice A n cap, .func (.func 84) #[] #[]] w fun e w' => Ext w w' ∧ e = .returned (.tuple #[.float .f32 (F (midX ps)), .float .f32 (F (highX ps - lowX ps))]) :=
  middleOf1_any A cap n ps (atW ps 0) w hA hn (hps.at (by omega)).2 (hn ▸ hps.1) hps.2
theorem middleY_any (A : Option Addr) (cap n : Nat) (ps : List Wh) (w : World) (hA : Lies w 51 A (whVals ps)) (hn : ps.length = n) (h0 : 0 < n) (hps : OkPs ps) :
    Calls Try.prog 83 #[.slice A n cap, .func (.func 85) #[] #[]] w fun e w' => Ext w w' ∧ e = .returned (.tuple #[.float .f32 (F (midY ps)), .float .f32 (F (highY ps - lowY ps))]) :=
  middleOf2_any A cap n ps (atW ps 0) w hA hn (hps.at (by omega)).2 (hn ▸ hps.1) hps.2
theorem growRoot_any (ps : List Wh) (B g lb lo lcap r cp : Nat) (A1 : Option Addr) (c1 : Nat) (w : World) (hps : OkPs ps) (hn : 0 < ps.length) (hT : Tr w B g (.slice (some ⟨r, 0, none⟩) 0 cp) 0 []) (hL : Lies w 51 (some ⟨lb, lo, none⟩) (whVals ps)) (hW : Lies w 2 A1 (intVals (List.range ps.length))) :
    Calls Try.prog 86 #[.pointer (some ⟨g, 0, none⟩), .slice (some ⟨lb, lo, none⟩) ps.length lcap, .agg #[.complex .f32 (F (midX ps)) (F (midY ps)), .float .f32 (F (hP 0 (widP ps))), .int .i64 0, .slice A1 ps.length c1, .slice none 0 0, .float .f32 0, .complex .f32 0 0]] w fun e w' =>
      e = .returned (.int .i64 0) ∧ ∃ r' cp' zs, Tr w' B g (.slice (some ⟨r', 0, none⟩) (treeP ps).length cp') (treeP ps).length zs ∧ NodesAt w' (widP ps) (treeP ps) zs ∧ Fr w w' g (.slice (some ⟨r, 0, none⟩) 0 cp) (.slice (some ⟨r', 0, none⟩) (treeP ps).length cp') := by
  obtain ⟨hw, -, -, -, hpre⟩ := root_facts hps hn
  have h := grow_any ps (widP ps) B g lb lo lcap hps hw 6 0 rfl r cp 0 (midX ps) (midY ps) (List.range ps.length) [] A1 c1 w hpre hT hL hW (by rw [List.length_range]; have := hps.1; omega) (by rw [List.length_range]; exact hps.1)
  rw [List.length_range] at h
  unfold handed at h
  refine h.mono ?_
  rintro e w' ⟨he, r', cp', zs, h1, h2, h3, -⟩
  rw [Nat.zero_add] at h1 h3
  exact ⟨he, r', cp', zs, h1, h2, h3⟩

set_option maxRecDepth 100000 in
set_option maxHeartbeats 800000 in
theorem tree_any (ps : List Wh) (lb lo cap : Nat) (w : World) (hps : OkPs ps) (hn : 0 < ps.length) (hA : Lies w 51 (some ⟨lb, lo, none⟩) (whVals ps)) :
    Calls Try.prog 46 #[.slice (some ⟨lb, lo, none⟩) ps.length cap] w fun e w' => Ext w w' ∧ ∃ r cp, e = .returned (.tuple #[.slice (some ⟨r, 0, none⟩) (treeP ps).length cp, .bool true]) ∧ TreeAt w' ps r cp := by
  have HA := Lib.hid hA
  have HPS := Lib.hid hps
  have HL := Lib.hid hps.1
  clear hA
  obtain ⟨i1, hi1, jz0, jz1, jz2⟩ := parts_of infoI
  have hz1 : (Value.int .i64 0).cells.size = 1 := by decide
  have HOWN := Lib.hid (show (w.alloc (.cells #[] 2)).ownsRow w.heap.size 2 1 (.slice (some ⟨w.heap.size, 0, none⟩) 0 0) 0 [] from World.ownsRow_made (base := w.heap.size) (e := 2) (size := 1) w #[] 0 (Nat.le_refl _) (by decide) rfl)
  have HE0 := Lib.hid (show Ext w (w.alloc (.cells #[] 2)) by (repeat first | with_reducible exact Ext.rfl' _ | with_reducible refine Ext.drewN ?_ _ | with_reducible refine Ext.drew' ?_ | with_reducible refine Ext.alloc' ?_ _ | with_reducible refine Ext.setCell_at ?_ _ _ _ (by first | exact Nat.le_refl _ | omega) | with_reducible assumption | refine Ext.trans ?_ (by with_reducible assumption)))
  go_enter Try.func46, Try.ntmps46
  go_wp2_with fail
  generalize w.alloc (.cells #[] 2) = W0 at *
  go_loopw [4, 15] (fun v i wr => ∃ (k gg cq : Nat), k ≤ ps.length ∧ i = .int .i64 k ∧ v = .slice (some ⟨gg, 0, none⟩) k cq ∧ wr.ownsRow w.heap.size 2 1 v k (intVals (List.range k)) ∧ Ext w wr) (fun _ i _ => ps.length - (intOf i).toNat)
  case atStart => exact ⟨0, w.heap.size, 0, Nat.zero_le _, rfl, rfl, HOWN.out, HE0.out⟩
  case round =>
    obtain ⟨k, gg, cq, hk, rfl, rfl, hown, hbel⟩ := hrel
    have HOW := Lib.hid hown
    have HE := Lib.hid hbel
    clear hown hbel HOWN HE0
    have hk9 : k < 9223372036854775807 := by have := HL.out; omega
    by_cases hlt : k < ps.length
    · go_wp2_with (first | (at_builtin; refine Stand.of ?_))
      refine Stand.out ?_
      refine wpList_append_lies _ rfl _ _ 43 rfl w.heap.size 2 i1 _ 1 8 under_ints hi1 jz0 jz1 jz2 hz1 (by omega) (.slice (some ⟨gg, 0, none⟩) k cq) k _ rfl (HOW.out.alloc _) ⟨wr.heap.size, 0, none⟩ 1 1 [.int .i64 k] rfl rfl (World.news_of_block (cs := #[.int .i64 k]) (t := 2) (fr := (0, 0)) (heap_alloc_new wr _)) (by simp [Value.oneCell']) (by omega) (by have := HL.out; unfold maxLen; omega) (by have := HL.out; omega) (by have := HE.out.size; simp; omega) _ rfl ?_
      intro g2 c2 w6 hown6 hgrow hat hlt6
      have hgl := HOW.out.lt
      have HE6 := Lib.hid (Ext.grown (Ext.trans HE.out (Ext.alloc' (Ext.rfl' wr) _)) hgrow (fun k hk => (hgl k hk).1))
      have HO6 := Lib.hid hown6
      clear hown6 hgrow hat hlt6 hgl
      go_wp2_with fail
      refine ⟨⟨k + 1, g2, c2, by omega, by go_num, rfl, ?_, HE6.out⟩, by simp [intOf]; omega⟩
      rw [List.range_succ]
      unfold intVals
      rw [List.map_append]
      exact HO6.out
    · have hkn : k = ps.length := by omega
      subst hkn
      have HW := Lib.hid (lies_of_owns HOW.out).1
      go_wp2_with fail
      refine (middleX_any _ _ _ ps _ (HA.out.ext HE.out) rfl hn HPS.out).mono ?_
      rintro e w1 ⟨he, rfl⟩
      have HE1 := Lib.hid (Ext.trans HE.out he)
      have HW1 := Lib.hid (HW.out.ext he)
      clear he HW HE HOW
      go_wp2_with fail
      refine (middleY_any _ _ _ ps _ (HA.out.ext HE1.out) rfl hn HPS.out).mono ?_
      rintro e w2 ⟨he, rfl⟩
      have HE2 := Lib.hid (Ext.trans HE1.out he)
      have HW2 := Lib.hid (HW1.out.ext he)
      clear he HW1 HE1
      obtain ⟨-, hmx, hx, hy, -⟩ := root_facts HPS.out hn
      have hmax := fun ts t w => F_max _ _ hx hy Try.prog ts t w
      rw [hmx] at hmax
      have hquo := F_root (Nat.lt_succ_of_le (root_facts HPS.out hn).1)
      clear hmx hx hy
      go_wp2_with (first | (refine wpList_floatD rfl .quo _ _ _ _ rfl (by simp) _ _ _ rfl rfl _ hquo ?_))
      have hz5 : (w2.alloc (.cells #[] 49)).heap.size = w2.heap.size + 1 := by simp
      have hT : Tr ((w2.alloc (.cells #[] 49)).alloc (.cells #[.slice (some ⟨w2.heap.size, 0, none⟩) 0 0] 40)) w2.heap.size (w2.heap.size + 1) (.slice (some ⟨w2.heap.size, 0, none⟩) 0 0) 0 [] := by
        refine ⟨?_, (World.ownsRow_made (base := w2.heap.size) (e := 49) (size := 7) w2 #[] 0 (Nat.le_refl _) (by decide) rfl).alloc _, by omega⟩
        have := Blk.new (w2.alloc (.cells #[] 49)) 40 #[.slice (some ⟨w2.heap.size, 0, none⟩) 0 0]
        rw [hz5] at this
        exact this
      have HE3 := Lib.hid (Ext.trans HE2.out (show Ext w2 ((w2.alloc (.cells #[] 49)).alloc (.cells #[.slice (some ⟨w2.heap.size, 0, none⟩) 0 0] 40)) by (repeat first | with_reducible exact Ext.rfl' _ | with_reducible refine Ext.drewN ?_ _ | with_reducible refine Ext.drew' ?_ | with_reducible refine Ext.alloc' ?_ _ | with_reducible refine Ext.setCell_at ?_ _ _ _ (by first | exact Nat.le_refl _ | omega) | with_reducible assumption | refine Ext.trans ?_ (by with_reducible assumption))))
      have HW3 := Lib.hid (HW2.out.ext (show Ext w2 ((w2.alloc (.cells #[] 49)).alloc (.cells #[.slice (some ⟨w2.heap.size, 0, none⟩) 0 0] 40)) by (repeat first | with_reducible exact Ext.rfl' _ | with_reducible refine Ext.drewN ?_ _ | with_reducible refine Ext.drew' ?_ | with_reducible refine Ext.alloc' ?_ _ | with_reducible refine Ext.setCell_at ?_ _ _ _ (by first | exact Nat.le_refl _ | omega) | with_reducible assumption | refine Ext.trans ?_ (by with_reducible assumption))))
      have HT := Lib.hid hT
      have HS2 := Lib.hid HE2.out.size
      clear hT hz5 hmax hquo HW2 HE2
      generalize ((w2.alloc (.cells #[] 49)).alloc (.cells #[.slice (some ⟨w2.heap.size, 0, none⟩) 0 0] 40)) = W4 at *
      refine (growRoot_any ps w2.heap.size (w2.heap.size + 1) lb lo cap w2.heap.size 0 _ cq W4 HPS.out hn HT.out (HA.out.ext HE3.out) HW3.out).mono ?_
      rintro e w5 ⟨rfl, r', cp', zs, pT, pN, pF⟩
      have HE5 := Lib.hid (pF.below HT.out HE3.out HS2.out)
      have HN5 := Lib.hid pN
      have HL5 := Lib.hid (lies_of_owns pT.row).1
      have HV5 := Lib.hid pT.var
      have g0 : w5.cell? ⟨w2.heap.size + 1, 0, none⟩ = some (.slice (some ⟨r', 0, none⟩) (treeP ps).length cp') := pT.var.cell 0
      obtain ⟨hgood, -, hlen⟩ := treeP_ok HPS.out hn
      rw [List.length_range] at hlen
      have HGOOD := Lib.hid hgood
      have hl84 : (treeP ps).length ≤ 84 := by have := HL.out; omega
      clear pT pN pF hgood hlen HE3 HW3 HT HS2
      go_wp2_with fail
      refine (ContainsN_none _ _ _ (widP ps) (treeP ps) zs w5 HL5.out HN5.out rfl (by omega) (fun k nd hk A1 c1 A2 c2 w => tree3_F (widP ps) nd ((HGOOD.out k nd hk).1.ok HPS.out) A1 A2 c1 c2 w)).mono ?_
      rintro e w6 ⟨he, rfl⟩
      have HE6 := Lib.hid (Ext.trans HE5.out he)
      have HN6 := Lib.hid (HN5.out.map fun A xs h => h.ext he)
      have HL6 := Lib.hid (HL5.out.ext he)
      have g6 : w6.cell? ⟨w2.heap.size + 1, 0, none⟩ = some (.slice (some ⟨r', 0, none⟩) (treeP ps).length cp') := (HV5.out.ext he).cell 0
      clear he g0 HE5 HN5 HL5 HV5
      go_wp2_with fail
      go_ret2
      exact ⟨HE6.out, r', cp', rfl, zs, HL6.out, HN6.out⟩
set_option maxRecDepth 100000 in
theorem TreeOf_any (ps : List Wh) (lb lo cap : Nat) (w : World) (hps : OkPs ps) (hn : 0 < ps.length) (hA : Lies w 51 (some ⟨lb, lo, none⟩) (whVals ps)) :
    Calls Try.prog 18 #[.slice (some ⟨lb, lo, none⟩) ps.length cap] w fun e w' => Ext w w' ∧ ∃ r cp, e = .returned (.tuple #[.slice (some ⟨r, 0, none⟩) (treeP ps).length cp, .bool true]) ∧ TreeAt w' ps r cp := by
  have HA := Lib.hid hA
  have HPS := Lib.hid hps
  have hn0 : ¬ (ps.length : Int) = 0 := by omega
  clear hA
  go_enter Try.func18, Try.ntmps18
  go_wp2_with fail
  refine (AreWhirls_F _ _ _ ps _ HA.out rfl HPS.out.1 HPS.out.2).mono ?_
  rintro e w1 ⟨he, rfl⟩
  have HE1 := Lib.hid he
  clear he
  go_wp2_with fail
  refine (tree_any ps lb lo cap _ HPS.out hn (HA.out.ext HE1.out)).mono ?_
  rintro e w2 ⟨he, r, cp, rfl, hT⟩
  have HE2 := Lib.hid (Ext.trans HE1.out he)
  have HT := Lib.hid hT
  clear he hT
  go_wp2_with fail
  go_ret2
  exact ⟨HE2.out, r, cp, rfl, HT.out⟩
end Go.Proofs.Ytfehhbmmdbpdpaa
