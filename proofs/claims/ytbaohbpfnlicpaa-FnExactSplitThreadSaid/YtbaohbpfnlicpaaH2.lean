/- Walks: slices.Grow and slices.Concat over vectors. -/
import Derived.Test.YtbaohbpfnlicpaaH1
import Derived.Lib.AppendZerosOnto
namespace Go.Proofs.Ytbaohbpfnlicpaa
open Go Go.RowKit Go.Lib
set_option linter.unusedVariables false
set_option linter.unusedSimpArgs false
attribute [local go_sem] run_store_float

set_option maxRecDepth 100000 in
/-- slices.Grow of the nil slice: room for n vectors, in memory of the call's own -/
theorem GrowV_any (n : Nat) (w : World) (hn : 0 < n) (hl : n ≤ 1048576) :
    Calls Try.prog 182 #[.slice none 0 0, .int .i64 n] w fun e w' => Ext w w' ∧ ∃ v, e = .returned v ∧ w'.ownsRow w.heap.size 54 3 v 0 [] ∧ v ≠ .slice none 0 0 := by
  obtain ⟨i0, hi0, iz0, iz1, iz2⟩ := info_parts infoV
  have hs0 : 0 < i0.size := by rw [iz1]; decide
  have h1 : ¬ ((n : Int) < 0) := by omega
  have h2 : wrap64 ((0 : Int) - (0 : Int)) = 0 := by unfold wrap64; omega
  have h3 : wrap64 ((n : Int) - 0) = (n : Int) := by unfold wrap64; omega
  have h4 : (n : Int) > 0 := by omega
  have hold : (Builtin.firstCells i0.size 0 (.slice none 0 0)).run Try.prog w.drew = .ok ([] : List Value).toArray w.drew := run_firstCells_none w.drew i0.size 0 0 0
  have hint : Try.prog.underlying 3 = some (.int .i64) := by kernel_rfl
  have hGn : n ≤ grownCap w n 0 54 := grownCap_ge w _ _ _
  have hGm : grownCap w n 0 54 ≤ maxLen := grownCap_le_maxLen w n 0 54 (by unfold maxLen; omega)
  have hrz : ∀ ty, (Builtin.append_ #[46, 3] ty #[.slice none 0 0, .int .i64 (n : Int)]).run Try.prog w =
      .ok (.slice (some ⟨w.heap.size, 0, none⟩) n (grownCap w n 0 54)) (w.drew.alloc (.cells (([] : List Value).toArray ++ Builtin.zeroCells (Value.agg #[.float .f32 0, .float .f32 0, .float .f32 0]).cells n ++ Builtin.zeroCells (Value.agg #[.float .f32 0, .float .f32 0, .float .f32 0]).cells (grownCap w n 0 54 - n)) 54)) := fun ty => by
    have h := Lib.run_append_grow_zeros w 46 3 ty 54 i0 _ .i64 .i64 under_points hint hi0 iz0 none 0 0 [] hold n (by omega) hs0 (by omega) (by omega) (by rw [iz2]; omega) (growslice_fits (by omega) (by rw [iz2]; omega))
    simpa using h
  obtain ⟨G, hG⟩ : ∃ G, G = grownCap w n 0 54 := ⟨_, rfl⟩
  rw [← hG] at hrz hGn hGm
  have hG63 : G ≤ 9223372036854775807 := by unfold maxLen at hGm; omega
  have HGM := Lib.hid hGm
  have HL := Lib.hid hl
  clear hold hG hl hGm
  go_enter Try.func182, Try.ntmps182
  go_wp2_with (first | (at_builtin; refine Lib.wpList_append_run _ rfl _ _ _ _ rfl _ _ rfl rfl _ _ (hrz _) ?_))
  go_ret
  refine ⟨by (repeat first | with_reducible exact Ext.rfl' _ | with_reducible refine Ext.drewN ?_ _ | with_reducible refine Ext.drew' ?_ | with_reducible refine Ext.alloc' ?_ _ | with_reducible refine Ext.setCell_at ?_ _ _ _ (by first | exact Nat.le_refl _ | omega) | with_reducible assumption | refine Ext.trans ?_ (by with_reducible assumption)), _, rfl, ?_, by simp⟩
  exact World.ownsRow_made w.drew _ G (Nat.le_refl _) HGM.out (by simp [Builtin.zeroCells, Value.cells]; omega)

/-- the first k of two lists, one behind the other -/
def catP (cs ds : List V3) (k : Nat) : List V3 := if k = 0 then [] else if k = 1 then cs else cs ++ ds

set_option maxRecDepth 100000 in
set_option maxHeartbeats 1600000 in
/-- slices.Concat of two slices of vectors: all vectors, in memory of the call's own -/
theorem ConcatV_any (gs b1 o1 c1 b2 o2 c2 : Nat) (cs ds : List V3) (w : World)
    (hs0 : w.cell? ⟨gs, 0, none⟩ = some (.slice (some ⟨b1, o1, none⟩) cs.length c1)) (hs1 : w.cell? ⟨gs, 1, none⟩ = some (.slice (some ⟨b2, o2, none⟩) ds.length c2))
    (hA : VS w (some ⟨b1, o1, none⟩) cs) (hB : VS w (some ⟨b2, o2, none⟩) ds) (hl : cs.length + ds.length ≤ 1048576) (hp : 0 < cs.length + ds.length) :
    Calls Try.prog 145 #[.slice (some ⟨gs, 0, none⟩) 2 2] w fun e w' => Ext w w' ∧ ∃ A' cap', e = .returned (.slice A' (cs.length + ds.length) cap') ∧ VO w' w.heap.size A' (cs ++ ds) := by
  obtain ⟨i0, hi0, iz0, iz1, iz2⟩ := info_parts infoV
  obtain ⟨news, hnw, hnc, hn1⟩ := hA.cells
  obtain ⟨news2, hnw2, hnc2, hn12⟩ := hB.cells
  have hgs := World.block_lt_of_cell? w _ hs0
  have HS0 := Lib.hid hs0
  have HS1 := Lib.hid hs1
  have HN := Lib.hid hnw
  have HNC := Lib.hid hnc
  have HN2 := Lib.hid hnw2
  have HNC2 := Lib.hid hnc2
  have HL := Lib.hid hl
  have HP := Lib.hid hp
  clear hA hB hl hnw hnc hnw2 hnc2 hp
  go_enter Try.func145, Try.ntmps145
  go_wp2_with fail
  go_loop [3, 5, 11] (fun sz s i => ∃ k : Nat, k ≤ 2 ∧ i = .int .i64 k ∧ sz = .int .i64 ((catP cs ds k).length : Nat)) (fun _ _ i => 2 - (intOf i).toNat)
  case atStart => exact ⟨0, by omega, rfl, by simp [catP]⟩
  case round =>
    obtain ⟨k, hk, rfl, rfl⟩ := hrel
    match k, hk with
    | 0, _ =>
      have hlen : ¬ ((cs.length : Int) < 0) := by omega
      have hw0 : wrap64 (cs.length : Int) = (cs.length : Int) := by have := HL.out; unfold wrap64; omega
      have hc1 : (catP cs ds 0).length = 0 := by simp [catP]
      rw [hc1]
      go_wp2_with fail
      exact ⟨⟨1, by omega, rfl, by simp [catP, hw0]⟩, by simp [intOf]⟩
    | 1, _ =>
      have hlen : ¬ ((cs.length : Int) + (ds.length : Int) < 0) := by omega
      have hw : wrap64 ((cs.length : Int) + (ds.length : Int)) = (cs.length : Int) + (ds.length : Int) := by have := HL.out; unfold wrap64; omega
      have hc1 : (catP cs ds 1).length = cs.length := by simp [catP]
      rw [hc1]
      go_wp2_with fail
      exact ⟨⟨2, by omega, rfl, by simp [catP, hw]⟩, by simp [intOf]⟩
    | 2, _ =>
      have hc1 : (catP cs ds 2).length = cs.length + ds.length := by simp [catP]
      rw [hc1]
      go_wp2_with fail
      rw [show (cs.length : Int) + (ds.length : Int) = ((cs.length + ds.length : Nat) : Int) by omega]
      refine (GrowV_any (cs.length + ds.length) _ HP.out HL.out).mono ?_
      rintro e w1 ⟨he1, v, rfl, hown, hnil⟩
      have HO := Lib.hid hown
      have HE1 := Lib.hid he1
      clear hown he1 hnil hs0 hs1
      go_wp2_with fail
      go_loopw [6, 8, 27] (fun v s i wr => ∃ (k : Nat) (xs : List Value), k ≤ 2 ∧ i = .int .i64 k ∧ wr.ownsRow w.heap.size 54 3 v (catP cs ds k).length xs ∧ LVs xs (catP cs ds k) ∧ Ext w wr) (fun _ _ i _ => 2 - (intOf i).toNat)
      case atStart => exact ⟨0, [], by omega, rfl, by simpa [catP] using HO.out, by simp only [catP, if_pos]; exact LVs.nil, HE1.out⟩
      case round =>
        clear HO HE1
        obtain ⟨k, xs, hk, rfl, hown, hlv, hbel⟩ := hrel
        have HOW := Lib.hid hown
        have HLV := Lib.hid hlv
        have HE := Lib.hid hbel
        have s0 := (hbel.cell (p := ⟨gs, 0, none⟩) hgs).trans HS0.out
        have s1 := (hbel.cell (p := ⟨gs, 1, none⟩) hgs).trans HS1.out
        clear hown hlv hbel
        match k, hk with
        | 0, _ =>
          go_wp2_with (first | (at_builtin; refine Stand.of ?_))
          refine Stand.out ?_
          refine wpList_append_own _ rfl _ _ 46 rfl w.heap.size 54 i0 _ 3 12 under_points hi0 iz0 iz1 iz2 rfl (by decide) _ _ _ rfl HOW.out ⟨b1, o1, none⟩ cs.length c1 news rfl (by rw [HN.out.1]) (news_ext HNC.out HE.out) hn1 (by have := HL.out; simp only [catP, if_pos, List.length_nil]; unfold maxLen; omega) (by have := HL.out; simp only [catP, if_pos, List.length_nil]; omega) HE.out.size ?_
          intro v' w6 hown6 hgrow hnil
          have hgl := HOW.out.lt
          have e6 : Ext w w6 := Ext.grown HE.out hgrow (fun k hk => (hgl k hk).1)
          have HE6 := Lib.hid e6
          have HO6 := Lib.hid hown6
          clear s0 s1 hgl e6 hown6 hgrow hnil
          go_wp2_with fail
          refine ⟨⟨1, xs ++ news, by omega, by rfl, ?_, ?_, HE6.out⟩, by simp [intOf]⟩
          · have := HO6.out
            rw [show (catP cs ds 0).length + cs.length = (catP cs ds 1).length by simp [catP]] at this
            exact this
          · have := LVs.append HLV.out HN.out
            rw [show catP cs ds 0 ++ cs = catP cs ds 1 by simp [catP]] at this
            exact this
        | 1, _ =>
          go_wp2_with (first | (at_builtin; refine Stand.of ?_))
          refine Stand.out ?_
          refine wpList_append_own _ rfl _ _ 46 rfl w.heap.size 54 i0 _ 3 12 under_points hi0 iz0 iz1 iz2 rfl (by decide) _ _ _ rfl HOW.out ⟨b2, o2, none⟩ ds.length c2 news2 rfl (by rw [HN2.out.1]) (news_ext HNC2.out HE.out) hn12 (by have := HL.out; rw [show (catP cs ds 1).length = cs.length by simp [catP]]; unfold maxLen; omega) (by have := HL.out; rw [show (catP cs ds 1).length = cs.length by simp [catP]]; omega) HE.out.size ?_
          intro v' w6 hown6 hgrow hnil
          have hgl := HOW.out.lt
          have e6 : Ext w w6 := Ext.grown HE.out hgrow (fun k hk => (hgl k hk).1)
          have HE6 := Lib.hid e6
          have HO6 := Lib.hid hown6
          clear s0 s1 hgl e6 hown6 hgrow hnil
          go_wp2_with fail
          refine ⟨⟨2, xs ++ news2, by omega, by rfl, ?_, ?_, HE6.out⟩, by simp [intOf]⟩
          · have := HO6.out
            rw [show (catP cs ds 1).length + ds.length = (catP cs ds 2).length by simp [catP]] at this
            exact this
          · have := LVs.append HLV.out HN2.out
            rw [show catP cs ds 1 ++ ds = catP cs ds 2 by simp [catP]] at this
            exact this
        | 2, _ =>
          have hc2 : catP cs ds 2 = cs ++ ds := by simp [catP]
          have hown := HOW.out
          have hlv := HLV.out
          rw [hc2] at hown hlv
          obtain ⟨A', cap', rfl, hvo⟩ := vo_of_owns hown hlv rfl
          have HVO := Lib.hid hvo
          clear hown hlv hvo s0 s1
          go_wp2_with fail
          go_ret
          exact ⟨HE.out, A', cap', by simp, HVO.out⟩
end Go.Proofs.Ytbaohbpfnlicpaa
