/- Walks: a thread cut in two, by the reference: the good case. -/
import Derived.Test.YtbaohbpfnlicpaaG1
namespace Go.Proofs.Ytbaohbpfnlicpaa
open Go Go.RowKit
set_option linter.unusedVariables false
set_option linter.unusedSimpArgs false
attribute [local go_sem] run_store_float

theorem both_yes {xs ys : List V3} {sp : Nat} (h : isTh xs sp = true) (h' : isTh ys sp = true) : bothP (giveP xs sp) (giveP ys sp) = (true, (xs, sp), (ys, sp)) := by simp [bothP, giveP, h, h']
theorem grown_blk {w w' : World} {row : Option Nat} {g : Nat} {t : TypeId} {cs : Array Value} (hg : w.grownBy w' row) (h : Blk w g t cs) (hne : ¬ some g = row) : Blk w' g t cs := (hg.block g h.lt hne).trans h
set_option maxRecDepth 100000 in
set_option maxHeartbeats 3200000 in
theorem specSplitYes_any (A : Option Addr) (cap sp i k : Nat) (cs : List V3) (w : World) (hA : VS w A cs) (hcap : cs.length ≤ cap) (hi : hasP cs (cn .f32 sp) i = true) (hk : hasP cs (cn .f32 sp) k = true) (hik : i < k) :
    Calls Try.prog 69 #[.agg #[.slice A cs.length cap, .float .f32 sp], .int .i64 i, .int .i64 k] w fun e w' => Ext w w' ∧ RTT w w' e (bothP (giveP (splitA i k cs) (cn .f32 sp)) (giveP (splitB i k cs) (cn .f32 sp))) := by
  obtain ⟨hn3, hn32, -, hkn⟩ := hasP_bounds hk
  obtain ⟨i0, hi0, iz0, iz1, iz2⟩ := info_parts infoV
  obtain ⟨b, o, rfl, hbw, -⟩ := hA (by omega)
  have HN := Lib.hid (show 3 ≤ cs.length ∧ cs.length ≤ 32 ∧ i < k ∧ k < cs.length from ⟨hn3, hn32, hik, by omega⟩)
  have hsa : splitA i k cs = (cs.take k).drop i := by simp [splitA]
  have hsb : splitB i k cs = cs.drop k ++ cs.take i := by simp [splitB]
  rw [hsa, hsb]
  obtain ⟨n1s, hw1, hc1, hl1⟩ := ((hA.take k).drop i).cells
  obtain ⟨n2s, hw2, hc2, hl2⟩ := (hA.drop k).cells
  obtain ⟨n3s, hw3, hc3, hl3⟩ := (hA.take i).cells
  have HW1 := Lib.hid hw1
  have HC1 := Lib.hid hc1
  have HW2 := Lib.hid hw2
  have HC2 := Lib.hid hc2
  have HW3 := Lib.hid hw3
  have HC3 := Lib.hid hc3
  have hll1 : n1s.length = (k - i) * 3 := by rw [hw1.1, List.length_drop, List.length_take]; congr 1; omega
  have hll2 : n2s.length = (cs.length - k) * 3 := by rw [hw2.1, List.length_drop]
  have hll3 : n3s.length = i * 3 := by rw [hw3.1, List.length_take]; congr 1; omega
  have HL1 := Lib.hid hll1
  have HL2 := Lib.hid hll2
  have HL3 := Lib.hid hll3
  have HA := Lib.hid hA
  have HI := Lib.hid hi
  have HK := Lib.hid hk
  have HBW := Lib.hid hbw
  have HT := Lib.hid (show TAt (((w.alloc (.cells #[.slice (some ⟨b, o, none⟩) cs.length cap, .float .f32 sp] 48)).alloc (.cells #[.slice none 0 0, .float .f32 0] 48)).alloc (.cells #[.slice none 0 0, .float .f32 0] 48)) w.heap.size 0 (some ⟨b, o, none⟩) cs.length cap sp from ⟨by simp <;> omega, by go_simp, by go_simp⟩)
  have HRa := Lib.hid (show Blk (((w.alloc (.cells #[.slice (some ⟨b, o, none⟩) cs.length cap, .float .f32 sp] 48)).alloc (.cells #[.slice none 0 0, .float .f32 0] 48)).alloc (.cells #[.slice none 0 0, .float .f32 0] 48)) (w.heap.size + 1) 48 #[.slice none 0 0, .float .f32 0] from (Blk.at_ _ _ _ _ (by simp)).alloc _)
  have HRb := Lib.hid (show Blk (((w.alloc (.cells #[.slice (some ⟨b, o, none⟩) cs.length cap, .float .f32 sp] 48)).alloc (.cells #[.slice none 0 0, .float .f32 0] 48)).alloc (.cells #[.slice none 0 0, .float .f32 0] 48)) (w.heap.size + 1 + 1) 48 #[.slice none 0 0, .float .f32 0] from Blk.at_ _ _ _ _ (by simp))
  have HE1 := Lib.hid (show Ext w (((w.alloc (.cells #[.slice (some ⟨b, o, none⟩) cs.length cap, .float .f32 sp] 48)).alloc (.cells #[.slice none 0 0, .float .f32 0] 48)).alloc (.cells #[.slice none 0 0, .float .f32 0] 48)) by (repeat first | with_reducible exact Ext.rfl' _ | with_reducible refine Ext.drewN ?_ _ | with_reducible refine Ext.drew' ?_ | with_reducible refine Ext.alloc' ?_ _ | with_reducible refine Ext.setCell_at ?_ _ _ _ (by first | exact Nat.le_refl _ | omega) | with_reducible assumption | refine Ext.trans ?_ (by with_reducible assumption)))
  have q1 : (0 : Int) ≤ (i : Int) := by omega
  have q2 : (i : Int) ≤ (k : Int) := by omega
  have q3 : (k : Int) ≤ (cap : Int) := by omega
  have q4 : (k : Int) ≤ (cs.length : Int) := by omega
  have q5 : (cs.length : Int) ≤ (cap : Int) := by omega
  have q6 : (i : Int) ≤ (cap : Int) := by omega
  have q7 : (0 : Int) ≤ (k : Int) := by omega
  have q8 : ¬ cap = i := by omega
  have q9 : ¬ cap = k := by omega
  have qa : ¬ ((k : Int) ≤ (i : Int)) := by omega
  clear hA hi hk hw1 hc1 hw2 hc2 hw3 hc3 hsa hsb hll1 hll2 hll3 hn3 hn32 hkn hik hcap hbw
  go_enter Try.func69, Try.ntmps69
  go_wp2_with fail
  generalize (((w.alloc (.cells #[.slice (some ⟨b, o, none⟩) cs.length cap, .float .f32 sp] 48)).alloc (.cells #[.slice none 0 0, .float .f32 0] 48)).alloc (.cells #[.slice none 0 0, .float .f32 0] 48)) = W1 at *
  refine (l06Point_any w.heap.size 0 (some ⟨b, o, none⟩) cap sp cs i _ HT.out (HA.out.ext HE1.out) (by have := HN.out; omega) true HI.out).mono ?_
  rintro e w1 ⟨he1, rfl⟩
  have HEa := Lib.hid (Ext.trans HE1.out he1)
  have HTa := Lib.hid (HT.out.ext he1)
  have HAa := Lib.hid (HRa.out.ext he1)
  have HBa := Lib.hid (HRb.out.ext he1)
  clear he1
  go_wp2_with fail
  refine (l06Point_any w.heap.size 0 (some ⟨b, o, none⟩) cap sp cs k _ HTa.out (HA.out.ext HEa.out) (by have := HN.out; omega) true HK.out).mono ?_
  rintro e w2 ⟨he2, rfl⟩
  have HE2 := Lib.hid (Ext.trans HEa.out he2)
  have HT2 := Lib.hid (HTa.out.ext he2)
  have HA2 := Lib.hid (HAa.out.ext he2)
  have HB2 := Lib.hid (HBa.out.ext he2)
  obtain ⟨tl, t0, t1⟩ := HT2.out
  have hws : w.heap.size + 1 + 1 < w2.heap.size := HB2.out.lt
  clear he2
  go_upto_region 3 with fail
  go_cut [9] (fun p wx => ∃ (g gg cp : Nat) (xs : List Value), p = .pointer (some ⟨g, 0, none⟩) ∧ OLaid w2 wx 54 48 g gg cp (k - i) sp xs ∧ LVs xs ((cs.take k).drop i))
  case first =>
    have ho1 : (w2.alloc (.cells #[] 54)).ownsRow w2.heap.size 54 3 (.slice (some ⟨w2.heap.size, 0, none⟩) 0 0) 0 [] := World.ownsRow_made w2 #[] 0 (Nat.le_refl _) (by decide) rfl
    have ho2 : ((w2.alloc (.cells #[] 54)).alloc (.cells #[.slice none 0 0, .float .f32 0] 48)).ownsRow w2.heap.size 54 3 (.slice (some ⟨w2.heap.size, 0, none⟩) 0 0) 0 [] := ho1.alloc _
    have ho3 : ((w2.alloc (.cells #[.slice none 0 0, .float .f32 0] 48)).alloc (.cells #[] 54)).ownsRow w2.heap.size 54 3 (.slice (some ⟨w2.heap.size + 1, 0, none⟩) 0 0) 0 [] := by
      have := World.ownsRow_made (base := w2.heap.size) (e := 54) (size := 3) (w2.alloc (.cells #[.slice none 0 0, .float .f32 0] 48)) #[] 0 (by simp) (by decide) rfl
      simpa using this
    go_region_held3 (fun W => W.cell? ⟨w.heap.size, 0, none⟩ = some (.slice (some ⟨b, o, none⟩) cs.length cap) ∧ W.cell? ⟨w.heap.size, 0 + 1, none⟩ = some (.float .f32 sp)) (((try dsimp only); (repeat' apply And.intro) <;> (simp [*, go_sem]; done)))
      (((first | (refine step_append_lies _ (by rfl) _ _ _ (by rfl) w2.heap.size 54 i0 _ 3 12 under_points hi0 iz0 iz1 iz2 rfl (by omega) (.slice (some ⟨w2.heap.size, 0, none⟩) 0 0) 0 [] (by rfl) (by first | exact ho1 | exact ho2) ⟨b, o + i * 3, none⟩ (k - i) (cap - i) n1s (by rfl) HL1.out (news_ext HC1.out (Ext.trans HE2.out (by (repeat first | with_reducible exact Ext.rfl' _ | with_reducible refine Ext.drewN ?_ _ | with_reducible refine Ext.drew' ?_ | with_reducible refine Ext.alloc' ?_ _ | with_reducible refine Ext.setCell_at ?_ _ _ _ (by first | exact Nat.le_refl _ | omega) | with_reducible assumption | refine Ext.trans ?_ (by with_reducible assumption))))) hl1 (by have := HN.out; omega) (by have := HN.out; unfold maxLen; omega) (by have := HN.out; omega) (by (try simp only [World.size_alloc, World.size_drew]); omega) _ rfl ?_; intro g3 cp3 w3 hown3 hgrow hat hlt3) | (refine step_append_lies _ (by rfl) _ _ _ (by rfl) w2.heap.size 54 i0 _ 3 12 under_points hi0 iz0 iz1 iz2 rfl (by omega) (.slice (some ⟨w2.heap.size + 1, 0, none⟩) 0 0) 0 [] (by rfl) ho3 ⟨b, o + i * 3, none⟩ (k - i) (cap - i) n1s (by rfl) HL1.out (news_ext HC1.out (Ext.trans HE2.out (by (repeat first | with_reducible exact Ext.rfl' _ | with_reducible refine Ext.drewN ?_ _ | with_reducible refine Ext.drew' ?_ | with_reducible refine Ext.alloc' ?_ _ | with_reducible refine Ext.setCell_at ?_ _ _ _ (by first | exact Nat.le_refl _ | omega) | with_reducible assumption | refine Ext.trans ?_ (by with_reducible assumption))))) hl1 (by have := HN.out; omega) (by have := HN.out; unfold maxLen; omega) (by have := HN.out; omega) (by (try simp only [World.size_alloc, World.size_drew]); omega) _ rfl ?_; intro g3 cp3 w3 hown3 hgrow hat hlt3)); (have E3 : Ext w2 w3 := Ext.grown (by (repeat first | with_reducible exact Ext.rfl' _ | with_reducible refine Ext.drewN ?_ _ | with_reducible refine Ext.drew' ?_ | with_reducible refine Ext.alloc' ?_ _ | with_reducible refine Ext.setCell_at ?_ _ _ _ (by first | exact Nat.le_refl _ | omega) | with_reducible assumption | refine Ext.trans ?_ (by with_reducible assumption))) hgrow (fun j hj => by simp only [Value.ownBlock, Option.some.injEq] at hj; omega)); obtain ⟨hc3, hf3⟩ := bcell E3; (have hs3 : w2.heap.size ≤ w3.heap.size := E3.size); (have hz3 : w.heap.size < w3.heap.size := (by omega)); (try ((first | (have B3 : Blk w3 (w2.heap.size + 1) 48 #[.slice none 0 0, .float .f32 0] := grown_blk hgrow (Blk.at_drew _ _ _ _ (by simp)) (by simp [Value.ownBlock])) | (have B3 : Blk w3 w2.heap.size 48 #[.slice none 0 0, .float .f32 0] := grown_blk hgrow (Blk.alloc (Blk.at_ w2 48 #[.slice none 0 0, .float .f32 0] _ rfl) _) (by simp [Value.ownBlock]))); (have r0 : w3.cell? ⟨_, 0, none⟩ = some (.slice none 0 0) := Blk.cell B3 0); (have r1 : w3.cell? ⟨_, 1, none⟩ = some (.float .f32 0) := Blk.cell B3 1); have rf0 := Blk.frozen B3 0; have rf1 := Blk.frozen B3 1))))
    all_goals
      go_wp2_with fail
      go_meet
      refine ⟨_, g3, cp3, n1s, rfl, ?_, by simpa using HW1.out⟩
      first
        | exact OLaid.new E3 (by simpa using hown3) (Nat.le_refl _)
        | exact OLaid.set E3 (by simpa using hown3) (Nat.le_refl _) B3 (by (try simp only [World.size_alloc, World.size_drew]); omega) (by decide)
  case rest =>
    obtain ⟨ga, gga, cpa, xs, rfl, ⟨hg, hblk, hown, hE⟩, hlv⟩ := hcut
    rename World => w4
    have hlenA : ((cs.take k).drop i).length = k - i := by rw [List.length_drop, List.length_take]; have := HN.out; omega
    have HVA := Lib.hid (show VO w4 w2.heap.size (some ⟨gga, 0, none⟩) ((cs.take k).drop i) from by
      obtain ⟨A', cq, hA', hv⟩ := vo_of_owns hown hlv hlenA.symm
      simp only [Value.slice.injEq] at hA'
      rw [← hA'.1] at hv
      exact hv)
    have HLA := Lib.hid hlenA
    have HGA := Lib.hid hg
    have HOA := Lib.hid hblk
    have HE4 := Lib.hid (Ext.trans HE2.out hE)
    have HT4 := Lib.hid (HT2.out.ext hE)
    have HA4 := Lib.hid (HA2.out.ext hE)
    have HB4 := Lib.hid (HB2.out.ext hE)
    have h24 := hE.size
    clear hg hblk hown hlv hE t0 t1 tl hlenA
    obtain ⟨tl, t0, t1⟩ := HT4.out
    have hws4 : w.heap.size + 1 + 1 < w4.heap.size := HB4.out.lt
    go_upto_region 4 with fail
    go_cut [10] (fun p wx => ∃ (g gg cp : Nat) (xs : List Value), p = .pointer (some ⟨g, 0, none⟩) ∧ OLaid w4 wx 54 48 g gg cp (cs.length - k) sp xs ∧ LVs xs (cs.drop k))
    case first =>
      have ho1 : (w4.alloc (.cells #[] 54)).ownsRow w4.heap.size 54 3 (.slice (some ⟨w4.heap.size, 0, none⟩) 0 0) 0 [] := World.ownsRow_made w4 #[] 0 (Nat.le_refl _) (by decide) rfl
      have ho2 : ((w4.alloc (.cells #[] 54)).alloc (.cells #[.slice none 0 0, .float .f32 0] 48)).ownsRow w4.heap.size 54 3 (.slice (some ⟨w4.heap.size, 0, none⟩) 0 0) 0 [] := ho1.alloc _
      have ho3 : ((w4.alloc (.cells #[.slice none 0 0, .float .f32 0] 48)).alloc (.cells #[] 54)).ownsRow w4.heap.size 54 3 (.slice (some ⟨w4.heap.size + 1, 0, none⟩) 0 0) 0 [] := by
        have := World.ownsRow_made (base := w4.heap.size) (e := 54) (size := 3) (w4.alloc (.cells #[.slice none 0 0, .float .f32 0] 48)) #[] 0 (by simp) (by decide) rfl
        simpa using this
      go_region_held3 (fun W => W.cell? ⟨w.heap.size, 0, none⟩ = some (.slice (some ⟨b, o, none⟩) cs.length cap) ∧ W.cell? ⟨w.heap.size, 0 + 1, none⟩ = some (.float .f32 sp)) (((try dsimp only); (repeat' apply And.intro) <;> (simp [*, go_sem]; done)))
        (((first | (refine step_append_lies _ (by rfl) _ _ _ (by rfl) w4.heap.size 54 i0 _ 3 12 under_points hi0 iz0 iz1 iz2 rfl (by omega) (.slice (some ⟨w4.heap.size, 0, none⟩) 0 0) 0 [] (by rfl) (by first | exact ho1 | exact ho2) ⟨b, o + k * 3, none⟩ (cs.length - k) (cap - k) n2s (by rfl) HL2.out (news_ext HC2.out (Ext.trans HE4.out (by (repeat first | with_reducible exact Ext.rfl' _ | with_reducible refine Ext.drewN ?_ _ | with_reducible refine Ext.drew' ?_ | with_reducible refine Ext.alloc' ?_ _ | with_reducible refine Ext.setCell_at ?_ _ _ _ (by first | exact Nat.le_refl _ | omega) | with_reducible assumption | refine Ext.trans ?_ (by with_reducible assumption))))) hl2 (by have := HN.out; omega) (by have := HN.out; unfold maxLen; omega) (by have := HN.out; omega) (by (try simp only [World.size_alloc, World.size_drew]); omega) _ rfl ?_; intro g3 cp3 w3 hown3 hgrow hat hlt3) | (refine step_append_lies _ (by rfl) _ _ _ (by rfl) w4.heap.size 54 i0 _ 3 12 under_points hi0 iz0 iz1 iz2 rfl (by omega) (.slice (some ⟨w4.heap.size + 1, 0, none⟩) 0 0) 0 [] (by rfl) ho3 ⟨b, o + k * 3, none⟩ (cs.length - k) (cap - k) n2s (by rfl) HL2.out (news_ext HC2.out (Ext.trans HE4.out (by (repeat first | with_reducible exact Ext.rfl' _ | with_reducible refine Ext.drewN ?_ _ | with_reducible refine Ext.drew' ?_ | with_reducible refine Ext.alloc' ?_ _ | with_reducible refine Ext.setCell_at ?_ _ _ _ (by first | exact Nat.le_refl _ | omega) | with_reducible assumption | refine Ext.trans ?_ (by with_reducible assumption))))) hl2 (by have := HN.out; omega) (by have := HN.out; unfold maxLen; omega) (by have := HN.out; omega) (by (try simp only [World.size_alloc, World.size_drew]); omega) _ rfl ?_; intro g3 cp3 w3 hown3 hgrow hat hlt3)); (have E3 : Ext w4 w3 := Ext.grown (by (repeat first | with_reducible exact Ext.rfl' _ | with_reducible refine Ext.drewN ?_ _ | with_reducible refine Ext.drew' ?_ | with_reducible refine Ext.alloc' ?_ _ | with_reducible refine Ext.setCell_at ?_ _ _ _ (by first | exact Nat.le_refl _ | omega) | with_reducible assumption | refine Ext.trans ?_ (by with_reducible assumption))) hgrow (fun j hj => by simp only [Value.ownBlock, Option.some.injEq] at hj; omega)); obtain ⟨hc3, hf3⟩ := bcell E3; (have hs3 : w4.heap.size ≤ w3.heap.size := E3.size); (have hz3 : w.heap.size < w3.heap.size := (by omega)); (try ((first | (have B3 : Blk w3 (w4.heap.size + 1) 48 #[.slice none 0 0, .float .f32 0] := grown_blk hgrow (Blk.at_drew _ _ _ _ (by simp)) (by simp [Value.ownBlock])) | (have B3 : Blk w3 w4.heap.size 48 #[.slice none 0 0, .float .f32 0] := grown_blk hgrow (Blk.alloc (Blk.at_ w4 48 #[.slice none 0 0, .float .f32 0] _ rfl) _) (by simp [Value.ownBlock]))); (have r0 : w3.cell? ⟨_, 0, none⟩ = some (.slice none 0 0) := Blk.cell B3 0); (have r1 : w3.cell? ⟨_, 1, none⟩ = some (.float .f32 0) := Blk.cell B3 1); have rf0 := Blk.frozen B3 0; have rf1 := Blk.frozen B3 1))))
      all_goals
        go_wp2_with fail
        go_meet
        refine ⟨_, g3, cp3, n2s, rfl, ?_, by simpa using HW2.out⟩
        first
          | exact OLaid.new E3 (by simpa using hown3) (Nat.le_refl _)
          | exact OLaid.set E3 (by simpa using hown3) (Nat.le_refl _) B3 (by (try simp only [World.size_alloc, World.size_drew]); omega) (by decide)
    case rest =>
      obtain ⟨gb, ggb, cpb, ys, rfl, ⟨hg, hblk, hown, hE⟩, hlv⟩ := hcut
      rename World => w5
      have HGB := Lib.hid hg
      have HOB := Lib.hid hblk
      have HOW := Lib.hid hown
      have HLV := Lib.hid hlv
      have HEc := Lib.hid hE
      obtain ⟨tl5, z0, z1⟩ := HT4.out.ext hE
      have p0 : w5.cell? ⟨gb, 0, none⟩ = some (.slice (some ⟨ggb, 0, none⟩) (cs.length - k) cpb) := hblk.cell 0
      clear hg hblk hown hlv hE t0 t1 tl
      go_upto_region 5 with fail
      go_cut [] (fun wx => ∃ (g3 cp3 : Nat) (zs : List Value), Blk wx gb 48 #[.slice (some ⟨g3, 0, none⟩) (cs.length - k + i) cp3, .float .f32 sp] ∧ wx.ownsRow w4.heap.size 54 3 (.slice (some ⟨g3, 0, none⟩) (cs.length - k + i) cp3) (cs.length - k + i) zs ∧ LVs zs (cs.drop k ++ cs.take i) ∧ Ext w4 wx)
      case first =>
        go_still_tail 6, (by kernel_rfl)
        go_wp2_with (first | (at_builtin; refine Stand.of ?_))
        refine Stand.out ?_
        refine wpList_append_own _ rfl _ _ 46 rfl w4.heap.size 54 i0 _ 3 12 under_points hi0 iz0 iz1 iz2 rfl (by decide) (.slice (some ⟨ggb, 0, none⟩) (cs.length - k) cpb) (cs.length - k) ys rfl (show w5.drew.ownsRow _ _ _ _ _ _ from HOW.out) ⟨b, o, none⟩ i cap n3s rfl HL3.out (news_ext HC3.out (Ext.trans (Ext.trans HE4.out HEc.out) (Ext.drew' (Ext.rfl' _)))) hl3 (by have := HN.out; unfold maxLen; omega) (by have := HN.out; omega) HEc.out.size ?_
        intro v' w6 hown6 hgrow hnil
        have hgl := HOW.out.lt
        have e6 : Ext w4 w6 := Ext.grown (Ext.trans HEc.out (Ext.drew' (Ext.rfl' w5))) hgrow (fun k hk => (hgl k hk).1)
        obtain ⟨g6, c6, rfl⟩ := Joins.ownsRow_form hown6 (by have := HN.out; omega)
        obtain ⟨cur, hcur⟩ := own_block HOW.out
        have hne := blk_ne hcur HOB.out (by decide)
        have hout6 := grown_blk hgrow (show Blk w5.drew _ _ _ from HOB.out) (by simp [Value.ownBlock]; omega)
        have HOUT6 := Lib.hid hout6
        have HE6 := Lib.hid e6
        have HO6 := Lib.hid hown6
        have pp0 : w6.cell? ⟨gb, 0, none⟩ = some (.slice (some ⟨ggb, 0, none⟩) (cs.length - k) cpb) := hout6.cell 0
        have pf0 := hout6.frozen 0
        clear hown6 hgrow hnil hgl e6 hcur hne hout6 cur p0 z0 z1
        go_wp2_with fail
        go_meet
        have hset := HOUT6.out.set_ 0 (.slice (some ⟨g6, 0, none⟩) (cs.length - k + i) c6)
        obtain ⟨cur, hcur⟩ := own_block HO6.out
        have hne := blk_ne hcur HOUT6.out (by decide)
        exact ⟨g6, c6, _, by simpa using hset, HO6.out.kept (row := some gb) (only_setCell (g := gb) (p := ⟨gb, 0, none⟩) (only_refl _ _) rfl _) (Or.inr (by simp [Value.ownBlock]; omega)), LVs.append HLV.out HW3.out, Ext.setCell_at HE6.out _ _ _ HGB.out⟩
      case rest =>
        obtain ⟨g3, cp3, zs, hblk, hown, hlv, hE⟩ := hcut
        rename World => w7
        have hlenB : (cs.drop k ++ cs.take i).length = cs.length - k + i := by rw [List.length_append, List.length_drop, List.length_take]; have := HN.out; omega
        have HVB := Lib.hid (show VO w7 w4.heap.size (some ⟨g3, 0, none⟩) (cs.drop k ++ cs.take i) from by
          obtain ⟨A', cq, hA', hv⟩ := vo_of_owns hown hlv hlenB.symm
          simp only [Value.slice.injEq] at hA'
          rw [← hA'.1] at hv
          exact hv)
        have HLB := Lib.hid hlenB
        have HVA7 := Lib.hid (HVA.out.ext hE)
        have HE7 := Lib.hid (Ext.trans HE4.out hE)
        have HA7 := Lib.hid (HA4.out.ext hE)
        have HB7 := Lib.hid (HB4.out.ext hE)
        have HOA7 := Lib.hid (HOA.out.ext hE)
        have HOB7 := Lib.hid hblk
        have HTA := Lib.hid (show TAt w7 ga 0 (some ⟨gga, 0, none⟩) ((cs.take k).drop i).length cpa sp from ⟨HOA7.out.lt, by rw [HLA.out]; exact HOA7.out.cell 0, HOA7.out.cell 1⟩)
        have HTB := Lib.hid (show TAt w7 gb 0 (some ⟨g3, 0, none⟩) (cs.drop k ++ cs.take i).length cp3 sp from ⟨HOB7.out.lt, by rw [HLB.out]; exact HOB7.out.cell 0, HOB7.out.cell 1⟩)
        have HAP := Lib.hid (show gga < w4.heap.size from by
          obtain ⟨b', o', hA', -, hlt, -⟩ := HVA.out (by rw [HLA.out]; have := HN.out; omega)
          simp only [Option.some.injEq, Addr.mk.injEq] at hA'
          omega)
        have HBP := Lib.hid (show w4.heap.size ≤ g3 from by
          obtain ⟨b', o', hA', hlt, -⟩ := HVB.out (by rw [HLB.out]; have := HN.out; omega)
          simp only [Option.some.injEq, Addr.mk.injEq] at hA'
          omega)
        clear hblk hown hlv hE hlenB p0 z0 z1 tl5
        go_wp2_with fail
        cases hga : isTh ((cs.take k).drop i) (cn .f32 sp) with
        | false =>
          have HG1 := Lib.hid hga
          clear hga
          refine (l06Is_any ga 0 (some ⟨gga, 0, none⟩) cpa sp ((cs.take k).drop i) _ HTA.out HVA7.out.vs (by rw [HLA.out]; have := HN.out; omega) false HG1.out).mono ?_
          rintro e w8 ⟨he8, rfl⟩
          have HE8 := Lib.hid (Ext.trans HE7.out he8)
          have HA8 := Lib.hid (HA7.out.ext he8)
          have HB8 := Lib.hid (HB7.out.ext he8)
          clear he8
          have r0 : w8.cell? ⟨w.heap.size + 1, 0, none⟩ = some (.slice none 0 0) := HA8.out.cell 0
          have r1 : w8.cell? ⟨w.heap.size + 1, 1, none⟩ = some (.float .f32 0) := HA8.out.cell 1
          have rf0 := HA8.out.frozen 0
          have rf1 := HA8.out.frozen 1
          have s0 : w8.cell? ⟨w.heap.size + 1 + 1, 0, none⟩ = some (.slice none 0 0) := HB8.out.cell 0
          have s1 : w8.cell? ⟨w.heap.size + 1 + 1, 1, none⟩ = some (.float .f32 0) := HB8.out.cell 1
          have sf0 := HB8.out.frozen 0
          have sf1 := HB8.out.frozen 1
          go_wp2_with fail
          obtain ⟨hBa, hBb, hX, -⟩ := two_set (u0 := .slice none 0 0) (u1 := .float .f32 0) (v0 := .slice none 0 0) (v1 := .float .f32 0) HA8.out HB8.out (by omega) HE8.out (by omega) (by omega)
          generalize (((w8.setCell ⟨w.heap.size + 1, 0, none⟩ (.slice none 0 0)).setCell ⟨w.heap.size + 1, 1, none⟩ (.float .f32 0)).setCell ⟨w.heap.size + 1 + 1, 0, none⟩ (.slice none 0 0)).setCell ⟨w.heap.size + 1 + 1, 1, none⟩ (.float .f32 0) = W9 at *
          have y0 : W9.cell? ⟨w.heap.size + 1, 0, none⟩ = some (.slice none 0 0) := hBa.cell 0
          have y1 : W9.cell? ⟨w.heap.size + 1, 1, none⟩ = some (.float .f32 0) := hBa.cell 1
          have y2 : W9.cell? ⟨w.heap.size + 1 + 1, 0, none⟩ = some (.slice none 0 0) := hBb.cell 0
          have y3 : W9.cell? ⟨w.heap.size + 1 + 1, 1, none⟩ = some (.float .f32 0) := hBb.cell 1
          refine bodyPost_ret (v := .tuple #[.agg #[.slice none 0 0, .float .f32 0], .agg #[.slice none 0 0, .float .f32 0], .bool false]) (by simp [results, Try.results69, go_sem, y0, y1, y2, y3]) rfl ⟨hX, ?_⟩
          have hno : bothP (giveP ((cs.take k).drop i) (cn .f32 sp)) (giveP (cs.drop k ++ cs.take i) (cn .f32 sp)) = noTwo := by simp [bothP, giveP, HG1.out]
          rw [hno]
          exact RTT.no
        | true =>
          have HG1 := Lib.hid hga
          clear hga
          refine (l06Is_any ga 0 (some ⟨gga, 0, none⟩) cpa sp ((cs.take k).drop i) _ HTA.out HVA7.out.vs (by rw [HLA.out]; have := HN.out; omega) true HG1.out).mono ?_
          rintro e w8 ⟨he8, rfl⟩
          have HX8 := Lib.hid he8
          clear he8
          go_wp2_with fail
          cases hgb : isTh (cs.drop k ++ cs.take i) (cn .f32 sp) with
          | false =>
            have HG2 := Lib.hid hgb
            clear hgb
            refine (l06Is_any gb 0 (some ⟨g3, 0, none⟩) cp3 sp (cs.drop k ++ cs.take i) _ (HTB.out.ext HX8.out) (HVB.out.vs.ext HX8.out) (by rw [HLB.out]; have := HN.out; omega) false HG2.out).mono ?_
            rintro e w9 ⟨he9, rfl⟩
            have HX9 := Lib.hid (Ext.trans HX8.out he9)
            have HE9 := Lib.hid (Ext.trans HE7.out HX9.out)
            have HA9 := Lib.hid (HA7.out.ext HX9.out)
            have HB9 := Lib.hid (HB7.out.ext HX9.out)
            clear he9
            have r0 : w9.cell? ⟨w.heap.size + 1, 0, none⟩ = some (.slice none 0 0) := HA9.out.cell 0
            have r1 : w9.cell? ⟨w.heap.size + 1, 1, none⟩ = some (.float .f32 0) := HA9.out.cell 1
            have rf0 := HA9.out.frozen 0
            have rf1 := HA9.out.frozen 1
            have s0 : w9.cell? ⟨w.heap.size + 1 + 1, 0, none⟩ = some (.slice none 0 0) := HB9.out.cell 0
            have s1 : w9.cell? ⟨w.heap.size + 1 + 1, 1, none⟩ = some (.float .f32 0) := HB9.out.cell 1
            have sf0 := HB9.out.frozen 0
            have sf1 := HB9.out.frozen 1
            go_wp2_with fail
            obtain ⟨hBa, hBb, hX, -⟩ := two_set (u0 := .slice none 0 0) (u1 := .float .f32 0) (v0 := .slice none 0 0) (v1 := .float .f32 0) HA9.out HB9.out (by omega) HE9.out (by omega) (by omega)
            generalize (((w9.setCell ⟨w.heap.size + 1, 0, none⟩ (.slice none 0 0)).setCell ⟨w.heap.size + 1, 1, none⟩ (.float .f32 0)).setCell ⟨w.heap.size + 1 + 1, 0, none⟩ (.slice none 0 0)).setCell ⟨w.heap.size + 1 + 1, 1, none⟩ (.float .f32 0) = W9 at *
            have y0 : W9.cell? ⟨w.heap.size + 1, 0, none⟩ = some (.slice none 0 0) := hBa.cell 0
            have y1 : W9.cell? ⟨w.heap.size + 1, 1, none⟩ = some (.float .f32 0) := hBa.cell 1
            have y2 : W9.cell? ⟨w.heap.size + 1 + 1, 0, none⟩ = some (.slice none 0 0) := hBb.cell 0
            have y3 : W9.cell? ⟨w.heap.size + 1 + 1, 1, none⟩ = some (.float .f32 0) := hBb.cell 1
            refine bodyPost_ret (v := .tuple #[.agg #[.slice none 0 0, .float .f32 0], .agg #[.slice none 0 0, .float .f32 0], .bool false]) (by simp [results, Try.results69, go_sem, y0, y1, y2, y3]) rfl ⟨hX, ?_⟩
            have hno : bothP (giveP ((cs.take k).drop i) (cn .f32 sp)) (giveP (cs.drop k ++ cs.take i) (cn .f32 sp)) = noTwo := by simp [bothP, giveP, HG2.out]
            rw [hno]
            exact RTT.no
          | true =>
            have HG2 := Lib.hid hgb
            clear hgb
            refine (l06Is_any gb 0 (some ⟨g3, 0, none⟩) cp3 sp (cs.drop k ++ cs.take i) _ (HTB.out.ext HX8.out) (HVB.out.vs.ext HX8.out) (by rw [HLB.out]; have := HN.out; omega) true HG2.out).mono ?_
            rintro e w9 ⟨he9, rfl⟩
            have HX9 := Lib.hid (Ext.trans HX8.out he9)
            have HE9 := Lib.hid (Ext.trans HE7.out HX9.out)
            have HA9 := Lib.hid (HA7.out.ext HX9.out)
            have HB9 := Lib.hid (HB7.out.ext HX9.out)
            have HVA9 := Lib.hid (HVA7.out.ext HX9.out)
            have HVB9 := Lib.hid (HVB.out.ext HX9.out)
            have p0 : w9.cell? ⟨ga, 0, none⟩ = some (.slice (some ⟨gga, 0, none⟩) (k - i) cpa) := (HOA7.out.ext HX9.out).cell 0
            have p1 : w9.cell? ⟨ga, 1, none⟩ = some (.float .f32 sp) := (HOA7.out.ext HX9.out).cell 1
            have pq0 : w9.cell? ⟨gb, 0, none⟩ = some (.slice (some ⟨g3, 0, none⟩) (cs.length - k + i) cp3) := (HOB7.out.ext HX9.out).cell 0
            have pq1 : w9.cell? ⟨gb, 1, none⟩ = some (.float .f32 sp) := (HOB7.out.ext HX9.out).cell 1
            have r0 : w9.cell? ⟨w.heap.size + 1, 0, none⟩ = some (.slice none 0 0) := HA9.out.cell 0
            have r1 : w9.cell? ⟨w.heap.size + 1, 1, none⟩ = some (.float .f32 0) := HA9.out.cell 1
            have rf0 := HA9.out.frozen 0
            have rf1 := HA9.out.frozen 1
            have s0 : w9.cell? ⟨w.heap.size + 1 + 1, 0, none⟩ = some (.slice none 0 0) := HB9.out.cell 0
            have s1 : w9.cell? ⟨w.heap.size + 1 + 1, 1, none⟩ = some (.float .f32 0) := HB9.out.cell 1
            have sf0 := HB9.out.frozen 0
            have sf1 := HB9.out.frozen 1
            have hna : ¬ w.heap.size + 1 = ga := by have := HGA.out; omega
            have hnb : ¬ w.heap.size + 1 + 1 = ga := by have := HGA.out; omega
            have hnc : ¬ w.heap.size + 1 = gb := by have := HGB.out; omega
            have hnd : ¬ w.heap.size + 1 + 1 = gb := by have := HGB.out; omega
            clear he9
            go_wp2_with fail
            go_region_law (first | fail)
            all_goals
              go_wp2_with fail
              first
                | (obtain ⟨hBa, hBb, hX, hVV⟩ := two_setD (w2 := w9) (u0 := .slice (some ⟨gga, 0, none⟩) (k - i) cpa) (u1 := .float .f32 sp) (v0 := .slice (some ⟨g3, 0, none⟩) (cs.length - k + i) cp3) (v1 := .float .f32 sp) HA9.out HB9.out (by omega) HE9.out (by omega) (by omega)
                   have hva := (hVV _ _ _ HVA9.out (by omega) (by omega)).mono (show w.heap.size ≤ w2.heap.size by omega)
                   have hvb := (hVV _ _ _ HVB9.out (by omega) (by omega)).mono (show w.heap.size ≤ w4.heap.size by omega)
                   generalize ((((w9.setCell ⟨w.heap.size + 1, 0, none⟩ (.slice (some ⟨gga, 0, none⟩) (k - i) cpa)).setCell ⟨w.heap.size + 1, 1, none⟩ (.float .f32 sp)).setCell ⟨w.heap.size + 1 + 1, 0, none⟩ (.slice (some ⟨g3, 0, none⟩) (cs.length - k + i) cp3)).setCell ⟨w.heap.size + 1 + 1, 1, none⟩ (.float .f32 sp)).drew = W9 at *
                   have y0 : W9.cell? ⟨w.heap.size + 1, 0, none⟩ = some (.slice (some ⟨gga, 0, none⟩) (k - i) cpa) := hBa.cell 0
                   have y1 : W9.cell? ⟨w.heap.size + 1, 1, none⟩ = some (.float .f32 sp) := hBa.cell 1
                   have y2 : W9.cell? ⟨w.heap.size + 1 + 1, 0, none⟩ = some (.slice (some ⟨g3, 0, none⟩) (cs.length - k + i) cp3) := hBb.cell 0
                   have y3 : W9.cell? ⟨w.heap.size + 1 + 1, 1, none⟩ = some (.float .f32 sp) := hBb.cell 1
                   refine bodyPost_ret (v := .tuple #[.agg #[.slice (some ⟨gga, 0, none⟩) (k - i) cpa, .float .f32 sp], .agg #[.slice (some ⟨g3, 0, none⟩) (cs.length - k + i) cp3, .float .f32 sp], .bool true]) (by simp [results, Try.results69, go_sem, y0, y1, y2, y3]) rfl ⟨hX, ?_⟩
                   rw [both_yes HG1.out HG2.out]
                   exact ⟨_, cpa, sp, _, cp3, sp, by rw [HLA.out, HLB.out], hva, hvb, rfl, rfl, fun _ _ b1 o1 b2 o2 e1 e2 => by have := HAP.out; have := HBP.out; simp only [Option.some.injEq, Addr.mk.injEq] at e1 e2; omega⟩)
                | (obtain ⟨hBb, hBa, hX, hVV⟩ := two_setD (w2 := w9) (v0 := .slice (some ⟨gga, 0, none⟩) (k - i) cpa) (v1 := .float .f32 sp) (u0 := .slice (some ⟨g3, 0, none⟩) (cs.length - k + i) cp3) (u1 := .float .f32 sp) HB9.out HA9.out (by omega) HE9.out (by omega) (by omega)
                   have hva := (hVV _ _ _ HVA9.out (by omega) (by omega)).mono (show w.heap.size ≤ w2.heap.size by omega)
                   have hvb := (hVV _ _ _ HVB9.out (by omega) (by omega)).mono (show w.heap.size ≤ w4.heap.size by omega)
                   generalize ((((w9.setCell ⟨w.heap.size + 1 + 1, 0, none⟩ (.slice (some ⟨g3, 0, none⟩) (cs.length - k + i) cp3)).setCell ⟨w.heap.size + 1 + 1, 1, none⟩ (.float .f32 sp)).setCell ⟨w.heap.size + 1, 0, none⟩ (.slice (some ⟨gga, 0, none⟩) (k - i) cpa)).setCell ⟨w.heap.size + 1, 1, none⟩ (.float .f32 sp)).drew = W9 at *
                   have y0 : W9.cell? ⟨w.heap.size + 1, 0, none⟩ = some (.slice (some ⟨gga, 0, none⟩) (k - i) cpa) := hBa.cell 0
                   have y1 : W9.cell? ⟨w.heap.size + 1, 1, none⟩ = some (.float .f32 sp) := hBa.cell 1
                   have y2 : W9.cell? ⟨w.heap.size + 1 + 1, 0, none⟩ = some (.slice (some ⟨g3, 0, none⟩) (cs.length - k + i) cp3) := hBb.cell 0
                   have y3 : W9.cell? ⟨w.heap.size + 1 + 1, 1, none⟩ = some (.float .f32 sp) := hBb.cell 1
                   refine bodyPost_ret (v := .tuple #[.agg #[.slice (some ⟨gga, 0, none⟩) (k - i) cpa, .float .f32 sp], .agg #[.slice (some ⟨g3, 0, none⟩) (cs.length - k + i) cp3, .float .f32 sp], .bool true]) (by simp [results, Try.results69, go_sem, y0, y1, y2, y3]) rfl ⟨hX, ?_⟩
                   rw [both_yes HG1.out HG2.out]
                   exact ⟨_, cpa, sp, _, cp3, sp, by rw [HLA.out, HLB.out], hva, hvb, rfl, rfl, fun _ _ b1 o1 b2 o2 e1 e2 => by have := HAP.out; have := HBP.out; simp only [Option.some.injEq, Addr.mk.injEq] at e1 e2; omega⟩)
theorem specSplit_any (A : Option Addr) (cap sp : Nat) (i k : Int) (cs : List V3) (w : World) (hA : VS w A cs) (hl : cs.length ≤ 1048576) (hcap : cs.length ≤ cap) :
    Calls Try.prog 69 #[.agg #[.slice A cs.length cap, .float .f32 sp], .int .i64 i, .int .i64 k] w fun e w' => Ext w w' ∧ RTT w w' e (splitP i k cs (cn .f32 sp)) := by
  unfold splitP
  cases hno : splitOk i k cs (cn .f32 sp) with
  | false => exact specSplitNo_any A cap sp i k cs w hA hl hno
  | true =>
    unfold splitOk at hno
    simp only [Bool.and_eq_true, decide_eq_true_eq] at hno
    obtain ⟨h1, h2, h3⟩ := hno
    obtain ⟨-, -, hi0, -⟩ := hasP_bounds h1
    obtain ⟨-, -, hk0, -⟩ := hasP_bounds h2
    obtain ⟨n, rfl⟩ : ∃ n : Nat, i = n := ⟨i.toNat, by omega⟩
    obtain ⟨m, rfl⟩ : ∃ m : Nat, k = m := ⟨k.toNat, by omega⟩
    exact specSplitYes_any A cap sp n m cs w hA hcap h1 h2 (by omega)
end Go.Proofs.Ytbaohbpfnlicpaa
