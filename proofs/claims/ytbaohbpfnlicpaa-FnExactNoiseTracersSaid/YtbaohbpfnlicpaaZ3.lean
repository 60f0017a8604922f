/- Walks: the tracers of noise, by the program. -/
import Derived.Test.YtbaohbpfnlicpaaZ2
import Derived.Test.YtbaohbpfnlicpaaW7
import Derived.StillTactics
namespace Go.Proofs.Ytbaohbpfnlicpaa
open Go Go.RowKit
set_option linter.unusedVariables false
set_option linter.unusedSimpArgs false
attribute [local go_sem] run_store_float

theorem Blk.one_fs {w : World} {g : Nat} {t : TypeId} {x : Nat} (h : Blk w g t #[.float .f32 x]) : FS w (some ⟨g, 0, none⟩) [cn .f32 x] := fun _ => ⟨g, 0, rfl, h.lt, fun i hi => by
  have hi' : i < 1 := by simpa using hi
  have : i = 0 := by omega
  subst this
  exact ⟨x, h.cell 0, rfl⟩⟩
theorem Blk.drewN {w : World} {g : Nat} {t : TypeId} {cs : Array Value} (h : Blk w g t cs) (n : Nat) : Blk (w.drewN n) g t cs := by
  unfold Blk at *
  simpa using h
theorem ownsRow_drewN {w : World} {B e size n : Nat} {v : Value} {xs : List Value} (h : w.ownsRow B e size v n xs) (m : Nat) : (w.drewN m).ownsRow B e size v n xs := by
  unfold World.ownsRow at *
  simpa using h
set_option maxRecDepth 100000 in
set_option maxHeartbeats 1600000 in
theorem implNoiseYes_any (n : Nat) (size : Nat) (s : Int) (w : World) (hn : n ≤ 64) (hs : levelP (cn .f32 size) = true) (h0 : 0 ≤ s) (h1 : s ≤ 2147483647) :
    Calls Try.prog 23 #[.int .i64 n, .float .f32 size, .int .i64 s] w fun e w' => Ext w w' ∧ RC w w' e true (noiseK (cn .f32 size) s n) (seedK s n) := by
  obtain ⟨i0, hi0, iz0, iz1, iz2⟩ := info_parts infoC
  have HS := Lib.hid hs
  have H01 := Lib.hid (And.intro h0 h1)
  have HN := Lib.hid hn
  clear hs h0 h1 hn
  have HBz := Lib.hid (show Blk ((w.alloc (.cells #[.float .f32 size] 22)).alloc (.cells #[.int .i64 s] 2)) w.heap.size 22 #[.float .f32 size] from (Blk.at_ _ _ _ _ rfl).alloc _)
  have HBs := Lib.hid (show Blk ((w.alloc (.cells #[.float .f32 size] 22)).alloc (.cells #[.int .i64 s] 2)) (w.heap.size + 1) 2 #[.int .i64 s] from Blk.at_ _ _ _ _ (by simp))
  have HE1 := Lib.hid (show Ext w ((w.alloc (.cells #[.float .f32 size] 22)).alloc (.cells #[.int .i64 s] 2)) by (repeat first | with_reducible exact Ext.rfl' _ | with_reducible refine Ext.drewN ?_ _ | with_reducible refine Ext.drew' ?_ | with_reducible refine Ext.alloc' ?_ _ | with_reducible refine Ext.setCell_at ?_ _ _ _ (by first | exact Nat.le_refl _ | omega) | with_reducible assumption | refine Ext.trans ?_ (by with_reducible assumption)))
  have HZ1 := Lib.hid (show ((w.alloc (.cells #[.float .f32 size] 22)).alloc (.cells #[.int .i64 s] 2)).heap.size = w.heap.size + 1 + 1 by simp)
  go_enter Try.func23, Try.ntmps23
  go_wp2_with fail
  generalize ((w.alloc (.cells #[.float .f32 size] 22)).alloc (.cells #[.int .i64 s] 2)) = W1 at *
  refine (in_yes _ _ _ _ (by omega) (by have := HN.out; omega)).mono ?_
  rintro e w1 ⟨rfl, rfl⟩
  have c0 : W1.cell? ⟨w.heap.size, 0, none⟩ = some (.float .f32 size) := HBz.out.cell 0
  have c1 : W1.cell? ⟨w.heap.size + 1, 0, none⟩ = some (.int .i64 s) := HBs.out.cell 0
  go_wp2_with fail
  have hx2 : Ext W1 (W1.alloc (.cells #[.float .f32 size] 22)) := by (repeat first | with_reducible exact Ext.rfl' _ | with_reducible refine Ext.drewN ?_ _ | with_reducible refine Ext.drew' ?_ | with_reducible refine Ext.alloc' ?_ _ | with_reducible refine Ext.setCell_at ?_ _ _ _ (by first | exact Nat.le_refl _ | omega) | with_reducible assumption | refine Ext.trans ?_ (by with_reducible assumption))
  have hb2 : Blk (W1.alloc (.cells #[.float .f32 size] 22)) W1.heap.size 22 #[.float .f32 size] := Blk.at_ _ _ _ _ rfl
  generalize W1.alloc (.cells #[.float .f32 size] 22) = W2 at *
  refine (levelOk_any (some ⟨W1.heap.size, 0, none⟩) 1 size _ hb2.one_fs true HS.out).mono ?_
  rintro e w3 ⟨he3, rfl⟩
  have HX3 := Lib.hid (Ext.trans hx2 he3)
  have d1 : w3.cell? ⟨w.heap.size + 1, 0, none⟩ = some (.int .i64 s) := (HBs.out.ext HX3.out).cell 0
  clear hb2 hx2 he3 c0 c1
  go_wp2_with fail
  refine (in_yes _ _ _ _ H01.out.1 H01.out.2).mono ?_
  rintro e w4 ⟨rfl, rfl⟩
  go_wp2_with fail
  have ho : (w3.alloc (.cells #[] 96)).ownsRow W1.heap.size 96 1 (.slice (some ⟨w3.heap.size, 0, none⟩) 0 0) 0 [] := World.ownsRow_made w3 #[] 0 HX3.out.size (by decide) rfl
  have hx : Ext W1 (w3.alloc (.cells #[] 96)) := Ext.alloc' HX3.out _
  have hbs := HBs.out.ext hx
  have hbz := HBz.out.ext hx
  generalize w3.alloc (.cells #[] 96) = W4 at *
  generalize hv : (Value.slice (some ⟨w3.heap.size, 0, none⟩) 0 0) = v0 at *
  go_loopw [10, 29] (fun v c wr => ∃ (k : Nat) (xs : List Value), k ≤ n ∧ c = .int .i64 k ∧ wr.ownsRow W1.heap.size 96 1 v k xs ∧ LCs xs (noiseK (cn .f32 size) s k) ∧ Ext w wr ∧ W1.heap.size ≤ wr.heap.size ∧ Blk wr w.heap.size 22 #[.float .f32 size] ∧ Blk wr (w.heap.size + 1) 2 #[.int .i64 (seedK s k)]) (fun _ c _ => n - (intOf c).toNat)
  case atStart => exact ⟨0, [], by omega, rfl, ho, LCs.nil, Ext.trans HE1.out hx, hx.size, hbz, hbs⟩
  case round =>
    obtain ⟨k, xs, hk, rfl, hown, hlv, hbel, hsz, hbz', hbs'⟩ := hrel
    have HOW := Lib.hid hown
    have HLV := Lib.hid hlv
    have HE := Lib.hid hbel
    have HSZ := Lib.hid hsz
    have HBZ := Lib.hid hbz'
    have HBS := Lib.hid hbs'
    clear hown hlv hbel hsz hbz' hbs' hx ho hv hbs hbz d1
    have HK := Lib.hid (seedK_in H01.out.1 H01.out.2 k)
    have HK2 := Lib.hid (seedP_in HK.out.1 HK.out.2)
    by_cases hlt : k < n
    · have hpos : (k : Int) < (n : Int) := by omega
      go_wp2_with fail
      refine (draw_any (w.heap.size + 1) w.heap.size size (seedK s k) HK.out.1 HK.out.2 _ (HBS.out.cell 0) (HBS.out.frozen 0) (HBZ.out.cell 0) (by omega)).mono ?_
      rintro e w5 ⟨m5, x, rfl, rfl, hx5⟩
      have HX5 := Lib.hid hx5
      have hbs5 := (HBS.out.set_ 0 (.int .i64 (seedP (seedK s k)))).drewN m5
      have hbz5 := (HBZ.out.setne (h := w.heap.size + 1) (by omega) 0 (.int .i64 (seedP (seedK s k)))).drewN m5
      have hg5 : wr.grownBy (wr.setCell ⟨w.heap.size + 1, 0, none⟩ (.int .i64 (seedP (seedK s k)))) (some (w.heap.size + 1)) := only_setCell (g := w.heap.size + 1) (p := ⟨w.heap.size + 1, 0, none⟩) (only_refl _ _) rfl _
      have ho5 := ownsRow_drewN (HOW.out.kept hg5 (Or.inr (fun he => by have := HOW.out.lt _ he; have := HZ1.out; omega))) m5
      clear hg5
      have he5 : Ext w ((wr.setCell ⟨w.heap.size + 1, 0, none⟩ (.int .i64 (seedP (seedK s k)))).drewN m5) := Ext.drewN (Ext.setCell_at HE.out _ _ _ (by omega)) _
      have hz5 : W1.heap.size ≤ ((wr.setCell ⟨w.heap.size + 1, 0, none⟩ (.int .i64 (seedP (seedK s k)))).drewN m5).heap.size := by simpa [World.setCell] using HSZ.out
      generalize (wr.setCell ⟨w.heap.size + 1, 0, none⟩ (.int .i64 (seedP (seedK s k)))).drewN m5 = w5 at *
      have HBS5 := Lib.hid (show Blk w5 (w.heap.size + 1) 2 #[.int .i64 (seedP (seedK s k))] by simpa using hbs5)
      have HBZ5 := Lib.hid hbz5
      have HO5 := Lib.hid ho5
      have HE5 := Lib.hid he5
      have HSZ5 := Lib.hid hz5
      clear hx5 hbs5 hbz5 ho5 he5 hz5
      go_wp2_with fail
      refine (draw_any (w.heap.size + 1) w.heap.size size (seedP (seedK s k)) HK2.out.1 HK2.out.2 _ (HBS5.out.cell 0) (HBS5.out.frozen 0) (HBZ5.out.cell 0) (by omega)).mono ?_
      rintro e w6 ⟨m6, y, rfl, rfl, hy6⟩
      have HY6 := Lib.hid hy6
      have hbs6 := (HBS5.out.set_ 0 (.int .i64 (seedP (seedP (seedK s k))))).drewN m6
      have hbz6 := (HBZ5.out.setne (h := w.heap.size + 1) (by omega) 0 (.int .i64 (seedP (seedP (seedK s k))))).drewN m6
      have hg6 : w5.grownBy (w5.setCell ⟨w.heap.size + 1, 0, none⟩ (.int .i64 (seedP (seedP (seedK s k))))) (some (w.heap.size + 1)) := only_setCell (g := w.heap.size + 1) (p := ⟨w.heap.size + 1, 0, none⟩) (only_refl _ _) rfl _
      have ho6 := ownsRow_drewN (HO5.out.kept hg6 (Or.inr (fun he => by have := HO5.out.lt _ he; have := HZ1.out; omega))) m6
      clear hg6
      have he6 : Ext w ((w5.setCell ⟨w.heap.size + 1, 0, none⟩ (.int .i64 (seedP (seedP (seedK s k))))).drewN m6) := Ext.drewN (Ext.setCell_at HE5.out _ _ _ (by omega)) _
      have hz6 : W1.heap.size ≤ ((w5.setCell ⟨w.heap.size + 1, 0, none⟩ (.int .i64 (seedP (seedP (seedK s k))))).drewN m6).heap.size := by simpa [World.setCell] using HSZ5.out
      generalize (w5.setCell ⟨w.heap.size + 1, 0, none⟩ (.int .i64 (seedP (seedP (seedK s k))))).drewN m6 = w6 at *
      have HBS6 := Lib.hid (show Blk w6 (w.heap.size + 1) 2 #[.int .i64 (seedP (seedP (seedK s k)))] by simpa using hbs6)
      have HBZ6 := Lib.hid hbz6
      have HO6 := Lib.hid ho6
      have HE6 := Lib.hid he6
      have HSZ6 := Lib.hid hz6
      clear hy6 hbs6 hbz6 ho6 he6 hz6
      go_wp2_with (first | (at_builtin; refine Stand.of ?_))
      refine Stand.out ?_
      refine wpList_append_own _ rfl _ _ 23 rfl W1.heap.size 96 i0 _ 1 8 under_complexes hi0 iz0 iz1 iz2 rfl (by decide) _ k xs rfl (HO6.out.alloc _) ⟨w6.heap.size, 0, none⟩ 1 1 [.complex .f32 x y] rfl rfl (World.news_of_block (cs := #[.complex .f32 x y]) (t := 96) (fr := (0, 0)) (heap_alloc_new w6 _)) (by simp [Value.oneCell']) (by have := HN.out; unfold maxLen; omega) (by have := HN.out; omega) (by have := HSZ6.out; (try simp only [World.size_alloc]); omega) ?_
      intro v' w7 hown7 hgrow hnil
      have hgl := HO6.out.lt
      have hz1 := HZ1.out
      have hbs7 := (hgrow.block (w.heap.size + 1) ((HBS6.out.alloc _).lt) (fun he => by have := hgl _ he.symm; omega)).trans (HBS6.out.alloc _)
      have hbz7 := (hgrow.block w.heap.size ((HBZ6.out.alloc _).lt) (fun he => by have := hgl _ he.symm; omega)).trans (HBZ6.out.alloc _)
      have HBS7 := Lib.hid (show Blk w7 (w.heap.size + 1) 2 #[.int .i64 (seedP (seedP (seedK s k)))] from hbs7)
      have HBZ7 := Lib.hid (show Blk w7 w.heap.size 22 #[.float .f32 size] from hbz7)
      have HE7 := Lib.hid (Ext.grown (Ext.alloc' HE6.out _) hgrow (fun j hj => by have := hgl j hj; omega))
      have HSZ7 := Lib.hid (show W1.heap.size ≤ w7.heap.size from Nat.le_trans HSZ6.out (Nat.le_trans (by simp) hgrow.size))
      have HO7 := Lib.hid hown7
      have hwk : wrap64 ((k : Int) + 1) = ((k + 1 : Nat) : Int) := by have := HN.out; unfold wrap64; omega
      clear hown7 hgrow hnil hgl hbs7 hbz7 hz1
      go_wp2_with fail
      generalize hzz : wrap64 ((k : Int) + 1) = zz at *
      subst hwk
      go_roundw
      case rel =>
        refine ⟨k + 1, xs ++ [.complex .f32 x y], by omega, rfl, HO7.out, ?_, HE7.out, HSZ7.out, HBZ7.out, HBS7.out⟩
        have := HLV.out.snoc x y
        rw [HX5.out, HY6.out] at this
        exact this
      case measure =>
        simp only [intOf]
        omega
    · have hpos : ¬ (k : Int) < (n : Int) := by omega
      have hkn : k = n := by omega
      subst hkn
      obtain ⟨A', cp, rfl, hco⟩ := co_of_owns HOW.out HLV.out (noiseK_len _ _ _).symm
      have HCO := Lib.hid hco
      have c1 : wr.cell? ⟨w.heap.size + 1, 0, none⟩ = some (.int .i64 (seedK s k)) := HBS.out.cell 0
      clear hco
      go_wp2_with fail
      go_still (by kernel_rfl)
      go_wp2_with fail
      refine bodyPost_ret (v := .tuple #[.slice A' k cp, .int .i64 (seedK s k), .bool true]) (by simp [results, Try.results23, go_sem]) rfl ?_
      exact ⟨Ext.drew' HE.out, A', cp, by rw [noiseK_len], (HCO.out.ext (Ext.drew' (Ext.rfl' _))).mono (by have := HZ1.out; omega)⟩
end Go.Proofs.Ytbaohbpfnlicpaa
