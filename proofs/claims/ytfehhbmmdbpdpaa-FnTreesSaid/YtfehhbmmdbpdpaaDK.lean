/- Walks: the whirls that bytes choose. -/
import Derived.Test.YtfehhbmmdbpdpaaDJ
namespace Go.Proofs.Ytfehhbmmdbpdpaa
open Go Go.RowKit
set_option linter.unusedVariables false
set_option linter.unusedSimpArgs false
attribute [local go_sem] run_store_float run_store_complex

theorem quarter_tab : (List.range 33).all (fun x => floatBits .quo .f32 (floatOfInt .f32 ((x : Int) - 16)) 1082130432 == some (F (256 * ((x : Int) - 16)))) = true := by kernel_rfl
theorem half_tab : (List.range 9).all (fun x => floatBits .quo .f32 (floatOfInt .f32 ((x : Int) - 4)) 1073741824 == some (F (512 * ((x : Int) - 4)))) = true := by kernel_rfl
theorem quarter_of {x : Nat} (h : x < 33) : floatBits .quo .f32 (floatOfInt .f32 ((x : Int) - 16)) 1082130432 = some (F (256 * ((x : Int) - 16))) := eq_of_beq (List.all_eq_true.1 quarter_tab x (List.mem_range.2 h))
theorem half_of {x : Nat} (h : x < 9) : floatBits .quo .f32 (floatOfInt .f32 ((x : Int) - 4)) 1073741824 = some (F (512 * ((x : Int) - 4))) := eq_of_beq (List.all_eq_true.1 half_tab x (List.mem_range.2 h))
theorem Src.ext {w w' : World} {k n cap at_ : Nat} {A : Option Addr} (h : Src w k A n cap at_) (he : Ext w w') : Src w' k A n cap at_ := h.elim fun s hb => ⟨s, hb.ext he⟩
theorem Src.lt {w : World} {k n cap at_ : Nat} {A : Option Addr} (h : Src w k A n cap at_) : k < w.heap.size := h.elim fun s hb => hb.lt
theorem Src.grown {w w' : World} {k n cap at_ : Nat} {A : Option Addr} {row : Option Nat} (h : Src w k A n cap at_) (hg : w.grownBy w' row) (hne : some k ≠ row) : Src w' k A n cap at_ := h.elim fun s hb => ⟨s, (hg.block k hb.lt hne).trans hb⟩
theorem Sr.owns {w w' : World} {k B size n : Nat} {e : TypeId} {v : Value} {xs : List Value} (h : Sr w w' k) (ho : w.ownsRow B e size v n xs) (hk : k < B) : w'.ownsRow B e size v n xs :=
  ho.kept (row := some k) ⟨h.os, h.tape, h.output, by rw [h.size]; exact Nat.le_refl _, fun j _ hj => h.block j (fun e => hj (by rw [e]))⟩ (.inr fun e => by
    have := (ho.lt k e).1
    omega)
theorem Sr.blk {w w' : World} {k g : Nat} {t : TypeId} {cs : Array Value} (h : Sr w w' k) (hb : Blk w g t cs) (hg : g ≠ k) : Blk w' g t cs := (h.block g hg).trans hb
set_option maxRecDepth 100000 in
theorem l00From_any (A : Option Addr) (n cap : Nat) (w : World) : Calls Try.prog 34 #[.slice A n cap] w fun e w' => e = .returned (.pointer (some ⟨w.heap.size, 0, none⟩)) ∧ Src w' w.heap.size A n cap 0 ∧ Ext w w' ∧ w'.heap.size = w.heap.size + 1 := by
  go_enter Try.func34, Try.ntmps34
  go_wp2_with fail
  go_ret
  exact ⟨rfl, ⟨0, Blk.new w _ _⟩, by (repeat first | with_reducible exact Ext.rfl' _ | with_reducible refine Ext.drewN ?_ _ | with_reducible refine Ext.drew' ?_ | with_reducible refine Ext.alloc' ?_ _ | with_reducible refine Ext.setCell_at ?_ _ _ _ (by first | exact Nat.le_refl _ | omega) | with_reducible assumption | refine Ext.trans ?_ (by with_reducible assumption)), by simp⟩
theorem Src.set_other {w : World} {k n cap at_ g i : Nat} {A : Option Addr} {u : Value} (h : Src w k A n cap at_) (hg : g ≠ k) : Src (w.setCell ⟨g, i, none⟩ u) k A n cap at_ := h.elim fun s hb => ⟨s, (heap_setCell_other w ⟨g, i, none⟩ k u (fun e => hg (by simpa using e.symm))).trans hb⟩
theorem owns_set_other {w : World} {B size n g i gg cap : Nat} {e : TypeId} {xs : List Value} {u : Value} (h : w.ownsRow B e size (.slice (some ⟨gg, 0, none⟩) n cap) n xs) (hg : gg ≠ g) : (w.setCell ⟨g, i, none⟩ u).ownsRow B e size (.slice (some ⟨gg, 0, none⟩) n cap) n xs :=
  h.kept (row := some g) (only_setCell (g := g) (p := ⟨g, i, none⟩) (only_refl _ _) rfl _) (.inr (by simp [Value.ownBlock]; exact hg))
set_option maxRecDepth 100000 in
set_option maxHeartbeats 1600000 in
theorem B10Many_any (A : Option Addr) (n cap : Nat) (w : World) (hb : Bytes w A n) (hn : n ≤ 1048576) :
    Calls Try.prog 17 #[.slice A n cap] w fun e w' => Ext w w' ∧ ∃ (ps : List Wh) (r c : Nat), e = .returned (.slice (some ⟨r, 0, none⟩) ps.length c) ∧ OkPs ps ∧ 0 < ps.length ∧ Lies w' 51 (some ⟨r, 0, none⟩) (whVals ps) := by
  have HB := Lib.hid hb
  have HN := Lib.hid hn
  obtain ⟨i1, hi1, jz0, jz1, jz2⟩ := parts_of infoW
  have hz1 : (Value.agg #[.complex .f32 0 0, .float .f32 0]).cells.size = 2 := by decide
  clear hb hn
  go_enter Try.func17, Try.ntmps17
  go_wp2_with fail
  refine (l00From_any A n cap w).mono ?_
  rintro e w1 ⟨rfl, hs, he, hsz⟩
  have HS1 := Lib.hid hs
  have HE1 := Lib.hid he
  have HZ1 := Lib.hid hsz
  clear hs he hsz
  go_wp2_with fail
  have HE2 := Lib.hid (Ext.trans HE1.out (show Ext w1 (w1.alloc (.cells #[] 51)) by (repeat first | with_reducible exact Ext.rfl' _ | with_reducible refine Ext.drewN ?_ _ | with_reducible refine Ext.drew' ?_ | with_reducible refine Ext.alloc' ?_ _ | with_reducible refine Ext.setCell_at ?_ _ _ _ (by first | exact Nat.le_refl _ | omega) | with_reducible assumption | refine Ext.trans ?_ (by with_reducible assumption))))
  have HS2 := Lib.hid (HS1.out.ext (show Ext w1 (w1.alloc (.cells #[] 51)) by (repeat first | with_reducible exact Ext.rfl' _ | with_reducible refine Ext.drewN ?_ _ | with_reducible refine Ext.drew' ?_ | with_reducible refine Ext.alloc' ?_ _ | with_reducible refine Ext.setCell_at ?_ _ _ _ (by first | exact Nat.le_refl _ | omega) | with_reducible assumption | refine Ext.trans ?_ (by with_reducible assumption))))
  have HOWN := Lib.hid (show (w1.alloc (.cells #[] 51)).ownsRow w1.heap.size 51 2 (.slice (some ⟨w1.heap.size, 0, none⟩) 0 0) 0 [] from World.ownsRow_made (base := w1.heap.size) (e := 51) (size := 2) w1 #[] 0 (Nat.le_refl _) (by decide) rfl)
  have HKB := Lib.hid (show w.heap.size < w1.heap.size by have := HZ1.out; omega)
  have HSB := Lib.hid (show w1.heap.size ≤ (w1.alloc (.cells #[] 51)).heap.size by simp)
  generalize w1.alloc (.cells #[] 51) = W2 at *
  refine (pick_any 12 w.heap.size A n cap 0 W2 (by decide) (by decide) HS2.out (HB.out.ext HE2.out) (by decide) HN.out).mono ?_
  rintro e w3 ⟨x, rfl, hx, hs, hsr⟩
  have HE3 := Lib.hid (hsr.ext HE2.out (Nat.le_refl _))
  have HS3 := Lib.hid hs
  have HO3 := Lib.hid (hsr.owns HOWN.out HKB.out)
  have HSB3 := Lib.hid (show w1.heap.size ≤ w3.heap.size by have := HSB.out; have := hsr.size; omega)
  have hw1 : IntKind.i64.wrap (1 + (x : Int)) = ((x + 1 : Nat) : Int) := by rw [IntWalk.i64_in _ (by omega)]; omega
  clear hs hsr HE2 HS2 HOWN HE1 HS1 HSB HZ1
  go_wp2_with fail
  go_loopw [4, 5] (fun v i wr => ∃ (r at_ gg cq : Nat) (us : List Wh), us.length + r = x + 1 ∧ i = .int .i64 r ∧ v = .slice (some ⟨gg, 0, none⟩) us.length cq ∧ (∀ u ∈ us, OkW u) ∧ wr.ownsRow w1.heap.size 51 2 v us.length (whVals us) ∧ Src wr w.heap.size A n cap at_ ∧ at_ ≤ 1 + 3 * us.length ∧ w1.heap.size ≤ wr.heap.size ∧ Ext w wr) (fun _ i _ => (intOf i).toNat)
  case atStart => exact ⟨x + 1, 1, w1.heap.size, 0, [], by simp, rfl, rfl, (by simp), HO3.out, HS3.out, by simp, HSB3.out, HE3.out⟩
  case round =>
    obtain ⟨r, at_, gg, cq, us, hlen, rfl, rfl, hok, hown, hs, hat_, hsb, hbel⟩ := hrel
    have HOK := Lib.hid hok
    have HOW := Lib.hid hown
    have HS := Lib.hid hs
    have HSB := Lib.hid hsb
    have HE := Lib.hid hbel
    have HLEN := Lib.hid hlen
    have HAT := Lib.hid hat_
    clear hok hown hs hsb hbel hlen hat_ HO3 HS3 HSB3 HE3
    by_cases hlt : (r : Int) > 0
    · go_wp2_with fail
      refine (pick_any 33 w.heap.size A n cap at_ _ (by decide) (by decide) HS.out (HB.out.ext HE.out) (by have := HLEN.out; have := HAT.out; omega) HN.out).mono ?_
      rintro e w4 ⟨x1, rfl, hx1, hs, hsr⟩
      have HS4 := Lib.hid hs
      have HE4 := Lib.hid (hsr.ext HE.out (Nat.le_refl _))
      have HO4 := Lib.hid (hsr.owns HOW.out HKB.out)
      have HSB4 := Lib.hid (show w1.heap.size ≤ w4.heap.size by have := HSB.out; have := hsr.size; omega)
      have hw4 : IntKind.i64.wrap ((x1 : Int) - 16) = (x1 : Int) - 16 := IntWalk.i64_in _ (by omega)
      have q1 := quarter_of hx1
      clear hs hsr HS HOW HE HSB
      go_wp2_with (first | (refine wpList_floatD rfl .quo _ _ _ _ rfl (by simp) _ _ _ rfl rfl _ q1 ?_))
      refine (pick_any 33 w.heap.size A n cap (at_ + 1) _ (by decide) (by decide) HS4.out (HB.out.ext HE4.out) (by have := HLEN.out; have := HAT.out; omega) HN.out).mono ?_
      rintro e w5 ⟨x2, rfl, hx2, hs, hsr⟩
      have HS5 := Lib.hid hs
      have HE5 := Lib.hid (hsr.ext HE4.out (Nat.le_refl _))
      have HO5 := Lib.hid (hsr.owns HO4.out HKB.out)
      have HSB5 := Lib.hid (show w1.heap.size ≤ w5.heap.size by have := HSB4.out; have := hsr.size; omega)
      have hw5 : IntKind.i64.wrap ((x2 : Int) - 16) = (x2 : Int) - 16 := IntWalk.i64_in _ (by omega)
      have q2 := quarter_of hx2
      clear hs hsr HS4 HO4 HE4 HSB4
      go_wp2_with (first | (refine wpList_floatD rfl .quo _ _ _ _ rfl (by simp) _ _ _ rfl rfl _ q2 ?_))
      have HGL := Lib.hid (HO5.out.lt gg rfl)
      have HG := Lib.hid (show w5.heap.size ≠ w.heap.size from fun e => by have := HSB5.out; have := HKB.out; omega)
      have HSG := Lib.hid (show w1.heap.size ≤ w5.heap.size from HSB5.out)
      have HNB := Lib.hid (Blk.new w5 51 #[.complex .f32 (F (256 * ((x1 : Int) - 16))) (F (256 * ((x2 : Int) - 16))), .float .f32 0])
      have HE6 := Lib.hid (Ext.trans HE5.out (show Ext w5 (w5.alloc (.cells #[.complex .f32 (F (256 * ((x1 : Int) - 16))) (F (256 * ((x2 : Int) - 16))), .float .f32 0] 51)) by (repeat first | with_reducible exact Ext.rfl' _ | with_reducible refine Ext.drewN ?_ _ | with_reducible refine Ext.drew' ?_ | with_reducible refine Ext.alloc' ?_ _ | with_reducible refine Ext.setCell_at ?_ _ _ _ (by first | exact Nat.le_refl _ | omega) | with_reducible assumption | refine Ext.trans ?_ (by with_reducible assumption))))
      have HS6 := Lib.hid (HS5.out.ext (show Ext w5 (w5.alloc (.cells #[.complex .f32 (F (256 * ((x1 : Int) - 16))) (F (256 * ((x2 : Int) - 16))), .float .f32 0] 51)) by (repeat first | with_reducible exact Ext.rfl' _ | with_reducible refine Ext.drewN ?_ _ | with_reducible refine Ext.drew' ?_ | with_reducible refine Ext.alloc' ?_ _ | with_reducible refine Ext.setCell_at ?_ _ _ _ (by first | exact Nat.le_refl _ | omega) | with_reducible assumption | refine Ext.trans ?_ (by with_reducible assumption))))
      have HO6 := Lib.hid (HO5.out.alloc (.cells #[.complex .f32 (F (256 * ((x1 : Int) - 16))) (F (256 * ((x2 : Int) - 16))), .float .f32 0] 51))
      have HSB6 := Lib.hid (show (w5.alloc (.cells #[.complex .f32 (F (256 * ((x1 : Int) - 16))) (F (256 * ((x2 : Int) - 16))), .float .f32 0] 51)).heap.size = w5.heap.size + 1 by simp)
      generalize w5.alloc (.cells #[.complex .f32 (F (256 * ((x1 : Int) - 16))) (F (256 * ((x2 : Int) - 16))), .float .f32 0] 51) = W6 at *
      refine (pick_any 9 w.heap.size A n cap (at_ + 1 + 1) _ (by decide) (by decide) HS6.out (HB.out.ext HE6.out) (by have := HLEN.out; have := HAT.out; omega) HN.out).mono ?_
      rintro e w7 ⟨x3, rfl, hx3, hs, hsr⟩
      have HS7 := Lib.hid hs
      have HE7 := Lib.hid (hsr.ext HE6.out (Nat.le_refl _))
      have HO7 := Lib.hid (hsr.owns HO6.out HKB.out)
      have HSZ7 := Lib.hid (show w7.heap.size = w5.heap.size + 1 by have := HSB6.out; have := hsr.size; omega)
      have HB7 := Lib.hid (hsr.blk HNB.out HG.out)
      have d0 : w7.cell? ⟨w5.heap.size, 0, none⟩ = some (.complex .f32 (F (256 * ((x1 : Int) - 16))) (F (256 * ((x2 : Int) - 16)))) := HB7.out.cell 0
      have d1 : w7.cell? ⟨w5.heap.size, 1, none⟩ = some (.float .f32 0) := HB7.out.cell 1
      have f1 : w7.frozen? ⟨w5.heap.size, 1, none⟩ = false := HB7.out.frozen 1
      have f0 : w7.frozen? ⟨w5.heap.size, 0, none⟩ = false := HB7.out.frozen 0
      have hw7 : IntKind.i64.wrap ((x3 : Int) - 4) = (x3 : Int) - 4 := IntWalk.i64_in _ (by omega)
      have q3 := half_of hx3
      clear hs hsr HS6 HO6 HE6 HSB6 HNB HS5 HE5 HO5 HSB5
      go_wp2_with (first | (refine wpList_floatD rfl .quo _ _ _ _ rfl (by simp) _ _ _ rfl rfl _ q3 ?_) | (at_builtin; refine Stand.of ?_))
      refine Stand.out ?_
      refine wpList_append_lies _ rfl _ _ 38 rfl w1.heap.size 51 i1 _ 2 12 under_whirls hi1 jz0 jz1 jz2 hz1 (by omega) (.slice (some ⟨gg, 0, none⟩) us.length cq) us.length _ rfl ((owns_set_other HO7.out (by have := HGL.out; omega)).alloc _) ⟨w7.heap.size, 0, none⟩ 1 1 (whVal (256 * ((x1 : Int) - 16), 256 * ((x2 : Int) - 16), 512 * ((x3 : Int) - 4))) rfl rfl (World.news_of_block (cs := (whVal (256 * ((x1 : Int) - 16), 256 * ((x2 : Int) - 16), 512 * ((x3 : Int) - 4))).toArray) (t := 51) (fr := (0, 0)) (by have := heap_alloc_new (w7.setCell ⟨w5.heap.size, 1, none⟩ (.float .f32 (F (512 * ((x3 : Int) - 4))))) (.cells (whVal (256 * ((x1 : Int) - 16), 256 * ((x2 : Int) - 16), 512 * ((x3 : Int) - 4))).toArray 51); rw [World.size_setCell] at this; exact this)) (by simp [whVal, Value.oneCell']) (by omega) (by have := HLEN.out; unfold maxLen; omega) (by have := HLEN.out; omega) (by have := HSZ7.out; have := HSG.out; simp; omega) _ rfl ?_
      intro g2 c2 w8 hown8 hgrow hat8 hlt8
      have hgl := HGL.out
      have HE8 := Lib.hid (Ext.grown (Ext.alloc' (Ext.setCell_at HE7.out w5.heap.size 1 _ (by have := HKB.out; have := HSG.out; omega)) _) hgrow (fun k hk => by have e2 : gg = k := Option.some.inj hk; have := HKB.out; omega))
      have HSB8 := Lib.hid (show w1.heap.size ≤ w8.heap.size by have h1 := hgrow.size; have := HSZ7.out; have := HSG.out; simp at h1; omega)
      have HS8 := Lib.hid (((HS7.out.set_other (u := .float .f32 (F (512 * ((x3 : Int) - 4)))) (i := 1) HG.out).ext (show Ext _ (World.alloc _ (.cells (whVal (256 * ((x1 : Int) - 16), 256 * ((x2 : Int) - 16), 512 * ((x3 : Int) - 4))).toArray 51)) from Ext.alloc' (Ext.rfl' _) _)).grown hgrow (fun e => by have e2 : w.heap.size = gg := Option.some.inj e; have := HKB.out; omega))
      have HO8 := Lib.hid hown8
      clear hown8 hgrow hat8 hlt8 hgl d0 d1 f0 f1
      have hwr : IntKind.i64.wrap ((r : Int) - 1) = ((r - 1 : Nat) : Int) := by rw [IntWalk.i64_in _ (by have := HLEN.out; omega)]; omega
      go_wp2_with fail
      refine ⟨⟨r - 1, at_ + 1 + 1 + 1, g2, c2, us ++ [(256 * ((x1 : Int) - 16), 256 * ((x2 : Int) - 16), 512 * ((x3 : Int) - 4))], ?_, rfl, ?_, ?_, ?_, HS8.out, ?_, ?_, HE8.out⟩, by simp [intOf]; omega⟩
      · have := HLEN.out
        simp
        omega
      · simp
      · intro u hu
        rcases List.mem_append.1 hu with h | h
        · exact HOK.out u h
        · rw [List.mem_singleton] at h
          exact ⟨x1 - 16, x2 - 16, x3 - 4, h, by omega, by omega, by omega, by omega, by omega, by omega⟩
      · have := HO8.out
        rw [whVals_append, List.length_append]
        exact this
      · have := HAT.out
        simp
        omega
      · exact HSB8.out
    · have hr0 : r = 0 := by omega
      subst hr0
      go_wp2_with fail
      go_ret
      exact ⟨HE.out, us, gg, ⟨cq, rfl⟩, ⟨by have := HLEN.out; omega, HOK.out⟩, by have := HLEN.out; omega, (lies_of_owns HOW.out).1⟩
end Go.Proofs.Ytfehhbmmdbpdpaa
