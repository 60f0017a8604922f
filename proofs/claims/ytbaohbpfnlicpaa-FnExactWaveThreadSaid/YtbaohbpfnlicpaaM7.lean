/- Walks: a thread moved or scaled, by the program. -/
import Derived.Test.YtbaohbpfnlicpaaM6
import Derived.OwnWalk
import Derived.Lib.SmallJoins
namespace Go.Proofs.Ytbaohbpfnlicpaa
open Go Go.RowKit
set_option linter.unusedVariables false
set_option linter.unusedSimpArgs false
attribute [local go_sem] run_store_float
/-- the walk stands here -/
def Stop (p : Prop) : Prop := p
theorem Stop.of {p : Prop} (h : Stop p) : p := h
theorem Stop.out {p : Prop} (h : p) : Stop p := h
/-- a function value, with what it holds, that answers f of a vector in every world that suits it -/
def MapsV (g : Nat) (fr : Array Value) (ok : World → Prop) (f : V3 → V3) : Prop :=
  (∀ args w, (callFunc g args).run Try.prog w = .ok (.enter g args) w) ∧
  (∀ x y z w, ok w → Calls Try.prog g (#[.agg #[.float .f32 x, .float .f32 y, .float .f32 z]] ++ fr) w fun e w' => Ext w w' ∧ ∃ r s t, e = .returned (.agg #[.float .f32 r, .float .f32 s, .float .f32 t]) ∧ cv r s t = f (cv x y z)) ∧
  ∀ w w', ok w → Ext w w' → ok w'
set_option maxRecDepth 100000 in
theorem repointed_any (A : Option Addr) (cap sp : Nat) (cs : List V3) (g : Nat) (fr : Array Value) (ok : World → Prop) (f : V3 → V3) (hM : MapsV g fr ok f) (w : World) (hok : ok w) (hA : VS w A cs) (hl : cs.length ≤ 1048576) (hi : isTh cs (cn .f32 sp) = true) :
    Calls Try.prog 137 #[.agg #[.slice A cs.length cap, .float .f32 sp], .func (.func g) #[] fr] w fun e w' => Ext w w' ∧ RT w w' e (onTh f true cs (cn .f32 sp)) := by
  obtain ⟨hcall, hmap, hmono⟩ := hM
  have HMAP := Lib.hid hmap
  have HMONO := Lib.hid hmono
  have HOK := Lib.hid hok
  clear hmap hmono hok
  have h32 : 3 ≤ cs.length ∧ cs.length ≤ 32 := by unfold isTh at hi; simp only [Bool.and_eq_true, decide_eq_true_eq] at hi; exact hi.1.1
  have HN := Lib.hid h32
  obtain ⟨i0, hi0, iz0, iz1, iz2⟩ := info_parts infoV
  have HA := Lib.hid hA
  have HL := Lib.hid hl
  have HI := Lib.hid hi
  clear hA hl hi h32
  go_enter Try.func137, Try.ntmps137
  go_wp2_with (go_at_call 112; refine (IsThread_any A cap sp cs _ (HA.out.ext (by (repeat first | with_reducible exact Ext.rfl' _ | with_reducible refine Ext.drewN ?_ _ | with_reducible refine Ext.drew' ?_ | with_reducible refine Ext.alloc' ?_ _ | with_reducible refine Ext.setCell_at ?_ _ _ _ (by first | exact Nat.le_refl _ | omega) | with_reducible assumption | refine Ext.trans ?_ (by with_reducible assumption)))) HL.out true HI.out).mono ?_; rintro e w1 ⟨he1, rfl⟩; obtain ⟨hc1, hf1⟩ := bcell he1; (try simp only [World.heap_drewN, World.cell?_drewN, World.frozen?_drewN] at hc1 hf1); (have hz0 : w.heap.size < w1.heap.size := (by have := he1.size; (try simp only [World.heap_drewN, World.size_alloc] at this); omega)); (have hz1 : w.heap.size + 1 < w1.heap.size := (by have := he1.size; (try simp only [World.heap_drewN, World.size_alloc] at this); omega)))
  have HE1 := Lib.hid (show Ext w (w1.alloc (.cells #[] 54)) from by (repeat first | with_reducible exact Ext.rfl' _ | with_reducible refine Ext.drewN ?_ _ | with_reducible refine Ext.drew' ?_ | with_reducible refine Ext.alloc' ?_ _ | with_reducible refine Ext.setCell_at ?_ _ _ _ (by first | exact Nat.le_refl _ | omega) | with_reducible assumption | refine Ext.trans ?_ (by with_reducible assumption)))
  have hown : (w1.alloc (.cells #[] 54)).ownsRow w1.heap.size 54 3 (.slice (some ⟨w1.heap.size, 0, none⟩) 0 0) 0 [] := World.ownsRow_made w1 #[] 0 (Nat.le_refl _) (by decide) rfl
  have hws := hz1
  have HRs := Lib.hid (Blk.ext (Blk.at_ (w.alloc (.cells #[.slice A cs.length cap, .float .f32 sp] 48)) 48 #[.slice none 0 0, .float .f32 0] (w.heap.size + 1) (by simp)) he1)
  have HTs := Lib.hid (TAt.ext (w := (w.alloc (.cells #[.slice A cs.length cap, .float .f32 sp] 48)).alloc (.cells #[.slice none 0 0, .float .f32 0] 48)) (g := w.heap.size) (o := 0) (A := A) (n := cs.length) (cap := cap) (sp := sp) ⟨by simp <;> omega, by go_simp, by go_simp⟩ he1)
  have HE2 := Lib.hid (show Ext w w1 from by (repeat first | with_reducible exact Ext.rfl' _ | with_reducible refine Ext.drewN ?_ _ | with_reducible refine Ext.drew' ?_ | with_reducible refine Ext.alloc' ?_ _ | with_reducible refine Ext.setCell_at ?_ _ _ _ (by first | exact Nat.le_refl _ | omega) | with_reducible assumption | refine Ext.trans ?_ (by with_reducible assumption)))
  have hE21 : Ext w1 (w1.alloc (.cells #[] 54)) := by (repeat first | with_reducible exact Ext.rfl' _ | with_reducible refine Ext.drewN ?_ _ | with_reducible refine Ext.drew' ?_ | with_reducible refine Ext.alloc' ?_ _ | with_reducible refine Ext.setCell_at ?_ _ _ _ (by first | exact Nat.le_refl _ | omega) | with_reducible assumption | refine Ext.trans ?_ (by with_reducible assumption))
  have HE21 := Lib.hid hE21
  clear hE21
  clear he1 hc1 hf1
  generalize w1.alloc (.cells #[] 54) = W2 at *
  go_loopw [6, 17] (fun v i wr => ∃ (k gg cp : Nat) (xs : List Value), k ≤ cs.length ∧ i = .int .i64 k ∧ v = .slice (some ⟨gg, 0, none⟩) k cp ∧ wr.ownsRow w1.heap.size 54 3 v k xs ∧ LVs xs ((cs.take k).map f) ∧ Ext w1 wr) (fun _ i _ => cs.length - (intOf i).toNat)
  case atStart => exact ⟨0, w1.heap.size, 0, [], Nat.zero_le _, rfl, rfl, hown, LVs.nil, HE21.out⟩
  case round =>
    obtain ⟨k, gg, cp, xs, hk, rfl, rfl, hown, hlv, hbel⟩ := hrel
    have HOW := Lib.hid hown
    have HLV := Lib.hid hlv
    have HE := Lib.hid hbel
    clear hown hlv hbel
    have hk9 : k < 9223372036854775807 := by have := HL.out; omega
    by_cases hlt : k < cs.length
    · obtain ⟨b, o, hbo, hbw, hcc⟩ := HA.out (by omega)
      subst hbo
      obtain ⟨x, y, z, c0, c1, c2, hcv⟩ := hcc k hlt
      have hbb : Ext w wr := Ext.trans HE2.out HE.out
      have d0 := (hbb.cell (p := ⟨b, o + k * 3, none⟩) hbw).trans c0
      have d1 := (hbb.cell (p := ⟨b, o + k * 3 + 1, none⟩) hbw).trans c1
      have d2 := (hbb.cell (p := ⟨b, o + k * 3 + 2, none⟩) hbw).trans c2
      have HC := Lib.hid hcv
      have HOKr := Lib.hid (HMONO.out _ _ HOK.out (Ext.trans hbb (show Ext wr (wr.alloc (.cells #[.float .f32 x, .float .f32 y, .float .f32 z] 54)) from by (repeat first | with_reducible exact Ext.rfl' _ | with_reducible refine Ext.drewN ?_ _ | with_reducible refine Ext.drew' ?_ | with_reducible refine Ext.alloc' ?_ _ | with_reducible refine Ext.setCell_at ?_ _ _ _ (by first | exact Nat.le_refl _ | omega) | with_reducible assumption | refine Ext.trans ?_ (by with_reducible assumption)))))
      clear hcc c0 c1 c2 hbb hcv
      go_wp2_with fail
      refine (HMAP.out x y z _ HOKr.out).mono ?_
      rintro e w5 ⟨he5, r, s, t, rfl, hq⟩
      have HQ := Lib.hid hq
      have HX5 := Lib.hid (show Ext wr w5 from by (repeat first | with_reducible exact Ext.rfl' _ | with_reducible refine Ext.drewN ?_ _ | with_reducible refine Ext.drew' ?_ | with_reducible refine Ext.alloc' ?_ _ | with_reducible refine Ext.setCell_at ?_ _ _ _ (by first | exact Nat.le_refl _ | omega) | with_reducible assumption | refine Ext.trans ?_ (by with_reducible assumption)))
      clear hq he5 d0 d1 d2
      have hown5 := HOW.out.kept (w' := w5) (row := none) ⟨HX5.out.os, HX5.out.tape, HX5.out.output, HX5.out.size, fun k hk _ => HX5.out.block k hk⟩ (Or.inr (by simp [Value.ownBlock]))
      have HO5 := Lib.hid hown5
      clear hown5
      go_wp2_with (first | (at_builtin; refine Stop.of ?_))
      refine Stop.out ?_
      refine wpList_append_own _ rfl _ _ 46 rfl w1.heap.size 54 i0 _ 3 12 under_points hi0 iz0 iz1 iz2 rfl (by decide) _ _ _ rfl (HO5.out.alloc _) ⟨w5.heap.size, 0, none⟩ 1 1 [.float .f32 r, .float .f32 s, .float .f32 t] rfl rfl (World.news_of_block (cs := #[.float .f32 r, .float .f32 s, .float .f32 t]) (t := 54) (fr := (0, 0)) (heap_alloc_new w5 _)) (by simp [Value.oneCell']) (by have := HN.out.2; unfold maxLen; omega) (by have := HN.out.2; omega) (by have := HX5.out.size; have := HE.out.size; simp; omega) ?_
      intro v' w6 hown6 hgrow hnil
      obtain ⟨g2, c2, rfl⟩ := Joins.ownsRow_form hown6 (by omega)
      have hgl := HOW.out.lt
      have e6 : Ext w1 w6 := Ext.grown (Ext.trans HE.out (Ext.trans HX5.out (Ext.alloc' (Ext.rfl' w5) (.cells #[.float .f32 r, .float .f32 s, .float .f32 t] 54)))) hgrow (fun k hk => (hgl k hk).1)
      have HE6 := Lib.hid e6
      have HO6 := Lib.hid hown6
      clear hown6 hgrow hnil hgl e6
      go_wp2_with fail
      refine ⟨⟨k + 1, g2, c2, xs ++ [.float .f32 r, .float .f32 s, .float .f32 t], by omega, by go_num, rfl, HO6.out, ?_, HE6.out⟩, by simp [intOf]; omega⟩
      rw [List.take_succ_eq_append_getElem hlt, List.map_append]
      refine LVs.append HLV.out ?_
      have hfe : f cs[k] = cv r s t := by
        rw [HQ.out, HC.out]
        simp [List.getD_eq_getElem?_getD, hlt]
      simp only [List.map_cons, List.map_nil, hfe]
      exact LVs.one r s t
    · have hkl : k = cs.length := by omega
      subst hkl
      have hgl := (HOW.out.lt gg rfl).1
      have HVO := Lib.hid (show VO wr w.heap.size (some ⟨gg, 0, none⟩) (cs.map f) from by
        have hlv := HLV.out
        rw [List.take_length] at hlv
        obtain ⟨A', cp', hA', hv⟩ := vo_of_owns HOW.out hlv (by rw [List.length_map])
        simp only [Value.slice.injEq] at hA'
        rw [← hA'.1] at hv
        exact hv.mono (by omega))
      obtain ⟨_, s0, s1⟩ := HTs.out.ext HE.out
      go_wp2_with fail
      cases hb : isTh (cs.map f) (cn .f32 sp) with
      | false =>
        have HBv := Lib.hid hb
        clear hb
        have hgv := toldThread_any (some ⟨gg, 0, none⟩) cp sp (cs.map f) wr HVO.out.vs (by rw [List.length_map]; exact HL.out) _ HBv.out
        rw [List.length_map] at hgv
        refine hgv.mono ?_
        clear hgv
        rintro e w6 ⟨he6, rfl⟩
        have HX6 := Lib.hid he6
        have HR6 := Lib.hid ((HRs.out.ext HE.out).ext he6)
        have r0 : w6.cell? ⟨w.heap.size + 1, 0, none⟩ = some (.slice none 0 0) := HR6.out.cell 0
        have r1 : w6.cell? ⟨w.heap.size + 1, 1, none⟩ = some (.float .f32 0) := HR6.out.cell 1
        have rf0 := HR6.out.frozen 0
        have rf1 := HR6.out.frozen 1
        clear he6
        go_wp2_with fail
        have hBS : Blk ((w6.setCell ⟨w.heap.size + 1, 0, none⟩ (.slice none 0 0)).setCell ⟨w.heap.size + 1, 1, none⟩ (.float .f32 0)) (w.heap.size + 1) 48 #[.slice none 0 0, .float .f32 0] := by
          have := (HR6.out.set_ 0 (.slice none 0 0)).set_ 1 (.float .f32 0)
          simpa using this
        have e3 : Ext w ((w6.setCell ⟨w.heap.size + 1, 0, none⟩ (.slice none 0 0)).setCell ⟨w.heap.size + 1, 1, none⟩ (.float .f32 0)) := Ext.setCell_at (Ext.setCell_at (Ext.trans HE2.out (Ext.trans HE.out HX6.out)) _ _ _ (by omega)) _ _ _ (by omega)
        have hvo : VO ((w6.setCell ⟨w.heap.size + 1, 0, none⟩ (.slice none 0 0)).setCell ⟨w.heap.size + 1, 1, none⟩ (.float .f32 0)) w.heap.size (some ⟨gg, 0, none⟩) (cs.map f) := by
          refine (HVO.out.ext HX6.out).only (row := some (w.heap.size + 1)) (only_setCell (g := w.heap.size + 1) (p := ⟨w.heap.size + 1, 1, none⟩) (only_setCell (g := w.heap.size + 1) (p := ⟨w.heap.size + 1, 0, none⟩) (only_refl _ _) rfl _) rfl _) fun b' o' h => ?_
          simp only [Option.some.injEq, Addr.mk.injEq] at h
          intro hh
          simp only [Option.some.injEq] at hh
          omega
        generalize (w6.setCell ⟨w.heap.size + 1, 0, none⟩ (.slice none 0 0)).setCell ⟨w.heap.size + 1, 1, none⟩ (.float .f32 0) = W9 at *
        have q0 : W9.cell? ⟨w.heap.size + 1, 0, none⟩ = some (.slice none 0 0) := hBS.cell 0
        have q1 : W9.cell? ⟨w.heap.size + 1, 1, none⟩ = some (.float .f32 0) := hBS.cell 1
        refine bodyPost_ret (v := .tuple #[.agg #[.slice none 0 0, .float .f32 0], .bool false]) (by simp [results, Try.results137, go_sem, q0, q1]) rfl ⟨e3, ?_⟩
        unfold onTh
        rw [HI.out, HBv.out]
        exact ⟨none, 0, 0, rfl, fun h => absurd h (Nat.lt_irrefl 0), cn_zero32⟩
      | true =>
        have HBv := Lib.hid hb
        clear hb
        have hgv := toldThread_any (some ⟨gg, 0, none⟩) cp sp (cs.map f) wr HVO.out.vs (by rw [List.length_map]; exact HL.out) _ HBv.out
        rw [List.length_map] at hgv
        refine hgv.mono ?_
        clear hgv
        rintro e w6 ⟨he6, rfl⟩
        have HX6 := Lib.hid he6
        have HR6 := Lib.hid ((HRs.out.ext HE.out).ext he6)
        have r0 : w6.cell? ⟨w.heap.size + 1, 0, none⟩ = some (.slice none 0 0) := HR6.out.cell 0
        have r1 : w6.cell? ⟨w.heap.size + 1, 1, none⟩ = some (.float .f32 0) := HR6.out.cell 1
        have rf0 := HR6.out.frozen 0
        have rf1 := HR6.out.frozen 1
        clear he6
        go_wp2_with fail
        have hBS : Blk ((w6.setCell ⟨w.heap.size + 1, 0, none⟩ (.slice (some ⟨gg, 0, none⟩) cs.length cp)).setCell ⟨w.heap.size + 1, 1, none⟩ (.float .f32 sp)) (w.heap.size + 1) 48 #[.slice (some ⟨gg, 0, none⟩) cs.length cp, .float .f32 sp] := by
          have := (HR6.out.set_ 0 (.slice (some ⟨gg, 0, none⟩) cs.length cp)).set_ 1 (.float .f32 sp)
          simpa using this
        have e3 : Ext w ((w6.setCell ⟨w.heap.size + 1, 0, none⟩ (.slice (some ⟨gg, 0, none⟩) cs.length cp)).setCell ⟨w.heap.size + 1, 1, none⟩ (.float .f32 sp)) := Ext.setCell_at (Ext.setCell_at (Ext.trans HE2.out (Ext.trans HE.out HX6.out)) _ _ _ (by omega)) _ _ _ (by omega)
        have hvo : VO ((w6.setCell ⟨w.heap.size + 1, 0, none⟩ (.slice (some ⟨gg, 0, none⟩) cs.length cp)).setCell ⟨w.heap.size + 1, 1, none⟩ (.float .f32 sp)) w.heap.size (some ⟨gg, 0, none⟩) (cs.map f) := by
          refine (HVO.out.ext HX6.out).only (row := some (w.heap.size + 1)) (only_setCell (g := w.heap.size + 1) (p := ⟨w.heap.size + 1, 1, none⟩) (only_setCell (g := w.heap.size + 1) (p := ⟨w.heap.size + 1, 0, none⟩) (only_refl _ _) rfl _) rfl _) fun b' o' h => ?_
          simp only [Option.some.injEq, Addr.mk.injEq] at h
          intro hh
          simp only [Option.some.injEq] at hh
          omega
        generalize (w6.setCell ⟨w.heap.size + 1, 0, none⟩ (.slice (some ⟨gg, 0, none⟩) cs.length cp)).setCell ⟨w.heap.size + 1, 1, none⟩ (.float .f32 sp) = W9 at *
        have q0 : W9.cell? ⟨w.heap.size + 1, 0, none⟩ = some (.slice (some ⟨gg, 0, none⟩) cs.length cp) := hBS.cell 0
        have q1 : W9.cell? ⟨w.heap.size + 1, 1, none⟩ = some (.float .f32 sp) := hBS.cell 1
        refine bodyPost_ret (v := .tuple #[.agg #[.slice (some ⟨gg, 0, none⟩) cs.length cp, .float .f32 sp], .bool true]) (by simp [results, Try.results137, go_sem, q0, q1]) rfl ⟨e3, ?_⟩
        unfold onTh
        rw [HI.out, HBv.out]
        exact ⟨some ⟨gg, 0, none⟩, cp, sp, by simp, hvo, rfl⟩
end Go.Proofs.Ytbaohbpfnlicpaa
