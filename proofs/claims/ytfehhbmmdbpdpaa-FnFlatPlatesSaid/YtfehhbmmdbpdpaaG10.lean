/- Walk: a square solved. -/
import Derived.Test.YtfehhbmmdbpdpaaG06
import Derived.BigRegion
import Derived.Deep.QuietTactic
import Derived.BigQuiet
import Derived.Test.YtfehhbmmdbpdpaaG07
import Derived.Deep.RegionWith
import Derived.Test.YtfehhbmmdbpdpaaG08
namespace Go.Proofs.Ytfehhbmmdbpdpaa
open Go Go.RowKit
set_option linter.unusedVariables false
set_option linter.unusedSimpArgs false
attribute [local go_sem] run_store_float run_store_complex

set_option maxRecDepth 100000 in
set_option maxHeartbeats 40000000 in
theorem Solve_V (ba oa capa bb ob capb n : Nat) (xs ys : List Nat) (A : Nat → Nat → Rat) (β : Nat → Rat) (w : World) (hA : Lies w 34 (some ⟨ba, oa, none⟩) (fltB xs)) (hb : Lies w 34 (some ⟨bb, ob, none⟩) (fltB ys))
    (hx : xs.length = n * n) (hy : ys.length = n) (h1 : 1 ≤ n) (h5 : n ≤ 5) (hcap : n * n ≤ capa) (hvA : ∀ r c, r < n → c < n → Val .f32 (xs.getD (r * n + c) 0) (A r c)) (hvb : ∀ r, r < n → Val .f32 (ys.getD r 0) (β r)) (hBnd : Bnd n 0 A β) :
    Calls Try.prog 33 #[.slice (some ⟨ba, oa, none⟩) ((n * n : Nat) : Nat) capa, .slice (some ⟨bb, ob, none⟩) n capb] w fun e w' => Ext w w' ∧
      ∃ g c v x, e = .returned (.tuple #[.slice (some ⟨g, 0, none⟩) n c, .bool true]) ∧ Vec w' g n v ∧ (∀ j, j < n → Val .f32 (v j) (x j) ∧ (x j).abs ≤ 1 / 2) ∧ ∀ r, r < n → (resid A β x 0 n r).abs ≤ 1 / 4096 := by
  have HA := Lib.hid hA
  have HB := Lib.hid hb
  have HX := Lib.hid hx
  have HY := Lib.hid hy
  have HVA := Lib.hid hvA
  have HVB := Lib.hid hvb
  have HBND := Lib.hid hBnd
  have HCAP := Lib.hid hcap
  have HNX := Lib.hid (show ∀ x ∈ xs, Num x from fun x hxm => by
    obtain ⟨i, hi, e⟩ := List.mem_iff_getElem.1 hxm
    have hn0 : 0 < n := by omega
    have h3 := hvA (i / n) (i % n) (Nat.div_lt_of_lt_mul (by omega)) (Nat.mod_lt _ hn0)
    rw [Nat.mul_comm (i / n) n, Nat.div_add_mod, List.getD_eq_getElem?_getD, List.getElem?_eq_getElem hi, e] at h3
    exact ⟨_, h3⟩)
  have HNY := Lib.hid (show ∀ x ∈ ys, Num x from fun x hxm => by
    obtain ⟨i, hi, e⟩ := List.mem_iff_getElem.1 hxm
    have h3 := hvb i (by omega)
    rw [List.getD_eq_getElem?_getD, List.getElem?_eq_getElem hi, e] at h3
    exact ⟨_, h3⟩)
  have hnn : n * n ≤ 25 := Nat.mul_le_mul h5 h5
  have HNN := Lib.hid hnn
  have hq1 : (1 : Int) ≤ n := by omega
  have hq2 : (n : Int) ≤ 16 := by omega
  have hw0 : IntKind.i64.wrap ((n : Int) * (n : Int)) = ((n * n : Nat) : Int) := by rw [← Int.natCast_mul, IntWalk.i64_in _ (by omega)]
  have hq3 : (((n * n : Nat) : Int) != ((n * n : Nat) : Int)) = false := by simp
  obtain ⟨i1, hi1, jz0, jz1, jz2⟩ := parts_of infoR
  have hzr : (Value.slice none 0 0).cells.size = 1 := by decide
  clear hA hb hx hy hvA hvb hBnd hcap
  generalize hNN : n * n = N2 at *
  go_enter Try.func33, Try.ntmps33
  go_wp2_with fail
  refine (in_V n 1 16 hq1 hq2 _).mono ?_
  rintro e w1 ⟨rfl, rfl⟩
  go_wp2_with fail
  refine (finite_V _ _ N2 xs _ HA.out HX.out (by omega) HNX.out).mono ?_
  rintro e w2 ⟨he, rfl⟩
  have HE2 := Lib.hid he
  clear he
  go_wp2_with fail
  refine (finite_V _ _ n ys _ (HB.out.ext HE2.out) HY.out (by omega) HNY.out).mono ?_
  rintro e w3 ⟨he, rfl⟩
  have HE3 := Lib.hid (Ext.trans HE2.out he)
  clear he HE2
  go_wp2_with fail
  refine (Clone_V bb ob n capb ys _ (HB.out.ext HE3.out) HY.out (by omega) (by omega)).mono ?_
  rintro e w4 ⟨he, gb, cb, rfl, hvec, hgb⟩
  have HE4 := Lib.hid (Ext.trans HE3.out he)
  have HVEC := Lib.hid hvec
  have HGB := Lib.hid (show w1.heap.size ≤ gb from Nat.le_trans HE3.out.size hgb)
  clear he hvec hgb HE3
  go_wp2_with fail
  have HLAY := Lib.hid (show Laying w1 (w4.alloc (.cells #[] 67)) w4.heap.size w4.heap.size 0 gb n 0 (fun _ => 0) (fun _ => 0) xs (fun c => ys.getD c 0) from
    ⟨World.ownsRow_made (base := w4.heap.size) (e := 67) (size := 1) w4 #[] 0 (Nat.le_refl _) (by decide) rfl, fun r hr => absurd hr (Nat.not_lt_zero r), fun r s hr => absurd hr (Nat.not_lt_zero r), HVEC.out.ext (by (repeat first | with_reducible exact Ext.rfl' _ | with_reducible refine Ext.drewN ?_ _ | with_reducible refine Ext.drew' ?_ | with_reducible refine Ext.alloc' ?_ _ | with_reducible refine Ext.setCell_at ?_ _ _ _ (by first | exact Nat.le_refl _ | omega) | with_reducible assumption | refine Ext.trans ?_ (by with_reducible assumption))), Ext.alloc' HE4.out _, fun r hr => absurd hr (Nat.not_lt_zero r), fun r hr => absurd hr (Nat.not_lt_zero r), HE4.out.size, by simp⟩)
  have HGB4 := Lib.hid (show gb < w4.heap.size from HVEC.out.lt)
  clear hq1 hq2 hw0 hq3 HVEC
  generalize w4.alloc (.cells #[] 67) = W5 at *
  go_loopw [7, 45] (fun v i wr => ∃ (k gg cq : Nat) (G C : Nat → Nat), k ≤ n ∧ i = .int .i64 k ∧ v = .slice (some ⟨gg, 0, none⟩) k cq ∧ Laying w1 wr w4.heap.size gg cq gb n k G C xs (fun c => ys.getD c 0)) (fun _ i _ => n - (intOf i).toNat)
  case atStart => exact ⟨0, w4.heap.size, 0, _, _, Nat.zero_le _, rfl, rfl, HLAY.out⟩
  case round =>
    obtain ⟨k, gg, cq, G, C, hk, rfl, rfl, hlay⟩ := hrel
    have HL := Lib.hid hlay
    clear hlay HLAY
    by_cases hlt : k < n
    · have hkn : k * n + n ≤ N2 := by
        rw [← hNN, ← Nat.succ_mul]
        exact Nat.mul_le_mul_right _ hlt
      have hm1 : IntKind.i64.wrap ((k : Int) * (n : Int)) = ((k * n : Nat) : Int) := by rw [← Int.natCast_mul, IntWalk.i64_in _ (by omega)]
      have hm0 : IntKind.i64.wrap ((k : Int) + 1) = (k : Int) + 1 := IntWalk.i64_in _ (by omega)
      have hm2 : IntKind.i64.wrap (((k : Int) + 1) * (n : Int)) = ((k * n + n : Nat) : Int) := by
        rw [show ((k : Int) + 1) * (n : Int) = ((k * n + n : Nat) : Int) by rw [Int.natCast_add, Int.natCast_mul, Int.add_mul, Int.one_mul], IntWalk.i64_in _ (by omega)]
      generalize hkk : k * n = kn at *
      have hc1 : kn + n ≤ capa := Nat.le_trans hkn HCAP.out
      have hc2 : ((kn : Nat) : Int) + (n : Int) ≤ (capa : Int) := by omega
      have hc3 : ((kn + n : Nat) : Int) ≤ (capa : Int) := by omega
      have hc4 : ((kn : Nat) : Int) ≤ ((kn + n : Nat) : Int) := by omega
      go_wp2_with fail
      refine (Clone_V ba (oa + kn) n (capa - kn) ((xs.drop kn).take n) _ (by
        have := (HA.out.ext HL.out.ext).part kn n (by rw [fltB_len, HX.out]; omega)
        rwa [fltB_part] at this) (by rw [List.length_take, List.length_drop, HX.out]; omega) (by omega) (by omega)).mono ?_
      rintro e w6 ⟨he, g, c, rfl, hvec, hg⟩
      have HE6 := Lib.hid he
      have HG6 := Lib.hid hg
      have HV6 := Lib.hid (show Vec w6 g n (fun c => xs.getD (k * n + c) 0) from hvec.congr (fun c hc => by
        rw [hkk, List.getD_eq_getElem?_getD, List.getD_eq_getElem?_getD, List.getElem?_take_of_lt hc, List.getElem?_drop]))
      clear he hg hvec hm0 hm1 hm2 hc1 hc2 hc3 hc4
      go_wp2_with (first | (at_builtin; refine Stand.of ?_))
      refine Stand.out ?_
      refine wpList_append_lies _ rfl _ _ 95 rfl w4.heap.size 67 i1 _ 1 24 under_rows hi1 jz0 jz1 jz2 hzr (by omega) (.slice (some ⟨gg, 0, none⟩) k cq) k _ rfl ((HL.out.own.kept (row := none) ⟨HE6.out.os, HE6.out.tape, HE6.out.output, HE6.out.size, fun q hq _ => HE6.out.block q hq⟩ (.inr (by simp [Value.ownBlock]))).alloc _) ⟨w6.heap.size, 0, none⟩ 1 1 [.slice (some ⟨g, 0, none⟩) n c] rfl rfl (World.news_of_block (cs := #[.slice (some ⟨g, 0, none⟩) n c]) (t := 67) (fr := (0, 0)) (heap_alloc_new w6 _)) (by simp [Value.oneCell']) (by omega) (by unfold maxLen; omega) (by omega) (by have := HL.out.size; have := HE6.out.size; simp; omega) _ rfl ?_
      intro g2 c2 w8 hown8 hgrow hat8 hlt8
      have HL8 := Lib.hid (HL.out.next HE6.out HV6.out HG6.out rfl hown8 hgrow)
      clear hown8 hgrow hat8 hlt8
      go_wp2_with fail
      exact ⟨⟨k + 1, g2, c2, _, _, by omega, by go_num, rfl, HL8.out⟩, by simp [intOf]; omega⟩
    · have hkn : n = k := by omega
      subst hkn
      have HSQ := Lib.hid (HL.out.sq HGB.out HVA.out HVB.out)
      clear HL
      go_wp2_with fail
      go_loopw [63] (fun i wr => ∃ (k : Nat) (V : Nat → Nat → Nat) (v : Nat → Nat) (M : Nat → Nat → Rat) (b : Nat → Rat), k ≤ n ∧ i = .int .i64 k ∧ Sq w1 wr gg gb n G C V v M b ∧ Stage n A β k M b) (fun i _ => n - (intOf i).toNat)
      case atStart => exact ⟨0, _, _, A, β, Nat.zero_le _, rfl, HSQ.out, HBND.out, Stg.zero n A β, fun i hi => absurd hi (Nat.not_lt_zero i)⟩
      case round =>
        clear HSQ
        obtain ⟨k, V, v, M, b, hk, rfl, hsq, hst⟩ := hrel
        have HS := Lib.hid hsq
        have HST := Lib.hid hst
        clear hsq hst
        by_cases hlt : k < n
        · go_wp2_with fail
          refine (pivot_V gg cq n k G C V (fun r => M r k) _ HS.out.mat hlt h5 (fun r _ hr => HS.out.vm r k hr hlt) (HST.out.bnd.diag30 (Nat.le_refl k) hlt) (fun r h1 h2 => HST.out.bnd.off8 (by omega) h2 (Nat.le_refl k) hlt (by omega))).mono ?_
          rintro e wq ⟨rfl, rfl⟩
          have hn0 : ¬ (k : Int) < 0 := by omega
          have hkn : (k : Int) < (n : Int) := by omega
          obtain ⟨arr1, hb1, ha1⟩ := HS.out.mat.rows
          obtain ⟨arr2, hb2, ha2⟩ := HS.out.vec
          have d0 := HS.out.mat.cell_row hlt
          have d1 := HS.out.vec.cell hlt
          have f0 := HS.out.mat.frozen_row k
          have f1 := HS.out.vec.frozen k
          have hs0 := setCell_same hb1 (ha1 k hlt)
          have hs1 := setCell_same hb2 (ha2 k hlt)
          clear hb1 ha1 hb2 ha2
          go_wp2_with fail
          go_region
          have HS6 := Lib.hid HS.out.drew
          clear d0 d1 f0 f1 hs0 hs1 HS
          generalize wq.drew = w6 at *
          have hk1 : IntKind.i64.wrap ((k : Int) + 1) = ((k + 1 : Nat) : Int) := by rw [IntWalk.i64_in _ (by omega)]; omega
          go_wp2_with fail
          go_loopw [11] (fun i wr => ∃ (r : Nat) (V' : Nat → Nat → Nat) (v' : Nat → Nat) (M' : Nat → Nat → Rat) (b' : Nat → Rat), k + 1 ≤ r ∧ r ≤ n ∧ i = .int .i64 r ∧ Sq w1 wr gg gb n G C V' v' M' b' ∧ Part n k r M M' b b') (fun i _ => n - (intOf i).toNat)
          case atStart => exact ⟨k + 1, V, v, M, b, Nat.le_refl _, by omega, rfl, HS6.out, Part.start n k M b⟩
          case round =>
            clear HS6 hk1
            obtain ⟨r, V', v', M', b', hkr, hrn, rfl, hsq, hpart⟩ := hrel
            have HS := Lib.hid hsq
            have HP := Lib.hid hpart
            clear hsq hpart
            by_cases hlt2 : r < n
            · have hrn2 : (r : Int) < (n : Int) := by omega
              obtain ⟨f, F, q1, q2, q3, q4⟩ := step_quo (HS.out.vm r k hlt2 hlt) (HS.out.vm k k hlt hlt) k (by omega) (by rw [HP.out.ent r k (.inr (Nat.le_refl _))]; exact HST.out.bnd.off (by omega) hlt2 (Nat.le_refl _) hlt (by omega)) (by rw [HP.out.ent k k (.inl (Nat.le_refl _))]; exact (HST.out.bnd.diag (Nat.le_refl k) hlt).1) (by rw [HP.out.ent k k (.inl (Nat.le_refl _))]; exact (HST.out.bnd.diag (Nat.le_refl k) hlt).2)
              rw [HP.out.ent r k (.inr (Nat.le_refl _)), HP.out.ent k k (.inl (Nat.le_refl _))] at q4
              have HVF := Lib.hid q2
              have HF3 := Lib.hid q3
              have HF4 := Lib.hid q4
              have hquo := run_arithY .quo 34 .f32 _ _ _ q1
              have d0 := HS.out.mat.cell_row hlt2
              have d1 := HS.out.mat.cell_row hlt
              have d2 := HS.out.mat.cell hlt2 hlt
              have d3 := HS.out.mat.cell hlt hlt
              have hkn0 : (0 : Int) ≤ (k : Int) := by omega
              clear q1 q2 q3 q4
              go_wp2_with fail
              go_quiet (fail)
              have HS7 := Lib.hid (HS.out.drewN nq)
              clear d0 d1 d2 d3 hquo HS
              generalize wr.drewN nq = w7 at *
              have hk1 : IntKind.i64.wrap ((k : Int) + 1) = ((k + 1 : Nat) : Int) := by rw [IntWalk.i64_in _ (by omega)]; omega
              go_wp2_with fail
              go_loopw [13] (fun i wr => ∃ (j : Nat) (V'' : Nat → Nat → Nat) (M'' : Nat → Nat → Rat), k + 1 ≤ j ∧ j ≤ n ∧ i = .int .i64 j ∧ Sq w1 wr gg gb n G C V'' v' M'' b' ∧ Cols k r j M M' M'' F) (fun i _ => n - (intOf i).toNat)
              case atStart => exact ⟨k + 1, V', M', Nat.le_refl _, by omega, rfl, HS7.out, Cols.start k r M M' F⟩
              case round =>
                clear HS7 hk1
                obtain ⟨j, V'', M'', hkj, hjn, rfl, hsq, hcol⟩ := hrel
                have HS := Lib.hid hsq
                have HC := Lib.hid hcol
                clear hsq hcol
                by_cases hlt3 : j < n
                · have hjn2 : (j : Int) < (n : Int) := by omega
                  have hrk : r ≠ k := by omega
                  have e1 : M'' r j = M r j := by rw [HC.out.same r j (.inr (.inr (Nat.le_refl _))), HP.out.ent r j (.inr (Nat.le_refl _))]
                  have e2 : M'' k j = M k j := by rw [HC.out.same k j (.inl (by omega)), HP.out.ent k j (.inl (Nat.le_refl _))]
                  obtain ⟨p, x, X, q1, q2, q3, q4⟩ := step_sub (HS.out.vm r j hlt2 hlt3) HVF.out (HS.out.vm k j hlt hlt3) (by rw [e1]; exact HST.out.bnd.le48 (by omega) hlt2 (by omega) hlt3) (Rat.le_trans HF3.out (growF_le k)) (by rw [e2]; exact HST.out.bnd.off14 (Nat.le_refl k) hlt (by omega) hlt3 (by omega))
                  rw [e1, e2] at q4
                  have HX := Lib.hid q3
                  have HCN := Lib.hid (HC.out.next (by omega) q4)
                  have hmul := run_arithY .mul 34 .f32 _ _ _ q1
                  have hsub := run_arithY .sub 34 .f32 _ _ _ q2
                  have d0 := HS.out.mat.cell_row hlt2
                  have d1 := HS.out.mat.cell_row hlt
                  have d2 := HS.out.mat.cell hlt2 hlt3
                  have d3 := HS.out.mat.cell hlt hlt3
                  have f2 := HS.out.mat.frozen hlt2 j
                  have hj1 : IntKind.i64.wrap ((j : Int) + 1) = ((j + 1 : Nat) : Int) := by rw [IntWalk.i64_in _ (by omega)]; omega
                  clear q1 q2 q3 q4 e1 e2 hrk
                  go_wp2_with fail
                  go_still_tail 18, (by kernel_rfl)
                  go_wp2_with fail
                  exact ⟨⟨j + 1, _, _, by omega, by omega, by go_num, (HS.out.setM hlt2 hlt3 HX.out).drew, HCN.out⟩, by simp [intOf]; omega⟩
                · have hjn3 : j = n := by omega
                  rw [hjn3] at HC
                  have e1 : b' r = b r := HP.out.rhs r (.inr (Nat.le_refl _))
                  have e2 : b' k = b k := HP.out.rhs k (.inl (Nat.le_refl _))
                  obtain ⟨p, x, X, q1, q2, q3, q4⟩ := step_sub (HS.out.vb r hlt2) HVF.out (HS.out.vb k hlt) (by rw [e1]; exact HST.out.bnd.rhs48 (by omega) hlt2) (Rat.le_trans HF3.out (growF_le k)) (by rw [e2]; exact HST.out.bnd.rhs14 (Nat.le_refl k) hlt)
                  rw [e1, e2] at q4
                  have HX := Lib.hid q3
                  have HPN := Lib.hid (HP.out.next (by omega) hlt2 HF3.out HF4.out HC.out q4)
                  have hmul := run_arithY .mul 34 .f32 _ _ _ q1
                  have hsub := run_arithY .sub 34 .f32 _ _ _ q2
                  have d0 := HS.out.vec.cell hlt2
                  have d1 := HS.out.vec.cell hlt
                  have f0 := HS.out.vec.frozen r
                  have hrn2 : (r : Int) < (n : Int) := by omega
                  have hkn : (k : Int) < (n : Int) := by omega
                  have hr1 : IntKind.i64.wrap ((r : Int) + 1) = ((r + 1 : Nat) : Int) := by rw [IntWalk.i64_in _ (by omega)]; omega
                  clear q1 q2 q3 q4 e1 e2
                  go_wp2_with fail
                  go_still_tail 12, (by kernel_rfl)
                  go_wp2_with fail
                  exact ⟨⟨r + 1, _, _, _, _, by omega, by omega, by go_num, (HS.out.setB hlt2 HX.out).drew, HPN.out⟩, by simp [intOf]; omega⟩
            · have hrn3 : r = n := by omega
              rw [hrn3] at HP
              have HSN := Lib.hid (HST.out.next h5 hlt HP.out)
              go_wp2_with fail
              exact ⟨⟨k + 1, _, _, _, _, by omega, by go_num, HS.out, HSN.out⟩, by simp [intOf]; omega⟩
        · have hkn : k = n := by omega
          rw [hkn] at HST
          clear hkn
          have hmk := fun W => run_make_Y n (by omega) W
          have hn1 : IntKind.i64.wrap ((n : Int) - 1) = (n : Int) - 1 := IntWalk.i64_in _ (by omega)
          go_wp2_with fail
          have HX9 := Lib.hid (made_vec wr n)
          have HS9 := Lib.hid (HS.out.grown (show Ext wr (wr.alloc (.cells (madeCells #[.float .f32 0] n) 34)) by (repeat first | with_reducible exact Ext.rfl' _ | with_reducible refine Ext.drewN ?_ _ | with_reducible refine Ext.drew' ?_ | with_reducible refine Ext.alloc' ?_ _ | with_reducible refine Ext.setCell_at ?_ _ _ _ (by first | exact Nat.le_refl _ | omega) | with_reducible assumption | refine Ext.trans ?_ (by with_reducible assumption))))
          have HGX := Lib.hid (show w1.heap.size ≤ wr.heap.size from HS.out.ext.size)
          have HNB := Lib.hid (show gb ≠ wr.heap.size from fun e => by have := HS.out.vec.lt; omega)
          have HNG := Lib.hid (show ∀ r, r < n → G r ≠ wr.heap.size from fun r hr e => by have := (HS.out.mat.row r hr).lt; omega)
          clear hmk hn1 HS
          generalize wr.alloc (.cells (madeCells #[.float .f32 0] n) 34) = W9 at *
          generalize wr.heap.size = gx at *
          have HNR := Lib.hid (show gg ≠ gx from fun e => by
            obtain ⟨arr, h1, -⟩ := HS9.out.mat.rows
            exact HX9.out.apart h1 (by decide) e.symm)
          have HDN := Lib.hid HST.out.done
          go_loopw [15] (fun i wr => ∃ (m : Nat) (xv : Nat → Nat) (x : Nat → Rat), m ≤ n ∧ i = .int .i64 ((m : Int) - 1) ∧ Sq w1 wr gg gb n G C V v M b ∧ Vec wr gx n xv ∧ (∀ j, m ≤ j → j < n → Val .f32 (xv j) (x j)) ∧ Bak n m M b x) (fun i _ => (intOf i + 1).toNat)
          case atStart => exact ⟨n, _, fun _ => 0, Nat.le_refl _, rfl, HS9.out, HX9.out, fun j h1 h2 => by omega, fun j h1 h2 => by omega, fun j h1 h2 => by omega⟩
          case round =>
            clear HS9 HX9
            obtain ⟨m, xv, x, hm, rfl, hsq, hvx, hval, hbak⟩ := hrel
            have HS := Lib.hid hsq
            have HV := Lib.hid hvx
            have HVL := Lib.hid hval
            have HBK := Lib.hid hbak
            clear hsq hvx hval hbak
            by_cases hm0 : 0 < m
            · obtain ⟨k, rfl⟩ : ∃ k, m = k + 1 := ⟨m - 1, by omega⟩
              have hlt : k < n := by omega
              have hki : (((k + 1 : Nat) : Int) - 1) = (k : Int) := by omega
              rw [hki]
              have hk0 : (0 : Int) ≤ (k : Int) := by omega
              have hkn : (k : Int) < (n : Int) := by omega
              have d0 := HS.out.vec.cell hlt
              have hk1 : IntKind.i64.wrap ((k : Int) + 1) = ((k + 1 : Nat) : Int) := by rw [IntWalk.i64_in _ (by omega)]; omega
              go_wp2_with fail
              clear d0
              go_loopw [16, 17] (fun s i wr => ∃ (j sb : Nat) (S : Rat), k + 1 ≤ j ∧ j ≤ n ∧ i = .int .i64 j ∧ s = .float .f32 sb ∧ Val .f32 sb S ∧ Sm M b x k j S ∧ Sq w1 wr gg gb n G C V v M b ∧ Vec wr gx n xv) (fun _ i _ => n - (intOf i).toNat)
              case atStart => exact ⟨k + 1, v k, b k, Nat.le_refl _, by omega, rfl, rfl, HS.out.vb k hlt, Sm.start M b x k, HS.out, HV.out⟩
              case round =>
                clear HS HV hk1
                obtain ⟨j, sb, S, hkj, hjn, rfl, rfl, hvs, hsm, hsq, hvx⟩ := hrel
                have HVS := Lib.hid hvs
                have HSM := Lib.hid hsm
                have HS := Lib.hid hsq
                have HV := Lib.hid hvx
                clear hvs hsm hsq hvx
                by_cases hlt3 : j < n
                · obtain ⟨p, r, T, q1, q2, q3, q4⟩ := step_back HVS.out (HS.out.vm k j hlt hlt3) (HVL.out j hkj hlt3) (HSM.out.bound HDN.out h5 (by omega) hjn (fun c h1 h2 => HBK.out.small c (by omega) h2)).2 (HDN.out.off7 (by omega) (by omega) (by omega) hlt3) (HBK.out.small j hkj hlt3)
                  have HT := Lib.hid q3
                  have HSN := Lib.hid (HSM.out.next (by omega) q4)
                  have hmul := run_arithY .mul 34 .f32 _ _ _ q1
                  have hsub := run_arithY .sub 34 .f32 _ _ _ q2
                  have d0 := HS.out.mat.cell_row hlt
                  have d1 := HS.out.mat.cell hlt hlt3
                  have d2 := HV.out.cell hlt3
                  have hjn2 : (j : Int) < (n : Int) := by omega
                  have hj1 : IntKind.i64.wrap ((j : Int) + 1) = ((j + 1 : Nat) : Int) := by rw [IntWalk.i64_in _ (by omega)]; omega
                  clear q1 q2 q3 q4
                  go_wp2_with fail
                  go_quiet (fail)
                  go_wp2_with fail
                  exact ⟨⟨j + 1, r, T, by omega, by omega, by go_num, rfl, HT.out, HSN.out, HS.out.drewN nq, HV.out.drewN nq⟩, by simp [intOf]; omega⟩
                · have hjn3 : j = n := by omega
                  rw [hjn3] at HSM
                  obtain ⟨s1, s2, s3⟩ := HSM.out.quot HDN.out h5 hlt (fun c h1 h2 => HBK.out.small c (by omega) h2)
                  obtain ⟨xb, X, q1, q2, q3, q4⟩ := step_div HVS.out (HS.out.vm k k hlt hlt) s2 s3 s1
                  have HXB := Lib.hid q2
                  have HBN := Lib.hid (HBK.out.next h5 hlt HSM.out q3 q4)
                  have hquo := run_arithY .quo 34 .f32 _ _ _ q1
                  have d0 := HS.out.mat.cell_row hlt
                  have d1 := HS.out.mat.cell hlt hlt
                  have f0 := HV.out.frozen k
                  have d2 := HV.out.cell hlt
                  have hk1 : IntKind.i64.wrap ((k : Int) - 1) = (k : Int) - 1 := IntWalk.i64_in _ (by omega)
                  clear q1 q2 q3 q4 s1 s2 s3
                  go_wp2_with fail
                  refine ⟨⟨k, _, _, by omega, by go_num, HS.out.other HGX.out HNR.out HNB.out HNG.out k, HV.out.set k xb, fun j h1 h2 => ?_, HBN.out⟩, by simp [intOf]⟩
                  by_cases e : j = k
                  · rw [e, upd_here, uqd_here]
                    exact HXB.out
                  · rw [upd_far e, uqd_far e]
                    exact HVL.out j (by omega) h2
            · have hm1 : m = 0 := by omega
              subst hm1
              have hz : (((0 : Nat) : Int) - 1) = -1 := by decide
              rw [hz]
              go_wp2_with fail
              refine (toldNumbers_V _ n n ((List.range n).map xv) _ HV.out.lies (by simp) (by omega) (fun y hy => by
                obtain ⟨j, hj, rfl⟩ := List.mem_map.1 hy
                exact ⟨_, HVL.out j (Nat.zero_le _) (List.mem_range.1 hj)⟩)).mono ?_
              rintro e wz ⟨he, rfl⟩
              have HEZ := Lib.hid (Ext.trans HS.out.ext he)
              have HVZ := Lib.hid (HV.out.ext he)
              clear he
              go_wp2_with fail
              go_ret2
              refine ⟨HEZ.out, gx, n, xv, x, rfl, HVZ.out, fun j hj => ⟨HVL.out j (Nat.zero_le _) hj, HBK.out.small j (Nat.zero_le _) hj⟩, ?_⟩
              exact Stg.done h5 rfl HST.out.stg (fun j hj => HBK.out.small j (Nat.zero_le _) hj) (fun i hi => HBK.out.res i (Nat.zero_le _) hi)
end Go.Proofs.Ytfehhbmmdbpdpaa
/- Walk: a square of nothing is not solved. -/
namespace Go.Proofs.Ytfehhbmmdbpdpaa
open Go Go.RowKit
set_option linter.unusedVariables false
set_option linter.unusedSimpArgs false
attribute [local go_sem] run_store_float run_store_complex

theorem num_zero_mod : (0 : Nat) % 2147483648 = 0 := by decide
set_option maxRecDepth 100000 in
set_option maxHeartbeats 800000 in
theorem pivot_zero (R cap n : Nat) (G C : Nat → Nat) (V : Nat → Nat → Nat) (w : World) (hM : Mat w R G C n V) (hk : 0 < n) (hn : n ≤ 5) (hv : ∀ r, r < n → V r 0 = 0) :
    Calls Try.prog 72 #[.slice (some ⟨R, 0, none⟩) n cap, .int .i64 0] w fun e w' => w' = w ∧ e = .returned (.int .i64 (-1)) := by
  have HM := Lib.hid hM
  have HV := Lib.hid hv
  clear hM hv
  go_enter Try.func72, Try.ntmps72
  go_wp2_with fail
  go_loopw [5, 6, 7] (fun best most i wr => ∃ r : Nat, r ≤ n ∧ i = .int .i64 r ∧ wr = w ∧ best = .int .i64 (-1) ∧ most = .float .f32 0) (fun _ _ i _ => n - (intOf i).toNat)
  case atStart => exact ⟨0, Nat.zero_le _, rfl, rfl, rfl, rfl⟩
  case round =>
    obtain ⟨r, hrn, rfl, rfl, rfl, rfl⟩ := hrel
    by_cases hlt : r < n
    · have d0 := HM.out.cell_row hlt
      have d1 := HM.out.cell hlt hk
      rw [HV.out r hlt] at d1
      have hk0 : (0 : Int) < (n : Int) := by omega
      have hc : fcmp .gtr .f32 (0 % 2147483648) 0 = false := (val_gtr (val_abs num_zero) num_zero).trans (by rw [Rat.abs_zero]; decide +kernel)
      go_wp2_with fail
      refine (abs_V num_zero _).mono ?_
      rintro e w1 ⟨rfl, rfl⟩
      go_wp2_with (first | (refine wpList_fcmpD rfl .gtr _ _ _ _ rfl rfl _ _ _ rfl rfl _ hc ?_))
      exact ⟨⟨r + 1, by omega, by go_num, trivial, rfl, rfl⟩, by simp [intOf]; omega⟩
    · go_wp2_with fail
      go_ret
      exact ⟨rfl, rfl⟩
set_option maxRecDepth 100000 in
set_option maxHeartbeats 40000000 in
theorem Solve_zero (ba oa capa bb ob capb n : Nat) (xs ys : List Nat) (A : Nat → Nat → Rat) (β : Nat → Rat) (w : World) (hA : Lies w 34 (some ⟨ba, oa, none⟩) (fltB xs)) (hb : Lies w 34 (some ⟨bb, ob, none⟩) (fltB ys))
    (hx : xs.length = n * n) (hy : ys.length = n) (h1 : 1 ≤ n) (h5 : n ≤ 5) (hcap : n * n ≤ capa) (hzero : ∀ i, xs.getD i 0 = 0) (hvA : ∀ r c, r < n → c < n → Val .f32 (xs.getD (r * n + c) 0) (A r c)) (hvb : ∀ r, r < n → Val .f32 (ys.getD r 0) (β r)) :
    Calls Try.prog 33 #[.slice (some ⟨ba, oa, none⟩) ((n * n : Nat) : Nat) capa, .slice (some ⟨bb, ob, none⟩) n capb] w fun e w' => Ext w w' ∧ e = .returned (.tuple #[.slice none 0 0, .bool false]) := by
  have HZERO := Lib.hid hzero
  have HA := Lib.hid hA
  have HB := Lib.hid hb
  have HX := Lib.hid hx
  have HY := Lib.hid hy
  have HVA := Lib.hid hvA
  have HVB := Lib.hid hvb
  have HCAP := Lib.hid hcap
  have HNX := Lib.hid (show ∀ x ∈ xs, Num x from fun x hxm => by
    obtain ⟨i, hi, e⟩ := List.mem_iff_getElem.1 hxm
    have hn0 : 0 < n := by omega
    have h3 := hvA (i / n) (i % n) (Nat.div_lt_of_lt_mul (by omega)) (Nat.mod_lt _ hn0)
    rw [Nat.mul_comm (i / n) n, Nat.div_add_mod, List.getD_eq_getElem?_getD, List.getElem?_eq_getElem hi, e] at h3
    exact ⟨_, h3⟩)
  have HNY := Lib.hid (show ∀ x ∈ ys, Num x from fun x hxm => by
    obtain ⟨i, hi, e⟩ := List.mem_iff_getElem.1 hxm
    have h3 := hvb i (by omega)
    rw [List.getD_eq_getElem?_getD, List.getElem?_eq_getElem hi, e] at h3
    exact ⟨_, h3⟩)
  have hnn : n * n ≤ 25 := Nat.mul_le_mul h5 h5
  have HNN := Lib.hid hnn
  have hq1 : (1 : Int) ≤ n := by omega
  have hq2 : (n : Int) ≤ 16 := by omega
  have hw0 : IntKind.i64.wrap ((n : Int) * (n : Int)) = ((n * n : Nat) : Int) := by rw [← Int.natCast_mul, IntWalk.i64_in _ (by omega)]
  have hq3 : (((n * n : Nat) : Int) != ((n * n : Nat) : Int)) = false := by simp
  obtain ⟨i1, hi1, jz0, jz1, jz2⟩ := parts_of infoR
  have hzr : (Value.slice none 0 0).cells.size = 1 := by decide
  clear hA hb hx hy hvA hvb hcap hzero
  generalize hNN : n * n = N2 at *
  go_enter Try.func33, Try.ntmps33
  go_wp2_with fail
  refine (in_V n 1 16 hq1 hq2 _).mono ?_
  rintro e w1 ⟨rfl, rfl⟩
  go_wp2_with fail
  refine (finite_V _ _ N2 xs _ HA.out HX.out (by omega) HNX.out).mono ?_
  rintro e w2 ⟨he, rfl⟩
  have HE2 := Lib.hid he
  clear he
  go_wp2_with fail
  refine (finite_V _ _ n ys _ (HB.out.ext HE2.out) HY.out (by omega) HNY.out).mono ?_
  rintro e w3 ⟨he, rfl⟩
  have HE3 := Lib.hid (Ext.trans HE2.out he)
  clear he HE2
  go_wp2_with fail
  refine (Clone_V bb ob n capb ys _ (HB.out.ext HE3.out) HY.out (by omega) (by omega)).mono ?_
  rintro e w4 ⟨he, gb, cb, rfl, hvec, hgb⟩
  have HE4 := Lib.hid (Ext.trans HE3.out he)
  have HVEC := Lib.hid hvec
  have HGB := Lib.hid (show w1.heap.size ≤ gb from Nat.le_trans HE3.out.size hgb)
  clear he hvec hgb HE3
  go_wp2_with fail
  have HLAY := Lib.hid (show Laying w1 (w4.alloc (.cells #[] 67)) w4.heap.size w4.heap.size 0 gb n 0 (fun _ => 0) (fun _ => 0) xs (fun c => ys.getD c 0) from
    ⟨World.ownsRow_made (base := w4.heap.size) (e := 67) (size := 1) w4 #[] 0 (Nat.le_refl _) (by decide) rfl, fun r hr => absurd hr (Nat.not_lt_zero r), fun r s hr => absurd hr (Nat.not_lt_zero r), HVEC.out.ext (by (repeat first | with_reducible exact Ext.rfl' _ | with_reducible refine Ext.drewN ?_ _ | with_reducible refine Ext.drew' ?_ | with_reducible refine Ext.alloc' ?_ _ | with_reducible refine Ext.setCell_at ?_ _ _ _ (by first | exact Nat.le_refl _ | omega) | with_reducible assumption | refine Ext.trans ?_ (by with_reducible assumption))), Ext.alloc' HE4.out _, fun r hr => absurd hr (Nat.not_lt_zero r), fun r hr => absurd hr (Nat.not_lt_zero r), HE4.out.size, by simp⟩)
  have HGB4 := Lib.hid (show gb < w4.heap.size from HVEC.out.lt)
  clear hq1 hq2 hw0 hq3 HVEC
  generalize w4.alloc (.cells #[] 67) = W5 at *
  go_loopw [7, 45] (fun v i wr => ∃ (k gg cq : Nat) (G C : Nat → Nat), k ≤ n ∧ i = .int .i64 k ∧ v = .slice (some ⟨gg, 0, none⟩) k cq ∧ Laying w1 wr w4.heap.size gg cq gb n k G C xs (fun c => ys.getD c 0)) (fun _ i _ => n - (intOf i).toNat)
  case atStart => exact ⟨0, w4.heap.size, 0, _, _, Nat.zero_le _, rfl, rfl, HLAY.out⟩
  case round =>
    obtain ⟨k, gg, cq, G, C, hk, rfl, rfl, hlay⟩ := hrel
    have HL := Lib.hid hlay
    clear hlay HLAY
    by_cases hlt : k < n
    · have hkn : k * n + n ≤ N2 := by
        rw [← hNN, ← Nat.succ_mul]
        exact Nat.mul_le_mul_right _ hlt
      have hm1 : IntKind.i64.wrap ((k : Int) * (n : Int)) = ((k * n : Nat) : Int) := by rw [← Int.natCast_mul, IntWalk.i64_in _ (by omega)]
      have hm0 : IntKind.i64.wrap ((k : Int) + 1) = (k : Int) + 1 := IntWalk.i64_in _ (by omega)
      have hm2 : IntKind.i64.wrap (((k : Int) + 1) * (n : Int)) = ((k * n + n : Nat) : Int) := by
        rw [show ((k : Int) + 1) * (n : Int) = ((k * n + n : Nat) : Int) by rw [Int.natCast_add, Int.natCast_mul, Int.add_mul, Int.one_mul], IntWalk.i64_in _ (by omega)]
      generalize hkk : k * n = kn at *
      have hc1 : kn + n ≤ capa := Nat.le_trans hkn HCAP.out
      have hc2 : ((kn : Nat) : Int) + (n : Int) ≤ (capa : Int) := by omega
      have hc3 : ((kn + n : Nat) : Int) ≤ (capa : Int) := by omega
      have hc4 : ((kn : Nat) : Int) ≤ ((kn + n : Nat) : Int) := by omega
      go_wp2_with fail
      refine (Clone_V ba (oa + kn) n (capa - kn) ((xs.drop kn).take n) _ (by
        have := (HA.out.ext HL.out.ext).part kn n (by rw [fltB_len, HX.out]; omega)
        rwa [fltB_part] at this) (by rw [List.length_take, List.length_drop, HX.out]; omega) (by omega) (by omega)).mono ?_
      rintro e w6 ⟨he, g, c, rfl, hvec, hg⟩
      have HE6 := Lib.hid he
      have HG6 := Lib.hid hg
      have HV6 := Lib.hid (show Vec w6 g n (fun c => xs.getD (k * n + c) 0) from hvec.congr (fun c hc => by
        rw [hkk, List.getD_eq_getElem?_getD, List.getD_eq_getElem?_getD, List.getElem?_take_of_lt hc, List.getElem?_drop]))
      clear he hg hvec hm0 hm1 hm2 hc1 hc2 hc3 hc4
      go_wp2_with (first | (at_builtin; refine Stand.of ?_))
      refine Stand.out ?_
      refine wpList_append_lies _ rfl _ _ 95 rfl w4.heap.size 67 i1 _ 1 24 under_rows hi1 jz0 jz1 jz2 hzr (by omega) (.slice (some ⟨gg, 0, none⟩) k cq) k _ rfl ((HL.out.own.kept (row := none) ⟨HE6.out.os, HE6.out.tape, HE6.out.output, HE6.out.size, fun q hq _ => HE6.out.block q hq⟩ (.inr (by simp [Value.ownBlock]))).alloc _) ⟨w6.heap.size, 0, none⟩ 1 1 [.slice (some ⟨g, 0, none⟩) n c] rfl rfl (World.news_of_block (cs := #[.slice (some ⟨g, 0, none⟩) n c]) (t := 67) (fr := (0, 0)) (heap_alloc_new w6 _)) (by simp [Value.oneCell']) (by omega) (by unfold maxLen; omega) (by omega) (by have := HL.out.size; have := HE6.out.size; simp; omega) _ rfl ?_
      intro g2 c2 w8 hown8 hgrow hat8 hlt8
      have HL8 := Lib.hid (HL.out.next HE6.out HV6.out HG6.out rfl hown8 hgrow)
      clear hown8 hgrow hat8 hlt8
      go_wp2_with fail
      exact ⟨⟨k + 1, g2, c2, _, _, by omega, by go_num, rfl, HL8.out⟩, by simp [intOf]; omega⟩
    · have hkn : n = k := by omega
      subst hkn
      have HSQ := Lib.hid (HL.out.sq HGB.out HVA.out HVB.out)
      clear HL
      go_wp2_with fail
      go_loopw [63] (fun i wr => i = .int .i64 0 ∧ Sq w1 wr gg gb n G C (fun r c => xs.getD (r * n + c) 0) (fun c => ys.getD c 0) A β) (fun i _ => 0)
      case atStart => exact ⟨rfl, HSQ.out⟩
      case round =>
        clear HSQ
        obtain ⟨rfl, hsq⟩ := hrel
        have HS := Lib.hid hsq
        clear hsq
        have hn0 : (0 : Int) < (n : Int) := by omega
        go_wp2_with fail
        refine (pivot_zero gg cq n G C _ _ HS.out.mat (by omega) h5 (fun r _ => HZERO.out _)).mono ?_
        rintro e wq ⟨rfl, rfl⟩
        go_wp2_with fail
        go_ret2
        exact ⟨HS.out.ext, rfl⟩
end Go.Proofs.Ytfehhbmmdbpdpaa
/- Walks: the closure of ArcPlate. -/
namespace Go.Proofs.Ytfehhbmmdbpdpaa
open Go Go.RowKit
set_option linter.unusedVariables false
set_option linter.unusedSimpArgs false
attribute [local go_sem] run_store_float run_store_complex

set_option maxRecDepth 100000 in
theorem MulComplex_Q {x y z t : Nat} {a b c d : Rat} (hx : Val .f32 x a) (hy : Val .f32 y b) (hz : Val .f32 z c) (ht : Val .f32 t d) (ha : a.abs ≤ 4) (hb : b.abs ≤ 4) (hc : c.abs ≤ 2) (hd : d.abs ≤ 2) :
    ∃ m n R I, Val .f32 m R ∧ Val .f32 n I ∧ (R - (a * c - b * d)).abs ≤ 1 / 1000000 ∧ (I - (a * d + b * c)).abs ≤ 1 / 1000000 ∧ ∀ w, Calls Try.prog 40 #[.complex .f32 x y, .complex .f32 z t] w fun e w' => w' = w ∧ e = .returned (.complex .f32 m n) := by
  obtain ⟨x1, p1, p2⟩ := val_wide hx
  obtain ⟨y1, q1, q2⟩ := val_wide hy
  obtain ⟨z1, r1, r2⟩ := val_wide hz
  obtain ⟨t1, s1, s2⟩ := val_wide ht
  obtain ⟨m1, m2, m3, m, R, g1, g2, g3, g4, g5, g6⟩ := val_dotS p1 r1 q1 s1 ha hc hb hd
  obtain ⟨n1, n2, n3, n, I, h1, h2, h3, h4, h5, h6⟩ := val_dotA p1 s1 q1 r1 ha hd hb hc
  have HA := Lib.hid (fun w => wide_V p2 q2 w)
  have HB := Lib.hid (fun w => wide_V r2 s2 w)
  have HR := Lib.hid g4
  have HI := Lib.hid h4
  have HR2 := Lib.hid g5
  have HI2 := Lib.hid h5
  refine ⟨m, n, R, I, HR.out, HI.out, HR2.out, HI2.out, fun w => ?_⟩
  clear p1 p2 q1 q2 r1 r2 s1 s2 g4 g5 h4 h5 hx hy hz ht ha hb hc hd
  go_enter Try.func40, Try.ntmps40
  go_wp2_with fail
  refine (HA.out _).mono ?_
  rintro e w1 ⟨rfl, rfl⟩
  go_wp2_with fail
  refine (HB.out _).mono ?_
  rintro e w2 ⟨rfl, rfl⟩
  go_wp2_with (first
    | (refine wpList_floatD rfl .mul _ _ _ _ rfl (by simp) _ _ _ rfl rfl _ g1 ?_)
    | (refine wpList_floatD rfl .mul _ _ _ _ rfl (by simp) _ _ _ rfl rfl _ g2 ?_)
    | (refine wpList_floatD rfl .sub _ _ _ _ rfl (by simp) _ _ _ rfl rfl _ g3 ?_)
    | (refine wpList_floatD rfl .mul _ _ _ _ rfl (by simp) _ _ _ rfl rfl _ h1 ?_)
    | (refine wpList_floatD rfl .mul _ _ _ _ rfl (by simp) _ _ _ rfl rfl _ h2 ?_)
    | (refine wpList_floatD rfl .add _ _ _ _ rfl (by simp) _ _ _ rfl rfl _ h3 ?_))
  go_ret
  exact ⟨rfl, rfl⟩

/-- the numbers of an arc's corner without rise -/
theorem arc_vals {q : Nat} {Q : Rat} (hq : Val .f32 q Q) (hQ : Q.abs ≤ 1) :
    ∃ b1 b2 b3 b4 u, floatBits .mul .f32 1082130432 q = some b1 ∧ floatBits .mul .f32 b1 q = some b2 ∧ floatBits .sub .f32 1065353216 b2 = some b3 ∧ floatBits .mul .f32 0 b3 = some b4 ∧ Val .f32 b4 u ∧ u.abs ≤ 1 / 1000000000 := by
  have v4 : Val .f32 1082130432 4 := by
    have := val_int .f32 4 (by decide)
    have e : floatOfInt .f32 4 = 1082130432 := by decide +kernel
    rw [e] at this
    exact this
  have v1 : Val .f32 1065353216 1 := by
    have := val_int .f32 1 (by decide)
    have e : floatOfInt .f32 1 = 1065353216 := by decide +kernel
    rw [e] at this
    exact this
  have e2 : pw 2 = 4 := by decide +kernel
  have e3 : pw 3 = 8 := by decide +kernel
  have k1 := abs_le.1 hQ
  obtain ⟨b1, B1, r1, r2, -, r4⟩ := val_mul v4 hq 2 (by rw [e2]; exact abs_le.2 ⟨by grind, by grind⟩) (by decide) (by decide)
  rw [e2] at r4
  have m1 := mul_abs_le r4 hQ
  obtain ⟨b2, B2, s1, s2, -, s4⟩ := val_mul r2 hq 2 (by rw [e2]; grind) (by decide) (by decide)
  rw [e2] at s4
  have k2 := abs_le.1 s4
  obtain ⟨b3, B3, t1, t2, -, -⟩ := val_sub v1 s2 3 (by rw [e3]; exact abs_le.2 ⟨by grind, by grind⟩) (by decide) (by decide)
  obtain ⟨b4, B4, u1, u2, -, u4⟩ := val_mul num_zero t2 (-40) (by rw [Rat.zero_mul]; decide +kernel) (by decide) (by decide)
  exact ⟨b1, b2, b3, b4, B4, r1, s1, t1, u1, u2, Rat.le_trans u4 (by decide +kernel)⟩
/-- two points are added -/
theorem add_V {a b c d : Nat} {A B C D : Rat} (ha : Val .f32 a A) (hb : Val .f32 b B) (hc : Val .f32 c C) (hd : Val .f32 d D) (h1 : A.abs ≤ 2) (h2 : B.abs ≤ 2) (h3 : C.abs ≤ 2) (h4 : D.abs ≤ 2) :
    ∃ r s R I, (∀ w, (binOp .add 27 (.complex .f32 a b) (.complex .f32 c d)).run Try.prog w = .ok (.complex .f32 r s) w) ∧ Val .f32 r R ∧ Val .f32 s I ∧ (R - (A + C)).abs ≤ 1 / 4194304 ∧ (I - (B + D)).abs ≤ 1 / 4194304 := by
  have e2 : pw 2 = 4 := by decide +kernel
  have e3 : pw (2 - eps .f32) = 1 / 4194304 := by decide +kernel
  have k1 := abs_le.1 h1
  have k2 := abs_le.1 h2
  have k3 := abs_le.1 h3
  have k4 := abs_le.1 h4
  obtain ⟨r, R, r1, r2, r3, -⟩ := val_add ha hc 2 (by rw [e2]; exact abs_le.2 ⟨by grind, by grind⟩) (by decide) (by decide)
  obtain ⟨s, I, s1, s2, s3, -⟩ := val_add hb hd 2 (by rw [e2]; exact abs_le.2 ⟨by grind, by grind⟩) (by decide) (by decide)
  rw [e3] at r3 s3
  exact ⟨r, s, R, I, fun w => run_complex_arith Try.prog .add (.inl rfl) 27 .f32 _ _ _ _ _ _ r1 s1 w, r2, s2, r3, s3⟩
theorem arc_near {R x u e : Rat} (h1 : (R - x).abs ≤ 1 / 1000000) (hu : u.abs ≤ 1 / 1000000000) (h : (e - (R + u)).abs ≤ 1 / 4194304) : (e - x).abs ≤ 1 / 800000 := by
  have k1 := abs_le.1 h1
  have k2 := abs_le.1 hu
  have k3 := abs_le.1 h
  exact abs_le.2 ⟨by grind, by grind⟩
theorem abs_two {R x c d : Rat} (h1 : (R - x * c).abs ≤ 1 / 1000000) (hx : x.abs ≤ 8 / 5) (hc : c.abs ≤ 10002 / 10000) : R.abs ≤ 2 := by
  have h := mul_abs_le hx hc
  have k1 := abs_le.1 h1
  have k2 := abs_le.1 h
  exact abs_le.2 ⟨by grind, by grind⟩
set_option maxRecDepth 100000 in
set_option maxHeartbeats 1600000 in
/-- the corner of an arc without rise -/
theorem arc_V {g gr q x m n : Nat} {Q P c d : Rat} (w : World) (hb : Blk w g 27 #[.complex .f32 m n]) (hr : Blk w gr 34 #[.float .f32 0]) (hq : Val .f32 q Q) (hQ : Q.abs ≤ 1) (hx : Val .f32 x P) (hm : Val .f32 m c) (hn : Val .f32 n d) (hP : P.abs ≤ 8 / 5) (hc : c.abs ≤ 10002 / 10000) (hd : d.abs ≤ 10002 / 10000) :
    Calls Try.prog 69 #[.float .f32 q, .complex .f32 x 0, .pointer (some ⟨g, 0, none⟩), .pointer (some ⟨gr, 0, none⟩)] w fun e w' => Ext w w' ∧ ∃ m m' R I, e = .returned (.complex .f32 m m') ∧ Val .f32 m R ∧ Val .f32 m' I ∧ (R - P * c).abs ≤ 1 / 800000 ∧ (I - P * d).abs ≤ 1 / 800000 := by
  have hcell : w.cell? ⟨g, 0, none⟩ = some (.complex .f32 m n) := hb.cell 0
  have hcell2 : w.cell? ⟨gr, 0, none⟩ = some (.float .f32 0) := hr.cell 0
  have h0 := num_zero
  obtain ⟨b1, b2, b3, b4, u, a1, a2, a3, a4, a5, a6⟩ := arc_vals hq hQ
  obtain ⟨r, s, R, I, m1, m2, m3, m4, m5⟩ := MulComplex_Q hx h0 hm hn (by grind) (by decide +kernel) (by grind) (by grind)
  have x0 : R.abs ≤ 2 := abs_two (d := 0) (by rw [show P * c - 0 * d = P * c by grind] at m3; exact m3) hP hc
  have x1 : I.abs ≤ 2 := abs_two (d := 0) (by rw [show P * d + 0 * c = P * d by grind] at m4; exact m4) hP hd
  obtain ⟨r', s', R', I', n1, n2, n3, n4, n5⟩ := add_V m1 m2 h0 a5 x0 x1 (by decide +kernel) (by grind)
  have y0 : (R' - P * c).abs ≤ 1 / 800000 := arc_near (u := 0) (by rw [show P * c - 0 * d = P * c by grind] at m3; exact m3) (by decide +kernel) n4
  have y1 : (I' - P * d).abs ≤ 1 / 800000 := arc_near (by rw [show P * d + 0 * c = P * d by grind] at m4; exact m4) a6 n5
  have HM := Lib.hid m5
  have HV := Lib.hid (show Val .f32 r' R' ∧ Val .f32 s' I' ∧ _ ∧ _ from ⟨n2, n3, y0, y1⟩)
  have q1 := fun w => run_arithY .mul 34 .f32 _ _ _ a1 w
  have q2 := fun w => run_arithY .mul 34 .f32 _ _ _ a2 w
  have q3 := fun w => run_arithY .sub 34 .f32 _ _ _ a3 w
  have q4 := fun w => run_arithY .mul 34 .f32 _ _ _ a4 w
  clear hb hr hq hQ hx hm hn hP hc hd h0 a1 a2 a3 a4 a5 a6 m1 m2 m3 m4 m5 n2 n3 n4 n5 x0 x1 y0 y1
  go_enter Try.func69, Try.ntmps69
  go_wp2_with fail
  go_quiet ((go_at_call 40; exact Calls.quiet_of_same ((HM.out _).mono fun e w' h => ⟨h.2, h.1⟩)))
  go_wp2_with fail
  go_ret
  exact ⟨by (repeat first | with_reducible exact Ext.rfl' _ | with_reducible refine Ext.drewN ?_ _ | with_reducible refine Ext.drew' ?_ | with_reducible refine Ext.alloc' ?_ _ | with_reducible refine Ext.setCell_at ?_ _ _ _ (by first | exact Nat.le_refl _ | omega) | with_reducible assumption | refine Ext.trans ?_ (by with_reducible assumption)), r', s', R', I', rfl, HV.out⟩
end Go.Proofs.Ytfehhbmmdbpdpaa
/- Walks: ArcPlate without rise. -/
namespace Go.Proofs.Ytfehhbmmdbpdpaa
open Go Go.RowKit
set_option linter.unusedVariables false
set_option linter.unusedSimpArgs false
attribute [local go_sem] run_store_float run_store_complex

theorem corner_nearA {P Q c C R : Rat} (hQ : Q.abs ≤ 3 / 2) (hP : (P - Q).abs ≤ 1 / 800000) (hc : (c - C).abs ≤ 1 / 8388608) (hC : C.abs ≤ 10001 / 10000) (hR : (R - P * c).abs ≤ 1 / 800000) : (R - Q * C).abs ≤ 1 / 300000 := by
  have h2 : c.abs ≤ 10002 / 10000 := by
    have k1 := abs_le.1 hc
    have k2 := abs_le.1 hC
    exact abs_le.2 ⟨by grind, by grind⟩
  have h := near_mul hP hc hQ h2
  have k1 := abs_le.1 h
  have k2 := abs_le.1 hR
  exact abs_le.2 ⟨by grind, by grind⟩
theorem place_absA {P Q : Rat} (hQ : Q.abs ≤ 3 / 2) (hP : (P - Q).abs ≤ 1 / 800000) : P.abs ≤ 8 / 5 := by
  have k1 := abs_le.1 hP
  have k2 := abs_le.1 hQ
  exact abs_le.2 ⟨by grind, by grind⟩
theorem unit_absA {c C : Rat} (hc : (c - C).abs ≤ 1 / 8388608) (hC : C.abs ≤ 10001 / 10000) : c.abs ≤ 10002 / 10000 := by
  have k1 := abs_le.1 hc
  have k2 := abs_le.1 hC
  exact abs_le.2 ⟨by grind, by grind⟩
theorem share_one {k n : Nat} {Q : Rat} (hk : k ≤ n) (hn : 0 < n) (h : (Q - share k n).abs ≤ 1 / 3000000) : Q.abs ≤ 1 := by
  obtain ⟨s1, -, -⟩ := share_bound hk hn
  have k1 := abs_le.1 h
  have k2 := abs_le.1 s1
  exact abs_le.2 ⟨by grind, by grind⟩
theorem flat_flatE {w : World} {A : Option Addr} {cs : List (Nat × Nat)} {n : Nat} {L C S e : Rat} (hl : Lies w 27 A (cpxB cs)) (hlen : cs.length = n + 1) (hn : 0 < n) (h8 : n ≤ 9) (hL : 1 / 4 ≤ L) (h3 : L ≤ 3)
    (ho : (C * C + S * S - 1).abs ≤ 1 / 100000000) (hC : C.abs ≤ 10001 / 10000) (hS : S.abs ≤ 10001 / 10000) (he : e ≤ 1 / 100000) (h0 : 0 ≤ e) (hnear : Near cs (fun k => L * share k n * C) (fun k => L * share k n * S) e) :
    Flat w A cs (n + 1) (fun k => L * share k n * C) (fun k => L * share k n * S) e :=
  ⟨hl, hlen, by omega, by omega, hnear, he, h0,
    fun i hi => ⟨prod_abs (share_abs (by grind) h3 (by omega) hn) hC, prod_abs (share_abs (by grind) h3 (by omega) hn) hS⟩,
    fun i hi => flat_far hL hn h8 ho i⟩
theorem absSmall_zero : absSmall 0 = true := by kernel_rfl
theorem okT_zero : OkT 0 := okT (by kernel_rfl)
set_option maxRecDepth 100000 in
set_option maxHeartbeats 1600000 in
theorem ArcPlate_V {n lb : Nat} {L : Rat} (w : World) (hn : 0 < n) (h8 : n ≤ 9) (hL : Val .f32 lb L) (hl : 1 / 4 ≤ L) (h3 : L ≤ 3) :
    Calls Try.prog 31 #[.int .i64 n, .float .f32 lb, .float .f32 0] w fun e w' => Ext w w' ∧ ∃ g c cs, e = .returned (.tuple #[.agg #[.slice (some ⟨g, 0, none⟩) (n + 1) c], .bool true]) ∧ Flat w' (some ⟨g, 0, none⟩) cs (n + 1) (fun k => L * share k n * valQ (rotC 0)) (fun k => L * share k n * valQ (rotS 0)) (1 / 300000) := by
  have HN := Lib.hid hn
  have H8 := Lib.hid h8
  have HL := Lib.hid hL
  have HL0 := Lib.hid hl
  have H3 := Lib.hid h3
  have HK := Lib.hid okT_zero
  have HAB := Lib.hid absSmall_zero
  have HIN := Lib.hid (in_V n 1 16 (by omega) (by omega))
  have HEr := Lib.hid (show Ext w (w.alloc (.cells #[.float .f32 0] 34)) by (repeat first | with_reducible exact Ext.rfl' _ | with_reducible refine Ext.drewN ?_ _ | with_reducible refine Ext.drew' ?_ | with_reducible refine Ext.alloc' ?_ _ | with_reducible refine Ext.setCell_at ?_ _ _ _ (by first | exact Nat.le_refl _ | omega) | with_reducible assumption | refine Ext.trans ?_ (by with_reducible assumption)))
  have HR1 := Lib.hid (Blk.new w 34 #[.float .f32 0])
  have HS1 := Lib.hid (World.size_alloc w (.cells #[.float .f32 0] 34))
  clear hn h8 hL hl h3
  go_enter Try.func31, Try.ntmps31
  go_wp2_with fail
  generalize (w.alloc (.cells #[.float .f32 0] 34)) = W0 at *
  have HB0 := Lib.hid (show Blk (W0.alloc (.cells #[.slice none 0 0] 58)) (w.heap.size + 1) 58 #[.slice none 0 0] from by have h := Blk.new W0 58 #[.slice none 0 0]; rw [HS1.out] at h; exact h)
  have HE01 := Lib.hid (show Ext W0 (W0.alloc (.cells #[.slice none 0 0] 58)) by (repeat first | with_reducible exact Ext.rfl' _ | with_reducible refine Ext.drewN ?_ _ | with_reducible refine Ext.drew' ?_ | with_reducible refine Ext.alloc' ?_ _ | with_reducible refine Ext.setCell_at ?_ _ _ _ (by first | exact Nat.le_refl _ | omega) | with_reducible assumption | refine Ext.trans ?_ (by with_reducible assumption)))
  have HE0 := Lib.hid (show Ext w (W0.alloc (.cells #[.slice none 0 0] 58)) from Ext.trans HEr.out HE01.out)
  have HR2 := Lib.hid (HR1.out.ext HE01.out)
  generalize (W0.alloc (.cells #[.slice none 0 0] 58)) = W1 at *
  have hcr : W1.cell? ⟨w.heap.size, 0, none⟩ = some (.float .f32 0) := HR2.out.cell 0
  refine (HIN.out _).mono ?_
  rintro e' w2 ⟨rfl, rfl⟩
  go_wp2_with fail
  refine (lengthOk_V HL.out (by have := HL0.out; grind) _ _ _ (lies_newY w2 34 #[.float .f32 lb])).mono ?_
  rintro e' w3 ⟨he3, rfl⟩
  have HE3 := Lib.hid (show Ext w w3 by have := HE0.out; (repeat first | with_reducible exact Ext.rfl' _ | with_reducible refine Ext.drewN ?_ _ | with_reducible refine Ext.drew' ?_ | with_reducible refine Ext.alloc' ?_ _ | with_reducible refine Ext.setCell_at ?_ _ _ _ (by first | exact Nat.le_refl _ | omega) | with_reducible assumption | refine Ext.trans ?_ (by with_reducible assumption)))
  have HB3 := Lib.hid (HB0.out.ext (show Ext w2 w3 by (repeat first | with_reducible exact Ext.rfl' _ | with_reducible refine Ext.drewN ?_ _ | with_reducible refine Ext.drew' ?_ | with_reducible refine Ext.alloc' ?_ _ | with_reducible refine Ext.setCell_at ?_ _ _ _ (by first | exact Nat.le_refl _ | omega) | with_reducible assumption | refine Ext.trans ?_ (by with_reducible assumption))))
  have HR3 := Lib.hid (HR2.out.ext (show Ext w2 w3 by (repeat first | with_reducible exact Ext.rfl' _ | with_reducible refine Ext.drewN ?_ _ | with_reducible refine Ext.drew' ?_ | with_reducible refine Ext.alloc' ?_ _ | with_reducible refine Ext.setCell_at ?_ _ _ _ (by first | exact Nat.le_refl _ | omega) | with_reducible assumption | refine Ext.trans ?_ (by with_reducible assumption))))
  have hcr3 : w3.cell? ⟨w.heap.size, 0, none⟩ = some (.float .f32 0) := HR3.out.cell 0
  clear he3
  go_wp2_with fail
  refine (IsFinite_V ⟨0, num_zero⟩ _).mono ?_
  rintro e' w4 ⟨he4, rfl⟩
  have HE4 := Lib.hid (Ext.trans HE3.out he4)
  have HB4 := Lib.hid (HB3.out.ext he4)
  have HR4 := Lib.hid (HR3.out.ext he4)
  clear he4
  go_wp2_with fail
  refine (PhasorOf_V HK.out HAB.out _).mono ?_
  rintro e' w5 ⟨he5, pm, pn, c, d, rfl, c1, c2, c3, c4⟩
  have HC := Lib.hid (show Val .f32 pm c ∧ Val .f32 pn d ∧ _ ∧ _ from ⟨c1, c2, c3, c4⟩)
  have HE5 := Lib.hid (Ext.trans HE4.out he5)
  have HB5 := Lib.hid (HB4.out.ext he5)
  have HR5 := Lib.hid (HR4.out.ext he5)
  clear he5 c1 c2 c3 c4
  go_wp2_with fail
  have HP := Lib.hid (Blk.new w5 27 #[.complex .f32 pm pn])
  have HE6 := Lib.hid (show Ext w (w5.alloc (.cells #[.complex .f32 pm pn] 27)) by have := HE5.out; (repeat first | with_reducible exact Ext.rfl' _ | with_reducible refine Ext.drewN ?_ _ | with_reducible refine Ext.drew' ?_ | with_reducible refine Ext.alloc' ?_ _ | with_reducible refine Ext.setCell_at ?_ _ _ _ (by first | exact Nat.le_refl _ | omega) | with_reducible assumption | refine Ext.trans ?_ (by with_reducible assumption)))
  have HR6 := Lib.hid (HR5.out.ext (show Ext w5 (w5.alloc (.cells #[.complex .f32 pm pn] 27)) by (repeat first | with_reducible exact Ext.rfl' _ | with_reducible refine Ext.drewN ?_ _ | with_reducible refine Ext.drew' ?_ | with_reducible refine Ext.alloc' ?_ _ | with_reducible refine Ext.setCell_at ?_ _ _ _ (by first | exact Nat.le_refl _ | omega) | with_reducible assumption | refine Ext.trans ?_ (by with_reducible assumption))))
  have HB6 := Lib.hid (HB5.out.ext (show Ext w5 (w5.alloc (.cells #[.complex .f32 pm pn] 27)) by (repeat first | with_reducible exact Ext.rfl' _ | with_reducible refine Ext.drewN ?_ _ | with_reducible refine Ext.drew' ?_ | with_reducible refine Ext.alloc' ?_ _ | with_reducible refine Ext.setCell_at ?_ _ _ _ (by first | exact Nat.le_refl _ | omega) | with_reducible assumption | refine Ext.trans ?_ (by with_reducible assumption))))
  generalize (w5.alloc (.cells #[.complex .f32 pm pn] 27)) = W6 at *
  generalize w5.heap.size = g5 at *
  refine (corners_Arc (some ⟨g5, 0, none⟩) (some ⟨w.heap.size, 0, none⟩) n lb L (fun k => L * share k n * valQ (rotC 0)) (fun k => L * share k n * valQ (rotS 0)) (1 / 300000) W6 HL.out (by have := HL0.out; grind) H3.out HN.out (by have := H8.out; omega) (fun k q x Q P w' hkn he hq hx hQ hP => by
    obtain ⟨c1, c2, c3, c4⟩ := HC.out
    have a0 := share_abs (k := k) (n := n) (by have := HL0.out; grind : 0 ≤ L) H3.out hkn HN.out
    have a1 := share_one hkn HN.out hQ
    refine (arc_V w' (HP.out.ext he) (HR6.out.ext he) hq a1 hx c1 c2 (place_absA a0 hP) (unit_absA c3 HK.out.bc) (unit_absA c4 HK.out.bs)).mono ?_
    rintro e'' w'' ⟨h1, m, m', R, I, h2, h3, h4, h5, h6⟩
    exact ⟨h1, m, m', R, I, h2, h3, h4, corner_nearA a0 hP c3 HK.out.bc h5, corner_nearA a0 hP c4 HK.out.bs h6⟩)).mono ?_
  rintro e' w7 ⟨he7, g7, cap7, cs, rfl, hl7, hlen7, hnear7⟩
  have HF := Lib.hid (flat_flatE hl7 hlen7 HN.out H8.out HL0.out H3.out HK.out.one HK.out.bc HK.out.bs (by decide +kernel) (by decide +kernel) hnear7)
  have HE7 := Lib.hid (Ext.trans HE6.out he7)
  have HB7 := Lib.hid (HB6.out.ext he7)
  clear he7 hl7 hlen7 hnear7
  go_wp2_with fail
  refine (toldPlate_V _ cap7 (n + 1) cs _ _ _ _ HF.out).mono ?_
  rintro e' w8 ⟨he8, rfl⟩
  have HF8 := Lib.hid (HF.out.ext he8)
  have HE8 := Lib.hid (Ext.trans HE7.out he8)
  have HB8 := Lib.hid (HB7.out.ext he8)
  clear he8
  have d0 : w8.cell? ⟨w.heap.size + 1, 0, none⟩ = some (.slice none 0 0) := HB8.out.cell 0
  have f0 := HB8.out.frozen 0
  go_wp2_with fail
  have HF9 := Lib.hid (HF8.out.lies.set_plate (off := 0) (u := .slice (some ⟨g7, 0, none⟩) (n + 1) cap7) HB8.out)
  have HB9 := Lib.hid (HB8.out.set_ 0 (.slice (some ⟨g7, 0, none⟩) (n + 1) cap7))
  have HE9 := Lib.hid (Ext.setCell_at HE8.out (w.heap.size + 1) 0 (.slice (some ⟨g7, 0, none⟩) (n + 1) cap7) (Nat.le_succ _))
  have HG := Lib.hid (show Flat (w8.setCell ⟨w.heap.size + 1, 0, none⟩ (.slice (some ⟨g7, 0, none⟩) (n + 1) cap7)) (some ⟨g7, 0, none⟩) cs (n + 1) _ _ (1 / 300000) from ⟨HF9.out, HF8.out.len, HF8.out.n2, HF8.out.n9, HF8.out.near, HF8.out.small, HF8.out.nonneg, HF8.out.bound, HF8.out.far⟩)
  generalize w8.setCell ⟨w.heap.size + 1, 0, none⟩ (.slice (some ⟨g7, 0, none⟩) (n + 1) cap7) = W9 at *
  have q0 : W9.cell? ⟨w.heap.size + 1, 0, none⟩ = some (.slice (some ⟨g7, 0, none⟩) (n + 1) cap7) := HB9.out.cell 0
  exact bodyPost_ret (v := .tuple #[.agg #[.slice (some ⟨g7, 0, none⟩) (n + 1) cap7], .bool true]) (by simp [results, Try.results31, go_sem, q0]) rfl ⟨HE9.out, g7, cap7, cs, rfl, HG.out⟩
end Go.Proofs.Ytfehhbmmdbpdpaa
/- Walks: recornered, TurnPlate. -/
namespace Go.Proofs.Ytfehhbmmdbpdpaa
open Go Go.RowKit
set_option linter.unusedVariables false
set_option linter.unusedSimpArgs false
attribute [local go_sem] run_store_float run_store_complex

set_option maxRecDepth 100000 in
set_option maxHeartbeats 1600000 in
theorem recorn_V (pb A : Option Addr) (cap n : Nat) (cs : List (Nat × Nat)) (X Y X' Y' : Nat → Rat) (e e2 : Rat) (w : World) (hF : Flat w A cs n X Y e)
    (hput : ∀ (k : Nat) (c : Nat × Nat) (R I : Rat) (w' : World), k < n → Ext w w' → Val .f32 c.1 R → Val .f32 c.2 I → (R - X k).abs ≤ e → (I - Y k).abs ≤ e →
      Calls Try.prog 63 #[.complex .f32 c.1 c.2, .pointer pb] w' fun e' w'' => Ext w' w'' ∧ ∃ m m' R I, e' = .returned (.complex .f32 m m') ∧ Val .f32 m R ∧ Val .f32 m' I ∧ (R - X' k).abs ≤ e2 ∧ (I - Y' k).abs ≤ e2)
    (hflat : ∀ (w' : World) (A' : Option Addr) (ds : List (Nat × Nat)), Lies w' 27 A' (cpxB ds) → ds.length = n → Near ds X' Y' e2 → Flat w' A' ds n X' Y' e2) :
    Calls Try.prog 62 #[.agg #[.slice A n cap], .func (.func 63) #[] #[.pointer pb]] w fun e' w' => Ext w w' ∧ ∃ g c ds, e' = .returned (.tuple #[.agg #[.slice (some ⟨g, 0, none⟩) n c], .bool true]) ∧ Flat w' (some ⟨g, 0, none⟩) ds n X' Y' e2 := by
  obtain ⟨i1, hi1, jz0, jz1, jz2⟩ := parts_of infoCp
  have hz1 : (Value.complex .f32 0 0).cells.size = 1 := by decide
  have HF := Lib.hid hF
  have HP := Lib.hid hput
  have HL := Lib.hid hflat
  have HN9 := Lib.hid hF.n9
  have HB0 := Lib.hid (Blk.new w 58 #[.slice A n cap])
  have hz0 : (w.alloc (.cells #[.slice A n cap] 58)).heap.size = w.heap.size + 1 := by simp
  have HR1 := Lib.hid (show Blk ((w.alloc (.cells #[.slice A n cap] 58)).alloc (.cells #[.slice none 0 0] 58)) (w.heap.size + 1) 58 #[.slice none 0 0] by
    have := Blk.new (w.alloc (.cells #[.slice A n cap] 58)) 58 #[.slice none 0 0]
    rwa [hz0] at this)
  have HE1 := Lib.hid (show Ext w ((w.alloc (.cells #[.slice A n cap] 58)).alloc (.cells #[.slice none 0 0] 58)) by (repeat first | with_reducible exact Ext.rfl' _ | with_reducible refine Ext.drewN ?_ _ | with_reducible refine Ext.drew' ?_ | with_reducible refine Ext.alloc' ?_ _ | with_reducible refine Ext.setCell_at ?_ _ _ _ (by first | exact Nat.le_refl _ | omega) | with_reducible assumption | refine Ext.trans ?_ (by with_reducible assumption)))
  have HB1 := Lib.hid (HB0.out.ext (show Ext (w.alloc (.cells #[.slice A n cap] 58)) ((w.alloc (.cells #[.slice A n cap] 58)).alloc (.cells #[.slice none 0 0] 58)) by (repeat first | with_reducible exact Ext.rfl' _ | with_reducible refine Ext.drewN ?_ _ | with_reducible refine Ext.drew' ?_ | with_reducible refine Ext.alloc' ?_ _ | with_reducible refine Ext.setCell_at ?_ _ _ _ (by first | exact Nat.le_refl _ | omega) | with_reducible assumption | refine Ext.trans ?_ (by with_reducible assumption))))
  clear hz0 HB0 hF hput hflat
  go_enter Try.func62, Try.ntmps62
  have d0 := HB1.out.cell 0
  have d00 : ((w.alloc (.cells #[.slice A n cap] 58)).alloc (.cells #[.slice none 0 0] 58)).cell? ⟨w.heap.size, 0, none⟩ = some (.slice A n cap) := d0
  go_wp2_with fail
  generalize ((w.alloc (.cells #[.slice A n cap] 58)).alloc (.cells #[.slice none 0 0] 58)) = W1 at *
  refine (ValidPlate_V A cap n cs X Y e _ (HF.out.ext HE1.out)).mono ?_
  rintro e' w2 ⟨he, rfl⟩
  have HE2 := Lib.hid (Ext.trans HE1.out he)
  have HB2 := Lib.hid (HB1.out.ext he)
  have HR2 := Lib.hid (HR1.out.ext he)
  have HA2 := Lib.hid (HF.out.lies.ext HE2.out)
  clear he d0 d00
  have d0 : w2.cell? ⟨w.heap.size, 0, none⟩ = some (.slice A n cap) := HB2.out.cell 0
  have hbw : w.heap.size < w2.heap.size := HB2.out.lt
  have HOWN := Lib.hid (show (w2.alloc (.cells #[] 27)).ownsRow w2.heap.size 27 1 (.slice (some ⟨w2.heap.size, 0, none⟩) 0 0) 0 [] from World.ownsRow_made (base := w2.heap.size) (e := 27) (size := 1) w2 #[] 0 (Nat.le_refl _) (by decide) rfl)
  have HE0 := Lib.hid (show Ext w2 (w2.alloc (.cells #[] 27)) by (repeat first | with_reducible exact Ext.rfl' _ | with_reducible refine Ext.drewN ?_ _ | with_reducible refine Ext.drew' ?_ | with_reducible refine Ext.alloc' ?_ _ | with_reducible refine Ext.setCell_at ?_ _ _ _ (by first | exact Nat.le_refl _ | omega) | with_reducible assumption | refine Ext.trans ?_ (by with_reducible assumption)))
  go_wp2_with fail
  generalize w2.alloc (.cells #[] 27) = W0 at *
  go_loopw [6, 17] (fun v i wr => ∃ (k gg cq : Nat) (ds : List (Nat × Nat)), k ≤ n ∧ i = .int .i64 k ∧ v = .slice (some ⟨gg, 0, none⟩) k cq ∧ wr.ownsRow w2.heap.size 27 1 v k (cpxB ds) ∧ ds.length = k ∧ Near ds X' Y' e2 ∧ Ext w2 wr) (fun _ i _ => n - (intOf i).toNat)
  case atStart => exact ⟨0, w2.heap.size, 0, [], by omega, rfl, rfl, HOWN.out, rfl, fun i c h => by simp at h, HE0.out⟩
  case round =>
    obtain ⟨k, gg, cq, ds, hk, rfl, rfl, hown, hds, hnear, hbel⟩ := hrel
    have HOW := Lib.hid hown
    have HE := Lib.hid hbel
    have HND := Lib.hid hnear
    have HDS := Lib.hid hds
    clear hown hbel HOWN HE0 hnear hds d0
    by_cases hlt : k < n
    · obtain ⟨c0, hc0⟩ : ∃ c, cs[k]? = some c := ⟨cs[k]'(by have := HF.out.len; omega), List.getElem?_eq_getElem _⟩
      obtain ⟨b, o, rfl, hbw2, hcc⟩ := HA2.out.cell (by rw [cpxB_len, HF.out.len]; omega)
      have e0 := (HE.out.cell (p := ⟨b, o + k, none⟩) hbw2).trans (hcc _ _ (cpxB_at hc0))
      obtain ⟨R0, I0, v0, u0, s0, t0⟩ := HF.out.near k c0 hc0
      have HV := Lib.hid (show _ ∧ _ ∧ _ ∧ _ from ⟨v0, u0, s0, t0⟩)
      have hkn : (k : Int) < (n : Int) := by omega
      have hk0 : (0 : Int) ≤ (k : Int) := by omega
      clear hcc hc0 v0 u0 s0 t0
      go_wp2_with fail
      obtain ⟨v0, u0, s0, t0⟩ := HV.out
      refine (HP.out k c0 R0 I0 _ hlt (Ext.trans HE2.out HE.out) v0 u0 s0 t0).mono ?_
      rintro e' w6 ⟨he, m, m', R, I, rfl, r1, r2, r3, r4⟩
      have HE6 := Lib.hid (Ext.trans HE.out he)
      have HO6 := Lib.hid (HOW.out.kept (row := none) ⟨he.os, he.tape, he.output, he.size, fun q hq _ => he.block q hq⟩ (.inr (by simp [Value.ownBlock])))
      have HNN := Lib.hid (HND.out.snoc (c := (m, m')) HDS.out ⟨R, I, r1, r2, r3, r4⟩)
      clear he r1 r2 r3 r4 HOW HE v0 u0 s0 t0 HV e0
      have hn10 : n ≤ 10 := HN9.out
      go_wp2_with (first | (at_builtin; refine Stand.of ?_))
      refine Stand.out ?_
      refine wpList_append_lies _ rfl _ _ 25 rfl w2.heap.size 27 i1 _ 1 8 under_cpxs hi1 jz0 jz1 jz2 hz1 (by omega) (.slice (some ⟨gg, 0, none⟩) k cq) k (cpxB ds) rfl (HO6.out.alloc _) ⟨w6.heap.size, 0, none⟩ 1 1 [.complex .f32 m m'] rfl rfl (World.news_of_block (cs := #[.complex .f32 m m']) (t := 27) (fr := (0, 0)) (heap_alloc_new w6 _)) (by simp [Value.oneCell']) (by omega) (by unfold maxLen; omega) (by omega) (by have := HE6.out.size; simp; omega) _ rfl ?_
      intro g2 c2 w8 hown8 hgrow hat8 hlt8
      have hgl := HO6.out.lt
      have HE8 := Lib.hid (Ext.grown (Ext.trans HE6.out (Ext.alloc' (Ext.rfl' w6) _)) hgrow (fun k hk => (hgl k hk).1))
      have HO8 := Lib.hid hown8
      clear hown8 hgrow hat8 hlt8 hgl hn10
      have hk1 : IntKind.i64.wrap ((k : Int) + 1) = ((k + 1 : Nat) : Int) := by have := HN9.out; rw [IntWalk.i64_in _ (by omega)]; omega
      go_wp2_with fail
      exact ⟨⟨k + 1, g2, c2, ds ++ [(m, m')], by omega, by go_num, rfl, by rw [cpxB_append]; exact HO8.out, by rw [List.length_append, HDS.out]; rfl, HNN.out, HE8.out⟩, by simp [intOf]; omega⟩
    · have hkn : n = k := by omega
      subst hkn
      have hkn2 : ¬ ((n : Nat) : Int) < (n : Int) := by omega
      go_wp2_with fail
      have HG := Lib.hid (HL.out wr (some ⟨gg, 0, none⟩) ds (lies_of_owns HOW.out).1 HDS.out HND.out)
      refine (toldPlate_V _ cq n ds _ _ _ _ HG.out).mono ?_
      rintro e' w8 ⟨he8, rfl⟩
      have HF8 := Lib.hid (HG.out.ext he8)
      have HE8 := Lib.hid (Ext.trans HE2.out (Ext.trans HE.out he8))
      have HB8 := Lib.hid (HR2.out.ext (Ext.trans HE.out he8))
      clear he8 HOW
      have d0 : w8.cell? ⟨w.heap.size + 1, 0, none⟩ = some (.slice none 0 0) := HB8.out.cell 0
      have f0 := HB8.out.frozen 0
      go_wp2_with fail
      have HF9 := Lib.hid (HF8.out.lies.set_plate (off := 0) (u := .slice (some ⟨gg, 0, none⟩) n cq) HB8.out)
      have HB9 := Lib.hid (HB8.out.set_ 0 (.slice (some ⟨gg, 0, none⟩) n cq))
      have HE9 := Lib.hid (Ext.setCell_at HE8.out (w.heap.size + 1) 0 (.slice (some ⟨gg, 0, none⟩) n cq) (Nat.le_succ _))
      have HG9 := Lib.hid (HL.out _ _ _ HF9.out HF8.out.len HF8.out.near)
      generalize w8.setCell ⟨w.heap.size + 1, 0, none⟩ (.slice (some ⟨gg, 0, none⟩) n cq) = W9 at *
      have q0 : W9.cell? ⟨w.heap.size + 1, 0, none⟩ = some (.slice (some ⟨gg, 0, none⟩) n cq) := HB9.out.cell 0
      exact bodyPost_ret (v := .tuple #[.agg #[.slice (some ⟨gg, 0, none⟩) n cq], .bool true]) (by simp [results, Try.results62, go_sem, q0]) rfl ⟨HE9.out, gg, cq, ds, rfl, HG9.out⟩
end Go.Proofs.Ytfehhbmmdbpdpaa
/- Walks: TurnPlate. -/
namespace Go.Proofs.Ytfehhbmmdbpdpaa
open Go Go.RowKit
set_option linter.unusedVariables false
set_option linter.unusedSimpArgs false
attribute [local go_sem] run_store_float run_store_complex

theorem turned_near {Q C S a b c d c' d' R : Rat} (hQ : Q.abs ≤ 3 / 2) (hC : C.abs ≤ 10001 / 10000) (hS : S.abs ≤ 10001 / 10000) (hc : (c - c').abs ≤ 1 / 8388608) (hd : (d - d').abs ≤ 1 / 8388608) (hc' : c'.abs ≤ 10001 / 10000) (hd' : d'.abs ≤ 10001 / 10000)
    (ha : (a - Q * C).abs ≤ 1 / 400000) (hb : (b - Q * S).abs ≤ 1 / 400000) (hR : (R - (a * c - b * d)).abs ≤ 1 / 1000000) (h1 : (C * c' - S * d' - 1).abs ≤ 1 / 100000000) : (R - Q * 1).abs ≤ 1 / 100000 := by
  have g1 := near_mul ha hc (prod_abs hQ hC) (unit_absA hc hc')
  have g2 := near_mul hb hd (prod_abs hQ hS) (unit_absA hd hd')
  have g3 := mul_abs_le hQ h1
  have e : Q * (C * c' - S * d' - 1) = Q * C * c' - Q * S * d' - Q * 1 := by grind
  rw [e] at g3
  have k1 := abs_le.1 g1
  have k2 := abs_le.1 g2
  have k3 := abs_le.1 g3
  have k4 := abs_le.1 hR
  exact abs_le.2 ⟨by grind, by grind⟩
theorem turned_nearI {Q C S a b c d c' d' R : Rat} (hQ : Q.abs ≤ 3 / 2) (hC : C.abs ≤ 10001 / 10000) (hS : S.abs ≤ 10001 / 10000) (hc : (c - c').abs ≤ 1 / 8388608) (hd : (d - d').abs ≤ 1 / 8388608) (hc' : c'.abs ≤ 10001 / 10000) (hd' : d'.abs ≤ 10001 / 10000)
    (ha : (a - Q * C).abs ≤ 1 / 400000) (hb : (b - Q * S).abs ≤ 1 / 400000) (hR : (R - (a * d + b * c)).abs ≤ 1 / 1000000) (h1 : (C * d' + S * c').abs ≤ 1 / 100000000) : (R - Q * 0).abs ≤ 1 / 100000 := by
  have g1 := near_mul ha hd (prod_abs hQ hC) (unit_absA hd hd')
  have g2 := near_mul hb hc (prod_abs hQ hS) (unit_absA hc hc')
  have g3 := mul_abs_le hQ h1
  have e : Q * (C * d' + S * c') = Q * C * d' + Q * S * c' := by grind
  rw [e] at g3
  have k1 := abs_le.1 g1
  have k2 := abs_le.1 g2
  have k3 := abs_le.1 g3
  have k4 := abs_le.1 hR
  exact abs_le.2 ⟨by grind, by grind⟩
theorem near_four {a Q C : Rat} (hQ : Q.abs ≤ 3 / 2) (hC : C.abs ≤ 10001 / 10000) (ha : (a - Q * C).abs ≤ 1 / 400000) : a.abs ≤ 4 := by
  have g := prod_abs hQ hC
  have k1 := abs_le.1 g
  have k2 := abs_le.1 ha
  exact abs_le.2 ⟨by grind, by grind⟩
set_option maxRecDepth 100000 in
set_option maxHeartbeats 1600000 in
theorem TurnPlate_V {n cap sb yb : Nat} {L C S : Rat} (A : Option Addr) (cs : List (Nat × Nat)) (w : World) (hn : 0 < n) (h8 : n ≤ 9) (hl : 1 / 4 ≤ L) (h3 : L ≤ 3) (hC : C.abs ≤ 10001 / 10000) (hS : S.abs ≤ 10001 / 10000) (hF : Flat w A cs (n + 1) (fun k => L * share k n * C) (fun k => L * share k n * S) (1 / 400000))
    (hs : Num sb) (hwd : ∀ w, (convert 34 52 (.float .f32 sb)).run Try.prog w = .ok (.float .f64 yb) w) (hk : OkT yb) (hab : absSmall yb = true)
    (hr : (C * valQ (rotC yb) - S * valQ (rotS yb) - 1).abs ≤ 1 / 100000000) (hi : (C * valQ (rotS yb) + S * valQ (rotC yb)).abs ≤ 1 / 100000000) :
    Calls Try.prog 26 #[.agg #[.slice A (n + 1) cap], .float .f32 sb] w fun e w' => Ext w w' ∧ ∃ g c ds, e = .returned (.tuple #[.agg #[.slice (some ⟨g, 0, none⟩) (n + 1) c], .bool true]) ∧ Flat w' (some ⟨g, 0, none⟩) ds (n + 1) (fun k => L * share k n * 1) (fun k => L * share k n * 0) (1 / 100000) := by
  have HS := Lib.hid hs
  have HK := Lib.hid hk
  have HAB := Lib.hid hab
  have HF := Lib.hid hF
  have HX := Lib.hid (show 0 < n ∧ n ≤ 9 ∧ 1 / 4 ≤ L ∧ L ≤ 3 ∧ C.abs ≤ 10001 / 10000 ∧ S.abs ≤ 10001 / 10000 ∧ _ ∧ _ from ⟨hn, h8, hl, h3, hC, hS, hr, hi⟩)
  have HB0 := Lib.hid (Blk.new w 58 #[.slice A (n + 1) cap])
  have hz0 : (w.alloc (.cells #[.slice A (n + 1) cap] 58)).heap.size = w.heap.size + 1 := by simp
  have HR1 := Lib.hid (show Blk ((w.alloc (.cells #[.slice A (n + 1) cap] 58)).alloc (.cells #[.slice none 0 0] 58)) (w.heap.size + 1) 58 #[.slice none 0 0] by
    have := Blk.new (w.alloc (.cells #[.slice A (n + 1) cap] 58)) 58 #[.slice none 0 0]
    rwa [hz0] at this)
  have HE1 := Lib.hid (show Ext w ((w.alloc (.cells #[.slice A (n + 1) cap] 58)).alloc (.cells #[.slice none 0 0] 58)) by (repeat first | with_reducible exact Ext.rfl' _ | with_reducible refine Ext.drewN ?_ _ | with_reducible refine Ext.drew' ?_ | with_reducible refine Ext.alloc' ?_ _ | with_reducible refine Ext.setCell_at ?_ _ _ _ (by first | exact Nat.le_refl _ | omega) | with_reducible assumption | refine Ext.trans ?_ (by with_reducible assumption)))
  have HB1 := Lib.hid (HB0.out.ext (show Ext (w.alloc (.cells #[.slice A (n + 1) cap] 58)) ((w.alloc (.cells #[.slice A (n + 1) cap] 58)).alloc (.cells #[.slice none 0 0] 58)) by (repeat first | with_reducible exact Ext.rfl' _ | with_reducible refine Ext.drewN ?_ _ | with_reducible refine Ext.drew' ?_ | with_reducible refine Ext.alloc' ?_ _ | with_reducible refine Ext.setCell_at ?_ _ _ _ (by first | exact Nat.le_refl _ | omega) | with_reducible assumption | refine Ext.trans ?_ (by with_reducible assumption))))
  clear hz0 HB0 hF hs hk hab hn h8 hl h3 hC hS hr hi
  go_enter Try.func26, Try.ntmps26
  go_wp2_with fail
  generalize ((w.alloc (.cells #[.slice A (n + 1) cap] 58)).alloc (.cells #[.slice none 0 0] 58)) = W1 at *
  refine (IsFinite_V HS.out _).mono ?_
  rintro e' w4 ⟨he4, rfl⟩
  have HE4 := Lib.hid (Ext.trans HE1.out he4)
  have HB4 := Lib.hid (HB1.out.ext he4)
  have HR4 := Lib.hid (HR1.out.ext he4)
  clear he4
  go_wp2_with fail
  refine (PhasorOf_V HK.out HAB.out _).mono ?_
  rintro e' w5 ⟨he5, pm, pn, c, d, rfl, c1, c2, c3, c4⟩
  have HC := Lib.hid (show Val .f32 pm c ∧ Val .f32 pn d ∧ _ ∧ _ from ⟨c1, c2, c3, c4⟩)
  have HE5 := Lib.hid (Ext.trans HE4.out he5)
  have HB5 := Lib.hid (HB4.out.ext he5)
  have HR5 := Lib.hid (HR4.out.ext he5)
  have HB6 := Lib.hid (HB5.out.ext (show Ext w5 (w5.alloc (.cells #[.complex .f32 pm pn] 27)) by (repeat first | with_reducible exact Ext.rfl' _ | with_reducible refine Ext.drewN ?_ _ | with_reducible refine Ext.drew' ?_ | with_reducible refine Ext.alloc' ?_ _ | with_reducible refine Ext.setCell_at ?_ _ _ _ (by first | exact Nat.le_refl _ | omega) | with_reducible assumption | refine Ext.trans ?_ (by with_reducible assumption))))
  have d0 : (w5.alloc (.cells #[.complex .f32 pm pn] 27)).cell? ⟨w.heap.size, 0, none⟩ = some (.slice A (n + 1) cap) := HB6.out.cell 0
  have d00 : w5.cell? ⟨w.heap.size, 0, none⟩ = some (.slice A (n + 1) cap) := HB5.out.cell 0
  have hbw : w.heap.size < w5.heap.size := HB5.out.lt
  clear he5 c1 c2 c3 c4
  go_wp2_with fail
  have HP := Lib.hid (Blk.new w5 27 #[.complex .f32 pm pn])
  have HE6 := Lib.hid (show Ext w (w5.alloc (.cells #[.complex .f32 pm pn] 27)) by have := HE5.out; (repeat first | with_reducible exact Ext.rfl' _ | with_reducible refine Ext.drewN ?_ _ | with_reducible refine Ext.drew' ?_ | with_reducible refine Ext.alloc' ?_ _ | with_reducible refine Ext.setCell_at ?_ _ _ _ (by first | exact Nat.le_refl _ | omega) | with_reducible assumption | refine Ext.trans ?_ (by with_reducible assumption)))
  have HR6 := Lib.hid (HR5.out.ext (show Ext w5 (w5.alloc (.cells #[.complex .f32 pm pn] 27)) by (repeat first | with_reducible exact Ext.rfl' _ | with_reducible refine Ext.drewN ?_ _ | with_reducible refine Ext.drew' ?_ | with_reducible refine Ext.alloc' ?_ _ | with_reducible refine Ext.setCell_at ?_ _ _ _ (by first | exact Nat.le_refl _ | omega) | with_reducible assumption | refine Ext.trans ?_ (by with_reducible assumption))))
  clear d0 d00 hbw
  generalize (w5.alloc (.cells #[.complex .f32 pm pn] 27)) = W6 at *
  generalize w5.heap.size = g5 at *
  refine (recorn_V (some ⟨g5, 0, none⟩) A cap (n + 1) cs _ _ (fun k => L * share k n * 1) (fun k => L * share k n * 0) _ (1 / 100000) W6 (HF.out.ext HE6.out) (fun k cc R I w' hkn he hR hI h1 h2 => by
    obtain ⟨c1, c2, c3, c4⟩ := HC.out
    obtain ⟨x1, x2, x3, x4, x5, x6, x7, x8⟩ := HX.out
    have a0 := share_abs (k := k) (n := n) (by grind : 0 ≤ L) x4 (by omega) x1
    refine (turn_V w' (HP.out.ext he) hR hI c1 c2 (near_four a0 x5 h1) (near_four a0 x6 h2) (unit_abs c3 HK.out.bc) (unit_abs c4 HK.out.bs)).mono ?_
    rintro e'' w'' ⟨h3, m, m', R', I', h4, h5, h6, h7, h8⟩
    exact ⟨h3, m, m', R', I', h4, h5, h6, turned_near a0 x5 x6 c3 c4 HK.out.bc HK.out.bs h1 h2 h7 x7, turned_nearI a0 x5 x6 c3 c4 HK.out.bc HK.out.bs h1 h2 h8 x8⟩) (fun w' A' ds hl hlen hnear => by
    obtain ⟨x1, x2, x3, x4, x5, x6, x7, x8⟩ := HX.out
    exact flat_flatE hl hlen x1 x2 x3 x4 (by decide +kernel) (by decide +kernel) (by decide +kernel) (by decide +kernel) (by decide +kernel) hnear)).mono ?_
  rintro e' w8 ⟨he8, g7, cap7, ds, rfl, hf8⟩
  have HF8 := Lib.hid hf8
  have HE8 := Lib.hid (Ext.trans HE6.out he8)
  have HB8 := Lib.hid (HR6.out.ext he8)
  clear he8 hf8
  have d0 : w8.cell? ⟨w.heap.size + 1, 0, none⟩ = some (.slice none 0 0) := HB8.out.cell 0
  have f0 := HB8.out.frozen 0
  go_wp2_with fail
  have HF9 := Lib.hid (HF8.out.lies.set_plate (off := 0) (u := .slice (some ⟨g7, 0, none⟩) (n + 1) cap7) HB8.out)
  have HB9 := Lib.hid (HB8.out.set_ 0 (.slice (some ⟨g7, 0, none⟩) (n + 1) cap7))
  have HE9 := Lib.hid (Ext.setCell_at HE8.out (w.heap.size + 1) 0 (.slice (some ⟨g7, 0, none⟩) (n + 1) cap7) (Nat.le_succ _))
  have HG := Lib.hid (show Flat (w8.setCell ⟨w.heap.size + 1, 0, none⟩ (.slice (some ⟨g7, 0, none⟩) (n + 1) cap7)) (some ⟨g7, 0, none⟩) ds (n + 1) _ _ (1 / 100000) from ⟨HF9.out, HF8.out.len, HF8.out.n2, HF8.out.n9, HF8.out.near, HF8.out.small, HF8.out.nonneg, HF8.out.bound, HF8.out.far⟩)
  generalize w8.setCell ⟨w.heap.size + 1, 0, none⟩ (.slice (some ⟨g7, 0, none⟩) (n + 1) cap7) = W9 at *
  have q0 : W9.cell? ⟨w.heap.size + 1, 0, none⟩ = some (.slice (some ⟨g7, 0, none⟩) (n + 1) cap7) := HB9.out.cell 0
  exact bodyPost_ret (v := .tuple #[.agg #[.slice (some ⟨g7, 0, none⟩) (n + 1) cap7], .bool true]) (by simp [results, Try.results26, go_sem, q0]) rfl ⟨HE9.out, g7, cap7, ds, rfl, HG.out⟩
end Go.Proofs.Ytfehhbmmdbpdpaa
/- Walks: PlateLong. -/
namespace Go.Proofs.Ytfehhbmmdbpdpaa
open Go Go.RowKit
set_option linter.unusedVariables false
set_option linter.unusedSimpArgs false
attribute [local go_sem] run_store_float run_store_complex

theorem root_near {D d t : Rat} (h0 : 0 ≤ D) (hd : 0 < d) (h : (D * D - d * d).abs ≤ t * d) : (D - d).abs ≤ t := by
  have e : D * D - d * d = (D - d) * (D + d) := by grind
  rw [e, abs_mul] at h
  have hp : 0 ≤ D + d := by grind
  rw [Rat.abs_of_nonneg hp] at h
  have h1 : (D - d).abs * d ≤ (D - d).abs * (D + d) := Rat.mul_le_mul_of_nonneg_left (by grind) Rat.abs_nonneg
  exact Rat.le_of_mul_le_mul_right (Rat.le_trans h1 h) hd
theorem sq_near {a d C : Rat} (hd : 0 ≤ d) (hC : C.abs ≤ 10001 / 10000) (ha : (a - d * C).abs ≤ 1 / 190000) : (a * a - d * C * (d * C)).abs ≤ 1 / 190000 * (d * (10001 / 10000) + 1 / 190000) + d * (10001 / 10000) * (1 / 190000) := by
  have h1 : (d * C).abs ≤ d * (10001 / 10000) := by
    rw [abs_mul, Rat.abs_of_nonneg hd]
    exact Rat.mul_le_mul_of_nonneg_left hC hd
  have h2 : a.abs ≤ d * (10001 / 10000) + 1 / 190000 := by
    have k1 := abs_le.1 h1
    have k2 := abs_le.1 ha
    exact abs_le.2 ⟨by grind, by grind⟩
  exact near_mul ha ha h1 h2
theorem sum_near {a b d C S : Rat} (hd : 1 / 36 ≤ d) (h3 : d ≤ 3) (hC : C.abs ≤ 10001 / 10000) (hS : S.abs ≤ 10001 / 10000) (ho : (C * C + S * S - 1).abs ≤ 1 / 100000000) (ha : (a - d * C).abs ≤ 1 / 190000) (hb : (b - d * S).abs ≤ 1 / 190000) :
    (a * a + b * b - d * d).abs ≤ 22 / 1000000 * d := by
  have d0 : 0 ≤ d := by grind
  have h1 := sq_near d0 hC ha
  have h2 := sq_near d0 hS hb
  have h4 : (d * d * (C * C + S * S - 1)).abs ≤ d * 3 * (1 / 100000000) := by
    rw [abs_mul]
    have h5 : (d * d).abs ≤ d * 3 := by
      rw [Rat.abs_of_nonneg (Rat.mul_nonneg d0 d0)]
      exact Rat.mul_le_mul_of_nonneg_left h3 d0
    have h6 : (d * d).abs * (C * C + S * S - 1).abs ≤ (d * d).abs * (1 / 100000000) := Rat.mul_le_mul_of_nonneg_left ho Rat.abs_nonneg
    have h7 : (d * d).abs * (1 / 100000000) ≤ d * 3 * (1 / 100000000) := Rat.mul_le_mul_of_nonneg_right h5 (by decide +kernel)
    exact Rat.le_trans h6 h7
  have e : d * d * (C * C + S * S - 1) = d * C * (d * C) + d * S * (d * S) - d * d := by grind
  rw [e] at h4
  have k1 := abs_le.1 h1
  have k2 := abs_le.1 h2
  have k4 := abs_le.1 h4
  exact abs_le.2 ⟨by grind, by grind⟩
theorem long_near {a b d C S u : Rat} (hL : Long a b u) (hd : 1 / 36 ≤ d) (h3 : d ≤ 3) (hC : C.abs ≤ 10001 / 10000) (hS : S.abs ≤ 10001 / 10000) (ho : (C * C + S * S - 1).abs ≤ 1 / 100000000) (ha : (a - d * C).abs ≤ 1 / 190000) (hb : (b - d * S).abs ≤ 1 / 190000) :
    (u - d).abs ≤ 1 / 30000 := by
  obtain ⟨D, g0, g1, g2⟩ := hL
  have h := sum_near hd h3 hC hS ho ha hb
  have k1 := abs_le.1 h
  have k2 := abs_le.1 g1
  have h4 : (D * D - d * d).abs ≤ 23 / 1000000 * d := abs_le.2 ⟨by grind, by grind⟩
  have h5 := root_near g0 (by grind) h4
  have k5 := abs_le.1 h5
  have k6 := abs_le.1 g2
  exact abs_le.2 ⟨by grind, by grind⟩
theorem panel_near {a L C e : Rat} {n k : Nat} (hn : 0 < n) (he : e ≤ 1 / 400000) (h : (a - (L * share (k + 1) n * C - L * share k n * C)).abs ≤ 2 * e + 1 / 4194304) : (a - L * (1 / (n : Rat)) * C).abs ≤ 1 / 190000 := by
  have e1 : L * share (k + 1) n * C - L * share k n * C = L * (share (k + 1) n - share k n) * C := by grind
  rw [e1, share_step k n hn] at h
  have k1 := abs_le.1 h
  exact abs_le.2 ⟨by grind, by grind⟩
theorem part_bound {L : Rat} {n : Nat} (hn : 0 < n) (h9 : n ≤ 9) (hl : 1 / 4 ≤ L) (h3 : L ≤ 3) : 1 / 36 ≤ L * (1 / (n : Rat)) ∧ L * (1 / (n : Rat)) ≤ 3 ∧ (n : Rat) * (L * (1 / (n : Rat))) = L := by
  have hi := inv_bound hn h9
  have hnp : (0 : Rat) < (n : Rat) := Rat.natCast_pos.2 hn
  have hm : (n : Rat) * (1 / (n : Rat)) = 1 := by
    rw [Rat.mul_comm]
    exact Rat.div_mul_cancel (Rat.ne_of_gt hnp)
  have h1 : (1 : Rat) / (n : Rat) ≤ 1 := by
    rcases (show n = 1 ∨ n = 2 ∨ n = 3 ∨ n = 4 ∨ n = 5 ∨ n = 6 ∨ n = 7 ∨ n = 8 ∨ n = 9 by omega) with rfl | rfl | rfl | rfl | rfl | rfl | rfl | rfl | rfl <;> decide +kernel
  have h0 : (0 : Rat) ≤ L := by grind
  have a1 : (1 / 4 : Rat) * (1 / (n : Rat)) ≤ L * (1 / (n : Rat)) := Rat.mul_le_mul_of_nonneg_right hl (by grind)
  have a2 : L * (1 / (n : Rat)) ≤ L * 1 := Rat.mul_le_mul_of_nonneg_left h1 h0
  refine ⟨by grind, by grind, ?_⟩
  have e : (n : Rat) * (L * (1 / (n : Rat))) = L * ((n : Rat) * (1 / (n : Rat))) := by grind
  rw [e, hm]
  grind
theorem all_step {k n : Nat} {t s : Nat} {T u d L : Rat} (ht : Val .f32 t T) (hs : Val .f32 s u) (hd : 0 ≤ d) (hnd : (n : Rat) * d = L) (h3 : L ≤ 3) (hk : k < n) (h9 : n ≤ 9) (hT : (T - (k : Rat) * d).abs ≤ (k : Rat) / 29000) (hu : (u - d).abs ≤ 1 / 30000) :
    ∃ r R, floatBits .add .f32 t s = some r ∧ Val .f32 r R ∧ (R - ((k + 1 : Nat) : Rat) * d).abs ≤ ((k + 1 : Nat) : Rat) / 29000 := by
  have e : ((k + 1 : Nat) : Rat) = (k : Rat) + 1 := by push_cast; rfl
  have c1 : (k : Rat) + 1 ≤ (n : Rat) := by rw [← e]; exact Rat.natCast_le_natCast.2 hk
  have c2 : ((k : Rat) + 1) * d ≤ (n : Rat) * d := Rat.mul_le_mul_of_nonneg_right c1 hd
  have c3 : (n : Rat) ≤ 9 := by
    have : ((9 : Nat) : Rat) = 9 := rfl
    rw [← this]
    exact Rat.natCast_le_natCast.2 h9
  have c4 : (0 : Rat) ≤ (k : Rat) := Rat.natCast_nonneg
  have c5 : 0 ≤ (k : Rat) * d := Rat.mul_nonneg c4 hd
  have e2 : pw 2 = 4 := by decide +kernel
  have e3 : pw (2 - eps .f32) = 1 / 4194304 := by decide +kernel
  have k1 := abs_le.1 hT
  have k2 := abs_le.1 hu
  have k0 : ((k : Rat) + 1) * d = (k : Rat) * d + d := by grind
  obtain ⟨r, R, r1, r2, r3, -⟩ := val_add ht hs 2 (by rw [e2]; exact abs_le.2 ⟨by grind, by grind⟩) (by decide) (by decide)
  rw [e3] at r3
  have k3 := abs_le.1 r3
  refine ⟨r, R, r1, r2, ?_⟩
  rw [e, k0]
  exact abs_le.2 ⟨by grind, by grind⟩
set_option maxRecDepth 100000 in
set_option maxHeartbeats 1600000 in
theorem PlateLong_V {n cap : Nat} {L C S : Rat} (A : Option Addr) (cs : List (Nat × Nat)) (w : World) (hn : 0 < n) (h8 : n ≤ 9) (hl : 1 / 4 ≤ L) (h3 : L ≤ 3) (hC : C.abs ≤ 10001 / 10000) (hS : S.abs ≤ 10001 / 10000) (ho : (C * C + S * S - 1).abs ≤ 1 / 100000000) (hF : Flat w A cs (n + 1) (fun k => L * share k n * C) (fun k => L * share k n * S) (1 / 400000)) :
    Calls Try.prog 25 #[.agg #[.slice A (n + 1) cap]] w fun e w' => Ext w w' ∧ ∃ t T, e = .returned (.tuple #[.float .f32 t, .bool true]) ∧ Val .f32 t T ∧ (T - L).abs ≤ 1 / 2000 := by
  have HF := Lib.hid hF
  obtain ⟨p1, p2, p3⟩ := part_bound hn h8 hl h3
  have HX := Lib.hid (And.intro hn (And.intro h8 (And.intro p1 (And.intro h3 (And.intro hC (And.intro hS (And.intro ho (And.intro p2 p3))))))))
  have HB0 := Lib.hid (Blk.new w 58 #[.slice A (n + 1) cap])
  have HE1 := Lib.hid (show Ext w (w.alloc (.cells #[.slice A (n + 1) cap] 58)) by (repeat first | with_reducible exact Ext.rfl' _ | with_reducible refine Ext.drewN ?_ _ | with_reducible refine Ext.drew' ?_ | with_reducible refine Ext.alloc' ?_ _ | with_reducible refine Ext.setCell_at ?_ _ _ _ (by first | exact Nat.le_refl _ | omega) | with_reducible assumption | refine Ext.trans ?_ (by with_reducible assumption)))
  have d0 : (w.alloc (.cells #[.slice A (n + 1) cap] 58)).cell? ⟨w.heap.size, 0, none⟩ = some (.slice A (n + 1) cap) := HB0.out.cell 0
  clear hF hn h8 hl h3 hC hS ho p1 p2 p3
  go_enter Try.func25, Try.ntmps25
  go_wp2_with fail
  generalize (w.alloc (.cells #[.slice A (n + 1) cap] 58)) = W1 at *
  refine (ValidPlate_V A cap (n + 1) cs _ _ _ _ (HF.out.ext HE1.out)).mono ?_
  rintro e' w2 ⟨he, rfl⟩
  have HE2 := Lib.hid (Ext.trans HE1.out he)
  have HB2 := Lib.hid (HB0.out.ext he)
  clear he d0
  go_wp2_with fail
  refine (panels_V w.heap.size A cap (n + 1) cs _ _ _ _ HB2.out (HF.out.lies.ext HE2.out) HF.out.len (by omega) (by have := HF.out.n9; omega) HF.out.near (fun i hi => by
    obtain ⟨b1, b2⟩ := HF.out.bound i hi
    have := HF.out.small
    exact ⟨by grind, by grind⟩)).mono ?_
  rintro e' w3 ⟨he, g', c', ds, rfl, hl, hds, hnd⟩
  generalize (some ⟨g', 0, none⟩ : Option Addr) = Ag at *
  rw [show n + 1 - 1 = n by omega] at hds
  have hsl : n + 1 - 1 = n := by omega
  have HE3 := Lib.hid (Ext.trans HE2.out he)
  have HL3 := Lib.hid hl
  have HD3 := Lib.hid hds
  have HN3 := Lib.hid hnd
  clear he hl hds hnd
  go_wp2_with fail
  go_loopw [4, 12] (fun v i wr => ∃ (k t : Nat) (T : Rat), k ≤ n ∧ i = .int .i64 k ∧ v = .float .f32 t ∧ Val .f32 t T ∧ (T - (k : Rat) * (L * (1 / (n : Rat)))).abs ≤ (k : Rat) / 29000 ∧ Ext w3 wr) (fun _ i _ => n - (intOf i).toNat)
  case atStart => exact ⟨0, 0, 0, by omega, rfl, rfl, num_zero, (by rw [show ((0 : Nat) : Rat) = 0 from rfl, Rat.zero_mul]; decide +kernel), Ext.rfl' _⟩
  case round =>
    obtain ⟨k, t, T, hk, rfl, rfl, hT, hTd, hbel⟩ := hrel
    have HT := Lib.hid (show Val .f32 t T ∧ _ from ⟨hT, hTd⟩)
    have HE := Lib.hid hbel
    clear hT hTd hbel
    by_cases hlt : k < n
    · obtain ⟨c0, hc0⟩ : ∃ c, ds[k]? = some c := ⟨ds[k]'(by have := HD3.out; omega), List.getElem?_eq_getElem _⟩
      obtain ⟨b, o, rfl, hbw2, hcc⟩ := HL3.out.cell (by rw [cpxB_len, HD3.out]; omega)
      have e0 := (HE.out.cell (p := ⟨b, o + k, none⟩) hbw2).trans (hcc _ _ (cpxB_at hc0))
      obtain ⟨R0, I0, v0, u0, s0, t0⟩ := HN3.out k c0 hc0
      have HV := Lib.hid (show _ ∧ _ ∧ _ ∧ _ from ⟨v0, u0, s0, t0⟩)
      have hkn : (k : Int) < (n : Int) := by omega
      have hk0 : (0 : Int) ≤ (k : Int) := by omega
      clear hcc hc0 v0 u0 s0 t0
      go_wp2_with fail
      obtain ⟨v0, u0, s0, t0⟩ := HV.out
      obtain ⟨x1, x2, x3, x4, x5, x6, x7, x8, x9⟩ := HX.out
      have y0 := panel_near x1 (Rat.le_refl) s0
      have y1 := panel_near x1 (Rat.le_refl) t0
      refine (LongOf_V v0 u0 (near_abs (e := 2 * (1 / 400000) + 1 / 4194304) s0 (by
          have b1 := (HF.out.bound k (by omega)).1
          have b2 := (HF.out.bound (k + 1) (by omega)).1
          have := diff_abs b2 b1
          grind)) (near_abs (e := 2 * (1 / 400000) + 1 / 4194304) t0 (by
          have b1 := (HF.out.bound k (by omega)).2
          have b2 := (HF.out.bound (k + 1) (by omega)).2
          have := diff_abs b2 b1
          grind)) _).mono ?_
      rintro e' w6 ⟨rfl, s, u, rfl, hu, hlong⟩
      obtain ⟨r, R, r1, r2, r3⟩ := all_step HT.out.1 hu (by grind) x9 x4 hlt x2 HT.out.2 (long_near hlong x3 x8 x5 x6 x7 y0 y1)
      have HR := Lib.hid (show Val .f32 r R ∧ _ from ⟨r2, r3⟩)
      have HN9 := Lib.hid x2
      clear v0 u0 s0 t0 x1 x2 x3 x4 x5 x6 x7 x8 x9 y0 y1 hu hlong r2 r3
      have hk1 : IntKind.i64.wrap ((k : Int) + 1) = ((k + 1 : Nat) : Int) := by have := HN9.out; rw [IntWalk.i64_in _ (by omega)]; omega
      go_wp2_with (refine wpList_floatD rfl .add _ _ _ _ rfl (by simp) _ _ _ rfl rfl _ r1 ?_)
      exact ⟨⟨k + 1, r, R, by omega, by go_num, rfl, HR.out.1, HR.out.2, HE.out⟩, by simp [intOf]; omega⟩
    · have hkn : n = k := by omega
      subst hkn
      have hkn2 : ¬ ((n : Nat) : Int) < (n : Int) := by omega
      go_wp2_with fail
      refine (toldNumber_V ⟨T, HT.out.1⟩ _).mono ?_
      rintro e' w8 ⟨he8, rfl⟩
      have HE8 := Lib.hid (Ext.trans HE3.out (Ext.trans HE.out he8))
      clear he8
      go_wp2_with fail
      go_ret2
      refine ⟨HE8.out, t, T, rfl, HT.out.1, ?_⟩
      obtain ⟨x1, x2, x3, x4, x5, x6, x7, x8, x9⟩ := HX.out
      have h := HT.out.2
      rw [x9] at h
      have c3 : (n : Rat) ≤ 9 := by
        have : ((9 : Nat) : Rat) = 9 := rfl
        rw [← this]
        exact Rat.natCast_le_natCast.2 x2
      have k1 := abs_le.1 h
      exact abs_le.2 ⟨by grind, by grind⟩
end Go.Proofs.Ytfehhbmmdbpdpaa
/- Walks: points along the panels of a plate. -/
namespace Go.Proofs.Ytfehhbmmdbpdpaa
open Go Go.RowKit
set_option linter.unusedVariables false
set_option linter.unusedSimpArgs false
attribute [local go_sem] run_store_float run_store_complex

set_option maxRecDepth 100000 in
theorem Scale_Q {x y s : Nat} {a b c : Rat} (hx : Val .f32 x a) (hy : Val .f32 y b) (hs : Val .f32 s c) (h1 : (a * c).abs ≤ 4) (h2 : (b * c).abs ≤ 4) :
    ∃ m n R I, Val .f32 m R ∧ Val .f32 n I ∧ (R - a * c).abs ≤ 1 / 4194304 ∧ (I - b * c).abs ≤ 1 / 4194304 ∧ ∀ w, Calls Try.prog 90 #[.complex .f32 x y, .float .f32 s] w fun e w' => w' = w ∧ e = .returned (.complex .f32 m n) := by
  have e2 : pw 2 = 4 := by decide +kernel
  have e3 : pw (2 - eps .f32) = 1 / 4194304 := by decide +kernel
  obtain ⟨m, R, m1, m2, m3, -⟩ := val_mul hx hs 2 (by rw [e2]; exact h1) (by decide) (by decide)
  obtain ⟨n, I, n1, n2, n3, -⟩ := val_mul hy hs 2 (by rw [e2]; exact h2) (by decide) (by decide)
  rw [e3] at m3 n3
  refine ⟨m, n, R, I, m2, n2, m3, n3, fun w => ?_⟩
  clear m2 m3 n2 n3 hx hy hs h1 h2 e2 e3
  go_enter Try.func90, Try.ntmps90
  go_wp2_with (first
    | (refine wpList_floatD rfl .mul _ _ _ _ rfl (by simp) _ _ _ rfl rfl _ m1 ?_)
    | (refine wpList_floatD rfl .mul _ _ _ _ rfl (by simp) _ _ _ rfl rfl _ n1 ?_))
  go_ret
  exact ⟨rfl, rfl⟩
theorem add_W {a b c d : Nat} {A B C D : Rat} (ha : Val .f32 a A) (hb : Val .f32 b B) (hc : Val .f32 c C) (hd : Val .f32 d D) (h1 : A.abs ≤ 2) (h2 : B.abs ≤ 2) (h3 : C.abs ≤ 5) (h4 : D.abs ≤ 5) :
    ∃ r s R I, (∀ w, (binOp .add 27 (.complex .f32 a b) (.complex .f32 c d)).run Try.prog w = .ok (.complex .f32 r s) w) ∧ Val .f32 r R ∧ Val .f32 s I ∧ (R - (A + C)).abs ≤ 1 / 2097152 ∧ (I - (B + D)).abs ≤ 1 / 2097152 := by
  have e2 : pw 3 = 8 := by decide +kernel
  have e3 : pw (3 - eps .f32) = 1 / 2097152 := by decide +kernel
  have k1 := abs_le.1 h1
  have k2 := abs_le.1 h2
  have k3 := abs_le.1 h3
  have k4 := abs_le.1 h4
  obtain ⟨r, R, r1, r2, r3, -⟩ := val_add ha hc 3 (by rw [e2]; exact abs_le.2 ⟨by grind, by grind⟩) (by decide) (by decide)
  obtain ⟨s, I, s1, s2, s3, -⟩ := val_add hb hd 3 (by rw [e2]; exact abs_le.2 ⟨by grind, by grind⟩) (by decide) (by decide)
  rw [e3] at r3 s3
  exact ⟨r, s, R, I, fun w => run_complex_arith Try.prog .add (.inl rfl) 27 .f32 _ _ _ _ _ _ r1 s1 w, r2, s2, r3, s3⟩
theorem share_four {a σ : Rat} (ha : a.abs ≤ 4) (h0 : 0 ≤ σ) (h1 : σ ≤ 1) : (a * σ).abs ≤ 4 := by
  have hs : σ.abs ≤ 1 := by rw [Rat.abs_of_nonneg h0]; exact h1
  have h := mul_abs_le ha hs
  grind
theorem along_near {c x a p σ s r e : Rat} (he : e ≤ 1 / 100000) (h0 : 0 ≤ σ) (h1 : σ ≤ 1) (hc : (c - x).abs ≤ e) (ha : (a - p).abs ≤ 2 * e + 1 / 4194304) (hs : (s - a * σ).abs ≤ 1 / 4194304) (hr : (r - (c + s)).abs ≤ 1 / 2097152) : (r - (x + p * σ)).abs ≤ 1 / 20000 := by
  have hσ : σ.abs ≤ 1 := by rw [Rat.abs_of_nonneg h0]; exact h1
  have h := mul_abs_le ha hσ
  have e1 : (a - p) * σ = a * σ - p * σ := by grind
  rw [e1] at h
  have k1 := abs_le.1 hc
  have k2 := abs_le.1 h
  have k3 := abs_le.1 hs
  have k4 := abs_le.1 hr
  exact abs_le.2 ⟨by grind, by grind⟩
theorem four_five {a s : Rat} (h : a.abs ≤ 4) (hs : (s - a).abs ≤ 1 / 4194304) : s.abs ≤ 5 := by
  have k1 := abs_le.1 h
  have k2 := abs_le.1 hs
  exact abs_le.2 ⟨by grind, by grind⟩
theorem flat_panel {w : World} {A : Option Addr} {cs : List (Nat × Nat)} {n k : Nat} {X Y : Nat → Rat} {e : Rat} (hF : Flat w A cs (n + 1) X Y e) (hk : k < n) {a b : Rat} (ha : (a - (X (k + 1) - X k)).abs ≤ 2 * e + 1 / 4194304) (hb : (b - (Y (k + 1) - Y k)).abs ≤ 2 * e + 1 / 4194304) : a.abs ≤ 4 ∧ b.abs ≤ 4 := by
  have b1 := hF.bound k (by omega)
  have b2 := hF.bound (k + 1) (by omega)
  have d1 := diff_abs b2.1 b1.1
  have d2 := diff_abs b2.2 b1.2
  have hs := hF.small
  exact ⟨near_abs ha (by grind), near_abs hb (by grind)⟩
theorem flat_corner {w : World} {A : Option Addr} {cs : List (Nat × Nat)} {n k : Nat} {X Y : Nat → Rat} {e : Rat} (hF : Flat w A cs (n + 1) X Y e) (hk : k < n) {a b : Rat} (ha : (a - X k).abs ≤ e) (hb : (b - Y k).abs ≤ e) : a.abs ≤ 2 ∧ b.abs ≤ 2 := by
  have b1 := hF.bound k (by omega)
  have hs := hF.small
  exact ⟨near_abs ha (by grind), near_abs hb (by grind)⟩
theorem Blk.grown {w1 w2 : World} {b : Nat} {t : TypeId} {cur : Array Value} {row : Option Nat} (h : Blk w1 b t cur) (hg : w1.grownBy w2 row) (hne : row ≠ some b) : Blk w2 b t cur := by
  have hl := h.lt
  unfold Blk at h ⊢
  rw [hg.block b hl (fun e => hne e.symm)]
  exact h
theorem ne_empty {w : World} {b g : Nat} {t t' : TypeId} {cur : Array Value} {v : Value} (h : Blk w b t cur) (h2 : Blk w g t' #[]) (hc : cur[0]? = some v) : g ≠ b := by
  rintro rfl
  unfold Blk at h h2
  rw [h] at h2
  have e : cur = #[] := by
    have h3 := Option.some.inj h2
    injection h3
  rw [e] at hc
  cases hc
set_option maxRecDepth 100000 in
set_option maxHeartbeats 1600000 in
theorem along_V (g : Nat) (A : Option Addr) (cap n : Nat) (cs : List (Nat × Nat)) (X Y : Nat → Rat) (e : Rat) (sb : Nat) (σ : Rat) (w : World) (hb : Blk w g 58 #[.slice A (n + 1) cap]) (hF : Flat w A cs (n + 1) X Y e) (hs : Val .f32 sb σ) (h0 : 0 ≤ σ) (h1 : σ ≤ 1) :
    Calls Try.prog 102 #[.pointer (some ⟨g, 0, none⟩), .float .f32 sb] w fun e' w' => Ext w w' ∧ ∃ g' c' ds, e' = .returned (.slice (some ⟨g', 0, none⟩) n c') ∧ Lies w' 27 (some ⟨g', 0, none⟩) (cpxB ds) ∧ ds.length = n ∧ Near ds (fun i => X i + (X (i + 1) - X i) * σ) (fun i => Y i + (Y (i + 1) - Y i) * σ) (1 / 20000) := by
  obtain ⟨i1, hi1, jz0, jz1, jz2⟩ := parts_of infoCp
  have hz1 : (Value.complex .f32 0 0).cells.size = 1 := by decide
  have HB := Lib.hid hb
  have HF := Lib.hid hF
  have HS := Lib.hid (And.intro hs (And.intro h0 h1))
  have HOWN := Lib.hid (show (w.alloc (.cells #[] 27)).ownsRow w.heap.size 27 1 (.slice (some ⟨w.heap.size, 0, none⟩) 0 0) 0 [] from World.ownsRow_made (base := w.heap.size) (e := 27) (size := 1) w #[] 0 (Nat.le_refl _) (by decide) rfl)
  have HE0 := Lib.hid (show Ext w (w.alloc (.cells #[] 27)) by (repeat first | with_reducible exact Ext.rfl' _ | with_reducible refine Ext.drewN ?_ _ | with_reducible refine Ext.drew' ?_ | with_reducible refine Ext.alloc' ?_ _ | with_reducible refine Ext.setCell_at ?_ _ _ _ (by first | exact Nat.le_refl _ | omega) | with_reducible assumption | refine Ext.trans ?_ (by with_reducible assumption)))
  have HB00 := Lib.hid (Blk.new w 27 #[])
  clear hb hF hs h0 h1
  go_enter Try.func102, Try.ntmps102
  go_wp2_with fail
  generalize w.alloc (.cells #[] 27) = W0 at *
  refine (panels_V g A cap (n + 1) cs _ _ _ _ (HB.out.ext HE0.out) (HF.out.lies.ext HE0.out) HF.out.len (by omega) (by have := HF.out.n9; omega) HF.out.near (fun i hi => by
    obtain ⟨b1, b2⟩ := HF.out.bound i hi
    have := HF.out.small
    exact ⟨by grind, by grind⟩)).mono ?_
  rintro e' w3 ⟨he, g', c', ps, rfl, hl, hds, hnd⟩
  rw [show n + 1 - 1 = n by omega] at hds
  have hsl : n + 1 - 1 = n := by omega
  have hn1 : 1 ≤ n := by have := HF.out.n2; omega
  have hn9 : n ≤ 9 := by have := HF.out.n9; omega
  obtain ⟨b, o, curp, hA, hbk, hcur⟩ := hl (by rw [cpxB_len, hds]; omega)
  obtain ⟨rfl, rfl⟩ : g' = b ∧ 0 = o := by simpa using hA
  have HE3 := Lib.hid (Ext.trans HE0.out he)
  have HC3 := Lib.hid (show ∀ (k : Nat) (c : Nat × Nat), ps[k]? = some c → curp[k]? = some (Value.complex .f32 c.1 c.2) from fun k c hk => by
    have hlk : k < (cpxB ps).length := by
      rw [cpxB_len]
      by_cases hkl : k < ps.length
      · exact hkl
      · rw [List.getElem?_eq_none (by omega)] at hk; cases hk
    have h := hcur k hlk
    rw [Nat.zero_add] at h
    exact h.trans (cpxB_at hk))
  have HNE3 := Lib.hid (show w.heap.size ≠ g' from ne_empty (v := Value.complex .f32 (ps[0]'(by omega)).1 (ps[0]'(by omega)).2) hbk (HB00.out.ext he) (HC3.out 0 _ (List.getElem?_eq_getElem (by omega))))
  have HD3 := Lib.hid hds
  have HN3 := Lib.hid hnd
  have HP3 := Lib.hid hbk
  have HO3 := Lib.hid (HOWN.out.kept (row := none) ⟨he.os, he.tape, he.output, he.size, fun q hq _ => he.block q hq⟩ (.inr (by simp [Value.ownBlock])))
  clear he hl hds hnd HOWN hA hbk hcur HB00
  go_wp2_with fail
  go_loopw [5, 12] (fun v i wr => ∃ (k gg cq : Nat) (ds : List (Nat × Nat)), k ≤ n ∧ i = .int .i64 k ∧ v = .slice (some ⟨gg, 0, none⟩) k cq ∧ wr.ownsRow w.heap.size 27 1 v k (cpxB ds) ∧ ds.length = k ∧ Near ds (fun i => X i + (X (i + 1) - X i) * σ) (fun i => Y i + (Y (i + 1) - Y i) * σ) (1 / 20000) ∧ Ext w wr ∧ Blk wr g' 27 curp ∧ gg ≠ g') (fun _ i _ => n - (intOf i).toNat)
  case atStart => exact ⟨0, w.heap.size, 0, [], by omega, rfl, rfl, HO3.out, rfl, fun i c h => by simp at h, HE3.out, HP3.out, HNE3.out⟩
  case round =>
    obtain ⟨k, gg, cq, ds, hk, rfl, rfl, hown, hds, hnear, hbel, hpb, hne⟩ := hrel
    have HOW := Lib.hid hown
    have HE := Lib.hid hbel
    have HND := Lib.hid hnear
    have HDS := Lib.hid hds
    have HPB := Lib.hid hpb
    have HNE := Lib.hid hne
    clear hown hbel HO3 HE0 hnear hds hpb hne HNE3 HP3
    have hbg := HB.out.ext HE.out
    have d0 : wr.cell? ⟨g, 0, none⟩ = some (.slice A (n + 1) cap) := hbg.cell 0
    clear hbg
    by_cases hlt : k < n
    · obtain ⟨c0, hc0⟩ : ∃ c, cs[k]? = some c := ⟨cs[k]'(by have := HF.out.len; omega), List.getElem?_eq_getElem _⟩
      obtain ⟨c1, hc1⟩ : ∃ c, ps[k]? = some c := ⟨ps[k]'(by have := HD3.out; omega), List.getElem?_eq_getElem _⟩
      obtain ⟨b, o, rfl, hbw, hcc⟩ := HF.out.lies.cell (by rw [cpxB_len, HF.out.len]; omega)
      have e0 := (HE.out.cell (p := ⟨b, o + k, none⟩) hbw).trans (hcc _ _ (cpxB_at hc0))
      have e1 : wr.cell? ⟨g', k, none⟩ = some (.complex .f32 c1.1 c1.2) := (HPB.out.cell k).trans (HC3.out k c1 hc1)
      obtain ⟨R0, I0, v0, u0, s0, t0⟩ := HF.out.near k c0 hc0
      obtain ⟨R1, I1, v1, u1, s1, t1⟩ := HN3.out k c1 hc1
      obtain ⟨z1, z2⟩ := flat_panel HF.out hlt s1 t1
      obtain ⟨z3, z4⟩ := flat_corner HF.out hlt s0 t0
      obtain ⟨hs, h0, h1⟩ := HS.out
      obtain ⟨m, m', R2, I2, v2, u2, s2, t2, hscale⟩ := Scale_Q v1 u1 hs (share_four z1 h0 h1) (share_four z2 h0 h1)
      obtain ⟨r, s, R, I, hadd, q1, q2, q3, q4⟩ := add_W v0 u0 v2 u2 z3 z4 (four_five (share_four z1 h0 h1) s2) (four_five (share_four z2 h0 h1) t2)
      have HNN := Lib.hid (HND.out.snoc (c := (r, s)) HDS.out ⟨R, I, q1, q2, along_near HF.out.small h0 h1 s0 s1 s2 q3, along_near HF.out.small h0 h1 t0 t1 t2 q4⟩)
      have HSC := Lib.hid hscale
      have hk0 : (0 : Int) ≤ (k : Int) := by omega
      have hk1 : (k : Int) < (n : Int) + 1 := by omega
      have hk2 : (k : Int) < (n : Int) := by omega
      clear hcc hc0 hc1 v0 u0 s0 t0 v1 u1 s1 t1 z1 z2 z3 z4 hs h0 h1 v2 u2 s2 t2 hscale q1 q2 q3 q4
      go_wp2_with fail
      go_region_law (first
        | (go_simp; go_at_call 90; refine (HSC.out _).mono ?_; rintro e1 w1 ⟨rfl, rfl⟩)
        | (refine step_append_lies _ (by rfl) _ _ _ (by rfl) w.heap.size 27 i1 _ 1 8 under_cpxs hi1 jz0 jz1 jz2 hz1 (by omega) (.slice (some ⟨gg, 0, none⟩) k cq) k (cpxB ds) (by rfl) ((show wr.drew.ownsRow _ _ _ _ _ _ from HOW.out).alloc _) ⟨wr.heap.size, 0, none⟩ 1 1 [.complex .f32 r s] (by rfl) rfl (World.news_of_block (cs := #[.complex .f32 r s]) (t := 27) (fr := (0, 0)) (heap_alloc_new wr.drew _)) (by simp [Value.oneCell']) (by omega) (by unfold maxLen; omega) (by omega) (by have := HE.out.size; (try simp only [World.size_alloc, World.size_drew]); omega) _ rfl ?_; intro g2 c2 w6 hown6 hgrow hat6 hlt6; (have hgl := HOW.out.lt); (have HE6 := Lib.hid (Ext.grown (Ext.trans HE.out (Ext.alloc' (Ext.drew' (Ext.rfl' wr)) _)) hgrow (fun k hk => (hgl k hk).1))); (have HB6 := Lib.hid (Blk.grown (HPB.out.ext (Ext.alloc' (Ext.drew' (Ext.rfl' wr)) _)) hgrow (fun h => HNE.out (Option.some.inj h)))); (have HNE6 := Lib.hid (show g2 ≠ g' from fun h => by
            rcases hat6 with h1 | h1
            · exact HNE.out ((Option.some.inj h1).trans h)
            · have h2 := HPB.out.lt
              simp only [World.size_alloc, World.size_drew] at h1
              omega)); have HO6 := Lib.hid hown6; clear hown6 hgrow hat6 hlt6 hgl e0 e1 d0))
      all_goals
        have hw1 : IntKind.i64.wrap ((k : Int) + 1) = ((k + 1 : Nat) : Int) := by rw [IntWalk.i64_in _ (by omega)]; omega
        go_wp2_with fail
        refine ⟨⟨k + 1, g2, c2, ds ++ [(r, s)], by omega, by go_num, rfl, by rw [cpxB_append]; exact HO6.out, by rw [List.length_append, HDS.out]; rfl, HNN.out, HE6.out, HB6.out, HNE6.out⟩, by simp [intOf]; omega⟩
    · have hkn : n = k := by omega
      subst hkn
      have hkn2 : ¬ ((n : Nat) : Int) < (n : Int) := by omega
      go_wp2_with fail
      go_ret
      exact ⟨HE.out, gg, ⟨cq, rfl⟩, ds, (lies_of_owns HOW.out).1, HDS.out, HND.out⟩
end Go.Proofs.Ytfehhbmmdbpdpaa
/- Walks: the normals of a plate. -/
namespace Go.Proofs.Ytfehhbmmdbpdpaa
open Go Go.RowKit
set_option linter.unusedVariables false
set_option linter.unusedSimpArgs false
attribute [local go_sem] run_store_float run_store_complex

theorem sq_abs {x : Rat} (h : x * x ≤ 2) : x.abs ≤ 2 := by
  rcases Rat.le_total (a := x.abs) (b := 2) with h1 | h1
  · exact h1
  · have h2 : (2 : Rat) * x.abs ≤ x.abs * x.abs := Rat.mul_le_mul_of_nonneg_right h1 Rat.abs_nonneg
    have h3 : x.abs * x.abs = x * x := by rw [← abs_mul]; exact Rat.abs_of_nonneg (by rcases Rat.le_total (a := 0) (b := x) with h | h; exact Rat.mul_nonneg h h; have := Rat.mul_nonneg (show 0 ≤ -x by grind) (show 0 ≤ -x by grind); grind)
    grind
theorem sq_nonneg (x : Rat) : 0 ≤ x * x := by
  rcases Rat.le_total (a := 0) (b := x) with h | h
  · exact Rat.mul_nonneg h h
  · have := Rat.mul_nonneg (show 0 ≤ -x by grind) (show 0 ≤ -x by grind)
    grind
theorem sq_lt {x c : Rat} (h0 : 0 ≤ x) (hc : x ≤ c) : x * x ≤ c * c := by
  have h1 : x * x ≤ c * x := Rat.mul_le_mul_of_nonneg_right hc h0
  have h2 : c * x ≤ c * c := Rat.mul_le_mul_of_nonneg_left hc (by grind)
  grind
/-- a length has bounds -/
theorem Long.between {a b u : Rat} (h : Long a b u) (ha : a.abs ≤ 4) (hb : b.abs ≤ 4) (hp : 1 / 4096 ≤ a * a + b * b) : 1 / 66 ≤ u ∧ u ≤ 6 := by
  obtain ⟨D, g0, g1, g2⟩ := h
  have k1 := abs_le.1 g1
  have k2 := abs_le.1 g2
  have l1 : 1 / 65 ≤ D := by
    rcases Rat.le_total (a := 1 / 65) (b := D) with h | h
    · exact h
    · have := sq_lt g0 h
      grind
  have aa := mul_abs_le ha ha
  have bb := mul_abs_le hb hb
  have k3 := abs_le.1 aa
  have k4 := abs_le.1 bb
  have l2 : D ≤ 58 / 10 := by
    rcases Rat.le_total (a := D) (b := 58 / 10) with h | h
    · exact h
    · have := sq_lt (show (0 : Rat) ≤ 58 / 10 by decide +kernel) h
      grind
  exact ⟨by grind, by grind⟩
theorem inv_between {q u : Rat} (e : q * u = 1) (h : 1 / 66 ≤ u) : 0 ≤ q ∧ q ≤ 66 := by
  have h0 : 0 ≤ q := by
    rcases Rat.le_total (a := 0) (b := q) with h1 | h1
    · exact h1
    · have := Rat.mul_nonneg (show 0 ≤ -q by grind) (show 0 ≤ u by grind)
      grind
  have h2 : q * (1 / 66) ≤ q * u := Rat.mul_le_mul_of_nonneg_left h h0
  rw [e] at h2
  exact ⟨h0, by grind⟩
theorem unit_near {q D u σ : Rat} (h1 : (D * D - q).abs ≤ 1 / 549755813888) (h2 : (u - D).abs ≤ 1 / 1048576) (h3 : 1 / 66 ≤ u) (h4 : u ≤ 6) (h5 : (σ - 1 / u).abs ≤ 1 / 32768) : σ.abs ≤ 67 ∧ (q * (σ * σ) - 1).abs ≤ 1 / 1950 := by
  have hu : u ≠ 0 := by grind
  have e0 : 1 / u * u = 1 := Rat.div_mul_cancel hu
  obtain ⟨q0, q1⟩ := inv_between e0 h3
  generalize 1 / u = s at *
  have k5 := abs_le.1 h5
  have a1 : σ.abs ≤ 67 := abs_le.2 ⟨by grind, by grind⟩
  refine ⟨a1, ?_⟩
  have a2 : u.abs ≤ 6 := by rw [Rat.abs_of_nonneg (by grind)]; exact h4
  have m1 := mul_abs_le h5 a2
  have e1 : (σ - s) * u = σ * u - 1 := by grind
  rw [e1] at m1
  have m2 := mul_abs_le a1 h2
  have e2 : σ * (u - D) = σ * u - σ * D := by grind
  rw [e2] at m2
  have k1 := abs_le.1 m1
  have k2 := abs_le.1 m2
  have m3 : (σ * D - 1).abs ≤ 1 / 4000 := abs_le.2 ⟨by grind, by grind⟩
  have k3 := abs_le.1 m3
  have m4 : (σ * D + 1).abs ≤ 8001 / 4000 := abs_le.2 ⟨by grind, by grind⟩
  have m5 := mul_abs_le m3 m4
  have m6 := mul_abs_le h1 (mul_abs_le a1 a1)
  have e3 : (σ * D - 1) * (σ * D + 1) = D * D * (σ * σ) - 1 := by grind
  rw [e3] at m5
  have e4 : (D * D - q) * (σ * σ) = D * D * (σ * σ) - q * (σ * σ) := by grind
  rw [e4] at m6
  have k5 := abs_le.1 m5
  have k6 := abs_le.1 m6
  exact abs_le.2 ⟨by grind, by grind⟩
theorem one_val : Val .f32 1065353216 1 := by
  refine ⟨by decide, false, 8388608, -23, by decide, by decide +kernel⟩
theorem near_sq {R p : Rat} (h : (R - p).abs ≤ 1 / 4194304) (hp : p.abs ≤ 2) : (R * R - p * p).abs ≤ 1 / 800000 ∧ R.abs ≤ 3 := by
  have k1 := abs_le.1 h
  have k2 := abs_le.1 hp
  have a : (R + p).abs ≤ 5 := abs_le.2 ⟨by grind, by grind⟩
  have m := mul_abs_le h a
  have e : (R - p) * (R + p) = R * R - p * p := by grind
  rw [e] at m
  have k3 := abs_le.1 m
  exact ⟨abs_le.2 ⟨by grind, by grind⟩, abs_le.2 ⟨by grind, by grind⟩⟩
theorem normal_vals {t : Nat} {a b u : Rat} (ht : Val .f32 t u) (hL : Long a b u) (ha : a.abs ≤ 4) (hb : b.abs ≤ 4) (hp : 1 / 4096 ≤ a * a + b * b) :
    ∃ s σ, floatBits .quo .f32 1065353216 t = some s ∧ Val .f32 s σ ∧ (-b * σ).abs ≤ 2 ∧ (a * σ).abs ≤ 2 ∧ ((-b * σ) * (-b * σ) + (a * σ) * (a * σ) - 1).abs ≤ 1 / 1950 := by
  obtain ⟨u1, u2⟩ := hL.between ha hb hp
  have hu : u ≠ 0 := by grind
  have e0 : 1 / u * u = 1 := Rat.div_mul_cancel hu
  obtain ⟨q0, q1⟩ := inv_between e0 u1
  have e7 : pw 7 = 128 := by decide +kernel
  have e8 : pw (7 + 2 - eps .f32) = 1 / 32768 := by decide +kernel
  obtain ⟨s, σ, s1, s2, s3, -⟩ := val_quo one_val ht hu e0 7 (by rw [e7, Rat.abs_of_nonneg q0]; grind) (by decide) (by decide)
  rw [e8] at s3
  obtain ⟨D, g0, g1, g2⟩ := hL
  obtain ⟨-, n1⟩ := unit_near g1 g2 u1 u2 s3
  have e : (-b * σ) * (-b * σ) + (a * σ) * (a * σ) = (a * a + b * b) * (σ * σ) := by grind
  have k1 := abs_le.1 n1
  have p1 := sq_nonneg (-b * σ)
  have p2 := sq_nonneg (a * σ)
  refine ⟨s, σ, s1, s2, sq_abs (by grind), sq_abs (by grind), ?_⟩
  rw [e]
  exact n1
/-- each point is as long as one, nearly -/
def UnitN (cs : List (Nat × Nat)) : Prop := ∀ (i : Nat) (c : Nat × Nat), cs[i]? = some c → ∃ R I, Val .f32 c.1 R ∧ Val .f32 c.2 I ∧ R.abs ≤ 3 ∧ I.abs ≤ 3 ∧ (R * R + I * I - 1).abs ≤ 1 / 1900
theorem UnitN.snoc {cs : List (Nat × Nat)} {c : Nat × Nat} (h : UnitN cs) (hc : ∃ R I, Val .f32 c.1 R ∧ Val .f32 c.2 I ∧ R.abs ≤ 3 ∧ I.abs ≤ 3 ∧ (R * R + I * I - 1).abs ≤ 1 / 1900) : UnitN (cs ++ [c]) := fun i d hd => by
  by_cases hi : i < cs.length
  · rw [List.getElem?_append_left hi] at hd
    exact h i d hd
  · rw [List.getElem?_append_right (by omega)] at hd
    have e : c = d := by
      cases hj : i - cs.length with
      | zero => rw [hj] at hd; simpa using hd
      | succ j => rw [hj] at hd; simp at hd
    subst e
    exact hc
theorem UnitN.num {cs : List (Nat × Nat)} (h : UnitN cs) : ∀ c ∈ cs, Num c.1 ∧ Num c.2 := fun c hc => by
  obtain ⟨i, hi, e1⟩ := List.mem_iff_getElem.1 hc
  obtain ⟨R, I, h1, h2, -⟩ := h i c (by rw [← e1]; exact List.getElem?_eq_getElem hi)
  exact ⟨⟨R, h1⟩, ⟨I, h2⟩⟩
theorem unit_of {R I p q : Rat} (h1 : (R - p).abs ≤ 1 / 4194304) (h2 : (I - q).abs ≤ 1 / 4194304) (hp : p.abs ≤ 2) (hq : q.abs ≤ 2) (h : (p * p + q * q - 1).abs ≤ 1 / 1950) : R.abs ≤ 3 ∧ I.abs ≤ 3 ∧ (R * R + I * I - 1).abs ≤ 1 / 1900 := by
  obtain ⟨a1, a2⟩ := near_sq h1 hp
  obtain ⟨b1, b2⟩ := near_sq h2 hq
  have k1 := abs_le.1 a1
  have k2 := abs_le.1 b1
  have k3 := abs_le.1 h
  exact ⟨a2, b2, abs_le.2 ⟨by grind, by grind⟩⟩
/-- the length of a unit vector is near one -/
theorem unit_long {R I u : Rat} (h : (R * R + I * I - 1).abs ≤ 1 / 1900) (hL : Long R I u) : (u - 1).abs ≤ 1 / 1500 := by
  obtain ⟨D, g0, g1, g2⟩ := hL
  have k1 := abs_le.1 g1
  have k2 := abs_le.1 h
  have m : (D * D - 1 * 1).abs ≤ 1 / 1800 * 1 := abs_le.2 ⟨by grind, by grind⟩
  have r := root_near g0 (by decide +kernel) m
  have k3 := abs_le.1 r
  have k4 := abs_le.1 g2
  exact abs_le.2 ⟨by grind, by grind⟩
end Go.Proofs.Ytfehhbmmdbpdpaa
/- Walks: the normals, seats and checks of a plate. -/
namespace Go.Proofs.Ytfehhbmmdbpdpaa
open Go Go.RowKit
set_option linter.unusedVariables false
set_option linter.unusedSimpArgs false
attribute [local go_sem] run_store_float run_store_complex

theorem flat_big {w : World} {A : Option Addr} {cs : List (Nat × Nat)} {n k : Nat} {X Y : Nat → Rat} {e : Rat} (hF : Flat w A cs (n + 1) X Y e) (hk : k < n) {a b : Rat} (ha : (a - (X (k + 1) - X k)).abs ≤ 2 * e + 1 / 4194304) (hb : (b - (Y (k + 1) - Y k)).abs ≤ 2 * e + 1 / 4194304) : 1 / 4096 ≤ a * a + b * b := by
  have b1 := hF.bound k (by omega)
  have b2 := hF.bound (k + 1) (by omega)
  have d1 := diff_abs b2.1 b1.1
  have d2 := diff_abs b2.2 b1.2
  have hs := hF.small
  exact panel_big ha hb (by grind) (by grind) (by grind) (hF.far k (by omega))
set_option maxRecDepth 100000 in
set_option maxHeartbeats 1600000 in
theorem normals_V (g : Nat) (A : Option Addr) (cap n : Nat) (cs : List (Nat × Nat)) (X Y : Nat → Rat) (e : Rat) (w : World) (hb : Blk w g 58 #[.slice A (n + 1) cap]) (hF : Flat w A cs (n + 1) X Y e) :
    Calls Try.prog 67 #[.pointer (some ⟨g, 0, none⟩)] w fun e' w' => Ext w w' ∧ ∃ g' c' ds, e' = .returned (.slice (some ⟨g', 0, none⟩) n c') ∧ Lies w' 27 (some ⟨g', 0, none⟩) (cpxB ds) ∧ ds.length = n ∧ UnitN ds := by
  obtain ⟨i1, hi1, jz0, jz1, jz2⟩ := parts_of infoCp
  have hz1 : (Value.complex .f32 0 0).cells.size = 1 := by decide
  have HB := Lib.hid hb
  have HF := Lib.hid hF
  have HOWN := Lib.hid (show (w.alloc (.cells #[] 27)).ownsRow w.heap.size 27 1 (.slice (some ⟨w.heap.size, 0, none⟩) 0 0) 0 [] from World.ownsRow_made (base := w.heap.size) (e := 27) (size := 1) w #[] 0 (Nat.le_refl _) (by decide) rfl)
  have HE0 := Lib.hid (show Ext w (w.alloc (.cells #[] 27)) by (repeat first | with_reducible exact Ext.rfl' _ | with_reducible refine Ext.drewN ?_ _ | with_reducible refine Ext.drew' ?_ | with_reducible refine Ext.alloc' ?_ _ | with_reducible refine Ext.setCell_at ?_ _ _ _ (by first | exact Nat.le_refl _ | omega) | with_reducible assumption | refine Ext.trans ?_ (by with_reducible assumption)))
  have HB00 := Lib.hid (Blk.new w 27 #[])
  clear hb hF
  go_enter Try.func67, Try.ntmps67
  go_wp2_with fail
  generalize w.alloc (.cells #[] 27) = W0 at *
  refine (panels_V g A cap (n + 1) cs _ _ _ _ (HB.out.ext HE0.out) (HF.out.lies.ext HE0.out) HF.out.len (by omega) (by have := HF.out.n9; omega) HF.out.near (fun i hi => by
    obtain ⟨b1, b2⟩ := HF.out.bound i hi
    have := HF.out.small
    exact ⟨by grind, by grind⟩)).mono ?_
  rintro e' w3 ⟨he, g', c', ps, rfl, hl, hds, hnd⟩
  rw [show n + 1 - 1 = n by omega] at hds
  have hsl : n + 1 - 1 = n := by omega
  have hn1 : 1 ≤ n := by have := HF.out.n2; omega
  have hn9 : n ≤ 9 := by have := HF.out.n9; omega
  obtain ⟨b, o, curp, hA, hbk, hcur⟩ := hl (by rw [cpxB_len, hds]; omega)
  obtain ⟨rfl, rfl⟩ : g' = b ∧ 0 = o := by simpa using hA
  have HE3 := Lib.hid (Ext.trans HE0.out he)
  have HC3 := Lib.hid (show ∀ (k : Nat) (c : Nat × Nat), ps[k]? = some c → curp[k]? = some (Value.complex .f32 c.1 c.2) from fun k c hk => by
    have hlk : k < (cpxB ps).length := by
      rw [cpxB_len]
      by_cases hkl : k < ps.length
      · exact hkl
      · rw [List.getElem?_eq_none (by omega)] at hk; cases hk
    have h := hcur k hlk
    rw [Nat.zero_add] at h
    exact h.trans (cpxB_at hk))
  have HNE3 := Lib.hid (show w.heap.size ≠ g' from ne_empty (v := Value.complex .f32 (ps[0]'(by omega)).1 (ps[0]'(by omega)).2) hbk (HB00.out.ext he) (HC3.out 0 _ (List.getElem?_eq_getElem (by omega))))
  have HD3 := Lib.hid hds
  have HN3 := Lib.hid hnd
  have HP3 := Lib.hid hbk
  have HO3 := Lib.hid (HOWN.out.kept (row := none) ⟨he.os, he.tape, he.output, he.size, fun q hq _ => he.block q hq⟩ (.inr (by simp [Value.ownBlock])))
  clear he hl hds hnd HOWN hA hbk hcur HB00
  go_wp2_with fail
  go_loopw [3, 10] (fun v i wr => ∃ (k gg cq : Nat) (ds : List (Nat × Nat)), k ≤ n ∧ i = .int .i64 k ∧ v = .slice (some ⟨gg, 0, none⟩) k cq ∧ wr.ownsRow w.heap.size 27 1 v k (cpxB ds) ∧ ds.length = k ∧ UnitN ds ∧ Ext w wr ∧ Blk wr g' 27 curp ∧ gg ≠ g') (fun _ i _ => n - (intOf i).toNat)
  case atStart => exact ⟨0, w.heap.size, 0, [], by omega, rfl, rfl, HO3.out, rfl, fun i c h => by simp at h, HE3.out, HP3.out, HNE3.out⟩
  case round =>
    obtain ⟨k, gg, cq, ds, hk, rfl, rfl, hown, hds, hnear, hbel, hpb, hne⟩ := hrel
    have HOW := Lib.hid hown
    have HE := Lib.hid hbel
    have HND := Lib.hid hnear
    have HDS := Lib.hid hds
    have HPB := Lib.hid hpb
    have HNE := Lib.hid hne
    clear hown hbel HO3 HE0 hnear hds hpb hne HNE3 HP3
    by_cases hlt : k < n
    · obtain ⟨c1, hc1⟩ : ∃ c, ps[k]? = some c := ⟨ps[k]'(by have := HD3.out; omega), List.getElem?_eq_getElem _⟩
      have e1 : wr.cell? ⟨g', k, none⟩ = some (.complex .f32 c1.1 c1.2) := (HPB.out.cell k).trans (HC3.out k c1 hc1)
      obtain ⟨R1, I1, v1, u1, s1, t1⟩ := HN3.out k c1 hc1
      obtain ⟨z1, z2⟩ := flat_panel HF.out hlt s1 t1
      have hbig := flat_big HF.out hlt s1 t1
      have HL := Lib.hid (fun w => LongOf_V v1 u1 z1 z2 w)
      have HV := Lib.hid (And.intro v1 (And.intro u1 (And.intro z1 (And.intro z2 hbig))))
      have hk0 : (0 : Int) ≤ (k : Int) := by omega
      have hk2 : (k : Int) < (n : Int) := by omega
      clear hc1 v1 u1 s1 t1 z1 z2 hbig
      go_wp2_with (refine wpList_negD rfl _ _ rfl _ _ rfl _ rfl ?_)
      refine (HL.out _).mono ?_
      rintro e' w6 ⟨rfl, t, u, rfl, ht, hlong⟩
      obtain ⟨v1, u1, z1, z2, hbig⟩ := HV.out
      obtain ⟨s, σ, hq, hs, y1, y2, y3⟩ := normal_vals ht hlong z1 z2 hbig
      obtain ⟨r, r', R, I, q1, q2, q3, q4, hscale⟩ := Scale_Q (val_neg u1) v1 hs (by grind) (by grind)
      obtain ⟨y4, y5, y6⟩ := unit_of q3 q4 y1 y2 y3
      have HNN := Lib.hid (HND.out.snoc (c := (r, r')) ⟨R, I, q1, q2, y4, y5, y6⟩)
      have HSC := Lib.hid hscale
      clear v1 u1 z1 z2 hbig hs y1 y2 y3 q1 q2 q3 q4 y4 y5 y6 hscale ht hlong
      go_wp2_with (refine wpList_floatD rfl .quo _ _ _ _ rfl (by simp) _ _ _ rfl rfl _ hq ?_)
      refine (HSC.out _).mono ?_
      rintro e' w6 ⟨rfl, rfl⟩
      go_wp2_with (first | (at_builtin; refine Stand.of ?_))
      refine Stand.out ?_
      refine wpList_append_lies _ rfl _ _ 25 rfl w.heap.size 27 i1 _ 1 8 under_cpxs hi1 jz0 jz1 jz2 hz1 (by omega) (.slice (some ⟨gg, 0, none⟩) k cq) k (cpxB ds) rfl (HOW.out.alloc _) ⟨w6.heap.size, 0, none⟩ 1 1 [.complex .f32 r r'] rfl rfl (World.news_of_block (cs := #[.complex .f32 r r']) (t := 27) (fr := (0, 0)) (heap_alloc_new w6 _)) (by simp [Value.oneCell']) (by omega) (by unfold maxLen; omega) (by omega) (by have := HE.out.size; simp; omega) _ rfl ?_
      intro g2 c2 w8 hown8 hgrow hat8 hlt8
      have hgl := HOW.out.lt
      have HE8 := Lib.hid (Ext.grown (Ext.trans HE.out (Ext.alloc' (Ext.rfl' w6) _)) hgrow (fun k hk => (hgl k hk).1))
      have HB8 := Lib.hid (Blk.grown (HPB.out.ext (Ext.alloc' (Ext.rfl' w6) _)) hgrow (fun h => HNE.out (Option.some.inj h)))
      have HNE8 := Lib.hid (show g2 ≠ g' from fun h => by
        rcases hat8 with h1 | h1
        · exact HNE.out ((Option.some.inj h1).trans h)
        · have h2 := HPB.out.lt
          simp only [World.size_alloc] at h1
          omega)
      have HO8 := Lib.hid hown8
      clear hown8 hgrow hat8 hlt8 hgl
      have hw1 : IntKind.i64.wrap ((k : Int) + 1) = ((k + 1 : Nat) : Int) := by rw [IntWalk.i64_in _ (by omega)]; omega
      go_wp2_with fail
      exact ⟨⟨k + 1, g2, c2, ds ++ [(r, r')], by omega, by go_num, rfl, by rw [cpxB_append]; exact HO8.out, by rw [List.length_append, HDS.out]; rfl, HNN.out, HE8.out, HB8.out, HNE8.out⟩, by simp [intOf]; omega⟩
    · have hkn : n = k := by omega
      subst hkn
      have hkn2 : ¬ ((n : Nat) : Int) < (n : Int) := by omega
      go_wp2_with fail
      go_ret
      exact ⟨HE.out, gg, ⟨cq, rfl⟩, ds, (lies_of_owns HOW.out).1, HDS.out, HND.out⟩
theorem quarter_val : Val .f32 1048576000 (1 / 4) := by
  refine ⟨by decide, false, 8388608, -25, by decide, by decide +kernel⟩
theorem most_val : Val .f32 1061158912 (3 / 4) := by
  refine ⟨by decide, false, 12582912, -24, by decide, by decide +kernel⟩
theorem seats_V (g : Nat) (A : Option Addr) (cap n : Nat) (cs : List (Nat × Nat)) (X Y : Nat → Rat) (e : Rat) (w : World) (hb : Blk w g 58 #[.slice A (n + 1) cap]) (hF : Flat w A cs (n + 1) X Y e) :
    Calls Try.prog 65 #[.pointer (some ⟨g, 0, none⟩)] w fun e' w' => Ext w w' ∧ ∃ g' c' ds, e' = .returned (.slice (some ⟨g', 0, none⟩) n c') ∧ Lies w' 27 (some ⟨g', 0, none⟩) (cpxB ds) ∧ ds.length = n ∧ Near ds (fun i => X i + (X (i + 1) - X i) * (1 / 4)) (fun i => Y i + (Y (i + 1) - Y i) * (1 / 4)) (1 / 20000) := by
  have HA := Lib.hid (along_V g A cap n cs X Y e _ _ w hb hF quarter_val (by decide +kernel) (by decide +kernel))
  clear hb hF
  go_enter Try.func65, Try.ntmps65
  go_wp2_with fail
  refine HA.out.mono ?_
  rintro e' w1 ⟨he, g', c', ds, rfl, h1, h2, h3⟩
  have H := Lib.hid (And.intro he (And.intro h1 (And.intro h2 h3)))
  clear he h1 h2 h3
  go_wp2_with fail
  go_ret
  exact ⟨H.out.1, g', c', ds, rfl, H.out.2⟩
theorem checks_V (g : Nat) (A : Option Addr) (cap n : Nat) (cs : List (Nat × Nat)) (X Y : Nat → Rat) (e : Rat) (w : World) (hb : Blk w g 58 #[.slice A (n + 1) cap]) (hF : Flat w A cs (n + 1) X Y e) :
    Calls Try.prog 66 #[.pointer (some ⟨g, 0, none⟩)] w fun e' w' => Ext w w' ∧ ∃ g' c' ds, e' = .returned (.slice (some ⟨g', 0, none⟩) n c') ∧ Lies w' 27 (some ⟨g', 0, none⟩) (cpxB ds) ∧ ds.length = n ∧ Near ds (fun i => X i + (X (i + 1) - X i) * (3 / 4)) (fun i => Y i + (Y (i + 1) - Y i) * (3 / 4)) (1 / 20000) := by
  have HA := Lib.hid (along_V g A cap n cs X Y e _ _ w hb hF most_val (by decide +kernel) (by decide +kernel))
  clear hb hF
  go_enter Try.func66, Try.ntmps66
  go_wp2_with fail
  refine HA.out.mono ?_
  rintro e' w1 ⟨he, g', c', ds, rfl, h1, h2, h3⟩
  have H := Lib.hid (And.intro he (And.intro h1 (And.intro h2 h3)))
  clear he h1 h2 h3
  go_wp2_with fail
  go_ret
  exact ⟨H.out.1, g', c', ds, rfl, H.out.2⟩
end Go.Proofs.Ytfehhbmmdbpdpaa
/- Walks: ofPlate, SeatsOf, ChecksOf, NormalsOf. -/
namespace Go.Proofs.Ytfehhbmmdbpdpaa
open Go Go.RowKit
set_option linter.unusedVariables false
set_option linter.unusedSimpArgs false
attribute [local go_sem] run_store_float run_store_complex

set_option maxRecDepth 100000 in
theorem of_seats_V (g : Nat) (A : Option Addr) (cap n : Nat) (cs : List (Nat × Nat)) (X Y : Nat → Rat) (e : Rat) (w : World) (hb : Blk w g 58 #[.slice A (n + 1) cap]) (hF : Flat w A cs (n + 1) X Y e) :
    Calls Try.prog 64 #[.agg #[.slice A (n + 1) cap], .func (.func 65) #[.pointer (some ⟨g, 0, none⟩)] #[]] w fun e' w' => Ext w w' ∧ ∃ g' c' ds, e' = .returned (.tuple #[.slice (some ⟨g', 0, none⟩) n c', .bool true]) ∧ Lies w' 27 (some ⟨g', 0, none⟩) (cpxB ds) ∧ ds.length = n ∧ Near ds (fun i => X i + (X (i + 1) - X i) * (1 / 4)) (fun i => Y i + (Y (i + 1) - Y i) * (1 / 4)) (1 / 20000) := by
  have HB := Lib.hid hb
  have HF := Lib.hid hF
  have HB0 := Lib.hid (Blk.new w 58 #[.slice A (n + 1) cap])
  have HE1 := Lib.hid (show Ext w (w.alloc (.cells #[.slice A (n + 1) cap] 58)) by (repeat first | with_reducible exact Ext.rfl' _ | with_reducible refine Ext.drewN ?_ _ | with_reducible refine Ext.drew' ?_ | with_reducible refine Ext.alloc' ?_ _ | with_reducible refine Ext.setCell_at ?_ _ _ _ (by first | exact Nat.le_refl _ | omega) | with_reducible assumption | refine Ext.trans ?_ (by with_reducible assumption)))
  have d0 : (w.alloc (.cells #[.slice A (n + 1) cap] 58)).cell? ⟨w.heap.size, 0, none⟩ = some (.slice A (n + 1) cap) := HB0.out.cell 0
  clear hb hF
  go_enter Try.func64, Try.ntmps64
  go_wp2_with fail
  generalize (w.alloc (.cells #[.slice A (n + 1) cap] 58)) = W1 at *
  refine (ValidPlate_V A cap (n + 1) cs _ _ _ _ (HF.out.ext HE1.out)).mono ?_
  rintro e' w2 ⟨he, rfl⟩
  have HE2 := Lib.hid (Ext.trans HE1.out he)
  clear he d0
  go_wp2_with fail
  refine (seats_V g A cap n cs X Y e _ (HB.out.ext HE2.out) (HF.out.ext HE2.out)).mono ?_
  rintro e' w3 ⟨he, g', c', ds, rfl, h1, h2, h3⟩
  have HE3 := Lib.hid (Ext.trans HE2.out he)
  have HD := Lib.hid (And.intro h1 (And.intro h2 h3))
  clear he h1 h2 h3
  go_wp2_with fail
  refine (finiteAll_V _ c' n ds _ HD.out.1 HD.out.2.1 (by have := HF.out.n9; omega) HD.out.2.2.num).mono ?_
  rintro e' w4 ⟨he, rfl⟩
  have HE4 := Lib.hid (Ext.trans HE3.out he)
  have HD4 := Lib.hid (And.intro (HD.out.1.ext he) HD.out.2)
  clear he
  go_wp2_with fail
  go_ret2
  exact ⟨HE4.out, g', c', ds, rfl, HD4.out⟩
set_option maxRecDepth 100000 in
theorem SeatsOf_V (A : Option Addr) (cap n : Nat) (cs : List (Nat × Nat)) (X Y : Nat → Rat) (e : Rat) (w : World) (hF : Flat w A cs (n + 1) X Y e) :
    Calls Try.prog 27 #[.agg #[.slice A (n + 1) cap]] w fun e' w' => Ext w w' ∧ ∃ g' c' ds, e' = .returned (.tuple #[.slice (some ⟨g', 0, none⟩) n c', .bool true]) ∧ Lies w' 27 (some ⟨g', 0, none⟩) (cpxB ds) ∧ ds.length = n ∧ Near ds (fun i => X i + (X (i + 1) - X i) * (1 / 4)) (fun i => Y i + (Y (i + 1) - Y i) * (1 / 4)) (1 / 20000) := by
  have HF := Lib.hid hF
  have HB0 := Lib.hid (Blk.new w 58 #[.slice A (n + 1) cap])
  have HE1 := Lib.hid (show Ext w (w.alloc (.cells #[.slice A (n + 1) cap] 58)) by (repeat first | with_reducible exact Ext.rfl' _ | with_reducible refine Ext.drewN ?_ _ | with_reducible refine Ext.drew' ?_ | with_reducible refine Ext.alloc' ?_ _ | with_reducible refine Ext.setCell_at ?_ _ _ _ (by first | exact Nat.le_refl _ | omega) | with_reducible assumption | refine Ext.trans ?_ (by with_reducible assumption)))
  have d0 : (w.alloc (.cells #[.slice A (n + 1) cap] 58)).cell? ⟨w.heap.size, 0, none⟩ = some (.slice A (n + 1) cap) := HB0.out.cell 0
  clear hF
  go_enter Try.func27, Try.ntmps27
  go_wp2_with fail
  generalize (w.alloc (.cells #[.slice A (n + 1) cap] 58)) = W1 at *
  refine (of_seats_V w.heap.size A cap n cs X Y e _ HB0.out (HF.out.ext HE1.out)).mono ?_
  rintro e' w3 ⟨he, g', c', ds, rfl, h1, h2, h3⟩
  have HE3 := Lib.hid (Ext.trans HE1.out he)
  have HD := Lib.hid (And.intro h1 (And.intro h2 h3))
  clear he h1 h2 h3 d0
  go_wp2_with fail
  go_ret2
  exact ⟨HE3.out, g', c', ds, rfl, HD.out⟩
set_option maxRecDepth 100000 in
theorem of_checks_V (g : Nat) (A : Option Addr) (cap n : Nat) (cs : List (Nat × Nat)) (X Y : Nat → Rat) (e : Rat) (w : World) (hb : Blk w g 58 #[.slice A (n + 1) cap]) (hF : Flat w A cs (n + 1) X Y e) :
    Calls Try.prog 64 #[.agg #[.slice A (n + 1) cap], .func (.func 66) #[.pointer (some ⟨g, 0, none⟩)] #[]] w fun e' w' => Ext w w' ∧ ∃ g' c' ds, e' = .returned (.tuple #[.slice (some ⟨g', 0, none⟩) n c', .bool true]) ∧ Lies w' 27 (some ⟨g', 0, none⟩) (cpxB ds) ∧ ds.length = n ∧ Near ds (fun i => X i + (X (i + 1) - X i) * (3 / 4)) (fun i => Y i + (Y (i + 1) - Y i) * (3 / 4)) (1 / 20000) := by
  have HB := Lib.hid hb
  have HF := Lib.hid hF
  have HB0 := Lib.hid (Blk.new w 58 #[.slice A (n + 1) cap])
  have HE1 := Lib.hid (show Ext w (w.alloc (.cells #[.slice A (n + 1) cap] 58)) by (repeat first | with_reducible exact Ext.rfl' _ | with_reducible refine Ext.drewN ?_ _ | with_reducible refine Ext.drew' ?_ | with_reducible refine Ext.alloc' ?_ _ | with_reducible refine Ext.setCell_at ?_ _ _ _ (by first | exact Nat.le_refl _ | omega) | with_reducible assumption | refine Ext.trans ?_ (by with_reducible assumption)))
  have d0 : (w.alloc (.cells #[.slice A (n + 1) cap] 58)).cell? ⟨w.heap.size, 0, none⟩ = some (.slice A (n + 1) cap) := HB0.out.cell 0
  clear hb hF
  go_enter Try.func64, Try.ntmps64
  go_wp2_with fail
  generalize (w.alloc (.cells #[.slice A (n + 1) cap] 58)) = W1 at *
  refine (ValidPlate_V A cap (n + 1) cs _ _ _ _ (HF.out.ext HE1.out)).mono ?_
  rintro e' w2 ⟨he, rfl⟩
  have HE2 := Lib.hid (Ext.trans HE1.out he)
  clear he d0
  go_wp2_with fail
  refine (checks_V g A cap n cs X Y e _ (HB.out.ext HE2.out) (HF.out.ext HE2.out)).mono ?_
  rintro e' w3 ⟨he, g', c', ds, rfl, h1, h2, h3⟩
  have HE3 := Lib.hid (Ext.trans HE2.out he)
  have HD := Lib.hid (And.intro h1 (And.intro h2 h3))
  clear he h1 h2 h3
  go_wp2_with fail
  refine (finiteAll_V _ c' n ds _ HD.out.1 HD.out.2.1 (by have := HF.out.n9; omega) HD.out.2.2.num).mono ?_
  rintro e' w4 ⟨he, rfl⟩
  have HE4 := Lib.hid (Ext.trans HE3.out he)
  have HD4 := Lib.hid (And.intro (HD.out.1.ext he) HD.out.2)
  clear he
  go_wp2_with fail
  go_ret2
  exact ⟨HE4.out, g', c', ds, rfl, HD4.out⟩
set_option maxRecDepth 100000 in
theorem ChecksOf_V (A : Option Addr) (cap n : Nat) (cs : List (Nat × Nat)) (X Y : Nat → Rat) (e : Rat) (w : World) (hF : Flat w A cs (n + 1) X Y e) :
    Calls Try.prog 28 #[.agg #[.slice A (n + 1) cap]] w fun e' w' => Ext w w' ∧ ∃ g' c' ds, e' = .returned (.tuple #[.slice (some ⟨g', 0, none⟩) n c', .bool true]) ∧ Lies w' 27 (some ⟨g', 0, none⟩) (cpxB ds) ∧ ds.length = n ∧ Near ds (fun i => X i + (X (i + 1) - X i) * (3 / 4)) (fun i => Y i + (Y (i + 1) - Y i) * (3 / 4)) (1 / 20000) := by
  have HF := Lib.hid hF
  have HB0 := Lib.hid (Blk.new w 58 #[.slice A (n + 1) cap])
  have HE1 := Lib.hid (show Ext w (w.alloc (.cells #[.slice A (n + 1) cap] 58)) by (repeat first | with_reducible exact Ext.rfl' _ | with_reducible refine Ext.drewN ?_ _ | with_reducible refine Ext.drew' ?_ | with_reducible refine Ext.alloc' ?_ _ | with_reducible refine Ext.setCell_at ?_ _ _ _ (by first | exact Nat.le_refl _ | omega) | with_reducible assumption | refine Ext.trans ?_ (by with_reducible assumption)))
  have d0 : (w.alloc (.cells #[.slice A (n + 1) cap] 58)).cell? ⟨w.heap.size, 0, none⟩ = some (.slice A (n + 1) cap) := HB0.out.cell 0
  clear hF
  go_enter Try.func28, Try.ntmps28
  go_wp2_with fail
  generalize (w.alloc (.cells #[.slice A (n + 1) cap] 58)) = W1 at *
  refine (of_checks_V w.heap.size A cap n cs X Y e _ HB0.out (HF.out.ext HE1.out)).mono ?_
  rintro e' w3 ⟨he, g', c', ds, rfl, h1, h2, h3⟩
  have HE3 := Lib.hid (Ext.trans HE1.out he)
  have HD := Lib.hid (And.intro h1 (And.intro h2 h3))
  clear he h1 h2 h3 d0
  go_wp2_with fail
  go_ret2
  exact ⟨HE3.out, g', c', ds, rfl, HD.out⟩
set_option maxRecDepth 100000 in
theorem of_normals_V (g : Nat) (A : Option Addr) (cap n : Nat) (cs : List (Nat × Nat)) (X Y : Nat → Rat) (e : Rat) (w : World) (hb : Blk w g 58 #[.slice A (n + 1) cap]) (hF : Flat w A cs (n + 1) X Y e) :
    Calls Try.prog 64 #[.agg #[.slice A (n + 1) cap], .func (.func 67) #[.pointer (some ⟨g, 0, none⟩)] #[]] w fun e' w' => Ext w w' ∧ ∃ g' c' ds, e' = .returned (.tuple #[.slice (some ⟨g', 0, none⟩) n c', .bool true]) ∧ Lies w' 27 (some ⟨g', 0, none⟩) (cpxB ds) ∧ ds.length = n ∧ UnitN ds := by
  have HB := Lib.hid hb
  have HF := Lib.hid hF
  have HB0 := Lib.hid (Blk.new w 58 #[.slice A (n + 1) cap])
  have HE1 := Lib.hid (show Ext w (w.alloc (.cells #[.slice A (n + 1) cap] 58)) by (repeat first | with_reducible exact Ext.rfl' _ | with_reducible refine Ext.drewN ?_ _ | with_reducible refine Ext.drew' ?_ | with_reducible refine Ext.alloc' ?_ _ | with_reducible refine Ext.setCell_at ?_ _ _ _ (by first | exact Nat.le_refl _ | omega) | with_reducible assumption | refine Ext.trans ?_ (by with_reducible assumption)))
  have d0 : (w.alloc (.cells #[.slice A (n + 1) cap] 58)).cell? ⟨w.heap.size, 0, none⟩ = some (.slice A (n + 1) cap) := HB0.out.cell 0
  clear hb hF
  go_enter Try.func64, Try.ntmps64
  go_wp2_with fail
  generalize (w.alloc (.cells #[.slice A (n + 1) cap] 58)) = W1 at *
  refine (ValidPlate_V A cap (n + 1) cs _ _ _ _ (HF.out.ext HE1.out)).mono ?_
  rintro e' w2 ⟨he, rfl⟩
  have HE2 := Lib.hid (Ext.trans HE1.out he)
  clear he d0
  go_wp2_with fail
  refine (normals_V g A cap n cs X Y e _ (HB.out.ext HE2.out) (HF.out.ext HE2.out)).mono ?_
  rintro e' w3 ⟨he, g', c', ds, rfl, h1, h2, h3⟩
  have HE3 := Lib.hid (Ext.trans HE2.out he)
  have HD := Lib.hid (And.intro h1 (And.intro h2 h3))
  clear he h1 h2 h3
  go_wp2_with fail
  refine (finiteAll_V _ c' n ds _ HD.out.1 HD.out.2.1 (by have := HF.out.n9; omega) HD.out.2.2.num).mono ?_
  rintro e' w4 ⟨he, rfl⟩
  have HE4 := Lib.hid (Ext.trans HE3.out he)
  have HD4 := Lib.hid (And.intro (HD.out.1.ext he) HD.out.2)
  clear he
  go_wp2_with fail
  go_ret2
  exact ⟨HE4.out, g', c', ds, rfl, HD4.out⟩
set_option maxRecDepth 100000 in
theorem NormalsOf_V (A : Option Addr) (cap n : Nat) (cs : List (Nat × Nat)) (X Y : Nat → Rat) (e : Rat) (w : World) (hF : Flat w A cs (n + 1) X Y e) :
    Calls Try.prog 29 #[.agg #[.slice A (n + 1) cap]] w fun e' w' => Ext w w' ∧ ∃ g' c' ds, e' = .returned (.tuple #[.slice (some ⟨g', 0, none⟩) n c', .bool true]) ∧ Lies w' 27 (some ⟨g', 0, none⟩) (cpxB ds) ∧ ds.length = n ∧ UnitN ds := by
  have HF := Lib.hid hF
  have HB0 := Lib.hid (Blk.new w 58 #[.slice A (n + 1) cap])
  have HE1 := Lib.hid (show Ext w (w.alloc (.cells #[.slice A (n + 1) cap] 58)) by (repeat first | with_reducible exact Ext.rfl' _ | with_reducible refine Ext.drewN ?_ _ | with_reducible refine Ext.drew' ?_ | with_reducible refine Ext.alloc' ?_ _ | with_reducible refine Ext.setCell_at ?_ _ _ _ (by first | exact Nat.le_refl _ | omega) | with_reducible assumption | refine Ext.trans ?_ (by with_reducible assumption)))
  have d0 : (w.alloc (.cells #[.slice A (n + 1) cap] 58)).cell? ⟨w.heap.size, 0, none⟩ = some (.slice A (n + 1) cap) := HB0.out.cell 0
  clear hF
  go_enter Try.func29, Try.ntmps29
  go_wp2_with fail
  generalize (w.alloc (.cells #[.slice A (n + 1) cap] 58)) = W1 at *
  refine (of_normals_V w.heap.size A cap n cs X Y e _ HB0.out (HF.out.ext HE1.out)).mono ?_
  rintro e' w3 ⟨he, g', c', ds, rfl, h1, h2, h3⟩
  have HE3 := Lib.hid (Ext.trans HE1.out he)
  have HD := Lib.hid (And.intro h1 (And.intro h2 h3))
  clear he h1 h2 h3 d0
  go_wp2_with fail
  go_ret2
  exact ⟨HE3.out, g', c', ds, rfl, HD.out⟩
end Go.Proofs.Ytfehhbmmdbpdpaa
/- Walks and tables: what bytes choose, gaps, lengths, turns. -/
namespace Go.Proofs.Ytfehhbmmdbpdpaa
open Go Go.RowKit
set_option linter.unusedVariables false
set_option linter.unusedSimpArgs false
attribute [local go_sem] run_store_float run_store_complex

/-- a choice -/
theorem b10At_V (A : Option Addr) (n cap i m : Nat) (w : World) (hb : Bytes w A n) (hn : n ≤ 1048576) (hi : i ≤ 1000) (hm : 1 < m) (hm2 : m ≤ 200) :
    Calls Try.prog 7 #[.slice A n cap, .int .i64 i, .int .i64 m] w fun e w' => w' = w ∧ ∃ d : Nat, d < m ∧ e = .returned (.int .i64 d) := by
  have h1 : ¬ (m : Int) ≤ 1 := by omega
  have h3 : (m : Int) ≠ 0 := by omega
  have hi0 : (0 : Int) ≤ (i : Int) := by omega
  by_cases hlt : (i : Int) < n
  · obtain ⟨b, o, rfl, hbw, hcc⟩ := hb (by omega)
    obtain ⟨x, hx, dx⟩ := hcc i (by omega)
    have hwx : IntKind.i64.wrap (x : Int) = x := IntWalk.i64_in _ (by omega)
    have hr : (x : Int).tmod m = ((x % m : Nat) : Int) := by rw [Int.tmod_eq_emod_of_nonneg (by omega)]; rfl
    have hw : IntKind.i64.wrap ((x % m : Nat) : Int) = ((x % m : Nat) : Int) := IntWalk.i64_in _ (by have := Nat.mod_lt x (show 0 < m by omega); omega)
    have HR := Lib.hid (Nat.mod_lt x (show 0 < m by omega))
    clear hcc hb hm hm2 hn hx hi
    go_enter Try.func7, Try.ntmps7
    go_wp2_with fail
    go_ret
    exact ⟨rfl, x % m, HR.out, rfl⟩
  · have hw1 : IntKind.i64.wrap ((i : Int) * 37) = ((i * 37 : Nat) : Int) := by rw [IntWalk.i64_in _ (by omega)]; omega
    have hw2 : IntKind.i64.wrap (((i * 37 : Nat) : Int) + 11) = ((i * 37 + 11 : Nat) : Int) := by rw [IntWalk.i64_in _ (by omega)]; omega
    have hr : ((i * 37 + 11 : Nat) : Int).tmod m = (((i * 37 + 11) % m : Nat) : Int) := by rw [Int.tmod_eq_emod_of_nonneg (by omega)]; rfl
    have hw : IntKind.i64.wrap (((i * 37 + 11) % m : Nat) : Int) = (((i * 37 + 11) % m : Nat) : Int) := IntWalk.i64_in _ (by have := Nat.mod_lt (i * 37 + 11) (show 0 < m by omega); omega)
    have HR := Lib.hid (Nat.mod_lt (i * 37 + 11) (show 0 < m by omega))
    clear hb hm hm2 hn hi
    generalize hz : (i * 37 + 11) % m = z at *
    generalize hy : i * 37 + 11 = y at *
    generalize hx : i * 37 = x at *
    clear hx hy hz
    go_enter Try.func7, Try.ntmps7
    go_wp2_with fail
    go_ret
    exact ⟨rfl, z, HR.out, rfl⟩
/-- what is taken as near -/
theorem thr_val : ∃ q, Val .f64 4562254508917369340 q ∧ 1 / 1100 ≤ q := ⟨_, val_of_num (by decide +kernel), by decide +kernel⟩
theorem near_thr {r : Nat} {u : Rat} (h : Val .f64 r u) (hu : u ≤ 1 / 1100) : fcmp .gtr .f64 r 4562254508917369340 = false := by
  obtain ⟨q, h1, h2⟩ := thr_val
  rw [val_gtr h h1]
  exact decide_eq_false (by grind)
theorem gap_V {x y : Nat} {a b : Rat} (hx : Val .f64 x a) (hy : Val .f64 y b) (h : (a - b).abs ≤ 1 / 1200) :
    ∃ r, fcmp .gtr .f64 r 4562254508917369340 = false ∧ ∀ w, Calls Try.prog 21 #[.float .f64 x, .float .f64 y] w fun e w' => w' = w ∧ e = .returned (.float .f64 r) := by
  have e0 : pw 0 = 1 := by decide +kernel
  have e1 : pw (0 - eps .f64) ≤ 1 / 1000000 := by decide +kernel
  have k1 := abs_le.1 h
  have hc := val_lss hx hy
  by_cases hlt : a < b
  · obtain ⟨r, u, r1, r2, r3, -⟩ := val_sub hy hx 0 (by rw [e0]; exact abs_le.2 ⟨by grind, by grind⟩) (by decide) (by decide)
    have k2 := abs_le.1 r3
    refine ⟨r, near_thr r2 (by grind), fun w => ?_⟩
    rw [decide_eq_true hlt] at hc
    clear hx hy h k1 k2 r2 r3 hlt e0 e1
    go_enter Try.func21, Try.ntmps21
    go_wp2_with (first
      | (refine wpList_fcmpD rfl .lss _ _ _ _ rfl rfl _ _ _ rfl rfl _ hc ?_)
      | (refine wpList_floatD rfl _ _ _ _ _ rfl (by decide) _ _ _ rfl rfl _ r1 ?_))
    go_ret
    exact ⟨rfl, rfl⟩
  · obtain ⟨r, u, r1, r2, r3, -⟩ := val_sub hx hy 0 (by rw [e0]; exact abs_le.2 ⟨by grind, by grind⟩) (by decide) (by decide)
    have k2 := abs_le.1 r3
    refine ⟨r, near_thr r2 (by grind), fun w => ?_⟩
    rw [decide_eq_false hlt] at hc
    clear hx hy h k1 k2 r2 r3 hlt e0 e1
    go_enter Try.func21, Try.ntmps21
    go_wp2_with (first
      | (refine wpList_fcmpD rfl .lss _ _ _ _ rfl rfl _ _ _ rfl rfl _ hc ?_)
      | (refine wpList_floatD rfl _ _ _ _ _ rfl (by decide) _ _ _ rfl rfl _ r1 ?_))
    go_ret
    exact ⟨rfl, rfl⟩
set_option maxRecDepth 100000 in
theorem specLong_Q {x y : Nat} {a b : Rat} (hx : Val .f32 x a) (hy : Val .f32 y b) (ha : a.abs ≤ 4) (hb : b.abs ≤ 4) :
    ∃ t T, Val .f32 t T ∧ Long a b T ∧ ∀ w, Calls Try.prog 30 #[.complex .f32 x y] w fun e w' => w' = w ∧ e = .returned (.float .f32 t) := by
  obtain ⟨p, p1, p2⟩ := val_wide hx
  obtain ⟨q, q1, q2⟩ := val_wide hy
  obtain ⟨m, n, r, u, m1, n1, r1, r2, r3, r4, r5⟩ := val_power p1 q1 ha hb
  obtain ⟨s, t, T, s1, t1, t2, t3⟩ := val_long r2 r3 r4 r5
  have HT := Lib.hid t1
  have HL := Lib.hid t2
  have HS := Lib.hid (fun w => Sqrt_V s1 w)
  have hpow : ∀ w, Calls Try.prog 104 #[.complex .f32 x y] w fun e w' => w' = w ∧ e = .returned (.float .f64 r) := fun w => by
    clear t3 t1 t2 r2 r3 r4 r5 p1 q1 s1
    go_enter Try.func104, Try.ntmps104
    go_wp2_with (first
      | (refine wpList_floatD rfl .mul _ _ _ _ rfl (by simp) _ _ _ rfl rfl _ m1 ?_)
      | (refine wpList_floatD rfl .mul _ _ _ _ rfl (by simp) _ _ _ rfl rfl _ n1 ?_)
      | (refine wpList_floatD rfl .add _ _ _ _ rfl (by simp) _ _ _ rfl rfl _ r1 ?_))
    go_ret
    exact ⟨rfl, rfl⟩
  have hnar : ∀ w, Calls Try.prog 103 #[.float .f64 s] w fun e w' => w' = w ∧ e = .returned (.float .f32 t) := fun w => by
    clear hpow t1 t2 r2 r3 r4 r5 p1 q1 s1
    go_enter Try.func103, Try.ntmps103
    go_wp2_with fail
    go_ret
    exact ⟨rfl, rfl⟩
  have HP := Lib.hid hpow
  have HN := Lib.hid hnar
  clear hnar t1 t2 t3 r2 r3 r4 r5 p1 q1 s1 hpow m1 n1 r1 p2 q2 hx hy ha hb
  have hlong : ∀ w, Calls Try.prog 68 #[.complex .f32 x y] w fun e w' => w' = w ∧ e = .returned (.float .f32 t) := fun w => by
    go_enter Try.func68, Try.ntmps68
    go_wp2_with fail
    refine (HP.out _).mono ?_
    rintro e w1 ⟨rfl, rfl⟩
    go_wp2_with fail
    refine (HS.out _).mono ?_
    rintro e w2 ⟨rfl, rfl⟩
    go_wp2_with fail
    refine (HN.out _).mono ?_
    rintro e w3 ⟨rfl, rfl⟩
    go_wp2_with fail
    go_ret
    exact ⟨rfl, rfl⟩
  have HLG := Lib.hid hlong
  clear hlong
  refine ⟨t, T, HT.out, HL.out, fun w => ?_⟩
  go_enter Try.func30, Try.ntmps30
  go_wp2_with fail
  refine (HLG.out _).mono ?_
  rintro e w1 ⟨rfl, rfl⟩
  go_wp2_with fail
  go_ret
  exact ⟨rfl, rfl⟩
/-- two near points are near -/
theorem small_long {a b u : Rat} (ha : a.abs ≤ 1 / 100000) (hb : b.abs ≤ 1 / 100000) (h : Long a b u) : u ≤ 1 / 1200 := by
  obtain ⟨D, g0, g1, g2⟩ := h
  have k1 := abs_le.1 g1
  have k2 := abs_le.1 g2
  have k3 := abs_le.1 (mul_abs_le ha ha)
  have k4 := abs_le.1 (mul_abs_le hb hb)
  have l : D ≤ 1 / 2000 := by
    rcases Rat.le_total (a := D) (b := 1 / 2000) with h | h
    · exact h
    · have := sq_lt (show (0 : Rat) ≤ 1 / 2000 by decide +kernel) h
      grind
  grind
theorem apart_V {a b c d : Nat} {A B C D : Rat} (ha : Val .f32 a A) (hb : Val .f32 b B) (hc : Val .f32 c C) (hd : Val .f32 d D) (h1 : A.abs ≤ 2) (h2 : B.abs ≤ 2) (h3 : C.abs ≤ 2) (h4 : D.abs ≤ 2) (h5 : (A - C).abs ≤ 1 / 110000) (h6 : (B - D).abs ≤ 1 / 110000) :
    ∃ r, fcmp .gtr .f64 r 4562254508917369340 = false ∧ ∀ w, Calls Try.prog 32 #[.complex .f32 a b, .complex .f32 c d] w fun e w' => w' = w ∧ e = .returned (.float .f64 r) := by
  obtain ⟨r, s, R, I, hsub, q1, q2, q3, q4⟩ := sub_V ha hb hc hd h1 h2 h3 h4
  have k1 := abs_le.1 h5
  have k2 := abs_le.1 h6
  have k3 := abs_le.1 q3
  have k4 := abs_le.1 q4
  have m1 : R.abs ≤ 1 / 100000 := abs_le.2 ⟨by grind, by grind⟩
  have m2 : I.abs ≤ 1 / 100000 := abs_le.2 ⟨by grind, by grind⟩
  obtain ⟨t, T, t1, t2, t3⟩ := specLong_Q q1 q2 (by grind) (by grind)
  obtain ⟨x, x1, x2⟩ := val_wide t1
  have hu := small_long m1 m2 t2
  have HL := Lib.hid t3
  refine ⟨x, near_thr x1 (by grind), fun w => ?_⟩
  clear ha hb hc hd h1 h2 h3 h4 h5 h6 q1 q2 q3 q4 k1 k2 k3 k4 m1 m2 t1 t2 t3 x1 hu
  go_enter Try.func32, Try.ntmps32
  go_wp2_with fail
  refine (HL.out _).mono ?_
  rintro e w1 ⟨rfl, rfl⟩
  go_wp2_with fail
  go_ret
  exact ⟨rfl, rfl⟩
/-! ## the tables -/
def isNum32 (x : Nat) : Bool := decide (x < 4294967296) && match FloatKind.f32.decode x with | .number _ _ _ => true | _ => false
def val32 (x : Nat) : Rat := match FloatKind.f32.decode x with | .number s m p => rat s m p | _ => 0
theorem val_of_num32 {x : Nat} (h : isNum32 x = true) : Val .f32 x (val32 x) := by
  unfold isNum32 at h
  rw [Bool.and_eq_true] at h
  refine ⟨of_decide_eq_true h.1, ?_⟩
  unfold val32
  cases e : FloatKind.f32.decode x with
  | number s m p => exact ⟨s, m, p, rfl, rfl⟩
  | infinity s => rw [e] at h; exact absurd h.2 Bool.false_ne_true
  | nan s t => rw [e] at h; exact absurd h.2 Bool.false_ne_true
theorem longs_ok : (List.range 12).all (fun d => match floatBits .quo .f32 (floatOfInt .f32 ((d + 1 : Nat) : Int)) 1082130432 with | some r => isNum32 r && decide (1 / 4 ≤ val32 r) && decide (val32 r ≤ 3) | none => false) = true := by decide +kernel
theorem long_of {d : Nat} (hd : d < 12) : ∃ r L, floatBits .quo .f32 (floatOfInt .f32 ((d + 1 : Nat) : Int)) 1082130432 = some r ∧ Val .f32 r L ∧ 1 / 4 ≤ L ∧ L ≤ 3 := by
  have h := List.all_eq_true.1 longs_ok d (List.mem_range.2 hd)
  generalize floatBits .quo .f32 (floatOfInt .f32 ((d + 1 : Nat) : Int)) 1082130432 = q at *
  cases q with
  | none => simp at h
  | some r =>
    simp only [Bool.and_eq_true, decide_eq_true_eq] at h
    exact ⟨r, val32 r, rfl, val_of_num32 h.1.1, h.1.2, h.2⟩
theorem turns_F : (List.range 33).all (fun t => (floatBits .quo .f32 (floatOfInt .f32 ((t : Int) - 16)) 1107296256 == some (F (32 * ((t : Int) - 16)))) && (Op.negFloat .f32 (F (32 * ((t : Int) - 16))) == if t = 16 then 2147483648 else F (32 * (16 - (t : Int))))) = true := by decide +kernel
theorem backs_small : (List.range 33).all (fun t => absSmall (backY t)) = true := by kernel_rfl
theorem run_wide_minus (w : World) : (convert 34 52 (.float .f32 2147483648)).run Try.prog w = .ok (.float .f64 9223372036854775808) w := by
  have hu : Try.prog.underlying 34 = some (.float .f32) := by kernel_rfl
  have hd : Try.prog.underlying 52 = some (.float .f64) := by kernel_rfl
  have hc : (convert 34 52 (.float .f32 2147483648)).run Try.prog w = (Conv.floatToFloat .f32 2147483648 .f64).run Try.prog w := by
    simp [convert, run_underlying hu, run_underlying hd]
  rw [hc]
  unfold Conv.floatToFloat
  have e : FloatKind.f32.decode 2147483648 = .number true 0 (-149) := by decide +kernel
  rw [e]
  rfl
theorem nums_F : (List.range 33).all (fun t => isNum32 (F (32 * ((t : Int) - 16))) && isNum32 (if t = 16 then 2147483648 else F (32 * (16 - (t : Int))))) = true := by decide +kernel
theorem all_at {p : Nat → Bool} {n t : Nat} (h : (List.range n).all p = true) (ht : t < n) : p t = true := List.all_eq_true.1 h t (List.mem_range.2 ht)
/-- all that is known of a turn of the law -/
theorem turn_of {t : Nat} (ht : t < 33) : ∃ sb nb, floatBits .quo .f32 (floatOfInt .f32 ((t : Int) - 16)) 1107296256 = some sb ∧ Op.negFloat .f32 sb = nb ∧ Num sb ∧ Num nb ∧
    (∀ w, (convert 34 52 (.float .f32 sb)).run Try.prog w = .ok (.float .f64 (turnY t)) w) ∧ (∀ w, (convert 34 52 (.float .f32 nb)).run Try.prog w = .ok (.float .f64 (backY t)) w) ∧
    OkT (turnY t) ∧ absSmall (turnY t) = true ∧ OkT (backY t) ∧ absSmall (backY t) = true ∧
    (valQ (rotC (turnY t)) * valQ (rotC (backY t)) - valQ (rotS (turnY t)) * valQ (rotS (backY t)) - 1).abs ≤ 1 / 100000000 ∧ (valQ (rotC (turnY t)) * valQ (rotS (backY t)) + valQ (rotS (turnY t)) * valQ (rotC (backY t))).abs ≤ 1 / 100000000 := by
  have h1 := all_at turns_F ht
  simp only [Bool.and_eq_true, beq_iff_eq] at h1
  have h2 := all_at nums_F ht
  simp only [Bool.and_eq_true] at h2
  have h3 := all_at back_near ht
  simp only [Bool.and_eq_true, decide_eq_true_eq] at h3
  have h4 : OkT (turnY t) := okT (y := turnY t) (all_at (p := fun t => okP (turnY t)) phasors_ok ht)
  have h5 := all_at (p := fun t => absSmall (turnY t)) turns_small ht
  have h6 := all_at (p := fun t => absSmall (backY t)) backs_small ht
  have h7 : OkT (backY t) := by
    by_cases e : t = 16
    · subst e
      exact okT backs_ok
    · have e2 : backY t = turnY (32 - t) := by
        unfold backY turnY
        rw [if_neg e, show ((32 - t : Nat) : Int) - 16 = 16 - (t : Int) by omega]
      rw [e2]
      exact okT (y := turnY (32 - t)) (all_at (p := fun t => okP (turnY t)) phasors_ok (by omega))
  refine ⟨_, _, h1.1, h1.2, ⟨_, val_of_num32 h2.1⟩, ⟨_, val_of_num32 h2.2⟩, fun w => run_wideF _ (by omega) w, fun w => ?_, h4, h5, h7, h6, h3.1, h3.2⟩
  unfold backY
  by_cases e : t = 16
  · rw [if_pos e, if_pos e]
    exact run_wide_minus w
  · rw [if_neg e, if_neg e]
    exact run_wideF _ (by omega) w
end Go.Proofs.Ytfehhbmmdbpdpaa
