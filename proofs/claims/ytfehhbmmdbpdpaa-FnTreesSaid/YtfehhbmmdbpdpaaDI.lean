/- Walks: the leaves and the depth of a tree. -/
import Derived.Test.YtfehhbmmdbpdpaaDH
namespace Go.Proofs.Ytfehhbmmdbpdpaa
open Go Go.RowKit
set_option linter.unusedVariables false
set_option linter.unusedSimpArgs false
attribute [local go_sem] run_store_float run_store_complex

theorem nodesOk_any (A : Option Addr) (cap n : Nat) (h1 : 1 ≤ n) (h2 : n ≤ 512) (w : World) : Calls Try.prog 47 #[.slice A n cap] w fun e w' => w' = w ∧ e = .returned (.bool true) := by
  have hin : ∀ w, Calls Try.prog 52 #[.int .i64 n, .int .i64 1, .int .i64 512] w fun e w' => w' = w ∧ e = .returned (.bool true) := fun w => by
    have q1 : (1 : Int) ≤ (n : Int) := by omega
    have q2 : (n : Int) ≤ 512 := by omega
    clear h1 h2
    go_enter Try.func52, Try.ntmps52
    go_wp2_with fail
    go_ret
    exact ⟨rfl, rfl⟩
  have HIN := Lib.hid hin
  clear hin
  go_enter Try.func47, Try.ntmps47
  go_wp2_with fail
  refine (HIN.out _).mono ?_
  rintro e w1 ⟨rfl, rfl⟩
  go_wp2_with fail
  go_ret
  exact ⟨rfl, rfl⟩
/-- how many nodes have no quarters -/
def endsP (L : List Nd) : Nat := (L.filter (fun n => n.nx.length == 0)).length
theorem endsP_take (L : List Nd) (k : Nat) (n : Nd) (h : L[k]? = some n) : endsP (L.take (k + 1)) = endsP (L.take k) + if n.nx.length = 0 then 1 else 0 := by
  obtain ⟨hk, hu⟩ := List.getElem?_eq_some_iff.1 h
  unfold endsP
  rw [List.take_succ_eq_append_getElem hk, List.filter_append, List.length_append, hu]
  by_cases h0 : n.nx.length = 0 <;> simp [List.filter_cons, h0]
theorem endsP_le (L : List Nd) (k : Nat) : endsP (L.take k) ≤ k := by
  unfold endsP
  refine Nat.le_trans (List.length_filter_le _ _) ?_
  rw [List.length_take]
  omega
set_option maxRecDepth 100000 in
set_option maxHeartbeats 800000 in
theorem LeavesOf_any (A : Option Addr) (cap wd : Nat) (L : List Nd) (ys : List Value) (w : World) (hA : Lies w 49 A ys) (hN : NodesAt w wd L ys) (h1 : 1 ≤ L.length) (h2 : L.length ≤ 512) :
    Calls Try.prog 19 #[.slice A L.length cap] w fun e w' => Ext w w' ∧ ∃ A' c', e = .returned (.tuple #[.slice A' (endsP L) c', .bool true]) := by
  have HA := Lib.hid hA
  have HN := Lib.hid hN
  have HL := Lib.hid h2
  obtain ⟨i1, hi1, jz0, jz1, jz2⟩ := parts_of infoI
  have hz1 : (Value.int .i64 0).cells.size = 1 := by decide
  have HOK := Lib.hid (nodesOk_any A cap L.length h1 h2)
  have HOWN := Lib.hid (show (w.alloc (.cells #[] 2)).ownsRow w.heap.size 2 1 (.slice (some ⟨w.heap.size, 0, none⟩) 0 0) 0 [] from World.ownsRow_made (base := w.heap.size) (e := 2) (size := 1) w #[] 0 (Nat.le_refl _) (by decide) rfl)
  have HE0 := Lib.hid (show Ext w (w.alloc (.cells #[] 2)) by (repeat first | with_reducible exact Ext.rfl' _ | with_reducible refine Ext.drewN ?_ _ | with_reducible refine Ext.drew' ?_ | with_reducible refine Ext.alloc' ?_ _ | with_reducible refine Ext.setCell_at ?_ _ _ _ (by first | exact Nat.le_refl _ | omega) | with_reducible assumption | refine Ext.trans ?_ (by with_reducible assumption)))
  clear hA hN h1 h2
  go_enter Try.func19, Try.ntmps19
  go_wp2_with fail
  refine (HOK.out _).mono ?_
  rintro e w1 ⟨rfl, rfl⟩
  go_wp2_with fail
  generalize w1.alloc (.cells #[] 2) = W0 at *
  go_loopw [4, 13] (fun v i wr => ∃ (k gg cq : Nat) (xs : List Value), k ≤ L.length ∧ i = .int .i64 k ∧ v = .slice (some ⟨gg, 0, none⟩) (endsP (L.take k)) cq ∧ wr.ownsRow w1.heap.size 2 1 v (endsP (L.take k)) xs ∧ Ext w1 wr) (fun _ i _ => L.length - (intOf i).toNat)
  case atStart => exact ⟨0, w1.heap.size, 0, [], Nat.zero_le _, rfl, rfl, HOWN.out, HE0.out⟩
  case round =>
    obtain ⟨k, gg, cq, xs, hk, rfl, rfl, hown, hbel⟩ := hrel
    have HOW := Lib.hid hown
    have HE := Lib.hid hbel
    clear hown hbel HOWN HE0
    have hk9 : k < 9223372036854775807 := by have := HL.out; omega
    by_cases hlt : k < L.length
    · obtain ⟨nd, hv⟩ : ∃ v, L[k]? = some v := ⟨L[k], List.getElem?_eq_getElem hlt⟩
      obtain ⟨b, o, rfl, hbw, hcc⟩ := HA.out.cell (by rw [HN.out.1]; omega)
      obtain ⟨A1, c1, A2, c2, a0, a1, a2, a3, a4, a5, a6, -, -⟩ := HN.out.2 k nd hv
      have d0 := (HE.out.cell (p := ⟨b, o + k * 7, none⟩) hbw).trans (hcc _ _ a0)
      have d1 := (HE.out.cell (p := ⟨b, o + k * 7 + 1, none⟩) hbw).trans (hcc _ _ a1)
      have d2 := (HE.out.cell (p := ⟨b, o + k * 7 + 2, none⟩) hbw).trans (hcc _ _ a2)
      have d3 := (HE.out.cell (p := ⟨b, o + k * 7 + 3, none⟩) hbw).trans (hcc _ _ a3)
      have d4 := (HE.out.cell (p := ⟨b, o + k * 7 + 4, none⟩) hbw).trans (hcc _ _ a4)
      have d5 := (HE.out.cell (p := ⟨b, o + k * 7 + 5, none⟩) hbw).trans (hcc _ _ a5)
      have d6 := (HE.out.cell (p := ⟨b, o + k * 7 + 6, none⟩) hbw).trans (hcc _ _ a6)
      have HV := Lib.hid hv
      clear hcc hv a0 a1 a2 a3 a4 a5 a6
      have HTK := Lib.hid (endsP_take L k nd HV.out)
      have HLE := Lib.hid (endsP_le L k)
      by_cases hx : nd.nx.length = 0
      · have HX := Lib.hid hx
        have hx' : ((nd.nx.length : Nat) : Int) = 0 := by omega
        clear hx
        go_wp2_with (first | (at_builtin; refine Stand.of ?_))
        refine Stand.out ?_
        refine wpList_append_lies _ rfl _ _ 43 rfl w1.heap.size 2 i1 _ 1 8 under_ints hi1 jz0 jz1 jz2 hz1 (by omega) _ _ _ rfl ((HOW.out.alloc _).alloc _) ⟨wr.heap.size + 1, 0, none⟩ 1 1 [.int .i64 k] rfl rfl (World.news_of_block (cs := #[.int .i64 k]) (t := 2) (fr := (0, 0)) (by have := heap_alloc_new (wr.alloc (.cells #[.complex .f32 (F nd.cx) (F nd.cy), .float .f32 (F (hP nd.d wd)), .int .i64 nd.d, .slice A1 nd.ws.length c1, .slice A2 nd.nx.length c2, .float .f32 (F nd.sp), .complex .f32 (F nd.mx) (F nd.my)] 49)) (.cells #[.int .i64 k] 2); rw [World.size_alloc] at this; exact this)) (by simp [Value.oneCell']) (by omega) (by have := HL.out; have := HLE.out; unfold maxLen; omega) (by have := HL.out; have := HLE.out; omega) (by have := HE.out.size; simp; omega) _ rfl ?_
        intro g2 c2 w6 hown6 hgrow hat hlt6
        have hgl := HOW.out.lt
        have HE6 := Lib.hid (Ext.grown (Ext.trans HE.out (Ext.alloc' (Ext.alloc' (Ext.rfl' wr) _) _)) hgrow (fun k hk => (hgl k hk).1))
        have HO6 := Lib.hid hown6
        clear hown6 hgrow hat hlt6 hgl d0 d1 d2 d3 d4 d5 d6
        go_wp2_with fail
        refine ⟨⟨k + 1, g2, c2, xs ++ [.int .i64 k], by omega, by go_num, ?_, ?_, HE6.out⟩, by simp [intOf]; omega⟩
        · rw [HTK.out, if_pos HX.out]
        · rw [HTK.out, if_pos HX.out]
          exact HO6.out
      · have HX := Lib.hid hx
        have hx' : ¬ ((nd.nx.length : Nat) : Int) = 0 := by omega
        clear hx
        go_wp2_with fail
        refine ⟨⟨k + 1, gg, cq, xs, by omega, by go_num, ?_, ?_, Ext.trans HE.out (by (repeat first | with_reducible exact Ext.rfl' _ | with_reducible refine Ext.drewN ?_ _ | with_reducible refine Ext.drew' ?_ | with_reducible refine Ext.alloc' ?_ _ | with_reducible refine Ext.setCell_at ?_ _ _ _ (by first | exact Nat.le_refl _ | omega) | with_reducible assumption | refine Ext.trans ?_ (by with_reducible assumption)))⟩, by simp [intOf]; omega⟩
        · rw [HTK.out, if_neg HX.out]; rfl
        · rw [HTK.out, if_neg HX.out]
          exact HOW.out.alloc _
    · have hkn : k = L.length := by omega
      subst hkn
      rw [List.take_length]
      go_wp2_with fail
      go_ret2
      exact ⟨HE.out, _, _, rfl⟩
set_option maxRecDepth 100000 in
set_option maxHeartbeats 800000 in
theorem DepthOf_any (A : Option Addr) (cap wd : Nat) (L : List Nd) (ys : List Value) (w : World) (hA : Lies w 49 A ys) (hN : NodesAt w wd L ys) (h1 : 1 ≤ L.length) (h2 : L.length ≤ 512) (hd : ∀ nd ∈ L, nd.d ≤ 6) :
    Calls Try.prog 20 #[.slice A L.length cap] w fun e w' => Ext w w' ∧ ∃ m : Nat, e = .returned (.tuple #[.int .i64 m, .bool true]) ∧ m ≤ 6 ∧ ∀ nd ∈ L, nd.d ≤ m := by
  have HA := Lib.hid hA
  have HN := Lib.hid hN
  have HL := Lib.hid h2
  have HD := Lib.hid hd
  have HOK := Lib.hid (nodesOk_any A cap L.length h1 h2)
  obtain ⟨n0, hv0⟩ : ∃ v, L[0]? = some v := ⟨L[0], List.getElem?_eq_getElem h1⟩
  have hlt0 : 0 < L.length := h1
  obtain ⟨b, o, rfl, hbw, hcc⟩ := HA.out.cell (by rw [HN.out.1]; omega)
  obtain ⟨A1, c1, A2, c2, -, -, a2, -⟩ := HN.out.2 0 n0 hv0
  have d0 : w.cell? ⟨b, o + 2, none⟩ = some (.int .i64 n0.d) := hcc _ _ a2
  have hd6 := hd n0 (List.mem_of_getElem? hv0)
  have HCC := Lib.hid hcc
  clear hA hN h1 h2 hcc a2 hd
  go_enter Try.func20, Try.ntmps20
  go_wp2_with fail
  refine (HOK.out _).mono ?_
  rintro e w1 ⟨rfl, rfl⟩
  go_wp2_with fail
  go_loopw [4, 16] (fun v i wr => ∃ (k m : Nat), k ≤ L.length ∧ i = .int .i64 k ∧ v = .int .i64 m ∧ m ≤ 6 ∧ (∀ nd ∈ L.take k, nd.d ≤ m) ∧ Ext w1 wr) (fun _ i _ => L.length - (intOf i).toNat)
  case atStart => exact ⟨0, n0.d, Nat.zero_le _, rfl, rfl, hd6, (fun nd h => by simp at h), Ext.rfl' _⟩
  case round =>
    clear d0
    obtain ⟨k, m, hk, rfl, rfl, hm6, hall, hbel⟩ := hrel
    have HALL := Lib.hid hall
    have HE := Lib.hid hbel
    clear hall hbel
    have hk9 : k < 9223372036854775807 := by have := HL.out; omega
    by_cases hlt : k < L.length
    · obtain ⟨nd, hv⟩ : ∃ v, L[k]? = some v := ⟨L[k], List.getElem?_eq_getElem hlt⟩
      have hcc := HCC.out
      obtain ⟨A1, c1, A2, c2, a0, a1, a2, a3, a4, a5, a6, -, -⟩ := HN.out.2 k nd hv
      have d0 := (HE.out.cell (p := ⟨b, o + k * 7, none⟩) hbw).trans (hcc _ _ a0)
      have d1 := (HE.out.cell (p := ⟨b, o + k * 7 + 1, none⟩) hbw).trans (hcc _ _ a1)
      have d2 := (HE.out.cell (p := ⟨b, o + k * 7 + 2, none⟩) hbw).trans (hcc _ _ a2)
      have d3 := (HE.out.cell (p := ⟨b, o + k * 7 + 3, none⟩) hbw).trans (hcc _ _ a3)
      have d4 := (HE.out.cell (p := ⟨b, o + k * 7 + 4, none⟩) hbw).trans (hcc _ _ a4)
      have d5 := (HE.out.cell (p := ⟨b, o + k * 7 + 5, none⟩) hbw).trans (hcc _ _ a5)
      have d6 := (HE.out.cell (p := ⟨b, o + k * 7 + 6, none⟩) hbw).trans (hcc _ _ a6)
      have HV := Lib.hid hv
      clear hcc hv a0 a1 a2 a3 a4 a5 a6
      have HTK := Lib.hid (show L.take (k + 1) = L.take k ++ [nd] from by
        obtain ⟨hk', hu⟩ := List.getElem?_eq_some_iff.1 HV.out
        rw [List.take_succ_eq_append_getElem hk', hu])
      have hd6' := HD.out nd (List.mem_of_getElem? HV.out)
      by_cases hx : m < nd.d
      · have hx' : (m : Int) < (nd.d : Int) := by omega
        go_wp2_with fail
        refine ⟨⟨k + 1, nd.d, by omega, by go_num, rfl, hd6', ?_, Ext.trans HE.out (by (repeat first | with_reducible exact Ext.rfl' _ | with_reducible refine Ext.drewN ?_ _ | with_reducible refine Ext.drew' ?_ | with_reducible refine Ext.alloc' ?_ _ | with_reducible refine Ext.setCell_at ?_ _ _ _ (by first | exact Nat.le_refl _ | omega) | with_reducible assumption | refine Ext.trans ?_ (by with_reducible assumption)))⟩, by simp [intOf]; omega⟩
        rw [HTK.out]
        intro n' hn'
        rcases List.mem_append.1 hn' with h | h
        · have := HALL.out n' h; omega
        · rw [List.mem_singleton] at h; subst h; exact Nat.le_refl _
      · have hx' : ¬ (m : Int) < (nd.d : Int) := by omega
        go_wp2_with fail
        refine ⟨⟨k + 1, m, by omega, by go_num, rfl, hm6, ?_, Ext.trans HE.out (by (repeat first | with_reducible exact Ext.rfl' _ | with_reducible refine Ext.drewN ?_ _ | with_reducible refine Ext.drew' ?_ | with_reducible refine Ext.alloc' ?_ _ | with_reducible refine Ext.setCell_at ?_ _ _ _ (by first | exact Nat.le_refl _ | omega) | with_reducible assumption | refine Ext.trans ?_ (by with_reducible assumption)))⟩, by simp [intOf]; omega⟩
        rw [HTK.out]
        intro n' hn'
        rcases List.mem_append.1 hn' with h | h
        · exact HALL.out n' h
        · rw [List.mem_singleton] at h; subst h; omega
    · have hkn : k = L.length := by omega
      subst hkn
      go_wp2_with fail
      go_ret2
      exact ⟨HE.out, m, rfl, hm6, fun nd h => HALL.out nd (by rw [List.take_length]; exact h)⟩
end Go.Proofs.Ytfehhbmmdbpdpaa
