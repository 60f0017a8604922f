/- Walks: the nodes of a tree are finite. -/
import Derived.Test.YtfehhbmmdbpdpaaDD
namespace Go.Proofs.Ytfehhbmmdbpdpaa
open Go Go.RowKit
set_option linter.unusedVariables false
set_option linter.unusedSimpArgs false
attribute [local go_sem] run_store_float run_store_complex

/-- all numbers of a node are small -/
def NdOk (wd : Nat) (nd : Nd) : Prop := nd.cx.natAbs < 16777216 ∧ nd.cy.natAbs < 16777216 ∧ (hP nd.d wd).natAbs < 16777216 ∧ nd.sp.natAbs < 16777216 ∧ nd.mx.natAbs < 16777216 ∧ nd.my.natAbs < 16777216
theorem sorted_len (N : Nat) : ∀ (ws : List Nat) (lo : Nat), ws.Pairwise (· < ·) → (∀ i ∈ ws, lo ≤ i ∧ i < N) → lo ≤ N → ws.length + lo ≤ N
  | [], lo, _, _, h => by simpa using h
  | a :: ws, lo, hp, hb, h => by
    rw [List.pairwise_cons] at hp
    have h1 := hb a (List.mem_cons_self ..)
    have := sorted_len N ws (a + 1) hp.2 (fun i hi => ⟨hp.1 i hi, (hb i (List.mem_cons_of_mem _ hi)).2⟩) h1.2
    rw [List.length_cons]
    omega
theorem Alone.len {ps : List Wh} {w N : Nat} {nd : Nd} (h : Alone ps w N nd) : nd.ws.length ≤ N := by
  have := sorted_len N nd.ws 0 h.sorted (fun i hi => ⟨Nat.zero_le _, h.below i hi⟩) (Nat.zero_le _)
  simpa using this
theorem Alone.ok {ps : List Wh} {wd : Nat} {nd : Nd} (h : Alone ps wd ps.length nd) (hps : OkPs ps) : NdOk wd nd := by
  have hl := h.len
  have h12 := hps.1
  have hok := hps.map h.below
  have hb1 := h.bx
  have hb2 := h.by_
  have f1 : (spinP ps nd.ws).natAbs ≤ nd.ws.length * 2048 := by
    rw [spinP_L]
    have := fold_bound (fun u => u.2.2) 2048 (nd.ws.map (atW ps)) (fun u hu => ((hok u hu).term (c := 0) (by decide) (by decide)).2.2.2.2.2.2)
    rw [List.length_map] at this
    exact this
  have f2 : (momX ps nd.cx nd.ws).natAbs ≤ nd.ws.length * 24576 := by
    rw [momX_L]
    have := fold_bound (fun u => (u.1 - nd.cx) * u.2.2 / 1024) 24576 (nd.ws.map (atW ps)) (fun u hu => ((hok u hu).term (c := nd.cx) (by omega) h.ex).1.2)
    rw [List.length_map] at this
    exact this
  have f3 : (momY ps nd.cy nd.ws).natAbs ≤ nd.ws.length * 24576 := by
    rw [momY_L]
    have := fold_bound (fun u => (u.2.1 - nd.cy) * u.2.2 / 1024) 24576 (nd.ws.map (atW ps)) (fun u hu => ((hok u hu).term (c := nd.cy) (by omega) h.ey).2.1.2)
    rw [List.length_map] at this
    exact this
  refine ⟨by omega, by omega, by omega, ?_, ?_, ?_⟩
  · rw [h.sp_]; omega
  · rw [h.mx_]; omega
  · rw [h.my_]; omega

theorem lies_new' (w : World) (t : TypeId) (xs : Array Value) (g : Nat) (hg : g = w.heap.size) : Lies (w.alloc (.cells xs t)) t (some ⟨g, 0, none⟩) xs.toList := by
  subst hg
  exact lies_new w t xs
set_option maxRecDepth 100000 in
set_option maxHeartbeats 800000 in
theorem tree3_F (wd : Nat) (nd : Nd) (hok : NdOk wd nd) (A1 A2 : Option Addr) (c1 c2 : Nat) (w : World) :
    Calls Try.prog 88 #[.agg #[.complex .f32 (F nd.cx) (F nd.cy), .float .f32 (F (hP nd.d wd)), .int .i64 nd.d, .slice A1 nd.ws.length c1, .slice A2 nd.nx.length c2, .float .f32 (F nd.sp), .complex .f32 (F nd.mx) (F nd.my)]] w fun e w' => Ext w w' ∧ e = .returned (.bool false) := by
  have HB := Lib.hid (Blk.new w 49 #[.complex .f32 (F nd.cx) (F nd.cy), .float .f32 (F (hP nd.d wd)), .int .i64 nd.d, .slice A1 nd.ws.length c1, .slice A2 nd.nx.length c2, .float .f32 (F nd.sp), .complex .f32 (F nd.mx) (F nd.my)])
  have HE0 := Lib.hid (show Ext w (w.alloc (.cells #[.complex .f32 (F nd.cx) (F nd.cy), .float .f32 (F (hP nd.d wd)), .int .i64 nd.d, .slice A1 nd.ws.length c1, .slice A2 nd.nx.length c2, .float .f32 (F nd.sp), .complex .f32 (F nd.mx) (F nd.my)] 49)) by (repeat first | with_reducible exact Ext.rfl' _ | with_reducible refine Ext.drewN ?_ _ | with_reducible refine Ext.drew' ?_ | with_reducible refine Ext.alloc' ?_ _ | with_reducible refine Ext.setCell_at ?_ _ _ _ (by first | exact Nat.le_refl _ | omega) | with_reducible assumption | refine Ext.trans ?_ (by with_reducible assumption)))
  have HOK := Lib.hid hok
  clear hok
  go_enter Try.func88, Try.ntmps88
  go_wp2_with fail
  refine (finiteAll_F _ _ 2 [(nd.cx, nd.cy), (nd.mx, nd.my)] _ (lies_new' _ 27 #[.complex .f32 (F nd.cx) (F nd.cy), .complex .f32 (F nd.mx) (F nd.my)] _ (by simp)) rfl (by decide) (fun c hc => by
    have h := HOK.out
    simp at hc
    rcases hc with rfl | rfl
    · exact ⟨h.1, h.2.1⟩
    · exact ⟨h.2.2.2.2.1, h.2.2.2.2.2⟩)).mono ?_
  rintro e w1 ⟨he, rfl⟩
  have HE1 := Lib.hid (Ext.trans HE0.out (Ext.trans (by (repeat first | with_reducible exact Ext.rfl' _ | with_reducible refine Ext.drewN ?_ _ | with_reducible refine Ext.drew' ?_ | with_reducible refine Ext.alloc' ?_ _ | with_reducible refine Ext.setCell_at ?_ _ _ _ (by first | exact Nat.le_refl _ | omega) | with_reducible assumption | refine Ext.trans ?_ (by with_reducible assumption))) he))
  have HB1 := Lib.hid (HB.out.ext (Ext.trans (by (repeat first | with_reducible exact Ext.rfl' _ | with_reducible refine Ext.drewN ?_ _ | with_reducible refine Ext.drew' ?_ | with_reducible refine Ext.alloc' ?_ _ | with_reducible refine Ext.setCell_at ?_ _ _ _ (by first | exact Nat.le_refl _ | omega) | with_reducible assumption | refine Ext.trans ?_ (by with_reducible assumption))) he))
  have d1 : w1.cell? ⟨w.heap.size, 1, none⟩ = some (.float .f32 (F (hP nd.d wd))) := HB1.out.cell 1
  have d5 : w1.cell? ⟨w.heap.size, 5, none⟩ = some (.float .f32 (F nd.sp)) := HB1.out.cell 5
  clear he
  go_wp2_with fail
  refine (finite_F _ _ 2 [hP nd.d wd, nd.sp] _ (lies_new' _ 34 #[.float .f32 (F (hP nd.d wd)), .float .f32 (F nd.sp)] _ (by simp)) rfl (by decide) (fun c hc => by
    have h := HOK.out
    simp at hc
    rcases hc with rfl | rfl
    · exact h.2.2.1
    · exact h.2.2.2.1)).mono ?_
  rintro e w2 ⟨he, rfl⟩
  have HE2 := Lib.hid (Ext.trans HE1.out (Ext.trans (by (repeat first | with_reducible exact Ext.rfl' _ | with_reducible refine Ext.drewN ?_ _ | with_reducible refine Ext.drew' ?_ | with_reducible refine Ext.alloc' ?_ _ | with_reducible refine Ext.setCell_at ?_ _ _ _ (by first | exact Nat.le_refl _ | omega) | with_reducible assumption | refine Ext.trans ?_ (by with_reducible assumption))) he))
  clear he d1 d5
  go_wp2_with fail
  go_ret
  exact ⟨HE2.out, rfl⟩

set_option maxRecDepth 100000 in
set_option maxHeartbeats 800000 in
theorem IndexN_none (A : Option Addr) (cap n : Nat) (wd : Nat) (L : List Nd) (ys : List Value) (w : World) (hA : Lies w 49 A ys) (hN : NodesAt w wd L ys) (hn : L.length = n) (hl : n ≤ 1000)
    (hp : ∀ (k : Nat) (nd : Nd), L[k]? = some nd → ∀ A1 c1 A2 c2 w, Calls Try.prog 88 #[.agg #[.complex .f32 (F nd.cx) (F nd.cy), .float .f32 (F (hP nd.d wd)), .int .i64 nd.d, .slice A1 nd.ws.length c1, .slice A2 nd.nx.length c2, .float .f32 (F nd.sp), .complex .f32 (F nd.mx) (F nd.my)]] w fun e w' => Ext w w' ∧ e = .returned (.bool false)) :
    Calls Try.prog 110 #[.slice A n cap, .func (.func 88) #[] #[]] w fun e w' => Ext w w' ∧ e = .returned (.int .i64 (-1)) := by
  have HA := Lib.hid hA
  have HN := Lib.hid hN
  have HL := Lib.hid hl
  have HP := Lib.hid hp
  clear hA hN hl hp
  go_enter Try.func110, Try.ntmps110
  go_wp2_with fail
  go_loopw [8] (fun i wr => ∃ (k : Nat), k ≤ n ∧ i = .int .i64 k ∧ Ext w wr) (fun i _ => n - (intOf i).toNat)
  case atStart => exact ⟨0, Nat.zero_le _, rfl, Ext.rfl' _⟩
  case round =>
    obtain ⟨k, hk, rfl, hbel⟩ := hrel
    have HE := Lib.hid hbel
    clear hbel
    have hk9 : k < 9223372036854775807 := by have := HL.out; omega
    by_cases hlt : k < n
    · obtain ⟨nd, hv⟩ : ∃ v, L[k]? = some v := ⟨L[k]'(by omega), List.getElem?_eq_getElem (by omega)⟩
      obtain ⟨b, o, rfl, hbw, hcc⟩ := HA.out.cell (by rw [HN.out.1]; omega)
      obtain ⟨A1, c1, A2, c2, a0, a1, a2, a3, a4, a5, a6, -, -⟩ := HN.out.2 k nd hv
      have d0 := (HE.out.cell (p := ⟨b, o + k * 7, none⟩) hbw).trans (hcc _ _ a0)
      have d1 := (HE.out.cell (p := ⟨b, o + k * 7 + 1, none⟩) hbw).trans (hcc _ _ a1)
      have d2 := (HE.out.cell (p := ⟨b, o + k * 7 + 2, none⟩) hbw).trans (hcc _ _ a2)
      have d3 := (HE.out.cell (p := ⟨b, o + k * 7 + 3, none⟩) hbw).trans (hcc _ _ a3)
      have d4 := (HE.out.cell (p := ⟨b, o + k * 7 + 4, none⟩) hbw).trans (hcc _ _ a4)
      have d5 := (HE.out.cell (p := ⟨b, o + k * 7 + 5, none⟩) hbw).trans (hcc _ _ a5)
      have d6 := (HE.out.cell (p := ⟨b, o + k * 7 + 6, none⟩) hbw).trans (hcc _ _ a6)
      have HV := Lib.hid hv
      clear hcc hv a0 a1 a2 a3 a4 a5 a6
      go_wp2_with fail
      refine (HP.out k nd HV.out _ _ _ _ _).mono ?_
      rintro e w1 ⟨he, rfl⟩
      have HF := Lib.hid (Ext.trans HE.out (Ext.trans (by (repeat first | with_reducible exact Ext.rfl' _ | with_reducible refine Ext.drewN ?_ _ | with_reducible refine Ext.drew' ?_ | with_reducible refine Ext.alloc' ?_ _ | with_reducible refine Ext.setCell_at ?_ _ _ _ (by first | exact Nat.le_refl _ | omega) | with_reducible assumption | refine Ext.trans ?_ (by with_reducible assumption))) he))
      clear he d0 d1 d2 d3 d4 d5 d6
      go_wp2_with fail
      exact ⟨⟨k + 1, by omega, by go_num, HF.out⟩, by simp [intOf]; omega⟩
    · go_wp2_with fail
      go_ret
      exact ⟨HE.out, rfl⟩
set_option maxRecDepth 100000 in
set_option maxHeartbeats 800000 in
theorem ContainsN_none (A : Option Addr) (cap n : Nat) (wd : Nat) (L : List Nd) (ys : List Value) (w : World) (hA : Lies w 49 A ys) (hN : NodesAt w wd L ys) (hn : L.length = n) (hl : n ≤ 1000)
    (hp : ∀ (k : Nat) (nd : Nd), L[k]? = some nd → ∀ A1 c1 A2 c2 w, Calls Try.prog 88 #[.agg #[.complex .f32 (F nd.cx) (F nd.cy), .float .f32 (F (hP nd.d wd)), .int .i64 nd.d, .slice A1 nd.ws.length c1, .slice A2 nd.nx.length c2, .float .f32 (F nd.sp), .complex .f32 (F nd.mx) (F nd.my)]] w fun e w' => Ext w w' ∧ e = .returned (.bool false)) :
    Calls Try.prog 87 #[.slice A n cap, .func (.func 88) #[] #[]] w fun e w' => Ext w w' ∧ e = .returned (.bool false) := by
  have HC := Lib.hid (IndexN_none A cap n wd L ys w hA hN hn hl hp)
  clear hA hN hl hp
  go_enter Try.func87, Try.ntmps87
  go_wp2_with fail
  refine HC.out.mono ?_
  rintro e w1 ⟨he, rfl⟩
  go_wp2_with fail
  go_ret
  exact ⟨he, rfl⟩
end Go.Proofs.Ytfehhbmmdbpdpaa
