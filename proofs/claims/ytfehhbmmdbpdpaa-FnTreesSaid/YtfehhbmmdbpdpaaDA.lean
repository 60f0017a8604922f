/- What a growth leaves; the quarters of a node one by one. -/
import Derived.Test.YtfehhbmmdbpdpaaD8
namespace Go.Proofs.Ytfehhbmmdbpdpaa
open Go Go.RowKit
set_option linter.unusedVariables false
set_option linter.unusedSimpArgs false

/-- what a growth leaves -/
def GrowPost (wd B g r cp n : Nat) (A1 : Option Addr) (w : World) (ys : List Value) (L : List Nd) : Ending → World → Prop := fun e w' =>
  e = .returned (.int .i64 n) ∧ ∃ r' cp' zs, Tr w' B g (.slice (some ⟨r', 0, none⟩) (n + L.length) cp') (n + L.length) (ys ++ zs) ∧ NodesAt w' wd L zs ∧ Fr w w' g (.slice (some ⟨r, 0, none⟩) n cp) (.slice (some ⟨r', 0, none⟩) (n + L.length) cp') ∧ AddrsIn (fun b => (w.heap.size ≤ b ∨ ∃ o, A1 = some ⟨b, o, none⟩) ∧ b < w'.heap.size) zs
/-- nodes of this depth are grown as told -/
def Grows (f : Nat) (ps : List Wh) (wd B g lb lo lcap d : Nat) : Prop :=
  ∀ (r cp n : Nat) (cx cy : Int) (ws : List Nat) (ys : List Value) (A1 : Option Addr) (c1 : Nat) (w : World), Pre ps wd ps.length d cx cy ws → Tr w B g (.slice (some ⟨r, 0, none⟩) n cp) n ys → Lies w 51 (some ⟨lb, lo, none⟩) (whVals ps) → Lies w 2 A1 (intVals ws) → n + (f + 1) * ws.length ≤ 1000 → ws.length ≤ 12 →
    Calls Try.prog 86 #[.pointer (some ⟨g, 0, none⟩), .slice (some ⟨lb, lo, none⟩) ps.length lcap, .agg (handed wd d cx cy ws.length A1 c1 0 0 0)] w (GrowPost wd B g r cp n A1 w ys (growP ps wd f n d cx cy ws))
/-- the first q quarters are grown -/
def KidsRel (f : Nat) (ps : List Wh) (wd B g n d : Nat) (cx cy : Int) (ws : List Nat) (m s0 : Nat) (Wa : World) (V5 : Value) (YS : List Value) (q : Nat) (v : Value) (wx : World) : Prop :=
  ∃ (K : List Nd × List Nat) (r7 c7 gq cq : Nat) (zs : List Value), K = kidsP (fun b => growP ps wd f b (d + 1)) ps wd n d cx cy ws q ∧ v = .slice (some ⟨gq, 0, none⟩) K.2.length cq ∧ wx.ownsRow (m + 1) 2 1 v K.2.length (intVals K.2) ∧
    Tr wx B g (.slice (some ⟨r7, 0, none⟩) (n + 1 + K.1.length) c7) (n + 1 + K.1.length) (YS ++ zs) ∧ NodesAt wx wd K.1 zs ∧ Fr Wa wx g V5 (.slice (some ⟨r7, 0, none⟩) (n + 1 + K.1.length) c7) ∧ AddrsIn (fun b => s0 ≤ b ∧ b < wx.heap.size ∧ b ≠ gq) zs
theorem KidsRel.skip {f : Nat} {ps : List Wh} {wd B g n d : Nat} {cx cy : Int} {ws : List Nat} {m s0 : Nat} {Wa : World} {V5 : Value} {YS : List Value} {q : Nat} {v : Value} {wx : World} (h : KidsRel f ps wd B g n d cx cy ws m s0 Wa V5 YS q v wx) (h0 : (partP ps cx cy ws q).length = 0) :
    KidsRel f ps wd B g n d cx cy ws m s0 Wa V5 YS (q + 1) v wx := by
  unfold KidsRel at h ⊢
  unfold kidsP kidP
  rw [if_pos h0]
  exact h
theorem kids_push {f : Nat} {ps : List Wh} {wd B g n d : Nat} {cx cy : Int} {ws : List Nat} {m s0 : Nat} {Wa : World} {V5 : Value} {YS : List Value} {q : Nat} {wx w2 w6 : World} {K : List Nd × List Nat} {r7 c7 gq cq g3 c3 : Nat} {zs : List Value} {Aq : Option Addr} {x : Value} {e : Ending}
    (hm : Wa.heap.size = m + 1) (h0 : (partP ps cx cy ws q).length ≠ 0) (hK : K = kidsP (fun b => growP ps wd f b (d + 1)) ps wd n d cx cy ws q)
    (hown : wx.ownsRow (m + 1) 2 1 (.slice (some ⟨gq, 0, none⟩) K.2.length cq) K.2.length (intVals K.2))
    (hT : Tr wx B g (.slice (some ⟨r7, 0, none⟩) (n + 1 + K.1.length) c7) (n + 1 + K.1.length) (YS ++ zs)) (hN : NodesAt wx wd K.1 zs) (hF : Fr Wa wx g V5 (.slice (some ⟨r7, 0, none⟩) (n + 1 + K.1.length) c7)) (hA : AddrsIn (fun b => s0 ≤ b ∧ b < wx.heap.size ∧ b ≠ gq) zs)
    (hAq : ∀ b o, Aq = some ⟨b, o, none⟩ → s0 ≤ b ∧ b < m) (hs0 : s0 ≤ m)
    (hpost : GrowPost wd B g r7 c7 (n + 1 + K.1.length) Aq wx (YS ++ zs) (growP ps wd f (n + 1 + K.1.length) (d + 1) (cx + sgnP (q % 2) (hP (d + 1) wd)) (cy + sgnP (q / 2) (hP (d + 1) wd)) (partP ps cx cy ws q)) e w2)
    (hown6 : w6.ownsRow (m + 1) 2 1 (.slice (some ⟨g3, 0, none⟩) (K.2.length + 1) c3) (K.2.length + 1) (intVals K.2 ++ [.int .i64 ((n + 1 + K.1.length : Nat) : Int)]))
    (hgrow : (w2.alloc (.cells #[x] 2)).grownBy w6 (some gq)) (hat : some gq = some g3 ∨ g3 = (w2.alloc (.cells #[x] 2)).heap.size) :
    KidsRel f ps wd B g n d cx cy ws m s0 Wa V5 YS (q + 1) (.slice (some ⟨g3, 0, none⟩) (K.2.length + 1) c3) w6 := by
  obtain ⟨he, r', cp', zs', pT, pN, pF, pA⟩ := hpost
  generalize hL : growP ps wd f (n + 1 + K.1.length) (d + 1) (cx + sgnP (q % 2) (hP (d + 1) wd)) (cy + sgnP (q / 2) (hP (d + 1) wd)) (partP ps cx cy ws q) = L at *
  have hK' : kidsP (fun b => growP ps wd f b (d + 1)) ps wd n d cx cy ws (q + 1) = (K.1 ++ L, K.2 ++ [n + 1 + K.1.length]) := by
    unfold kidsP kidP
    rw [if_neg h0, ← hK]
    dsimp only
    rw [hL]
  have hgl := hown.lt gq rfl
  have hex : Ext w2 (w2.alloc (.cells #[x] 2)) := by (repeat first | with_reducible exact Ext.rfl' _ | with_reducible refine Ext.drewN ?_ _ | with_reducible refine Ext.drew' ?_ | with_reducible refine Ext.alloc' ?_ _ | with_reducible refine Ext.setCell_at ?_ _ _ _ (by first | exact Nat.le_refl _ | omega) | with_reducible assumption | refine Ext.trans ?_ (by with_reducible assumption))
  have hown2 := (ownsRow_fr hown hT pF (by decide) (by decide)).kept (row := none) (w' := w2.alloc (.cells #[x] 2)) ⟨hex.os, hex.tape, hex.output, hex.size, fun k hk _ => hex.block k hk⟩ (.inr (by simp [Value.ownBlock]))
  have pT3 := (pT.ext hex).grown hown2 (by decide) (by decide) hgrow
  have e1 : n + 1 + K.1.length + L.length = n + 1 + (K.1 ++ L).length := by rw [List.length_append]; omega
  have hsz := pF.size
  have hs6 := hgrow.size
  have hs3 := hex.size
  have hs4 : (w2.alloc (.cells #[x] 2)).heap.size = w2.heap.size + 1 := by simp
  rw [e1, List.append_assoc] at pT3
  have F3 := (Fr.trans (Fr.trans hF pF) (Fr.of_ext g _ hex)).grown hgrow (fun k hk => by cases hk; omega)
  rw [e1] at F3
  have hA1 : AddrsIn (fun b => some b ≠ some gq) zs := hA.mono fun b hb e => hb.2.2 (by injection e)
  have pA1 : AddrsIn (fun b => some b ≠ some gq) zs' := pA.mono fun b hb e => by
    injection e with e
    subst e
    rcases hb.1 with h | ⟨o, h⟩
    · omega
    · have := hAq _ _ h; omega
  refine ⟨_, r', cp', g3, c3, zs ++ zs', hK'.symm, by rw [List.length_append]; rfl, ?_, pT3, ?_, F3, ?_⟩
  · unfold intVals at hown6 ⊢
    rw [List.map_append, List.length_append]
    exact hown6
  · refine NodesAt.append ?_ ?_
    · exact ((hN.map fun A xs h => (h.fr hT pF (by decide) (by decide)).ext hex)).grown hgrow hA1
    · exact (pN.map fun A xs h => h.ext hex).grown hgrow pA1
  · refine AddrsIn.append (hA.mono fun b hb => ⟨hb.1, by omega, ?_⟩) (pA.mono fun b hb => ⟨?_, by omega, ?_⟩)
    · rcases hat with h | h
      · injection h with h; rw [← h]; exact hb.2.2
      · omega
    · rcases hb.1 with h | ⟨o, h⟩
      · have := hF.size; omega
      · exact (hAq _ _ h).1
    · rcases hat with h | h
      · injection h with h
        subst h
        rcases hb.1 with h | ⟨o, h⟩
        · omega
        · have := hAq _ _ h; omega
      · omega
theorem kids_done {f : Nat} {ps : List Wh} {wd B g n d r cp : Nat} {cx cy : Int} {ws : List Nat} {m s0 : Nat} {w Wa wx : World} {V5 : Value} {ys zs : List Value} {K : List Nd × List Nat} {r7 c7 gq cq : Nat} {A1 : Option Addr} {c1 : Nat}
    (hm : Wa.heap.size = m + 1) (hK : K = kidsP (fun b => growP ps wd f b (d + 1)) ps wd n d cx cy ws 4) (hws : ¬ (ws.length ≤ 3 ∨ wd = 0)) (hyl : ys.length = n * 7)
    (hown : wx.ownsRow (m + 1) 2 1 (.slice (some ⟨gq, 0, none⟩) K.2.length cq) K.2.length (intVals K.2))
    (hT : Tr wx B g (.slice (some ⟨r7, 0, none⟩) (n + 1 + K.1.length) c7) (n + 1 + K.1.length) ((ys ++ [.complex .f32 (F cx) (F cy), .float .f32 (F (hP d wd)), .int .i64 d, .slice A1 ws.length c1, .slice none 0 0, .float .f32 (F (spinP ps ws)), .complex .f32 (F (momX ps cx ws)) (F (momY ps cy ws))]) ++ zs))
    (hN : NodesAt wx wd K.1 zs) (hF0 : Fr w Wa g (.slice (some ⟨r, 0, none⟩) n cp) V5) (hF : Fr Wa wx g V5 (.slice (some ⟨r7, 0, none⟩) (n + 1 + K.1.length) c7)) (hA : AddrsIn (fun b => w.heap.size ≤ b ∧ b < wx.heap.size ∧ b ≠ gq) zs)
    (hW : Lies wx 2 A1 (intVals ws)) :
    GrowPost wd B g r cp n A1 w ys (growP ps wd (f + 1) n d cx cy ws) (.returned (.int .i64 n)) (wx.setCell ⟨r7, n * 7 + 4, none⟩ (.slice (some ⟨gq, 0, none⟩) K.2.length cq)) := by
  have hgr : growP ps wd (f + 1) n d cx cy ws = nodeP ps d cx cy ws K.2 :: K.1 := by
    conv => lhs; unfold growP
    rw [if_neg hws, ← hK]
  rw [hgr]
  obtain ⟨cur, hb7, -⟩ := hT.own_blk (r := r7) rfl
  have hlen : n + 1 + K.1.length = n + (nodeP ps d cx cy ws K.2 :: K.1).length := by rw [List.length_cons]; omega
  have hT2 := hT.stored (j := n * 7 + 4) (u := .slice (some ⟨gq, 0, none⟩) K.2.length cq)
  have hset : ((ys ++ [Value.complex .f32 (F cx) (F cy), .float .f32 (F (hP d wd)), .int .i64 d, .slice A1 ws.length c1, .slice none 0 0, .float .f32 (F (spinP ps ws)), .complex .f32 (F (momX ps cx ws)) (F (momY ps cy ws))]) ++ zs).set (n * 7 + 4) (.slice (some ⟨gq, 0, none⟩) K.2.length cq) =
      ys ++ ([.complex .f32 (F cx) (F cy), .float .f32 (F (hP d wd)), .int .i64 d, .slice A1 ws.length c1, .slice (some ⟨gq, 0, none⟩) K.2.length cq, .float .f32 (F (spinP ps ws)), .complex .f32 (F (momX ps cx ws)) (F (momY ps cy ws))] ++ zs) := by
    rw [List.append_assoc, List.set_append, if_neg (by omega), hyl, show n * 7 + 4 - n * 7 = 4 by omega]
    rfl
  rw [hset] at hT2
  have hFF := (Fr.trans hF0 hF).own_set (r := r7) (off := n * 7 + 4) (u := .slice (some ⟨gq, 0, none⟩) K.2.length cq) rfl
  rw [hlen] at hT2 hFF
  have hgl := hown.lt gq rfl
  have hs0 := hF0.size
  refine ⟨rfl, r7, c7, _, hT2, ?_, hFF, ?_⟩
  · refine NodesAt.append (L := [_]) (ys := [_, _, _, _, _, _, _]) ⟨rfl, fun i nd hn => ?_⟩ (hN.map fun A xs h => h.set_node hb7)
    cases i with
    | zero =>
      simp only [List.getElem?_cons_zero, Option.some.injEq] at hn
      subst hn
      exact ⟨A1, c1, some ⟨gq, 0, none⟩, cq, rfl, rfl, rfl, rfl, rfl, rfl, rfl, hW.set_node hb7, (lies_of_owns hown).1.set_node hb7⟩
    | succ i => simp at hn
  · refine AddrsIn.append (.node (fun hl b o x e => ?_) (fun hl b o x e => ?_)) (hA.mono fun b hb => ⟨.inl hb.1, by simpa using hb.2.1⟩)
    · obtain ⟨b', o', cur', e', hb, -⟩ := hW (by rw [intVals_len]; exact hl)
      rw [e'] at e
      cases e
      exact ⟨.inr ⟨_, e'⟩, by simpa using hb.lt⟩
    · cases e
      exact ⟨.inl (by omega), by simpa using hgl.2⟩
theorem ix0 (a b c d : Value) (w : World) : (Instr.index 132 (.agg #[a, b, c, d]) (.int .i64 0)).run Try.prog w = .ok a w := by kernel_rfl
theorem ix1 (a b c d : Value) (w : World) : (Instr.index 132 (.agg #[a, b, c, d]) (.int .i64 1)).run Try.prog w = .ok b w := by kernel_rfl
theorem ix2 (a b c d : Value) (w : World) : (Instr.index 132 (.agg #[a, b, c, d]) (.int .i64 2)).run Try.prog w = .ok c w := by kernel_rfl
theorem ix3 (a b c d : Value) (w : World) : (Instr.index 132 (.agg #[a, b, c, d]) (.int .i64 3)).run Try.prog w = .ok d w := by kernel_rfl
theorem partsTo_mono (ps : List Wh) (cx cy : Int) (ws : List Nat) (q : Nat) : ∀ k, partsTo ps cx cy ws q ≤ partsTo ps cx cy ws (q + k)
  | 0 => Nat.le_refl _
  | k + 1 => Nat.le_trans (partsTo_mono ps cx cy ws q k) (Nat.le_add_right _ _)
theorem kids_bound {f : Nat} {ps : List Wh} {wd n d : Nat} {cx cy : Int} {ws : List Nat} (h : Pre ps wd ps.length d cx cy ws) (hd : d < 6) (hfd : f + (d + 1) = 6) (hn : n + (f + 2) * ws.length ≤ 1000) (q : Nat) (hq : q < 4) :
    n + 1 + (kidsP (fun b => growP ps wd f b (d + 1)) ps wd n d cx cy ws q).1.length + (f + 1) * (partP ps cx cy ws q).length ≤ 1000 ∧ (kidsP (fun b => growP ps wd f b (d + 1)) ps wd n d cx cy ws q).2.length ≤ q := by
  have hk := kids_ok (base := n) (f := f) h hd (fun b x y us hp => grow_ok f b (d + 1) x y us hfd hp) q
  have h1 := hk.size
  have h2 : partsTo ps cx cy ws (q + 1) ≤ ws.length := by
    rw [← parts_all ps cx cy ws]
    have := partsTo_mono ps cx cy ws (q + 1) (4 - (q + 1))
    rw [show q + 1 + (4 - (q + 1)) = 4 by omega] at this
    exact this
  have h3 : (f + 1) * partsTo ps cx cy ws (q + 1) ≤ (f + 1) * ws.length := Nat.mul_le_mul_left _ h2
  have h4 : (f + 1) * partsTo ps cx cy ws (q + 1) = (f + 1) * partsTo ps cx cy ws q + (f + 1) * (partP ps cx cy ws q).length := Nat.mul_add _ _ _
  have h5 : (f + 2) * ws.length = (f + 1) * ws.length + ws.length := Nat.succ_mul _ _
  have h6 : 0 < ws.length := List.length_pos_iff.2 h.some_
  exact ⟨by omega, hk.few⟩
theorem kids_call {f : Nat} {ps : List Wh} {wd B g n d : Nat} {cx cy : Int} {ws : List Nat} {m s0 : Nat} {Wa wx : World} {V5 : Value} {YS zs : List Value} {q r7 c7 gq cq lb lo lcap : Nat} {K : List Nd × List Nat} {A : Nat → Option Addr} {c : Nat → Nat} {w5s n5 : Nat} {ys5 : List Value}
    (hrec : Grows f ps wd B g lb lo lcap (d + 1)) (hpre : Pre ps wd ps.length d cx cy ws) (hd : d < 6) (hfd : f + (d + 1) = 6) (hn : n + (f + 2) * ws.length ≤ 1000) (hws : ws.length ≤ 12) (hq : q < 4)
    (hm : Wa.heap.size = m + 1) (hs0 : s0 ≤ m) (h0 : (partP ps cx cy ws q).length ≠ 0) (hK : K = kidsP (fun b => growP ps wd f b (d + 1)) ps wd n d cx cy ws q)
    (hown : wx.ownsRow (m + 1) 2 1 (.slice (some ⟨gq, 0, none⟩) K.2.length cq) K.2.length (intVals K.2))
    (hT : Tr wx B g (.slice (some ⟨r7, 0, none⟩) (n + 1 + K.1.length) c7) (n + 1 + K.1.length) (YS ++ zs)) (hN : NodesAt wx wd K.1 zs) (hF : Fr Wa wx g V5 (.slice (some ⟨r7, 0, none⟩) (n + 1 + K.1.length) c7)) (hA : AddrsIn (fun b => s0 ≤ b ∧ b < wx.heap.size ∧ b ≠ gq) zs)
    (hTa : Tr Wa B g V5 n5 ys5) (hLa : Lies Wa 51 (some ⟨lb, lo, none⟩) (whVals ps)) (hPa : Parts Wa w5s ps cx cy ws A c)
    (hAq : ∀ q, q < 4 → ∀ b o, A q = some ⟨b, o, none⟩ → s0 ≤ b ∧ b < m) :
    K.2.length ≤ 3 ∧ n + 1 + K.1.length ≤ 1000 ∧ ∀ wy, Ext wx wy → Calls Try.prog 86 #[.pointer (some ⟨g, 0, none⟩), .slice (some ⟨lb, lo, none⟩) ps.length lcap, .agg #[.complex .f32 (F (cx + sgnP (q % 2) (hP (d + 1) wd))) (F (cy + sgnP (q / 2) (hP (d + 1) wd))), .float .f32 (F (hP (d + 1) wd)), .int .i64 ((d : Int) + 1), .slice (A q) (partN ps cx cy ws q) (c q), .slice none 0 0, .float .f32 0, .complex .f32 0 0]] wy fun e w2 =>
      e = .returned (.int .i64 ((n + 1 + K.1.length : Nat) : Int)) ∧ w2.ownsRow (m + 1) 2 1 (.slice (some ⟨gq, 0, none⟩) K.2.length cq) K.2.length (intVals K.2) ∧ m + 1 ≤ w2.heap.size ∧
      ∀ x g3 c3 w6, w6.ownsRow (m + 1) 2 1 (.slice (some ⟨g3, 0, none⟩) (K.2.length + 1) c3) (K.2.length + 1) (intVals K.2 ++ [.int .i64 ((n + 1 + K.1.length : Nat) : Int)]) →
        (w2.alloc (.cells #[x] 2)).grownBy w6 (some gq) → (some gq = some g3 ∨ g3 = (w2.alloc (.cells #[x] 2)).heap.size) →
        KidsRel f ps wd B g n d cx cy ws m s0 Wa V5 YS (q + 1) (.slice (some ⟨g3, 0, none⟩) (K.2.length + 1) c3) w6 := by
  obtain ⟨hb1, hb2⟩ := kids_bound hpre hd hfd hn q hq
  rw [← hK] at hb1 hb2
  refine ⟨by omega, by omega, fun wy hxy => ?_⟩
  have hs := hxy.size
  have hTy := hT.ext hxy
  have hFy := Fr.trans hF (Fr.of_ext g _ hxy)
  have howny : wy.ownsRow (m + 1) 2 1 (.slice (some ⟨gq, 0, none⟩) K.2.length cq) K.2.length (intVals K.2) := hown.kept (row := none) ⟨hxy.os, hxy.tape, hxy.output, hxy.size, fun k hk _ => hxy.block k hk⟩ (.inr (by simp [Value.ownBlock]))
  refine (hrec r7 c7 (n + 1 + K.1.length) _ _ (partP ps cx cy ws q) (YS ++ zs) (A q) (c q) wy (hpre.kid hd q h0) hTy (hLa.fr hTa hFy (by decide) (by decide)) ((hPa.lies hq).fr hTa hFy (by decide) (by decide)) hb1 (Nat.le_trans (List.length_filter_le _ _) hws)).mono ?_
  intro e w2 hpost
  have hpost' := hpost
  obtain ⟨he, r', cp', zs', pT, pN, pF, pA⟩ := hpost'
  refine ⟨he, ownsRow_fr howny hTy pF (by decide) (by decide), ?_, fun x g3 c3 w6 ho hg hat => ?_⟩
  · have h1 := hFy.size; have h2 := pF.size; omega
  · exact kids_push hm h0 hK howny hTy (hN.map fun A xs h => h.ext hxy) hFy (hA.mono fun b hb => ⟨hb.1, by omega, hb.2.2⟩) (hAq q hq) hs0 hpost ho hg hat
end Go.Proofs.Ytfehhbmmdbpdpaa
