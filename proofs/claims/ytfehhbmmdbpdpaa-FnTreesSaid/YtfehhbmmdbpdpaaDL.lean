/- What the law on trees asks, in plain Lean; and the steps of its walk at floats. -/
import Derived.Test.YtfehhbmmdbpdpaaDK
namespace Go.Proofs.Ytfehhbmmdbpdpaa
open Go Go.RowKit
set_option linter.unusedVariables false
set_option linter.unusedSimpArgs false

theorem run_wideF (k : Int) (h : k.natAbs < 16777216) (w : World) : (convert 34 52 (.float .f32 (F k))).run Try.prog w = .ok (.float .f64 (G k)) w := by
  obtain ⟨a, ha⟩ := F_dec .f32 k h
  have hg := F_wide k h
  have hu : Try.prog.underlying 34 = some (.float .f32) := by kernel_rfl
  have hd : Try.prog.underlying 52 = some (.float .f64) := by kernel_rfl
  have hc : (convert 34 52 (.float .f32 (F k))).run Try.prog w = (Conv.floatToFloat .f32 (F k) .f64).run Try.prog w := by
    simp [convert, run_underlying hu, run_underlying hd]
  rw [hc]
  unfold fconv at hg
  rw [if_neg (by decide), ha] at hg
  dsimp only at hg
  obtain ⟨a2, ha2⟩ := F_dec .f64 k h
  have ho : (FloatKind.f64.decode (FloatKind.f64.encode (.number (decide (k < 0)) (k.natAbs <<< a) (-10 - (a : Int))))).isInfinity = false := by
    rw [hg, ha2]; rfl
  rw [← hg]
  simp [Conv.floatToFloat, ha, ho]
theorem run_add_raw (op : BinOp) (hop : op = .add ∨ op = .sub ∨ op = .mul ∨ op = .quo) (t : TypeId) (k : FloatKind) (x y r : Nat) (h : floatBits op k x y = some r) (w : World) : (binOp op t (.float k x) (.float k y)).run Try.prog w = .ok (.float k r) w := run_float_arith w op t k x y r h
theorem gtr_raw {k : FloatKind} {x y : Nat} (h : fcmp .gtr k x y = false) : (k.format.order x y == some .gt) = false := by
  unfold fcmp at h
  cases e : k.format.order x y with
  | none => rfl
  | some o => rw [e] at h; cases o <;> first | rfl | cases h
theorem neq_raw {k : FloatKind} {x y : Nat} (h : fcmp .neq k x y = false) : (k.format.order x y != some .eq) = false := by
  unfold fcmp at h
  cases e : k.format.order x y with
  | none => rw [e] at h; cases h
  | some o => rw [e] at h; cases o <;> first | rfl | cases h
theorem sum_take_le : ∀ (l : List Nat) (k : Nat), (l.take k).sum ≤ l.sum
  | [], k => by simp
  | a :: l, 0 => by simp
  | a :: l, k + 1 => by
    have := sum_take_le l k
    simp only [List.take_succ_cons, List.sum_cons]
    omega
theorem sum_take_succ (l : List Nat) (k a : Nat) (h : l[k]? = some a) : (l.take (k + 1)).sum = (l.take k).sum + a := by
  obtain ⟨hk, hu⟩ := List.getElem?_eq_some_iff.1 h
  rw [List.take_succ_eq_append_getElem hk, List.sum_append, hu]
  simp
/-- a node's kids, as the law asks of them -/
theorem Among.kid {L : List Nd} {i : Nat} {nd : Nd} (h : Among L 0 i nd) {k j : Nat} (hj : nd.nx[k]? = some j) : i < j ∧ j < L.length ∧ ∃ m, L[j]? = some m ∧ m.d = nd.d + 1 ∧ lenAt L 0 j = m.ws.length := by
  obtain ⟨h1, h2, m, h3, h4⟩ := h.next j (List.mem_of_getElem? hj)
  refine ⟨by omega, by omega, m, h3, h4, ?_⟩
  unfold lenAt
  rw [h3]
/-- how many whirls the first kids hold -/
def seenP (L : List Nd) (nd : Nd) (k : Nat) : Nat := ((nd.nx.map (lenAt L 0)).take k).sum
theorem seenP_succ {L : List Nd} {nd : Nd} {k j : Nat} (hj : nd.nx[k]? = some j) : seenP L nd (k + 1) = seenP L nd k + lenAt L 0 j := by
  unfold seenP
  exact sum_take_succ _ _ _ (by rw [List.getElem?_map, hj]; rfl)
theorem seenP_le {L : List Nd} {i : Nat} {nd : Nd} (h : Among L 0 i nd) (hne : nd.nx ≠ []) (k : Nat) : seenP L nd k ≤ nd.ws.length := by
  rw [← h.sum hne]
  exact sum_take_le _ _
theorem seenP_all {L : List Nd} {i : Nat} {nd : Nd} (h : Among L 0 i nd) (hne : nd.nx ≠ []) : seenP L nd nd.nx.length = nd.ws.length := by
  rw [← h.sum hne]
  unfold seenP
  rw [List.take_of_length_le (by simp)]
theorem seenP_zero (L : List Nd) (nd : Nd) : seenP L nd 0 = 0 := rfl
/-- numbers of a whirl in a node -/
theorem Alone.gap {ps : List Wh} {wd : Nat} {nd : Nd} (h : Alone ps wd ps.length nd) (hps : OkPs ps) (hwd : wd < 33) {j : Nat} (hj : j ∈ nd.ws) :
    (∀ w, (binOp .sub 27 (.complex .f32 (F (atW ps j).1) (F (atW ps j).2.1)) (.complex .f32 (F nd.cx) (F nd.cy))).run Try.prog w = .ok (.complex .f32 (F ((atW ps j).1 - nd.cx)) (F ((atW ps j).2.1 - nd.cy))) w) ∧
    ((atW ps j).1 - nd.cx).natAbs < 16777216 ∧ ((atW ps j).2.1 - nd.cy).natAbs < 16777216 ∧
    fcmp .gtr .f64 (G (((atW ps j).1 - nd.cx).natAbs : Int)) (slackP nd.d wd) = false ∧ fcmp .gtr .f64 (G (((atW ps j).2.1 - nd.cy).natAbs : Int)) (slackP nd.d wd) = false ∧ floatBits .add .f64 (G (hP nd.d wd)) c001 = some (slackP nd.d wd) := by
  obtain ⟨i1, i2, i3, i4⟩ := h.inside j hj
  obtain ⟨hok, -⟩ := hps.at (h.below j hj)
  obtain ⟨x, y, s, e, a1, a2, a3, a4, -⟩ := hok
  have ex : (atW ps j).1 = 256 * x := by rw [e]
  have ey : (atW ps j).2.1 = 256 * y := by rw [e]
  have bx := h.bx
  have by_ := h.by_
  have hd := h.deep
  rw [ex] at i1 i2 ⊢
  rw [ey] at i3 i4 ⊢
  have hb : (hP nd.d wd).natAbs < 16777216 := by omega
  have h0 := hP_nonneg nd.d wd
  obtain ⟨s1, s2⟩ := slack_gtr (d := nd.d) (w := wd) (a := ((256 * x - nd.cx).natAbs : Int)) (by omega) hwd (by omega) (by omega) hb
  obtain ⟨-, s3⟩ := slack_gtr (d := nd.d) (w := wd) (a := ((256 * y - nd.cy).natAbs : Int)) (by omega) hwd (by omega) (by omega) hb
  refine ⟨fun w => run_complex_arith Try.prog .sub (.inr rfl) 27 .f32 _ _ _ _ _ _ (F_sub .f32 _ _ (by omega) (by omega) (by omega)) (F_sub .f32 _ _ (by omega) (by omega) (by omega)) w, by omega, by omega, s2, s3, s1⟩
theorem len_le_sum (f : Nat → Nat) : ∀ l : List Nat, (∀ j ∈ l, 1 ≤ f j) → l.length ≤ (l.map f).sum
  | [], _ => Nat.le_refl _
  | a :: l, h => by
    have h1 := len_le_sum f l (fun j hj => h j (List.mem_cons_of_mem _ hj))
    have h2 := h a (List.mem_cons_self ..)
    rw [List.map_cons, List.sum_cons, List.length_cons]
    omega
theorem Among.few {ps : List Wh} {wd N : Nat} {L : List Nd} {i : Nat} {nd : Nd} (hg : Good ps wd N L 0) (h : Among L 0 i nd) : nd.nx.length ≤ nd.ws.length := by
  by_cases hne : nd.nx = []
  · rw [hne]; exact Nat.zero_le _
  · rw [← h.sum hne]
    refine len_le_sum _ _ fun j hj => ?_
    obtain ⟨h1, h2, m, h3, h4⟩ := h.next j hj
    unfold lenAt
    rw [h3]
    exact List.length_pos_iff.2 (hg _ m h3).1.some_
end Go.Proofs.Ytfehhbmmdbpdpaa
