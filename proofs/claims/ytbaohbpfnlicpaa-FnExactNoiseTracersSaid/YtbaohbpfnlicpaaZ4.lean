/- Walks: the tracers of noise: all cases. -/
import Derived.Test.YtbaohbpfnlicpaaZ3
namespace Go.Proofs.Ytbaohbpfnlicpaa
open Go Go.RowKit
set_option linter.unusedVariables false
set_option linter.unusedSimpArgs false
attribute [local go_sem] run_store_float

def noiseOk (n : Int) (size : Nat) (s : Int) : Bool := decide (0 ≤ n ∧ n ≤ 64) && (levelP size && decide (0 ≤ s ∧ s ≤ 2147483647))
def noiseAll (n : Int) (size : Nat) (s : Int) : Bool × List C2 × Int := if noiseOk n size s then (true, noiseK size s n.toNat, seedK s n.toNat) else (false, [], 0)
theorem noiseAll_len (n : Int) (size : Nat) (s : Int) : (noiseAll n size s).2.1.length ≤ 64 := by
  unfold noiseAll
  split
  · rename_i h
    unfold noiseOk at h
    simp only [Bool.and_eq_true, decide_eq_true_eq] at h
    simp only [noiseK_len]
    omega
  · simp
theorem RC.no {w0 w' : World} : RC w0 w' (.returned (.tuple #[.slice none 0 0, .int .i64 0, .bool false])) false [] 0 := ⟨none, 0, rfl, fun h => absurd h (Nat.lt_irrefl 0)⟩

set_option maxRecDepth 100000 in
theorem specNoiseNo_any (n : Int) (size : Nat) (s : Int) (w : World) (hno : noiseOk n (cn .f32 size) s = false) :
    Calls Try.prog 22 #[.int .i64 n, .float .f32 size, .int .i64 s] w fun e w' => Ext w w' ∧ RC w w' e false [] 0 := by
  unfold noiseOk at hno
  by_cases hn : 0 ≤ n ∧ n ≤ 64
  · rw [decide_eq_true hn, Bool.true_and] at hno
    cases hl : levelP (cn .f32 size) with
    | false =>
      have HL := Lib.hid hl
      have HN := Lib.hid hn
      clear hl hn hno
      go_enter Try.func22, Try.ntmps22
      go_wp2_with (first
        | (go_at_call 79; refine (l00In_yes _ _ _ _ HN.out.1 HN.out.2).mono ?_; rintro e wq ⟨rfl, rfl⟩)
        | (go_at_call 80; refine (l02Least_any _ false HL.out _).mono ?_; rintro e wq ⟨heq, rfl⟩; have HEQ := Lib.hid heq; clear heq))
      refine bodyPost_ret (v := .tuple #[.slice none 0 0, .int .i64 0, .bool false]) (by simp [results, Try.results22, go_sem]) rfl ⟨HEQ.out, RC.no⟩
    | true =>
      rw [hl, Bool.true_and] at hno
      have hs : s < 0 ∨ 2147483647 < s := by simpa only [decide_eq_false_iff_not] using (show s < 0 ∨ 2147483647 < s by have := of_decide_eq_false hno; omega)
      have HL := Lib.hid hl
      have HN := Lib.hid hn
      have HS := Lib.hid hs
      clear hl hn hno hs
      go_enter Try.func22, Try.ntmps22
      go_wp2_with (first
        | (go_at_call 79; have hguard := HEQ; refine (l00In_no _ _ _ _ HS.out).mono ?_; rintro e wq2 ⟨rfl, rfl⟩)
        | (go_at_call 79; refine (l00In_yes _ _ _ _ HN.out.1 HN.out.2).mono ?_; rintro e wq ⟨rfl, rfl⟩)
        | (go_at_call 80; refine (l02Least_any _ true HL.out _).mono ?_; rintro e wq ⟨heq, rfl⟩; have HEQ := Lib.hid heq; clear heq))
      refine bodyPost_ret (v := .tuple #[.slice none 0 0, .int .i64 0, .bool false]) (by simp [results, Try.results22, go_sem]) rfl ⟨HEQ.out, RC.no⟩
  · have HN := Lib.hid (show n < 0 ∨ 64 < n by omega)
    clear hn hno
    go_enter Try.func22, Try.ntmps22
    go_wp2_with (first
      | (go_at_call 79; refine (l00In_no _ _ _ _ HN.out).mono ?_; rintro e wq ⟨rfl, rfl⟩))
    refine bodyPost_ret (v := .tuple #[.slice none 0 0, .int .i64 0, .bool false]) (by simp [results, Try.results22, go_sem]) rfl ⟨Ext.rfl' _, RC.no⟩
theorem specNoise_any (n : Int) (size : Nat) (s : Int) (w : World) :
    Calls Try.prog 22 #[.int .i64 n, .float .f32 size, .int .i64 s] w fun e w' => Ext w w' ∧ RC w w' e (noiseAll n (cn .f32 size) s).1 (noiseAll n (cn .f32 size) s).2.1 (noiseAll n (cn .f32 size) s).2.2 := by
  unfold noiseAll
  cases h : noiseOk n (cn .f32 size) s with
  | false => exact specNoiseNo_any n size s w h
  | true =>
    unfold noiseOk at h
    simp only [Bool.and_eq_true, decide_eq_true_eq] at h
    obtain ⟨m, rfl⟩ : ∃ m : Nat, n = m := ⟨n.toNat, by omega⟩
    exact specNoiseYes_any m size s w (by omega) h.2.1 h.2.2.1 h.2.2.2

set_option maxRecDepth 100000 in
theorem implNoiseNo_any (n : Int) (size : Nat) (s : Int) (w : World) (hno : noiseOk n (cn .f32 size) s = false) :
    Calls Try.prog 23 #[.int .i64 n, .float .f32 size, .int .i64 s] w fun e w' => Ext w w' ∧ RC w w' e false [] 0 := by
  have HBz := Lib.hid (show Blk ((w.alloc (.cells #[.float .f32 size] 22)).alloc (.cells #[.int .i64 s] 2)) w.heap.size 22 #[.float .f32 size] from (Blk.at_ _ _ _ _ rfl).alloc _)
  have HBs := Lib.hid (show Blk ((w.alloc (.cells #[.float .f32 size] 22)).alloc (.cells #[.int .i64 s] 2)) (w.heap.size + 1) 2 #[.int .i64 s] from Blk.at_ _ _ _ _ (by simp))
  have HE1 := Lib.hid (show Ext w ((w.alloc (.cells #[.float .f32 size] 22)).alloc (.cells #[.int .i64 s] 2)) by (repeat first | with_reducible exact Ext.rfl' _ | with_reducible refine Ext.drewN ?_ _ | with_reducible refine Ext.drew' ?_ | with_reducible refine Ext.alloc' ?_ _ | with_reducible refine Ext.setCell_at ?_ _ _ _ (by first | exact Nat.le_refl _ | omega) | with_reducible assumption | refine Ext.trans ?_ (by with_reducible assumption)))
  unfold noiseOk at hno
  by_cases hn : 0 ≤ n ∧ n ≤ 64
  · rw [decide_eq_true hn, Bool.true_and] at hno
    have HN := Lib.hid hn
    clear hn
    cases hl : levelP (cn .f32 size) with
    | false =>
      have HL := Lib.hid hl
      clear hl hno
      go_enter Try.func23, Try.ntmps23
      go_wp2_with fail
      generalize ((w.alloc (.cells #[.float .f32 size] 22)).alloc (.cells #[.int .i64 s] 2)) = W1 at *
      refine (in_yes _ _ _ _ HN.out.1 HN.out.2).mono ?_
      rintro e w1 ⟨rfl, rfl⟩
      have c0 : W1.cell? ⟨w.heap.size, 0, none⟩ = some (.float .f32 size) := HBz.out.cell 0
      go_wp2_with fail
      have hx2 : Ext W1 (W1.alloc (.cells #[.float .f32 size] 22)) := by (repeat first | with_reducible exact Ext.rfl' _ | with_reducible refine Ext.drewN ?_ _ | with_reducible refine Ext.drew' ?_ | with_reducible refine Ext.alloc' ?_ _ | with_reducible refine Ext.setCell_at ?_ _ _ _ (by first | exact Nat.le_refl _ | omega) | with_reducible assumption | refine Ext.trans ?_ (by with_reducible assumption))
      have hb2 : Blk (W1.alloc (.cells #[.float .f32 size] 22)) W1.heap.size 22 #[.float .f32 size] := Blk.at_ _ _ _ _ rfl
      generalize W1.alloc (.cells #[.float .f32 size] 22) = W2 at *
      refine (levelOk_any (some ⟨W1.heap.size, 0, none⟩) 1 size _ hb2.one_fs false HL.out).mono ?_
      rintro e w3 ⟨he3, rfl⟩
      go_wp2_with fail
      refine bodyPost_ret (v := .tuple #[.slice none 0 0, .int .i64 0, .bool false]) (by simp [results, Try.results23, go_sem]) rfl ⟨Ext.trans HE1.out (Ext.trans hx2 he3), RC.no⟩
    | true =>
      rw [hl, Bool.true_and] at hno
      have HL := Lib.hid hl
      have HS := Lib.hid (show s < 0 ∨ 2147483647 < s by have := of_decide_eq_false hno; omega)
      clear hl hno
      go_enter Try.func23, Try.ntmps23
      go_wp2_with fail
      generalize ((w.alloc (.cells #[.float .f32 size] 22)).alloc (.cells #[.int .i64 s] 2)) = W1 at *
      refine (in_yes _ _ _ _ HN.out.1 HN.out.2).mono ?_
      rintro e w1 ⟨rfl, rfl⟩
      have c0 : W1.cell? ⟨w.heap.size, 0, none⟩ = some (.float .f32 size) := HBz.out.cell 0
      go_wp2_with fail
      have hx2 : Ext W1 (W1.alloc (.cells #[.float .f32 size] 22)) := by (repeat first | with_reducible exact Ext.rfl' _ | with_reducible refine Ext.drewN ?_ _ | with_reducible refine Ext.drew' ?_ | with_reducible refine Ext.alloc' ?_ _ | with_reducible refine Ext.setCell_at ?_ _ _ _ (by first | exact Nat.le_refl _ | omega) | with_reducible assumption | refine Ext.trans ?_ (by with_reducible assumption))
      have hb2 : Blk (W1.alloc (.cells #[.float .f32 size] 22)) W1.heap.size 22 #[.float .f32 size] := Blk.at_ _ _ _ _ rfl
      generalize W1.alloc (.cells #[.float .f32 size] 22) = W2 at *
      refine (levelOk_any (some ⟨W1.heap.size, 0, none⟩) 1 size _ hb2.one_fs true HL.out).mono ?_
      rintro e w3 ⟨he3, rfl⟩
      have HX3 := Lib.hid (Ext.trans hx2 he3)
      have d1 : w3.cell? ⟨w.heap.size + 1, 0, none⟩ = some (.int .i64 s) := (HBs.out.ext HX3.out).cell 0
      clear hb2 hx2 he3 c0
      go_wp2_with fail
      refine (in_no _ _ _ _ HS.out).mono ?_
      rintro e w4 ⟨rfl, rfl⟩
      go_wp2_with fail
      refine bodyPost_ret (v := .tuple #[.slice none 0 0, .int .i64 0, .bool false]) (by simp [results, Try.results23, go_sem]) rfl ⟨Ext.trans HE1.out HX3.out, RC.no⟩
  · have HN := Lib.hid (show n < 0 ∨ 64 < n by omega)
    clear hn hno
    go_enter Try.func23, Try.ntmps23
    go_wp2_with fail
    refine (in_no _ _ _ _ HN.out).mono ?_
    rintro e w1 ⟨rfl, rfl⟩
    go_wp2_with fail
    refine bodyPost_ret (v := .tuple #[.slice none 0 0, .int .i64 0, .bool false]) (by simp [results, Try.results23, go_sem]) rfl ⟨HE1.out, RC.no⟩
theorem implNoise_any (n : Int) (size : Nat) (s : Int) (w : World) :
    Calls Try.prog 23 #[.int .i64 n, .float .f32 size, .int .i64 s] w fun e w' => Ext w w' ∧ RC w w' e (noiseAll n (cn .f32 size) s).1 (noiseAll n (cn .f32 size) s).2.1 (noiseAll n (cn .f32 size) s).2.2 := by
  unfold noiseAll
  cases h : noiseOk n (cn .f32 size) s with
  | false => exact implNoiseNo_any n size s w h
  | true =>
    unfold noiseOk at h
    simp only [Bool.and_eq_true, decide_eq_true_eq] at h
    obtain ⟨m, rfl⟩ : ∃ m : Nat, n = m := ⟨n.toNat, by omega⟩
    exact implNoiseYes_any m size s w (by omega) h.2.1 h.2.2.1 h.2.2.2
end Go.Proofs.Ytbaohbpfnlicpaa
