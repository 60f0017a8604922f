/- Walks: the area of a thread. -/
import Derived.Test.YtbaohbpfnlicpaaW5
import Derived.Test.YtbaohbpfnlicpaaW6
import Derived.Deep.QuietTactic
import Derived.BigQuiet
import Derived.IntWalk
import Derived.Deep.RegionHeld3
namespace Go.Proofs.Ytbaohbpfnlicpaa
open Go Go.RowKit
set_option linter.unusedVariables false
set_option linter.unusedSimpArgs false
attribute [local go_sem] run_store_float

def areaTo (cs : List V3) : Nat → V3
  | 0 => (0, 0, 0)
  | k + 1 => vadd (areaTo cs k) (vcross (cs.getD k (0, 0, 0)) (cs.getD ((k + 1) % cs.length) (0, 0, 0)))
def half32 : Nat := 1056964608
/-- the area of a thread -/
def areaP (cs : List V3) (sp : Nat) : Bool × V3 := if isTh cs sp then toldV (vscale (areaTo cs cs.length) half32) else (false, (0, 0, 0))
def impP (cs : List V3) (sp : Nat) : Bool × V3 := if (areaP cs sp).1 then toldV (vscale (areaP cs sp).2 sp) else (false, (0, 0, 0))
theorem cn_half32 : cn .f32 1056964608 = half32 := by decide
theorem areaP_of (cs : List V3) (sp : Nat) (r s t r' s' t' : Nat) (hi : isTh cs sp = true) (hv : cv r s t = areaTo cs cs.length) (hq : cv r' s' t' = vscale (cv r s t) (cn .f32 1056964608)) :
    areaP cs sp = toldV (cv r' s' t') := by
  unfold areaP
  rw [if_pos hi, hq, hv, cn_half32]
theorem tmod_next (k n : Nat) (h : 0 < n) : ((k : Int) + 1).tmod (n : Int) = (((k + 1) % n : Nat) : Int) := by
  rw [Int.tmod_eq_emod_of_nonneg (by omega), Int.natCast_emod, Int.natCast_add]
  rfl

theorem Blk.setne {w : World} {g h : Nat} {t : TypeId} {cs : Array Value} (hB : Blk w g t cs) (hne : h ≠ g) (i : Nat) (u : Value) : Blk (w.setCell ⟨h, i, none⟩ u) g t cs := by
  unfold Blk at hB ⊢
  simp only [World.setCell, Array.getElem?_modify]
  rw [if_neg hne]
  exact hB
set_option maxRecDepth 100000 in
theorem next_any (g o : Nat) (A : Option Addr) (cap sp : Nat) (cs : List V3) (k : Nat) (w : World) (hT : TAt w g o A cs.length cap sp) (hA : VS w A cs) (hl : cs.length ≤ 1048576) (hk : k < cs.length) :
    Calls Try.prog 121 #[.pointer (some ⟨g, o, none⟩), .int .i64 k] w fun e w' => Ext w w' ∧ ∃ r s t, e = .returned (.agg #[.float .f32 r, .float .f32 s, .float .f32 t]) ∧ cv r s t = cs.getD ((k + 1) % cs.length) (0, 0, 0) := by
  obtain ⟨tlt, t0, t1⟩ := hT
  obtain ⟨b', o', rfl, hbw, hcc⟩ := hA (by omega)
  have hm : (k + 1) % cs.length < cs.length := Nat.mod_lt _ (by omega)
  obtain ⟨x, y, z, c0, c1, c2, hcv⟩ := hcc _ hm
  have hk9 : k < 1048576 := by omega
  have ht := tmod_next k cs.length (by omega)
  have hn0 : 0 < cs.length := by omega
  have hw : IntKind.i64.wrap ((k : Int) + 1) = (k : Int) + 1 := IntWalk.i64_in _ (by omega)
  have hw2 : IntKind.i64.wrap (((k + 1) % cs.length : Nat) : Int) = (((k + 1) % cs.length : Nat) : Int) := IntWalk.i64_in _ (by omega)
  have ht2 : ((k : Int) + 1) % (cs.length : Int) = (((k + 1) % cs.length : Nat) : Int) := by rw [Int.natCast_emod, Int.natCast_add]; rfl
  have hcn : cs ≠ [] := by intro h; subst h; simp at hn0
  have hne : ((cs.length : Nat) : Int) ≠ 0 := by omega
  have HC := Lib.hid hcv
  have HL := Lib.hid hl
  have HK := Lib.hid hk9
  clear hcc hcv hl hk9
  have hk8 : k < 9223372036854775807 := by have := HK.out; omega
  generalize (k + 1) % cs.length = m at *
  go_enter Try.func121, Try.ntmps121
  go_wp2_with fail
  have e1 : Ext w (w.alloc (.cells #[.float .f32 0, .float .f32 0, .float .f32 0] 54)) := by (repeat first | with_reducible exact Ext.rfl' _ | with_reducible refine Ext.drewN ?_ _ | with_reducible refine Ext.drew' ?_ | with_reducible refine Ext.alloc' ?_ _ | with_reducible refine Ext.setCell_at ?_ _ _ _ (by first | exact Nat.le_refl _ | omega) | with_reducible assumption | refine Ext.trans ?_ (by with_reducible assumption))
  have HB := Lib.hid (Blk.new w 54 #[.float .f32 0, .float .f32 0, .float .f32 0])
  have t0w := (e1.cell (p := ⟨_, _, none⟩) tlt).trans t0
  have c0w := (e1.cell (p := ⟨_, _, none⟩) hbw).trans c0
  have c1w := (e1.cell (p := ⟨_, _, none⟩) hbw).trans c1
  have c2w := (e1.cell (p := ⟨_, _, none⟩) hbw).trans c2
  clear t0 c0 c1 c2 t1 hA
  generalize w.alloc (.cells #[.float .f32 0, .float .f32 0, .float .f32 0] 54) = W1 at *
  have m0 : W1.cell? ⟨w.heap.size, 0, none⟩ = some (.float .f32 0) := HB.out.cell 0
  have m1 : W1.cell? ⟨w.heap.size, 1, none⟩ = some (.float .f32 0) := HB.out.cell 1
  have m2 : W1.cell? ⟨w.heap.size, 2, none⟩ = some (.float .f32 0) := HB.out.cell 2
  have f0 := HB.out.frozen 0
  have f1 := HB.out.frozen 1
  have f2 := HB.out.frozen 2
  go_still_tail 14, (by kernel_rfl)
  go_wp2_with fail
  have HB2 := HB.out.set3v (.float .f32 x) (.float .f32 y) (.float .f32 z)
  have e2 : Ext w (((W1.setCell ⟨w.heap.size, 0, none⟩ (.float .f32 x)).setCell ⟨w.heap.size, 1, none⟩ (.float .f32 y)).setCell ⟨w.heap.size, 2, none⟩ (.float .f32 z)) := by (repeat first | with_reducible exact Ext.rfl' _ | with_reducible refine Ext.drewN ?_ _ | with_reducible refine Ext.drew' ?_ | with_reducible refine Ext.alloc' ?_ _ | with_reducible refine Ext.setCell_at ?_ _ _ _ (by first | exact Nat.le_refl _ | omega) | with_reducible assumption | refine Ext.trans ?_ (by with_reducible assumption))
  generalize ((W1.setCell ⟨w.heap.size, 0, none⟩ (.float .f32 x)).setCell ⟨w.heap.size, 1, none⟩ (.float .f32 y)).setCell ⟨w.heap.size, 2, none⟩ (.float .f32 z) = W2 at *
  have q0 : W2.cell? ⟨w.heap.size, 0, none⟩ = some (.float .f32 x) := HB2.cell 0
  have q1 : W2.cell? ⟨w.heap.size, 1, none⟩ = some (.float .f32 y) := HB2.cell 1
  have q2 : W2.cell? ⟨w.heap.size, 2, none⟩ = some (.float .f32 z) := HB2.cell 2
  exact bodyPost_ret (v := .agg #[.float .f32 x, .float .f32 y, .float .f32 z]) (by simp [results, Try.results121, go_sem, q0, q1, q2]) rfl ⟨by (repeat first | with_reducible exact Ext.rfl' _ | with_reducible refine Ext.drewN ?_ _ | with_reducible refine Ext.drew' ?_ | with_reducible refine Ext.alloc' ?_ _ | with_reducible refine Ext.setCell_at ?_ _ _ _ (by first | exact Nat.le_refl _ | omega) | with_reducible assumption | refine Ext.trans ?_ (by with_reducible assumption)), _, _, _, rfl, HC.out⟩
set_option maxRecDepth 100000 in
theorem l06Ends_any (g o : Nat) (A : Option Addr) (cap sp : Nat) (cs : List V3) (k : Nat) (w : World) (hT : TAt w g o A cs.length cap sp) (hA : VS w A cs) (hl : cs.length ≤ 1048576) (hk : k < cs.length) :
    Calls Try.prog 178 #[.pointer (some ⟨g, o, none⟩), .int .i64 k] w fun e w' => Ext w w' ∧ ∃ x y z r s t, e = .returned (.tuple #[.agg #[.float .f32 x, .float .f32 y, .float .f32 z], .agg #[.float .f32 r, .float .f32 s, .float .f32 t]]) ∧ cv x y z = cs.getD k (0, 0, 0) ∧ cv r s t = cs.getD ((k + 1) % cs.length) (0, 0, 0) := by
  obtain ⟨tlt, t0, t1⟩ := hT
  obtain ⟨b', o', rfl, hbw, hcc⟩ := hA (by omega)
  have hm : (k + 1) % cs.length < cs.length := Nat.mod_lt _ (by omega)
  obtain ⟨x, y, z, c0, c1, c2, hcv⟩ := hcc _ hm
  obtain ⟨x', y', z', c0', c1', c2', hcv'⟩ := hcc _ hk
  have hk9 : k < 1048576 := by omega
  have ht := tmod_next k cs.length (by omega)
  have hn0 : 0 < cs.length := by omega
  have hw : IntKind.i64.wrap ((k : Int) + 1) = (k : Int) + 1 := IntWalk.i64_in _ (by omega)
  have hw2 : IntKind.i64.wrap (((k + 1) % cs.length : Nat) : Int) = (((k + 1) % cs.length : Nat) : Int) := IntWalk.i64_in _ (by omega)
  have ht2 : ((k : Int) + 1) % (cs.length : Int) = (((k + 1) % cs.length : Nat) : Int) := by rw [Int.natCast_emod, Int.natCast_add]; rfl
  have hcn : cs ≠ [] := by intro h; subst h; simp at hn0
  have hne : ((cs.length : Nat) : Int) ≠ 0 := by omega
  have HC := Lib.hid hcv
  have HC' := Lib.hid hcv'
  have HL := Lib.hid hl
  have HK := Lib.hid hk9
  clear hcc hcv hl hk9 hcv'
  have hk8 : k < 9223372036854775807 := by have := HK.out; omega
  generalize (k + 1) % cs.length = m at *
  go_enter Try.func178, Try.ntmps178
  go_wp2_with fail
  have e1 : Ext w ((w.alloc (.cells #[.float .f32 0, .float .f32 0, .float .f32 0] 54)).alloc (.cells #[.float .f32 0, .float .f32 0, .float .f32 0] 54)) := by (repeat first | with_reducible exact Ext.rfl' _ | with_reducible refine Ext.drewN ?_ _ | with_reducible refine Ext.drew' ?_ | with_reducible refine Ext.alloc' ?_ _ | with_reducible refine Ext.setCell_at ?_ _ _ _ (by first | exact Nat.le_refl _ | omega) | with_reducible assumption | refine Ext.trans ?_ (by with_reducible assumption))
  have HB := Lib.hid ((Blk.new w 54 #[.float .f32 0, .float .f32 0, .float .f32 0]).alloc (.cells #[.float .f32 0, .float .f32 0, .float .f32 0] 54))
  have HD := Lib.hid (Blk.at_ (w.alloc (.cells #[.float .f32 0, .float .f32 0, .float .f32 0] 54)) 54 #[.float .f32 0, .float .f32 0, .float .f32 0] (w.heap.size + 1) (by simp))
  have t0w := (e1.cell (p := ⟨_, _, none⟩) tlt).trans t0
  have c0w := (e1.cell (p := ⟨_, _, none⟩) hbw).trans c0
  have c1w := (e1.cell (p := ⟨_, _, none⟩) hbw).trans c1
  have c2w := (e1.cell (p := ⟨_, _, none⟩) hbw).trans c2
  have d0w := (e1.cell (p := ⟨_, _, none⟩) hbw).trans c0'
  have d1w := (e1.cell (p := ⟨_, _, none⟩) hbw).trans c1'
  have d2w := (e1.cell (p := ⟨_, _, none⟩) hbw).trans c2'
  clear t0 c0 c1 c2 c0' c1' c2' t1 hA
  generalize ((w.alloc (.cells #[.float .f32 0, .float .f32 0, .float .f32 0] 54)).alloc (.cells #[.float .f32 0, .float .f32 0, .float .f32 0] 54)) = W1 at *
  have m00 : W1.cell? ⟨w.heap.size, 0, none⟩ = some (.float .f32 0) := HB.out.cell 0
  have f00 := HB.out.frozen 0
  have m01 : W1.cell? ⟨w.heap.size, 1, none⟩ = some (.float .f32 0) := HB.out.cell 1
  have f01 := HB.out.frozen 1
  have m02 : W1.cell? ⟨w.heap.size, 2, none⟩ = some (.float .f32 0) := HB.out.cell 2
  have f02 := HB.out.frozen 2
  have m10 : W1.cell? ⟨w.heap.size + 1, 0, none⟩ = some (.float .f32 0) := HD.out.cell 0
  have f10 := HD.out.frozen 0
  have m11 : W1.cell? ⟨w.heap.size + 1, 1, none⟩ = some (.float .f32 0) := HD.out.cell 1
  have f11 := HD.out.frozen 1
  have m12 : W1.cell? ⟨w.heap.size + 1, 2, none⟩ = some (.float .f32 0) := HD.out.cell 2
  have f12 := HD.out.frozen 2
  have n1 : g ≠ w.heap.size := by omega
  have n2 : b' ≠ w.heap.size := by omega
  have n3 : g ≠ w.heap.size + 1 := by omega
  have n4 : b' ≠ w.heap.size + 1 := by omega
  go_region_held3 (fun W => W.cell? ⟨g, o, none⟩ = some (.slice (some ⟨b', o', none⟩) cs.length cap) ∧ W.cell? ⟨b', o' + k * 3, none⟩ = some (.float .f32 x') ∧ W.cell? ⟨b', o' + k * 3 + 1, none⟩ = some (.float .f32 y') ∧ W.cell? ⟨b', o' + k * 3 + 2, none⟩ = some (.float .f32 z') ∧ W.cell? ⟨b', o' + m * 3, none⟩ = some (.float .f32 x) ∧ W.cell? ⟨b', o' + m * 3 + 1, none⟩ = some (.float .f32 y) ∧ W.cell? ⟨b', o' + m * 3 + 2, none⟩ = some (.float .f32 z)) (((try dsimp only); (repeat' apply And.intro) <;> (simp [*, World.cell?_setCell_other, go_sem]; done))) (fail)
  go_wp2_with fail
  have HB2 := (HB.out.set3v (.float .f32 x') (.float .f32 y') (.float .f32 z'))
  have HB3 := ((HB2.setne w.heap.size.succ_ne_self 0 (.float .f32 x)).setne w.heap.size.succ_ne_self 1 (.float .f32 y)).setne w.heap.size.succ_ne_self 2 (.float .f32 z)
  have HD3 := ((((HD.out.setne w.heap.size.succ_ne_self.symm 0 (.float .f32 x')).setne w.heap.size.succ_ne_self.symm 1 (.float .f32 y')).setne w.heap.size.succ_ne_self.symm 2 (.float .f32 z')).set3v (.float .f32 x) (.float .f32 y) (.float .f32 z))
  have e2 : Ext w ((((((W1.setCell ⟨w.heap.size, 0, none⟩ (.float .f32 x')).setCell ⟨w.heap.size, 1, none⟩ (.float .f32 y')).setCell ⟨w.heap.size, 2, none⟩ (.float .f32 z')).setCell ⟨w.heap.size + 1, 0, none⟩ (.float .f32 x)).setCell ⟨w.heap.size + 1, 1, none⟩ (.float .f32 y)).setCell ⟨w.heap.size + 1, 2, none⟩ (.float .f32 z)) := by (repeat first | with_reducible exact Ext.rfl' _ | with_reducible refine Ext.drewN ?_ _ | with_reducible refine Ext.drew' ?_ | with_reducible refine Ext.alloc' ?_ _ | with_reducible refine Ext.setCell_at ?_ _ _ _ (by first | exact Nat.le_refl _ | omega) | with_reducible assumption | refine Ext.trans ?_ (by with_reducible assumption))
  generalize ((((((W1.setCell ⟨w.heap.size, 0, none⟩ (.float .f32 x')).setCell ⟨w.heap.size, 1, none⟩ (.float .f32 y')).setCell ⟨w.heap.size, 2, none⟩ (.float .f32 z')).setCell ⟨w.heap.size + 1, 0, none⟩ (.float .f32 x)).setCell ⟨w.heap.size + 1, 1, none⟩ (.float .f32 y)).setCell ⟨w.heap.size + 1, 2, none⟩ (.float .f32 z)) = W2 at *
  have q0 : W2.cell? ⟨w.heap.size, 0, none⟩ = some (.float .f32 x') := HB3.cell 0
  have q1 : W2.cell? ⟨w.heap.size, 1, none⟩ = some (.float .f32 y') := HB3.cell 1
  have q2 : W2.cell? ⟨w.heap.size, 2, none⟩ = some (.float .f32 z') := HB3.cell 2
  have p0 : W2.cell? ⟨w.heap.size + 1, 0, none⟩ = some (.float .f32 x) := HD3.cell 0
  have p1 : W2.cell? ⟨w.heap.size + 1, 1, none⟩ = some (.float .f32 y) := HD3.cell 1
  have p2 : W2.cell? ⟨w.heap.size + 1, 2, none⟩ = some (.float .f32 z) := HD3.cell 2
  exact bodyPost_ret (v := .tuple #[.agg #[.float .f32 x', .float .f32 y', .float .f32 z'], .agg #[.float .f32 x, .float .f32 y, .float .f32 z]]) (by simp [results, Try.results178, go_sem, q0, q1, q2, p0, p1, p2]) rfl ⟨by (repeat first | with_reducible exact Ext.rfl' _ | with_reducible refine Ext.drewN ?_ _ | with_reducible refine Ext.drew' ?_ | with_reducible refine Ext.alloc' ?_ _ | with_reducible refine Ext.setCell_at ?_ _ _ _ (by first | exact Nat.le_refl _ | omega) | with_reducible assumption | refine Ext.trans ?_ (by with_reducible assumption)), _, _, _, _, _, _, rfl, HC'.out, HC.out⟩
end Go.Proofs.Ytbaohbpfnlicpaa
