/- What the shells share, second part: a struct laid by a call in a variable of its own, in whatever order. -/
import Derived.Test.YtbaohbpfnlicpaaSh
namespace Go.Proofs.Ytbaohbpfnlicpaa
open Go Go.RowKit
set_option linter.unusedVariables false
set_option linter.unusedSimpArgs false

/-- a struct of a slice and a float is laid in block g: what a call gave, in a variable of its own -/
def Laid (w0 wx : World) (g : Nat) (A : Option Addr) (ds : List V3) (cap s : Nat) : Prop :=
  w0.heap.size ≤ g ∧ g < wx.heap.size ∧ wx.cell? ⟨g, 0, none⟩ = some (.slice A ds.length cap) ∧ wx.cell? ⟨g, 1, none⟩ = some (.float .f32 s) ∧ Ext w0 wx ∧ VO wx w0.heap.size A ds ∧ (0 < ds.length → ∀ b o, A = some ⟨b, o, none⟩ → b ≠ g)
theorem Laid.new {w0 w3 : World} {B : Nat} {A : Option Addr} {ds : List V3} (E : Ext w0 w3) (hv : VO w3 B A ds) (hB : w0.heap.size ≤ B) (cap s : Nat) (t : TypeId) :
    Laid w0 (w3.alloc (.cells #[.slice A ds.length cap, .float .f32 s] t)) w3.heap.size A ds cap s := by
  have hb := Blk.new w3 t #[.slice A ds.length cap, .float .f32 s]
  refine ⟨E.size, hb.lt, hb.cell 0, hb.cell 1, E.alloc' _, (hv.mono hB).ext ((Ext.rfl' w3).alloc' _), fun hp b o hA => ?_⟩
  obtain ⟨b', o', hA', -, hlt, -⟩ := hv hp
  rw [hA'] at hA
  simp only [Option.some.injEq, Addr.mk.injEq] at hA
  omega
theorem Laid.set {w0 w3 : World} {B g : Nat} {A : Option Addr} {ds : List V3} {t : TypeId} {x y : Value} (E : Ext w0 w3) (hv : VO w3 B A ds) (hB : w0.heap.size ≤ B) (hb : Blk w3 g t #[x, y]) (hg : w0.heap.size ≤ g) (hgB : g < B) (cap s : Nat) :
    Laid w0 ((w3.setCell ⟨g, 0, none⟩ (.slice A ds.length cap)).setCell ⟨g, 1, none⟩ (.float .f32 s)) g A ds cap s := by
  have hb2 : Blk ((w3.setCell ⟨g, 0, none⟩ (.slice A ds.length cap)).setCell ⟨g, 1, none⟩ (.float .f32 s)) g t #[.slice A ds.length cap, .float .f32 s] := by
    have := (hb.set_ 0 (.slice A ds.length cap)).set_ 1 (.float .f32 s)
    simpa using this
  refine ⟨hg, hb2.lt, hb2.cell 0, hb2.cell 1, (E.setCell_at _ _ _ hg).setCell_at _ _ _ hg, ((hv.set_lt _ _ _ hgB).set_lt _ _ _ hgB).mono hB, fun hp b o hA => ?_⟩
  obtain ⟨b', o', hA', hle, -⟩ := hv hp
  rw [hA'] at hA
  simp only [Option.some.injEq, Addr.mk.injEq] at hA
  omega
theorem Blk.at_drew (w : World) (t : TypeId) (cs : Array Value) (g : Nat) (hg : g = w.heap.size) : Blk (w.alloc (.cells cs t)).drew g t cs := Blk.at_ w t cs g hg
/-- a call's result: a thread that it made itself, and whether there is one -/
def RT3 (w0 w' : World) (e : Ending) (pb : Bool) (ds : List V3) (ps : Nat) : Prop :=
  ∃ A' cap' s', e = .returned (.tuple #[.agg #[.slice A' ds.length cap', .float .f32 s'], .bool pb]) ∧ VO w' w0.heap.size A' ds ∧ cn .f32 s' = ps
theorem RT.three {w0 w' : World} {e : Ending} {P : Bool × List V3 × Nat} {pb : Bool} {ds : List V3} {ps : Nat} (h : RT w0 w' e P) (hP : P = (pb, ds, ps)) : RT3 w0 w' e pb ds ps := by subst hP; exact h
/-- what a marking of a block leaves elsewhere -/
theorem marked_cell {w w' : World} {row : Option Nat} (hg : w.grownBy w' row) (b o : Nat) (hb : b < w.heap.size) (hne : ∀ g, row = some g → g ≠ b) : w'.cell? ⟨b, o, none⟩ = w.cell? ⟨b, o, none⟩ :=
  World.cell?_of_block (hg.block b hb (fun e => hne b e.symm rfl))
end Go.Proofs.Ytbaohbpfnlicpaa
