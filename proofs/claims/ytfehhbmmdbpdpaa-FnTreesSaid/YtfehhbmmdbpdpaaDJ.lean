/- Walks: what bytes choose. -/
import Derived.Test.YtfehhbmmdbpdpaaDI
namespace Go.Proofs.Ytfehhbmmdbpdpaa
open Go Go.RowKit
set_option linter.unusedVariables false
set_option linter.unusedSimpArgs false
attribute [local go_sem] run_store_float run_store_complex

/-- bytes, as they lie in memory -/
def Bytes (w : World) (A : Option Addr) (n : Nat) : Prop := 0 < n → ∃ b o, A = some ⟨b, o, none⟩ ∧ b < w.heap.size ∧ ∀ i, i < n → ∃ x : Nat, x < 256 ∧ w.cell? ⟨b, o + i, none⟩ = some (.int .u8 x)
theorem Bytes.ext {w w' : World} {A : Option Addr} {n : Nat} (h : Bytes w A n) (he : Ext w w') : Bytes w' A n := fun hp => by
  obtain ⟨b, o, h1, h2, h3⟩ := h hp
  exact ⟨b, o, h1, Nat.lt_of_lt_of_le h2 he.size, fun i hi => by
    obtain ⟨x, hx, hc⟩ := h3 i hi
    exact ⟨x, hx, (he.cell (p := ⟨b, o + i, none⟩) h2).trans hc⟩⟩
theorem b10Long_any (A1 A2 : Option Addr) (n1 n2 c1 c2 : Nat) (w : World) : Calls Try.prog 6 #[.slice A1 n1 c1, .slice A2 n2 c2] w fun e w' => w' = w ∧ e = .returned (.bool (decide (1048576 < n1 ∨ 1048576 < n2))) := by
  by_cases h1 : (1048576 : Int) < n1
  · have hd : decide (1048576 < n1 ∨ 1048576 < n2) = true := decide_eq_true (by omega)
    rw [hd]
    clear hd
    go_enter Try.func6, Try.ntmps6
    go_wp2_with fail
    go_ret
    exact ⟨rfl, rfl⟩
  · by_cases h2 : (1048576 : Int) < n2
    · have hd : decide (1048576 < n1 ∨ 1048576 < n2) = true := decide_eq_true (by omega)
      rw [hd]
      clear hd
      go_enter Try.func6, Try.ntmps6
      go_wp2_with fail
      go_ret
      exact ⟨rfl, rfl⟩
    · have hd : decide (1048576 < n1 ∨ 1048576 < n2) = false := decide_eq_false (by omega)
      rw [hd]
      clear hd
      go_enter Try.func6, Try.ntmps6
      go_wp2_with fail
      go_ret
      exact ⟨rfl, rfl⟩
/-- the source of choices, in a box -/
def Src (w : World) (k : Nat) (A : Option Addr) (n cap at_ : Nat) : Prop := ∃ s : Int, Blk w k 100 #[.slice A n cap, .int .i64 at_, .int .u64 s]
/-- one block is changed, no other -/
structure Sr (w w' : World) (k : Nat) : Prop where
  os : w'.os = w.os
  tape : w'.tape = w.tape
  output : w'.output = w.output
  size : w'.heap.size = w.heap.size
  block : ∀ j, j ≠ k → w'.heap[j]? = w.heap[j]?
theorem Sr.rfl' (w : World) (k : Nat) : Sr w w k := ⟨rfl, rfl, rfl, rfl, fun _ _ => rfl⟩
theorem Sr.drewN {w w' : World} {k : Nat} (h : Sr w w' k) (n : Nat) : Sr w (w'.drewN n) k := ⟨h.os, h.tape, h.output, h.size, h.block⟩
theorem Sr.set {w w' : World} {k : Nat} (h : Sr w w' k) (i : Nat) (u : Value) : Sr w (w'.setCell ⟨k, i, none⟩ u) k :=
  ⟨h.os, h.tape, h.output, by simp [h.size], fun j hj => (heap_setCell_other w' ⟨k, i, none⟩ j u (fun e => hj (by simpa using e))).trans (h.block j hj)⟩
theorem Sr.trans {a b c : World} {k : Nat} (h : Sr a b k) (g : Sr b c k) : Sr a c k := ⟨g.os.trans h.os, g.tape.trans h.tape, g.output.trans h.output, g.size.trans h.size, fun j hj => (g.block j hj).trans (h.block j hj)⟩
theorem Sr.ext {w0 w w' : World} {k : Nat} (h : Sr w w' k) (he : Ext w0 w) (hk : w0.heap.size ≤ k) : Ext w0 w' :=
  ⟨h.os.trans he.os, h.tape.trans he.tape, h.output.trans he.output, by rw [h.size]; exact he.size, fun j hj => (h.block j (by omega)).trans (he.block j hj)⟩
theorem byte_of (s : Int) : ∃ x : Nat, x < 256 ∧ wrap64 (bits .and .u64 s 255) = x := by
  have h : (BitVec.ofInt 64 s &&& BitVec.ofInt 64 255).toNat < 256 := by
    rw [BitVec.toNat_and]
    exact Nat.lt_of_le_of_lt Nat.and_le_right (by decide)
  refine ⟨_, h, ?_⟩
  show wrap64 (IntKind.u64.wrap (((BitVec.ofInt 64 s &&& BitVec.ofInt 64 255).toNat : Nat) : Int)) = _
  generalize (BitVec.ofInt 64 s &&& BitVec.ofInt 64 255).toNat = m at *
  have hw : IntKind.u64.wrap (m : Int) = m := by
    show (m : Int) % 18446744073709551616 = m
    omega
  rw [hw]
  unfold wrap64
  omega
theorem next_any (k : Nat) (A : Option Addr) (n cap at_ : Nat) (w : World) (hs : Src w k A n cap at_) (hb : Bytes w A n) (ha : at_ ≤ 1000000) (hn : n ≤ 1048576) :
    Calls Try.prog 81 #[.pointer (some ⟨k, 0, none⟩)] w fun e w' => ∃ x : Nat, e = .returned (.int .i64 x) ∧ x < 256 ∧ Src w' k A n cap (at_ + 1) ∧ Sr w w' k := by
  obtain ⟨s, hblk⟩ := hs
  have d0 : w.cell? ⟨k, 0, none⟩ = some (.slice A n cap) := hblk.cell 0
  have d1 : w.cell? ⟨k, 1, none⟩ = some (.int .i64 at_) := hblk.cell 1
  have d2 : w.cell? ⟨k, 2, none⟩ = some (.int .u64 s) := hblk.cell 2
  have f1 : w.frozen? ⟨k, 1, none⟩ = false := hblk.frozen 1
  have f2 : w.frozen? ⟨k, 2, none⟩ = false := hblk.frozen 2
  have HBLK := Lib.hid hblk
  have HB := Lib.hid hb
  have hw1 : IntKind.i64.wrap ((at_ : Int) + 1) = at_ + 1 := IntWalk.i64_in _ (by omega)
  clear hblk hb
  by_cases hlt : (at_ : Int) < n
  · obtain ⟨b, o, rfl, hbw, hcc⟩ := HB.out (by omega)
    obtain ⟨x, hx, dx⟩ := hcc at_ (by omega)
    have hwx : IntKind.i64.wrap (x : Int) = x := IntWalk.i64_in _ (by omega)
    clear hcc
    go_enter Try.func81, Try.ntmps81
    go_wp2_with fail
    go_quiet (fail)
    go_wp2_with fail
    go_quiet (fail)
    go_wp2_with fail
    go_quiet (fail)
    go_wp2_with fail
    go_ret
    refine ⟨x, rfl, hx, ⟨_, ((HBLK.out.set_ 1 _).set_ 2 _)⟩, ?_⟩
    exact Sr.drewN (Sr.set (Sr.set (Sr.drewN (Sr.rfl' w k) _) _ _) _ _) _
  · have hle : ¬ (at_ : Int) + 1 ≤ n := by omega
    go_enter Try.func81, Try.ntmps81
    go_wp2_with fail
    go_quiet (fail)
    go_wp2_with fail
    go_quiet (fail)
    go_wp2_with fail
    go_ret
    obtain ⟨x, hx, hxw⟩ := byte_of (IntKind.u64.wrap (IntKind.u64.wrap (IntKind.u64.wrap (s * 6364136223846793005)) + 1442695040888963407) / 1099511627776)
    refine ⟨x, congrArg (fun z => Ending.returned (.int .i64 z)) hxw, hx, ⟨_, ((HBLK.out.set_ 1 _).set_ 2 _)⟩, ?_⟩
    exact Sr.drewN (Sr.set (Sr.set (Sr.drewN (Sr.rfl' w k) _) _ _) _ _) _
theorem pick_any (m k : Nat) (A : Option Addr) (n cap at_ : Nat) (w : World) (hm : 1 < m) (hm2 : m ≤ 200) (hs : Src w k A n cap at_) (hb : Bytes w A n) (ha : at_ ≤ 1000000) (hn : n ≤ 1048576) :
    Calls Try.prog 42 #[.pointer (some ⟨k, 0, none⟩), .int .i64 m] w fun e w' => ∃ x : Nat, e = .returned (.int .i64 x) ∧ x < m ∧ Src w' k A n cap (at_ + 1) ∧ Sr w w' k := by
  have h1 : ¬ (m : Int) ≤ 1 := by omega
  have h2 : ¬ (m : Int) > 200 := by omega
  have h3 : (m : Int) ≠ 0 := by omega
  have HM := Lib.hid hm
  have HM2 := Lib.hid hm2
  clear hm hm2
  go_enter Try.func42, Try.ntmps42
  go_wp2_with fail
  refine (next_any k A n cap at_ _ hs hb ha hn).mono ?_
  rintro e w1 ⟨x, rfl, hx, hs1, hsr⟩
  have hr : (x : Int).tmod m = ((x % m : Nat) : Int) := by rw [Int.tmod_eq_emod_of_nonneg (by omega)]; rfl
  have hw : IntKind.i64.wrap ((x % m : Nat) : Int) = ((x % m : Nat) : Int) := IntWalk.i64_in _ (by have := Nat.mod_lt x (show 0 < m by have := HM.out; omega); have := HM2.out; omega)
  have HS := Lib.hid hs1
  have HR := Lib.hid hsr
  have HX := Lib.hid hx
  clear hs1 hsr hx
  go_wp2_with fail
  go_ret
  exact ⟨x % m, rfl, Nat.mod_lt _ (by have := HM.out; omega), HS.out, HR.out⟩
end Go.Proofs.Ytfehhbmmdbpdpaa
