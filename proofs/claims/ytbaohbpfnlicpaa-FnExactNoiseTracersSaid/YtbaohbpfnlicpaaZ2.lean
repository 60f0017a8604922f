/- Lists of complex numbers that a call made itself; the tracers of noise, by the reference. -/
import Derived.Test.YtbaohbpfnlicpaaZ1
import Derived.Test.YtbaohbpfnlicpaaM1
import Derived.Test.YtbaohbpfnlicpaaB1
import Derived.Lib.SliceRun
import Derived.OwnWalk
import Derived.Lib.SmallJoins
namespace Go.Proofs.Ytbaohbpfnlicpaa
open Go Go.RowKit
set_option linter.unusedVariables false
set_option linter.unusedSimpArgs false
attribute [local go_sem] run_store_float

/-- a complex number's canonical bits -/
abbrev C2 := Nat × Nat
/-- a slice of complex numbers that may be written, in blocks from B on -/
def CO (w : World) (B : Nat) (A : Option Addr) (xs : List C2) : Prop :=
  0 < xs.length → ∃ b o, A = some ⟨b, o, none⟩ ∧ B ≤ b ∧ b < w.heap.size ∧ (∀ j, w.frozen? ⟨b, j, none⟩ = false) ∧ ∀ i, i < xs.length → ∃ x y, w.cell? ⟨b, o + i, none⟩ = some (.complex .f32 x y) ∧ (cn .f32 x, cn .f32 y) = xs.getD i (0, 0)
theorem CO.ext {w w' : World} {B : Nat} {A : Option Addr} {xs : List C2} (h : CO w B A xs) (he : Ext w w') : CO w' B A xs := fun hp => by
  obtain ⟨b, o, hA, hB, hb, hf, hc⟩ := h hp
  refine ⟨b, o, hA, hB, Nat.lt_of_lt_of_le hb he.size, fun j => (he.frozen (p := ⟨b, j, none⟩) hb).trans (hf j), fun i hi => ?_⟩
  obtain ⟨x, y, h1, h2⟩ := hc i hi
  exact ⟨x, y, (he.cell (p := ⟨b, o + i, none⟩) hb).trans h1, h2⟩
theorem CO.mono {w : World} {B B' : Nat} {A : Option Addr} {xs : List C2} (h : CO w B A xs) (hB : B' ≤ B) : CO w B' A xs := fun hp => by
  obtain ⟨b, o, hA, hb, r⟩ := h hp
  exact ⟨b, o, hA, Nat.le_trans hB hb, r⟩
theorem infoC : (Try.prog.info? 96).map (fun i => (i.zero, i.size, i.bytes)) = some (some (.complex .f32 0 0), 1, 8) := by kernel_rfl
theorem under_complexes : Try.prog.underlying 23 = some (.slice 96) := by kernel_rfl
/-- a list of cells holds the complex numbers xs -/
def LCs (cs : List Value) (xs : List C2) : Prop := cs.length = xs.length ∧ ∀ i, i < xs.length → ∃ x y, cs[i]? = some (.complex .f32 x y) ∧ (cn .f32 x, cn .f32 y) = xs.getD i (0, 0)
theorem LCs.nil : LCs [] [] := ⟨rfl, fun i hi => absurd hi (Nat.not_lt_zero _)⟩
theorem LCs.snoc {cs : List Value} {xs : List C2} (h : LCs cs xs) (x y : Nat) : LCs (cs ++ [.complex .f32 x y]) (xs ++ [(cn .f32 x, cn .f32 y)]) := by
  refine ⟨by simp [h.1], fun i hi => ?_⟩
  rcases Nat.lt_or_ge i xs.length with hlt | hge
  · obtain ⟨a, b, h1, h2⟩ := h.2 i hlt
    refine ⟨a, b, by rw [List.getElem?_append_left (by rw [h.1]; exact hlt)]; exact h1, ?_⟩
    rw [h2]
    simp only [List.getD_eq_getElem?_getD]
    rw [List.getElem?_append_left hlt]
  · simp only [List.length_append, List.length_singleton] at hi
    have hi' : i = xs.length := by omega
    subst hi'
    refine ⟨x, y, by rw [← h.1]; simp, by simp [List.getD_eq_getElem?_getD]⟩
theorem co_of_owns {w : World} {B : Nat} {e : TypeId} {v : Value} {n : Nat} {cs : List Value} {xs : List C2} (h : w.ownsRow B e 1 v n cs) (hv : LCs cs xs) (hn : n = xs.length) : ∃ A cap, v = .slice A n cap ∧ CO w B A xs := by
  rcases h.2 with ⟨rfl, h0⟩ | ⟨g, cap, cur, rfl, hB, hg, h1, h2, h3, h4⟩
  · subst h0
    exact ⟨none, 0, rfl, fun hp => by omega⟩
  · have hblk : Blk w g e cur := hg
    refine ⟨_, _, rfl, fun _ => ⟨g, 0, rfl, hB, hblk.lt, fun j => hblk.frozen j, fun i hi => ?_⟩⟩
    obtain ⟨x, y, c0, c1⟩ := hv.2 i hi
    have hget : ∀ j, j < n → cur[j]? = cs[j]? := by
      intro j hj
      rw [← h4, List.getElem?_take_of_lt (by omega), Array.getElem?_toList]
    exact ⟨x, y, by rw [hblk.cell, Nat.zero_add, hget _ (by omega)]; exact c0, c1⟩

/-- the seed behind k pairs of draws -/
def seedK (s : Int) : Nat → Int
  | 0 => s
  | k + 1 => seedP (seedP (seedK s k))
/-- the first k tracers -/
def noiseK (size : Nat) (s : Int) : Nat → List C2
  | 0 => []
  | k + 1 => noiseK size s k ++ [(noiseP size (seedP (seedK s k)), noiseP size (seedP (seedP (seedK s k))))]
theorem noiseK_len (size : Nat) (s : Int) (k : Nat) : (noiseK size s k).length = k := by
  induction k with
  | zero => rfl
  | succ k ih => simp [noiseK, ih]
theorem seedK_in {s : Int} (h0 : 0 ≤ s) (h1 : s ≤ 2147483647) (k : Nat) : 0 ≤ seedK s k ∧ seedK s k ≤ 2147483647 := by
  induction k with
  | zero => exact ⟨h0, h1⟩
  | succ k ih =>
    have := seedP_in ih.1 ih.2
    exact seedP_in this.1 this.2
/-- a call's result: tracers that it made itself, the seed that follows, and whether there are any -/
def RC (w0 w' : World) (e : Ending) (pb : Bool) (xs : List C2) (s : Int) : Prop :=
  ∃ A cap, e = .returned (.tuple #[.slice A xs.length cap, .int .i64 s, .bool pb]) ∧ CO w' w0.heap.size A xs

set_option maxRecDepth 100000 in
set_option maxHeartbeats 1600000 in
theorem specNoiseYes_any (n : Nat) (size : Nat) (s : Int) (w : World) (hn : n ≤ 64) (hs : levelP (cn .f32 size) = true) (h0 : 0 ≤ s) (h1 : s ≤ 2147483647) :
    Calls Try.prog 22 #[.int .i64 n, .float .f32 size, .int .i64 s] w fun e w' => Ext w w' ∧ RC w w' e true (noiseK (cn .f32 size) s n) (seedK s n) := by
  obtain ⟨i0, hi0, iz0, iz1, iz2⟩ := info_parts infoC
  have HS := Lib.hid hs
  have H01 := Lib.hid (And.intro h0 h1)
  have HN := Lib.hid hn
  clear hs h0 h1 hn
  go_enter Try.func22, Try.ntmps22
  go_wp2_with (first
    | (go_at_call 79; refine (l00In_yes _ _ _ _ (by first | omega | exact H01.out.1) (by first | (have := HN.out; omega) | exact H01.out.2)).mono ?_; rintro e wq ⟨rfl, rfl⟩)
    | (go_at_call 80; refine (l02Least_any _ true HS.out _).mono ?_; rintro e wq ⟨heq, rfl⟩; have HEQ := Lib.hid heq; clear heq))
  have ho : (wq.alloc (.cells #[] 96)).ownsRow w.heap.size 96 1 (.slice (some ⟨wq.heap.size, 0, none⟩) 0 0) 0 [] := World.ownsRow_made wq #[] 0 HEQ.out.size (by decide) rfl
  have hx : Ext w (wq.alloc (.cells #[] 96)) := Ext.alloc' HEQ.out _
  generalize wq.alloc (.cells #[] 96) = W1 at *
  generalize hv : (Value.slice (some ⟨wq.heap.size, 0, none⟩) 0 0) = v0 at *
  go_loopw [0, 2, 9] (fun c sd v wr => ∃ (k : Nat) (xs : List Value), k ≤ n ∧ c = .int .i64 ((n - k : Nat) : Int) ∧ sd = .int .i64 (seedK s k) ∧ wr.ownsRow w.heap.size 96 1 v k xs ∧ LCs xs (noiseK (cn .f32 size) s k) ∧ Ext w wr) (fun c _ _ _ => (intOf c).toNat)
  case atStart => exact ⟨0, [], by omega, by simp, rfl, ho, LCs.nil, hx⟩
  case round =>
    obtain ⟨k, xs, hk, rfl, rfl, hown, hlv, hbel⟩ := hrel
    have HOW := Lib.hid hown
    have HLV := Lib.hid hlv
    have HE := Lib.hid hbel
    clear hown hlv hbel hx ho hv
    have HK := Lib.hid (seedK_in H01.out.1 H01.out.2 k)
    have HK2 := Lib.hid (seedP_in HK.out.1 HK.out.2)
    by_cases hlt : k < n
    · have hpos : ((n - k : Nat) : Int) > 0 := by omega
      go_wp2_with fail
      refine (l07Draw_any size (seedK s k) HK.out.1 HK.out.2 _).mono ?_
      rintro e w3 ⟨he3, x, rfl, hx3⟩
      have HX3 := Lib.hid hx3
      have HE3 := Lib.hid (Ext.trans HE.out he3)
      have HF3 := Lib.hid he3
      clear hx3 he3
      go_wp2_with fail
      refine (l07Draw_any size (seedP (seedK s k)) HK2.out.1 HK2.out.2 _).mono ?_
      rintro e w4 ⟨he4, y, rfl, hy4⟩
      have HY4 := Lib.hid hy4
      have HE4 := Lib.hid (Ext.trans HE3.out he4)
      have HF4 := Lib.hid (Ext.trans HF3.out he4)
      have HO4 := Lib.hid (HOW.out.kept (w' := w4) (row := none) ⟨HF4.out.os, HF4.out.tape, HF4.out.output, HF4.out.size, fun k hk _ => HF4.out.block k hk⟩ (Classical.em _))
      clear hy4 he4
      go_wp2_with (first | (at_builtin; refine Stand.of ?_))
      refine Stand.out ?_
      refine wpList_append_own _ rfl _ _ 23 rfl w.heap.size 96 i0 _ 1 8 under_complexes hi0 iz0 iz1 iz2 rfl (by decide) _ k xs rfl (HO4.out.alloc _) ⟨w4.heap.size, 0, none⟩ 1 1 [.complex .f32 x y] rfl rfl (World.news_of_block (cs := #[.complex .f32 x y]) (t := 96) (fr := (0, 0)) (heap_alloc_new w4 _)) (by simp [Value.oneCell']) (by have := HN.out; unfold maxLen; omega) (by have := HN.out; omega) (by have := HE4.out.size; (try simp only [World.size_alloc]); omega) ?_
      intro v' w6 hown6 hgrow hnil
      have hgl := HOW.out.lt
      have e6 : Ext w w6 := Ext.grown (Ext.alloc' HE4.out _) hgrow (fun j hj => (hgl j hj).1)
      have HO6 := Lib.hid hown6
      have HE6 := Lib.hid e6
      have hsub : wrap64 (((n - k : Nat) : Int) - 1) = ((n - (k + 1) : Nat) : Int) := by have := HN.out; unfold wrap64; omega
      clear hown6 hgrow hnil hgl e6
      go_wp2_with fail
      generalize hzz : wrap64 (((n - k : Nat) : Int) - 1) = zz at *
      subst hsub
      go_roundw
      case rel =>
        refine ⟨k + 1, xs ++ [.complex .f32 x y], by omega, rfl, rfl, HO6.out, ?_, HE6.out⟩
        have := HLV.out.snoc x y
        rw [HX3.out, HY4.out] at this
        exact this
      case measure =>
        simp only [intOf]
        omega
    · have hpos : ¬ ((n - k : Nat) : Int) > 0 := by omega
      have hkn : k = n := by omega
      subst hkn
      obtain ⟨A', cp, rfl, hco⟩ := co_of_owns HOW.out HLV.out (noiseK_len _ _ _).symm
      have HCO := Lib.hid hco
      clear hco
      go_wp2_with fail
      refine bodyPost_ret (v := .tuple #[.slice A' k cp, .int .i64 (seedK s k), .bool true]) (by simp [results, Try.results22, go_sem]) rfl ?_
      exact ⟨HE.out, A', cp, by rw [noiseK_len], HCO.out⟩
end Go.Proofs.Ytbaohbpfnlicpaa
