/- Walks: a flat ring, by the program. -/
import Derived.Test.YtbaohbpfnlicpaaQ3
import Derived.Test.YtbaohbpfnlicpaaM9
namespace Go.Proofs.Ytbaohbpfnlicpaa
open Go Go.RowKit
set_option linter.unusedVariables false
set_option linter.unusedSimpArgs false
attribute [local go_sem] run_store_float

theorem Ring1_any (b q : Nat) (k : Int) (w : World) (h : At1 b q w) : Calls Try.prog 152 #[.int .i64 k, .pointer (some ⟨b, 0, none⟩)] w fun e w' => Ext w w' ∧ ∃ r, e = .returned (.float .f32 r) ∧ cn .f32 r = cn .f32 q := by
  obtain ⟨hb, c0⟩ := h
  go_enter Try.func152, Try.ntmps152
  go_wp2_with fail
  go_ret
  exact ⟨by (repeat first | with_reducible exact Ext.rfl' _ | with_reducible refine Ext.drewN ?_ _ | with_reducible refine Ext.drew' ?_ | with_reducible refine Ext.alloc' ?_ _ | with_reducible refine Ext.setCell_at ?_ _ _ _ (by first | exact Nat.le_refl _ | omega) | with_reducible assumption | refine Ext.trans ?_ (by with_reducible assumption)), _, rfl, rfl⟩
theorem height_ring (b q m : Nat) : HeightF 152 #[.pointer (some ⟨b, 0, none⟩)] (At1 b q) m (fun _ => cn .f32 q) :=
  ⟨fun args w => by go_simp, fun k w _ h => Ring1_any b q k w h, fun w w' h he => h.ext he⟩
set_option maxRecDepth 100000 in
theorem implRing_any (n : Int) (radius height sp : Nat) (w : World) :
    Calls Try.prog 74 #[.int .i64 n, .float .f32 radius, .float .f32 height, .float .f32 sp] w fun e w' => Ext w w' ∧ RT w w' e (ringP n (cn .f32 radius) (fun _ => cn .f32 height) (cn .f32 sp)) := by
  obtain ⟨P, hP⟩ : ∃ P, ringP n (cn .f32 radius) (fun _ => cn .f32 height) (cn .f32 sp) = P := ⟨_, rfl⟩
  have HH := Lib.hid (show At1 w.heap.size height ((w.alloc (.cells #[.float .f32 height] 22)).alloc (.cells #[.slice none 0 0, .float .f32 0] 48)) from ⟨by simp <;> omega, by go_simp⟩)
  have HB0 := Lib.hid (Blk.at_ (w.alloc (.cells #[.float .f32 height] 22)) 48 #[.slice none 0 0, .float .f32 0] (w.heap.size + 1) (by simp))
  have HE0 := Lib.hid (show Ext w ((w.alloc (.cells #[.float .f32 height] 22)).alloc (.cells #[.slice none 0 0, .float .f32 0] 48)) by (repeat first | with_reducible exact Ext.rfl' _ | with_reducible refine Ext.drewN ?_ _ | with_reducible refine Ext.drew' ?_ | with_reducible refine Ext.alloc' ?_ _ | with_reducible refine Ext.setCell_at ?_ _ _ _ (by first | exact Nat.le_refl _ | omega) | with_reducible assumption | refine Ext.trans ?_ (by with_reducible assumption)))
  rw [hP]
  obtain ⟨pb, ds, ps⟩ := P
  have HP := Lib.hid hP
  clear hP
  go_enter Try.func74, Try.ntmps74
  go_wp2_with fail
  generalize (w.alloc (.cells #[.float .f32 height] 22)).alloc (.cells #[.slice none 0 0, .float .f32 0] 48) = W1 at *
  refine (ringed_any n radius sp _ _ _ _ (height_ring w.heap.size height n.toNat) _ HH.out).mono ?_
  rintro e w6 ⟨he6, hrt⟩
  obtain ⟨A0, cap0, s0, rfl, hv6, hs6⟩ := RT.three hrt HP.out
  have HR6 := Lib.hid (HB0.out.ext he6)
  have HE6 := Lib.hid (Ext.trans HE0.out he6)
  have HV6 := Lib.hid hv6
  have HS6 := Lib.hid hs6
  have hlt := HB0.out.lt
  have r0 : w6.cell? ⟨w.heap.size + 1, 0, none⟩ = some (.slice none 0 0) := HR6.out.cell 0
  have r1 : w6.cell? ⟨w.heap.size + 1, 1, none⟩ = some (.float .f32 0) := HR6.out.cell 1
  have rf0 := HR6.out.frozen 0
  have rf1 := HR6.out.frozen 1
  clear he6 hv6 hs6 hrt
  go_wp2_with fail
  have hla := Laid.set (w0 := w) (g := w.heap.size + 1) HE6.out HV6.out HE0.out.size HR6.out (by omega) hlt cap0 s0
  obtain ⟨-, -, c0, c1, hE, hv, -⟩ := hla
  refine bodyPost_ret (v := .tuple #[.agg #[.slice A0 ds.length cap0, .float .f32 s0], .bool pb]) (by simp [results, Try.results74, go_sem, c0, c1]) rfl ⟨hE, A0, cap0, s0, rfl, hv, HS6.out⟩
end Go.Proofs.Ytbaohbpfnlicpaa
