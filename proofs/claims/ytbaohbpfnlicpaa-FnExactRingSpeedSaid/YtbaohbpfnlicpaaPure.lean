/- What the program computes, on canonical numbers: vectors of float32 and threads. No Go in sight. -/
import Derived.Test.YtbaohbpfnlicpaaMem
namespace Go.Proofs.Ytbaohbpfnlicpaa
open Go

def finF (x : Nat) : Bool := fcmp .eql .f32 (fop .sub .f32 x x) 0
def vfin (c : V3) : Bool := finF c.1 && finF c.2.1 && finF c.2.2
def vadd (a b : V3) : V3 := (fop .add .f32 a.1 b.1, fop .add .f32 a.2.1 b.2.1, fop .add .f32 a.2.2 b.2.2)
def vsub (a b : V3) : V3 := (fop .sub .f32 a.1 b.1, fop .sub .f32 a.2.1 b.2.1, fop .sub .f32 a.2.2 b.2.2)
def vscale (a : V3) (s : Nat) : V3 := (fop .mul .f32 a.1 s, fop .mul .f32 a.2.1 s, fop .mul .f32 a.2.2 s)
def vinner (a b : V3) : Nat := fop .add .f32 (fop .add .f32 (fop .mul .f32 a.1 b.1) (fop .mul .f32 a.2.1 b.2.1)) (fop .mul .f32 a.2.2 b.2.2)
def fcross (a b c d : Nat) : Nat := fop .sub .f32 (fop .mul .f32 a b) (fop .mul .f32 c d)
def vcross (a b : V3) : V3 := (fcross a.2.1 b.2.2 a.2.2 b.2.1, fcross a.2.2 b.1 a.1 b.2.2, fcross a.1 b.2.1 a.2.1 b.1)
/-- a right thread -/
def isTh (cs : List V3) (sp : Nat) : Bool := decide (3 ≤ cs.length) && decide (cs.length ≤ 32) && cs.all vfin && finF sp

theorem cn_zero32 : cn .f32 0 = 0 := by decide
theorem cn_zero64 : cn .f64 0 = 0 := by decide

/-- a told vector: itself where it is finite -/
def toldV (c : V3) : Bool × V3 := if vfin c then (true, c) else (false, (0, 0, 0))
def one32 : Nat := 1065353216
def vsum (cs : List V3) : V3 := cs.foldl vadd (0, 0, 0)
/-- the middle of a thread -/
def midP (cs : List V3) (sp : Nat) : Bool × V3 := if isTh cs sp then toldV (vscale (vsum cs) (fop .quo .f32 one32 (floatOfInt .f32 cs.length))) else (false, (0, 0, 0))
theorem vsum_succ (cs : List V3) (k : Nat) (h : k < cs.length) : vsum (cs.take (k + 1)) = vadd (vsum (cs.take k)) (cs.getD k (0, 0, 0)) := by
  unfold vsum
  rw [List.take_succ_eq_append_getElem h, List.foldl_append]
  simp [h]
theorem cv_zero : cv 0 0 0 = (0, 0, 0) := by decide
theorem cn_ofInt (m : Int) : cn .f32 (floatOfInt .f32 m) = floatOfInt .f32 m := cn_of_not (read_write_nearest Ieee.single _ _ _)
theorem cn_one32 : cn .f32 1065353216 = one32 := by decide
theorem midP_of (cs : List V3) (sp r1 : Nat) (r s t r' s' t' : Nat) (hi : isTh cs sp = true) (hv : cv r s t = vsum (cs.take cs.length)) (hq1 : FR .f32 r1 (fop .quo .f32 (cn .f32 1065353216) (cn .f32 (floatOfInt .f32 cs.length)))) (hq : cv r' s' t' = vscale (cv r s t) (cn .f32 r1)) :
    midP cs sp = toldV (cv r' s' t') := by
  unfold midP
  rw [if_pos hi, hq, hv, List.take_length]
  unfold FR at hq1
  rw [hq1, cn_one32, cn_ofInt]
end Go.Proofs.Ytbaohbpfnlicpaa
