/-
  No cell of these rows narrows 'for every input' (looked for: loops, veiled, ifaces, maps, wideKeys, modest, calm, conditions, laid).
  DERIVED. THE GIVEN ROWS OF THIS SEAT. 19 by the template 'for every input the law returns true; each argument reads behind the call as it read before'; 0 by the template 'total and deterministic' (their statements: YtbaohbpfnlicpaaTotals.lean).
  GIVEN WITH THE SEED: the statements are not yours to turn. If you find one false, say at which input.
  Laid BY PROGRAM, IN A SANDBOX (cutbox-rows.mjs): the forced cells as the released guide's own fill.sh prints them over the translation 8a4c9e69095854dc… (all of the seat's roots in one cut). By AI agents, Wed Nov 11 2026. No macro, syntax, notation, axiom, sorry.
-/
import Derived.Test.YtbaohbpfnlicpaaChecked
import GoSem.Claim
import GoSem.ClaimJoined
import GoSem.ClaimMapViews
import Derived.JoinedTies
import Derived.KernelRfl
namespace Go.Proofs.Ytbaohbpfnlicpaa
/- THE CELL 'sum', in the pinned program and in every row, IS THE sha256 OF THE DUMP (.gsa) THAT YtbaohbpfnlicpaaProg.lean LOADS. Nothing in Lean hashes anything: it is a label: what it is worth is what the hold of that sum in a sandbox is worth. -/
noncomputable def Try.pinned : Pinned := { name := "ytbaohbpfnlicpaa", sum := "8a4c9e69095854dcc1ae360a4c868e2e2cc26e471734ddc78dbda3a04e0dacbd", checked := Try.checked }
namespace Rows
def none {H : Type} : Left H := { results := [], args := [] }

/-- 'laws.FnExactNoiseTracers': WHATEVER THE INPUT: true; the input reads as it did. -/
def fnExactNoiseTracersSpec : ChangeSpec := { name := "fnExactNoiseTracers", fn := fun _ => fun
  | [d1, d2, d3] => { results := [.lit (.bool true)], args := [d1, d2, d3] }
  | _ => none }
def fnExactNoiseTracersRow : OpenClaim := { program := "ytbaohbpfnlicpaa", sum := "8a4c9e69095854dcc1ae360a4c868e2e2cc26e471734ddc78dbda3a04e0dacbd", func := "loop.example/g01266/laws.FnExactNoiseTracers", spec := "fnExactNoiseTracers", unfollowed := true, recurses := true, apart := false }
def FnExactNoiseTracersSaid : Prop := fnExactNoiseTracersRow.holds Try.pinned (OpenSpec.ofChange fnExactNoiseTracersSpec)

/-- ITS FALSE NEIGHBOUR: 'it returns false'. Refute it at one input. -/
def fnExactNoiseTracersWrong : ChangeSpec := { name := "fnExactNoiseTracers", fn := fun _ => fun
  | [d1, d2, d3] => { results := [.lit (.bool false)], args := [d1, d2, d3] }
  | _ => none }
def FnExactNoiseTracersWrongFalsely : Prop := fnExactNoiseTracersRow.holds Try.pinned (OpenSpec.ofChange fnExactNoiseTracersWrong)

/-- 'laws.FnExactSpinAt': WHATEVER THE INPUT: true; the input reads as it did. -/
def fnExactSpinAtSpec : ChangeSpec := { name := "fnExactSpinAt", fn := fun _ => fun
  | [d1, d2, d3] => { results := [.lit (.bool true)], args := [d1, d2, d3] }
  | _ => none }
def fnExactSpinAtRow : OpenClaim := { program := "ytbaohbpfnlicpaa", sum := "8a4c9e69095854dcc1ae360a4c868e2e2cc26e471734ddc78dbda3a04e0dacbd", func := "loop.example/g01266/laws.FnExactSpinAt", spec := "fnExactSpinAt", unfollowed := true, recurses := true, apart := false }
def FnExactSpinAtSaid : Prop := fnExactSpinAtRow.holds Try.pinned (OpenSpec.ofChange fnExactSpinAtSpec)

/-- ITS FALSE NEIGHBOUR: 'it returns false'. Refute it at one input. -/
def fnExactSpinAtWrong : ChangeSpec := { name := "fnExactSpinAt", fn := fun _ => fun
  | [d1, d2, d3] => { results := [.lit (.bool false)], args := [d1, d2, d3] }
  | _ => none }
def FnExactSpinAtWrongFalsely : Prop := fnExactSpinAtRow.holds Try.pinned (OpenSpec.ofChange fnExactSpinAtWrong)

/-- 'laws.FnExactSameThread': WHATEVER THE INPUT: true; the input reads as it did. -/
def fnExactSameThreadSpec : ChangeSpec := { name := "fnExactSameThread", fn := fun _ => fun
  | [d1, d2] => { results := [.lit (.bool true)], args := [d1, d2] }
  | _ => none }
def fnExactSameThreadRow : OpenClaim := { program := "ytbaohbpfnlicpaa", sum := "8a4c9e69095854dcc1ae360a4c868e2e2cc26e471734ddc78dbda3a04e0dacbd", func := "loop.example/g01266/laws.FnExactSameThread", spec := "fnExactSameThread", inPlace := ["math.Float32bits"], unfollowed := true, recurses := true, apart := false }
def FnExactSameThreadSaid : Prop := fnExactSameThreadRow.holds Try.pinned (OpenSpec.ofChange fnExactSameThreadSpec)

/-- ITS FALSE NEIGHBOUR: 'it returns false'. Refute it at one input. -/
def fnExactSameThreadWrong : ChangeSpec := { name := "fnExactSameThread", fn := fun _ => fun
  | [d1, d2] => { results := [.lit (.bool false)], args := [d1, d2] }
  | _ => none }
def FnExactSameThreadWrongFalsely : Prop := fnExactSameThreadRow.holds Try.pinned (OpenSpec.ofChange fnExactSameThreadWrong)

/-- 'laws.FnExactRingSpeed': WHATEVER THE INPUT: true; the input reads as it did. -/
def fnExactRingSpeedSpec : ChangeSpec := { name := "fnExactRingSpeed", fn := fun _ => fun
  | [d1, d2, d3] => { results := [.lit (.bool true)], args := [d1, d2, d3] }
  | _ => none }
def fnExactRingSpeedRow : OpenClaim := { program := "ytbaohbpfnlicpaa", sum := "8a4c9e69095854dcc1ae360a4c868e2e2cc26e471734ddc78dbda3a04e0dacbd", func := "loop.example/g01266/laws.FnExactRingSpeed", spec := "fnExactRingSpeed", inPlace := ["math.Float64frombits", "math.Float64bits"], unfollowed := true, recurses := true, apart := false }
def FnExactRingSpeedSaid : Prop := fnExactRingSpeedRow.holds Try.pinned (OpenSpec.ofChange fnExactRingSpeedSpec)

/-- ITS FALSE NEIGHBOUR: 'it returns false'. Refute it at one input. -/
def fnExactRingSpeedWrong : ChangeSpec := { name := "fnExactRingSpeed", fn := fun _ => fun
  | [d1, d2, d3] => { results := [.lit (.bool false)], args := [d1, d2, d3] }
  | _ => none }
def FnExactRingSpeedWrongFalsely : Prop := fnExactRingSpeedRow.holds Try.pinned (OpenSpec.ofChange fnExactRingSpeedWrong)

/-- 'laws.FnExactMiddleOfThread': WHATEVER THE INPUT: true; the input reads as it did. -/
def fnExactMiddleOfThreadSpec : ChangeSpec := { name := "fnExactMiddleOfThread", fn := fun _ => fun
  | [d] => { results := [.lit (.bool true)], args := [d] }
  | _ => none }
def fnExactMiddleOfThreadRow : OpenClaim := { program := "ytbaohbpfnlicpaa", sum := "8a4c9e69095854dcc1ae360a4c868e2e2cc26e471734ddc78dbda3a04e0dacbd", func := "loop.example/g01266/laws.FnExactMiddleOfThread", spec := "fnExactMiddleOfThread", unfollowed := true, recurses := true, apart := false }
def FnExactMiddleOfThreadSaid : Prop := fnExactMiddleOfThreadRow.holds Try.pinned (OpenSpec.ofChange fnExactMiddleOfThreadSpec)

/-- ITS FALSE NEIGHBOUR: 'it returns false'. Refute it at one input. -/
def fnExactMiddleOfThreadWrong : ChangeSpec := { name := "fnExactMiddleOfThread", fn := fun _ => fun
  | [d] => { results := [.lit (.bool false)], args := [d] }
  | _ => none }
def FnExactMiddleOfThreadWrongFalsely : Prop := fnExactMiddleOfThreadRow.holds Try.pinned (OpenSpec.ofChange fnExactMiddleOfThreadWrong)

/-- 'laws.FnExactAreThreads': WHATEVER THE INPUT: true; the input reads as it did. -/
def fnExactAreThreadsSpec : ChangeSpec := { name := "fnExactAreThreads", fn := fun _ => fun
  | [d] => { results := [.lit (.bool true)], args := [d] }
  | _ => none }
def fnExactAreThreadsRow : OpenClaim := { program := "ytbaohbpfnlicpaa", sum := "8a4c9e69095854dcc1ae360a4c868e2e2cc26e471734ddc78dbda3a04e0dacbd", func := "loop.example/g01266/laws.FnExactAreThreads", spec := "fnExactAreThreads", unfollowed := true, recurses := true, apart := false }
def FnExactAreThreadsSaid : Prop := fnExactAreThreadsRow.holds Try.pinned (OpenSpec.ofChange fnExactAreThreadsSpec)

/-- ITS FALSE NEIGHBOUR: 'it returns false'. Refute it at one input. -/
def fnExactAreThreadsWrong : ChangeSpec := { name := "fnExactAreThreads", fn := fun _ => fun
  | [d] => { results := [.lit (.bool false)], args := [d] }
  | _ => none }
def FnExactAreThreadsWrongFalsely : Prop := fnExactAreThreadsRow.holds Try.pinned (OpenSpec.ofChange fnExactAreThreadsWrong)

/-- 'laws.FnExactAreaOfThread': WHATEVER THE INPUT: true; the input reads as it did. -/
def fnExactAreaOfThreadSpec : ChangeSpec := { name := "fnExactAreaOfThread", fn := fun _ => fun
  | [d] => { results := [.lit (.bool true)], args := [d] }
  | _ => none }
def fnExactAreaOfThreadRow : OpenClaim := { program := "ytbaohbpfnlicpaa", sum := "8a4c9e69095854dcc1ae360a4c868e2e2cc26e471734ddc78dbda3a04e0dacbd", func := "loop.example/g01266/laws.FnExactAreaOfThread", spec := "fnExactAreaOfThread", unfollowed := true, recurses := true, apart := false }
def FnExactAreaOfThreadSaid : Prop := fnExactAreaOfThreadRow.holds Try.pinned (OpenSpec.ofChange fnExactAreaOfThreadSpec)

/-- ITS FALSE NEIGHBOUR: 'it returns false'. Refute it at one input. -/
def fnExactAreaOfThreadWrong : ChangeSpec := { name := "fnExactAreaOfThread", fn := fun _ => fun
  | [d] => { results := [.lit (.bool false)], args := [d] }
  | _ => none }
def FnExactAreaOfThreadWrongFalsely : Prop := fnExactAreaOfThreadRow.holds Try.pinned (OpenSpec.ofChange fnExactAreaOfThreadWrong)

/-- 'laws.FnExactPutSpin': WHATEVER THE INPUT: true; the input reads as it did. -/
def fnExactPutSpinSpec : ChangeSpec := { name := "fnExactPutSpin", fn := fun _ => fun
  | [d1, d2, d3, d4] => { results := [.lit (.bool true)], args := [d1, d2, d3, d4] }
  | _ => none }
def fnExactPutSpinRow : OpenClaim := { program := "ytbaohbpfnlicpaa", sum := "8a4c9e69095854dcc1ae360a4c868e2e2cc26e471734ddc78dbda3a04e0dacbd", func := "loop.example/g01266/laws.FnExactPutSpin", spec := "fnExactPutSpin", unfollowed := true, recurses := true, apart := false }
def FnExactPutSpinSaid : Prop := fnExactPutSpinRow.holds Try.pinned (OpenSpec.ofChange fnExactPutSpinSpec)

/-- ITS FALSE NEIGHBOUR: 'it returns false'. Refute it at one input. -/
def fnExactPutSpinWrong : ChangeSpec := { name := "fnExactPutSpin", fn := fun _ => fun
  | [d1, d2, d3, d4] => { results := [.lit (.bool false)], args := [d1, d2, d3, d4] }
  | _ => none }
def FnExactPutSpinWrongFalsely : Prop := fnExactPutSpinRow.holds Try.pinned (OpenSpec.ofChange fnExactPutSpinWrong)

/-- 'laws.FnExactImpulseOfThread': WHATEVER THE INPUT: true; the input reads as it did. -/
def fnExactImpulseOfThreadSpec : ChangeSpec := { name := "fnExactImpulseOfThread", fn := fun _ => fun
  | [d] => { results := [.lit (.bool true)], args := [d] }
  | _ => none }
def fnExactImpulseOfThreadRow : OpenClaim := { program := "ytbaohbpfnlicpaa", sum := "8a4c9e69095854dcc1ae360a4c868e2e2cc26e471734ddc78dbda3a04e0dacbd", func := "loop.example/g01266/laws.FnExactImpulseOfThread", spec := "fnExactImpulseOfThread", unfollowed := true, recurses := true, apart := false }
def FnExactImpulseOfThreadSaid : Prop := fnExactImpulseOfThreadRow.holds Try.pinned (OpenSpec.ofChange fnExactImpulseOfThreadSpec)

/-- ITS FALSE NEIGHBOUR: 'it returns false'. Refute it at one input. -/
def fnExactImpulseOfThreadWrong : ChangeSpec := { name := "fnExactImpulseOfThread", fn := fun _ => fun
  | [d] => { results := [.lit (.bool false)], args := [d] }
  | _ => none }
def FnExactImpulseOfThreadWrongFalsely : Prop := fnExactImpulseOfThreadRow.holds Try.pinned (OpenSpec.ofChange fnExactImpulseOfThreadWrong)

/-- 'laws.FnExactBackThread': WHATEVER THE INPUT: true; the input reads as it did. -/
def fnExactBackThreadSpec : ChangeSpec := { name := "fnExactBackThread", fn := fun _ => fun
  | [d] => { results := [.lit (.bool true)], args := [d] }
  | _ => none }
def fnExactBackThreadRow : OpenClaim := { program := "ytbaohbpfnlicpaa", sum := "8a4c9e69095854dcc1ae360a4c868e2e2cc26e471734ddc78dbda3a04e0dacbd", func := "loop.example/g01266/laws.FnExactBackThread", spec := "fnExactBackThread", unfollowed := true, recurses := true, apart := false }
def FnExactBackThreadSaid : Prop := fnExactBackThreadRow.holds Try.pinned (OpenSpec.ofChange fnExactBackThreadSpec)

/-- ITS FALSE NEIGHBOUR: 'it returns false'. Refute it at one input. -/
def fnExactBackThreadWrong : ChangeSpec := { name := "fnExactBackThread", fn := fun _ => fun
  | [d] => { results := [.lit (.bool false)], args := [d] }
  | _ => none }
def FnExactBackThreadWrongFalsely : Prop := fnExactBackThreadRow.holds Try.pinned (OpenSpec.ofChange fnExactBackThreadWrong)

/-- 'laws.FnExactMoveThread': WHATEVER THE INPUT: true; the input reads as it did. -/
def fnExactMoveThreadSpec : ChangeSpec := { name := "fnExactMoveThread", fn := fun _ => fun
  | [d1, d2] => { results := [.lit (.bool true)], args := [d1, d2] }
  | _ => none }
def fnExactMoveThreadRow : OpenClaim := { program := "ytbaohbpfnlicpaa", sum := "8a4c9e69095854dcc1ae360a4c868e2e2cc26e471734ddc78dbda3a04e0dacbd", func := "loop.example/g01266/laws.FnExactMoveThread", spec := "fnExactMoveThread", unfollowed := true, recurses := true, apart := false }
def FnExactMoveThreadSaid : Prop := fnExactMoveThreadRow.holds Try.pinned (OpenSpec.ofChange fnExactMoveThreadSpec)

/-- ITS FALSE NEIGHBOUR: 'it returns false'. Refute it at one input. -/
def fnExactMoveThreadWrong : ChangeSpec := { name := "fnExactMoveThread", fn := fun _ => fun
  | [d1, d2] => { results := [.lit (.bool false)], args := [d1, d2] }
  | _ => none }
def FnExactMoveThreadWrongFalsely : Prop := fnExactMoveThreadRow.holds Try.pinned (OpenSpec.ofChange fnExactMoveThreadWrong)

/-- 'laws.FnExactScaleThread': WHATEVER THE INPUT: true; the input reads as it did. -/
def fnExactScaleThreadSpec : ChangeSpec := { name := "fnExactScaleThread", fn := fun _ => fun
  | [d1, d2] => { results := [.lit (.bool true)], args := [d1, d2] }
  | _ => none }
def fnExactScaleThreadRow : OpenClaim := { program := "ytbaohbpfnlicpaa", sum := "8a4c9e69095854dcc1ae360a4c868e2e2cc26e471734ddc78dbda3a04e0dacbd", func := "loop.example/g01266/laws.FnExactScaleThread", spec := "fnExactScaleThread", unfollowed := true, recurses := true, apart := false }
def FnExactScaleThreadSaid : Prop := fnExactScaleThreadRow.holds Try.pinned (OpenSpec.ofChange fnExactScaleThreadSpec)

/-- ITS FALSE NEIGHBOUR: 'it returns false'. Refute it at one input. -/
def fnExactScaleThreadWrong : ChangeSpec := { name := "fnExactScaleThread", fn := fun _ => fun
  | [d1, d2] => { results := [.lit (.bool false)], args := [d1, d2] }
  | _ => none }
def FnExactScaleThreadWrongFalsely : Prop := fnExactScaleThreadRow.holds Try.pinned (OpenSpec.ofChange fnExactScaleThreadWrong)

/-- 'laws.FnExactShiftThread': WHATEVER THE INPUT: true; the input reads as it did. -/
def fnExactShiftThreadSpec : ChangeSpec := { name := "fnExactShiftThread", fn := fun _ => fun
  | [d1, d2] => { results := [.lit (.bool true)], args := [d1, d2] }
  | _ => none }
def fnExactShiftThreadRow : OpenClaim := { program := "ytbaohbpfnlicpaa", sum := "8a4c9e69095854dcc1ae360a4c868e2e2cc26e471734ddc78dbda3a04e0dacbd", func := "loop.example/g01266/laws.FnExactShiftThread", spec := "fnExactShiftThread", unfollowed := true, recurses := true, apart := false }
def FnExactShiftThreadSaid : Prop := fnExactShiftThreadRow.holds Try.pinned (OpenSpec.ofChange fnExactShiftThreadSpec)

/-- ITS FALSE NEIGHBOUR: 'it returns false'. Refute it at one input. -/
def fnExactShiftThreadWrong : ChangeSpec := { name := "fnExactShiftThread", fn := fun _ => fun
  | [d1, d2] => { results := [.lit (.bool false)], args := [d1, d2] }
  | _ => none }
def FnExactShiftThreadWrongFalsely : Prop := fnExactShiftThreadRow.holds Try.pinned (OpenSpec.ofChange fnExactShiftThreadWrong)

/-- 'laws.FnExactJoinThreads': WHATEVER THE INPUT: true; the input reads as it did. -/
def fnExactJoinThreadsSpec : ChangeSpec := { name := "fnExactJoinThreads", fn := fun _ => fun
  | [d1, d2, d3, d4] => { results := [.lit (.bool true)], args := [d1, d2, d3, d4] }
  | _ => none }
def fnExactJoinThreadsRow : OpenClaim := { program := "ytbaohbpfnlicpaa", sum := "8a4c9e69095854dcc1ae360a4c868e2e2cc26e471734ddc78dbda3a04e0dacbd", func := "loop.example/g01266/laws.FnExactJoinThreads", spec := "fnExactJoinThreads", unfollowed := true, recurses := true, apart := false }
def FnExactJoinThreadsSaid : Prop := fnExactJoinThreadsRow.holds Try.pinned (OpenSpec.ofChange fnExactJoinThreadsSpec)

/-- ITS FALSE NEIGHBOUR: 'it returns false'. Refute it at one input. -/
def fnExactJoinThreadsWrong : ChangeSpec := { name := "fnExactJoinThreads", fn := fun _ => fun
  | [d1, d2, d3, d4] => { results := [.lit (.bool false)], args := [d1, d2, d3, d4] }
  | _ => none }
def FnExactJoinThreadsWrongFalsely : Prop := fnExactJoinThreadsRow.holds Try.pinned (OpenSpec.ofChange fnExactJoinThreadsWrong)

/-- 'laws.FnExactSplitThread': WHATEVER THE INPUT: true; the input reads as it did. -/
def fnExactSplitThreadSpec : ChangeSpec := { name := "fnExactSplitThread", fn := fun _ => fun
  | [d1, d2, d3] => { results := [.lit (.bool true)], args := [d1, d2, d3] }
  | _ => none }
def fnExactSplitThreadRow : OpenClaim := { program := "ytbaohbpfnlicpaa", sum := "8a4c9e69095854dcc1ae360a4c868e2e2cc26e471734ddc78dbda3a04e0dacbd", func := "loop.example/g01266/laws.FnExactSplitThread", spec := "fnExactSplitThread", unfollowed := true, recurses := true, apart := false }
def FnExactSplitThreadSaid : Prop := fnExactSplitThreadRow.holds Try.pinned (OpenSpec.ofChange fnExactSplitThreadSpec)

/-- ITS FALSE NEIGHBOUR: 'it returns false'. Refute it at one input. -/
def fnExactSplitThreadWrong : ChangeSpec := { name := "fnExactSplitThread", fn := fun _ => fun
  | [d1, d2, d3] => { results := [.lit (.bool false)], args := [d1, d2, d3] }
  | _ => none }
def FnExactSplitThreadWrongFalsely : Prop := fnExactSplitThreadRow.holds Try.pinned (OpenSpec.ofChange fnExactSplitThreadWrong)

/-- 'laws.FnExactNearestOfThreads': WHATEVER THE INPUT: true; the input reads as it did. -/
def fnExactNearestOfThreadsSpec : ChangeSpec := { name := "fnExactNearestOfThreads", fn := fun _ => fun
  | [d1, d2] => { results := [.lit (.bool true)], args := [d1, d2] }
  | _ => none }
def fnExactNearestOfThreadsRow : OpenClaim := { program := "ytbaohbpfnlicpaa", sum := "8a4c9e69095854dcc1ae360a4c868e2e2cc26e471734ddc78dbda3a04e0dacbd", func := "loop.example/g01266/laws.FnExactNearestOfThreads", spec := "fnExactNearestOfThreads", inPlace := ["math.sqrt"], unfollowed := true, recurses := true, apart := false }
def FnExactNearestOfThreadsSaid : Prop := fnExactNearestOfThreadsRow.holds Try.pinned (OpenSpec.ofChange fnExactNearestOfThreadsSpec)

/-- ITS FALSE NEIGHBOUR: 'it returns false'. Refute it at one input. -/
def fnExactNearestOfThreadsWrong : ChangeSpec := { name := "fnExactNearestOfThreads", fn := fun _ => fun
  | [d1, d2] => { results := [.lit (.bool false)], args := [d1, d2] }
  | _ => none }
def FnExactNearestOfThreadsWrongFalsely : Prop := fnExactNearestOfThreadsRow.holds Try.pinned (OpenSpec.ofChange fnExactNearestOfThreadsWrong)

/-- 'laws.FnExactRingThread': WHATEVER THE INPUT: true; the input reads as it did. -/
def fnExactRingThreadSpec : ChangeSpec := { name := "fnExactRingThread", fn := fun _ => fun
  | [d1, d2, d3, d4] => { results := [.lit (.bool true)], args := [d1, d2, d3, d4] }
  | _ => none }
def fnExactRingThreadRow : OpenClaim := { program := "ytbaohbpfnlicpaa", sum := "8a4c9e69095854dcc1ae360a4c868e2e2cc26e471734ddc78dbda3a04e0dacbd", func := "loop.example/g01266/laws.FnExactRingThread", spec := "fnExactRingThread", inPlace := ["math.Float64frombits", "math.Float64bits", "math.archTrunc"], unfollowed := true, recurses := true, apart := false }
def FnExactRingThreadSaid : Prop := fnExactRingThreadRow.holds Try.pinned (OpenSpec.ofChange fnExactRingThreadSpec)

/-- ITS FALSE NEIGHBOUR: 'it returns false'. Refute it at one input. -/
def fnExactRingThreadWrong : ChangeSpec := { name := "fnExactRingThread", fn := fun _ => fun
  | [d1, d2, d3, d4] => { results := [.lit (.bool false)], args := [d1, d2, d3, d4] }
  | _ => none }
def FnExactRingThreadWrongFalsely : Prop := fnExactRingThreadRow.holds Try.pinned (OpenSpec.ofChange fnExactRingThreadWrong)

/-- 'laws.FnExactWaveThread': WHATEVER THE INPUT: true; the input reads as it did. -/
def fnExactWaveThreadSpec : ChangeSpec := { name := "fnExactWaveThread", fn := fun _ => fun
  | [d1, d2, d3, d4, d5] => { results := [.lit (.bool true)], args := [d1, d2, d3, d4, d5] }
  | _ => none }
def fnExactWaveThreadRow : OpenClaim := { program := "ytbaohbpfnlicpaa", sum := "8a4c9e69095854dcc1ae360a4c868e2e2cc26e471734ddc78dbda3a04e0dacbd", func := "loop.example/g01266/laws.FnExactWaveThread", spec := "fnExactWaveThread", inPlace := ["math.Float64frombits", "math.Float64bits", "math.archTrunc"], unfollowed := true, recurses := true, apart := false }
def FnExactWaveThreadSaid : Prop := fnExactWaveThreadRow.holds Try.pinned (OpenSpec.ofChange fnExactWaveThreadSpec)

/-- ITS FALSE NEIGHBOUR: 'it returns false'. Refute it at one input. -/
def fnExactWaveThreadWrong : ChangeSpec := { name := "fnExactWaveThread", fn := fun _ => fun
  | [d1, d2, d3, d4, d5] => { results := [.lit (.bool false)], args := [d1, d2, d3, d4, d5] }
  | _ => none }
def FnExactWaveThreadWrongFalsely : Prop := fnExactWaveThreadRow.holds Try.pinned (OpenSpec.ofChange fnExactWaveThreadWrong)

/-- 'laws.FnExactTurnThread': WHATEVER THE INPUT: true; the input reads as it did. -/
def fnExactTurnThreadSpec : ChangeSpec := { name := "fnExactTurnThread", fn := fun _ => fun
  | [d1, d2] => { results := [.lit (.bool true)], args := [d1, d2] }
  | _ => none }
def fnExactTurnThreadRow : OpenClaim := { program := "ytbaohbpfnlicpaa", sum := "8a4c9e69095854dcc1ae360a4c868e2e2cc26e471734ddc78dbda3a04e0dacbd", func := "loop.example/g01266/laws.FnExactTurnThread", spec := "fnExactTurnThread", inPlace := ["math.Float64frombits", "math.Float64bits", "math.archTrunc"], unfollowed := true, recurses := true, apart := false }
def FnExactTurnThreadSaid : Prop := fnExactTurnThreadRow.holds Try.pinned (OpenSpec.ofChange fnExactTurnThreadSpec)

/-- ITS FALSE NEIGHBOUR: 'it returns false'. Refute it at one input. -/
def fnExactTurnThreadWrong : ChangeSpec := { name := "fnExactTurnThread", fn := fun _ => fun
  | [d1, d2] => { results := [.lit (.bool false)], args := [d1, d2] }
  | _ => none }
def FnExactTurnThreadWrongFalsely : Prop := fnExactTurnThreadRow.holds Try.pinned (OpenSpec.ofChange fnExactTurnThreadWrong)

/- THE SECOND FORM. 'bulk': how many values and letters a reading holds, each counted each time it is reached (what is shared counts as often as it is met; a slice's spare places count too). A statement '..UptoSaid' is the law's where the arguments, and the package variables that the reading takes, are together of bulk at most 1048576: NARROWER than '..Said'. Prove '..Said' where nothing that the law and all that it calls make is longer than what came in: it says more and counts as full. Else prove '..UptoSaid'. A law counts once. -/
mutual
def uptoBulk {H : Type} : DataW H → Nat
  | .lit (.string bytes) => bytes.length + 1
  | .lit _ => 1
  | .nil => 1
  | .ptr d => uptoBulk d + 1
  | .slice elems spare => uptoBulkAll elems + uptoBulkAll spare + 1
  | .agg parts => uptoBulkAll parts + 1
  | .iface _ d => uptoBulk d + 1
  | .map entries => uptoBulkEntries entries + 1
  | .held _ => 1
def uptoBulkAll {H : Type} : List (DataW H) → Nat
  | [] => 0
  | d :: r => uptoBulk d + uptoBulkAll r
def uptoBulkEntries {H : Type} : List (Lit × DataW H) → Nat
  | [] => 0
  | x :: r => uptoBulkEntry x + uptoBulkEntries r
def uptoBulkEntry {H : Type} : Lit × DataW H → Nat
  | (.string bytes, d) => bytes.length + uptoBulk d + 1
  | (_, d) => uptoBulk d + 1
 end
def uptoSmall : (H : Type) → List (DataW H) → Bool := fun _ ds => decide (uptoBulkAll ds ≤ 1048576)
def OpenSpec.upto (s : _root_.Go.ChangeSpec) : _root_.Go.OpenSpec := { _root_.Go.OpenSpec.ofChange s with cond := some uptoSmall }

/-- 'laws.FnExactNoiseTracers', WHERE WHAT IT READS IS OF BULK AT MOST 1048576: true; the input reads as it did. -/
def fnExactNoiseTracersUptoRow : OpenClaim := { program := "ytbaohbpfnlicpaa", sum := "8a4c9e69095854dcc1ae360a4c868e2e2cc26e471734ddc78dbda3a04e0dacbd", func := "loop.example/g01266/laws.FnExactNoiseTracers", spec := "fnExactNoiseTracers", unfollowed := true, recurses := true, apart := false, narrowed := true }
def FnExactNoiseTracersUptoSaid : Prop := fnExactNoiseTracersUptoRow.holds Try.pinned (OpenSpec.upto fnExactNoiseTracersSpec)

/-- 'laws.FnExactSpinAt', WHERE WHAT IT READS IS OF BULK AT MOST 1048576: true; the input reads as it did. -/
def fnExactSpinAtUptoRow : OpenClaim := { program := "ytbaohbpfnlicpaa", sum := "8a4c9e69095854dcc1ae360a4c868e2e2cc26e471734ddc78dbda3a04e0dacbd", func := "loop.example/g01266/laws.FnExactSpinAt", spec := "fnExactSpinAt", unfollowed := true, recurses := true, apart := false, narrowed := true }
def FnExactSpinAtUptoSaid : Prop := fnExactSpinAtUptoRow.holds Try.pinned (OpenSpec.upto fnExactSpinAtSpec)

/-- 'laws.FnExactSameThread', WHERE WHAT IT READS IS OF BULK AT MOST 1048576: true; the input reads as it did. -/
def fnExactSameThreadUptoRow : OpenClaim := { program := "ytbaohbpfnlicpaa", sum := "8a4c9e69095854dcc1ae360a4c868e2e2cc26e471734ddc78dbda3a04e0dacbd", func := "loop.example/g01266/laws.FnExactSameThread", spec := "fnExactSameThread", inPlace := ["math.Float32bits"], unfollowed := true, recurses := true, apart := false, narrowed := true }
def FnExactSameThreadUptoSaid : Prop := fnExactSameThreadUptoRow.holds Try.pinned (OpenSpec.upto fnExactSameThreadSpec)

/-- 'laws.FnExactRingSpeed', WHERE WHAT IT READS IS OF BULK AT MOST 1048576: true; the input reads as it did. -/
def fnExactRingSpeedUptoRow : OpenClaim := { program := "ytbaohbpfnlicpaa", sum := "8a4c9e69095854dcc1ae360a4c868e2e2cc26e471734ddc78dbda3a04e0dacbd", func := "loop.example/g01266/laws.FnExactRingSpeed", spec := "fnExactRingSpeed", inPlace := ["math.Float64frombits", "math.Float64bits"], unfollowed := true, recurses := true, apart := false, narrowed := true }
def FnExactRingSpeedUptoSaid : Prop := fnExactRingSpeedUptoRow.holds Try.pinned (OpenSpec.upto fnExactRingSpeedSpec)

/-- 'laws.FnExactMiddleOfThread', WHERE WHAT IT READS IS OF BULK AT MOST 1048576: true; the input reads as it did. -/
def fnExactMiddleOfThreadUptoRow : OpenClaim := { program := "ytbaohbpfnlicpaa", sum := "8a4c9e69095854dcc1ae360a4c868e2e2cc26e471734ddc78dbda3a04e0dacbd", func := "loop.example/g01266/laws.FnExactMiddleOfThread", spec := "fnExactMiddleOfThread", unfollowed := true, recurses := true, apart := false, narrowed := true }
def FnExactMiddleOfThreadUptoSaid : Prop := fnExactMiddleOfThreadUptoRow.holds Try.pinned (OpenSpec.upto fnExactMiddleOfThreadSpec)

/-- 'laws.FnExactAreThreads', WHERE WHAT IT READS IS OF BULK AT MOST 1048576: true; the input reads as it did. -/
def fnExactAreThreadsUptoRow : OpenClaim := { program := "ytbaohbpfnlicpaa", sum := "8a4c9e69095854dcc1ae360a4c868e2e2cc26e471734ddc78dbda3a04e0dacbd", func := "loop.example/g01266/laws.FnExactAreThreads", spec := "fnExactAreThreads", unfollowed := true, recurses := true, apart := false, narrowed := true }
def FnExactAreThreadsUptoSaid : Prop := fnExactAreThreadsUptoRow.holds Try.pinned (OpenSpec.upto fnExactAreThreadsSpec)

/-- 'laws.FnExactAreaOfThread', WHERE WHAT IT READS IS OF BULK AT MOST 1048576: true; the input reads as it did. -/
def fnExactAreaOfThreadUptoRow : OpenClaim := { program := "ytbaohbpfnlicpaa", sum := "8a4c9e69095854dcc1ae360a4c868e2e2cc26e471734ddc78dbda3a04e0dacbd", func := "loop.example/g01266/laws.FnExactAreaOfThread", spec := "fnExactAreaOfThread", unfollowed := true, recurses := true, apart := false, narrowed := true }
def FnExactAreaOfThreadUptoSaid : Prop := fnExactAreaOfThreadUptoRow.holds Try.pinned (OpenSpec.upto fnExactAreaOfThreadSpec)

/-- 'laws.FnExactPutSpin', WHERE WHAT IT READS IS OF BULK AT MOST 1048576: true; the input reads as it did. -/
def fnExactPutSpinUptoRow : OpenClaim := { program := "ytbaohbpfnlicpaa", sum := "8a4c9e69095854dcc1ae360a4c868e2e2cc26e471734ddc78dbda3a04e0dacbd", func := "loop.example/g01266/laws.FnExactPutSpin", spec := "fnExactPutSpin", unfollowed := true, recurses := true, apart := false, narrowed := true }
def FnExactPutSpinUptoSaid : Prop := fnExactPutSpinUptoRow.holds Try.pinned (OpenSpec.upto fnExactPutSpinSpec)

/-- 'laws.FnExactImpulseOfThread', WHERE WHAT IT READS IS OF BULK AT MOST 1048576: true; the input reads as it did. -/
def fnExactImpulseOfThreadUptoRow : OpenClaim := { program := "ytbaohbpfnlicpaa", sum := "8a4c9e69095854dcc1ae360a4c868e2e2cc26e471734ddc78dbda3a04e0dacbd", func := "loop.example/g01266/laws.FnExactImpulseOfThread", spec := "fnExactImpulseOfThread", unfollowed := true, recurses := true, apart := false, narrowed := true }
def FnExactImpulseOfThreadUptoSaid : Prop := fnExactImpulseOfThreadUptoRow.holds Try.pinned (OpenSpec.upto fnExactImpulseOfThreadSpec)

/-- 'laws.FnExactBackThread', WHERE WHAT IT READS IS OF BULK AT MOST 1048576: true; the input reads as it did. -/
def fnExactBackThreadUptoRow : OpenClaim := { program := "ytbaohbpfnlicpaa", sum := "8a4c9e69095854dcc1ae360a4c868e2e2cc26e471734ddc78dbda3a04e0dacbd", func := "loop.example/g01266/laws.FnExactBackThread", spec := "fnExactBackThread", unfollowed := true, recurses := true, apart := false, narrowed := true }
def FnExactBackThreadUptoSaid : Prop := fnExactBackThreadUptoRow.holds Try.pinned (OpenSpec.upto fnExactBackThreadSpec)

/-- 'laws.FnExactMoveThread', WHERE WHAT IT READS IS OF BULK AT MOST 1048576: true; the input reads as it did. -/
def fnExactMoveThreadUptoRow : OpenClaim := { program := "ytbaohbpfnlicpaa", sum := "8a4c9e69095854dcc1ae360a4c868e2e2cc26e471734ddc78dbda3a04e0dacbd", func := "loop.example/g01266/laws.FnExactMoveThread", spec := "fnExactMoveThread", unfollowed := true, recurses := true, apart := false, narrowed := true }
def FnExactMoveThreadUptoSaid : Prop := fnExactMoveThreadUptoRow.holds Try.pinned (OpenSpec.upto fnExactMoveThreadSpec)

/-- 'laws.FnExactScaleThread', WHERE WHAT IT READS IS OF BULK AT MOST 1048576: true; the input reads as it did. -/
def fnExactScaleThreadUptoRow : OpenClaim := { program := "ytbaohbpfnlicpaa", sum := "8a4c9e69095854dcc1ae360a4c868e2e2cc26e471734ddc78dbda3a04e0dacbd", func := "loop.example/g01266/laws.FnExactScaleThread", spec := "fnExactScaleThread", unfollowed := true, recurses := true, apart := false, narrowed := true }
def FnExactScaleThreadUptoSaid : Prop := fnExactScaleThreadUptoRow.holds Try.pinned (OpenSpec.upto fnExactScaleThreadSpec)

/-- 'laws.FnExactShiftThread', WHERE WHAT IT READS IS OF BULK AT MOST 1048576: true; the input reads as it did. -/
def fnExactShiftThreadUptoRow : OpenClaim := { program := "ytbaohbpfnlicpaa", sum := "8a4c9e69095854dcc1ae360a4c868e2e2cc26e471734ddc78dbda3a04e0dacbd", func := "loop.example/g01266/laws.FnExactShiftThread", spec := "fnExactShiftThread", unfollowed := true, recurses := true, apart := false, narrowed := true }
def FnExactShiftThreadUptoSaid : Prop := fnExactShiftThreadUptoRow.holds Try.pinned (OpenSpec.upto fnExactShiftThreadSpec)

/-- 'laws.FnExactJoinThreads', WHERE WHAT IT READS IS OF BULK AT MOST 1048576: true; the input reads as it did. -/
def fnExactJoinThreadsUptoRow : OpenClaim := { program := "ytbaohbpfnlicpaa", sum := "8a4c9e69095854dcc1ae360a4c868e2e2cc26e471734ddc78dbda3a04e0dacbd", func := "loop.example/g01266/laws.FnExactJoinThreads", spec := "fnExactJoinThreads", unfollowed := true, recurses := true, apart := false, narrowed := true }
def FnExactJoinThreadsUptoSaid : Prop := fnExactJoinThreadsUptoRow.holds Try.pinned (OpenSpec.upto fnExactJoinThreadsSpec)

/-- 'laws.FnExactSplitThread', WHERE WHAT IT READS IS OF BULK AT MOST 1048576: true; the input reads as it did. -/
def fnExactSplitThreadUptoRow : OpenClaim := { program := "ytbaohbpfnlicpaa", sum := "8a4c9e69095854dcc1ae360a4c868e2e2cc26e471734ddc78dbda3a04e0dacbd", func := "loop.example/g01266/laws.FnExactSplitThread", spec := "fnExactSplitThread", unfollowed := true, recurses := true, apart := false, narrowed := true }
def FnExactSplitThreadUptoSaid : Prop := fnExactSplitThreadUptoRow.holds Try.pinned (OpenSpec.upto fnExactSplitThreadSpec)

/-- 'laws.FnExactNearestOfThreads', WHERE WHAT IT READS IS OF BULK AT MOST 1048576: true; the input reads as it did. -/
def fnExactNearestOfThreadsUptoRow : OpenClaim := { program := "ytbaohbpfnlicpaa", sum := "8a4c9e69095854dcc1ae360a4c868e2e2cc26e471734ddc78dbda3a04e0dacbd", func := "loop.example/g01266/laws.FnExactNearestOfThreads", spec := "fnExactNearestOfThreads", inPlace := ["math.sqrt"], unfollowed := true, recurses := true, apart := false, narrowed := true }
def FnExactNearestOfThreadsUptoSaid : Prop := fnExactNearestOfThreadsUptoRow.holds Try.pinned (OpenSpec.upto fnExactNearestOfThreadsSpec)

/-- 'laws.FnExactRingThread', WHERE WHAT IT READS IS OF BULK AT MOST 1048576: true; the input reads as it did. -/
def fnExactRingThreadUptoRow : OpenClaim := { program := "ytbaohbpfnlicpaa", sum := "8a4c9e69095854dcc1ae360a4c868e2e2cc26e471734ddc78dbda3a04e0dacbd", func := "loop.example/g01266/laws.FnExactRingThread", spec := "fnExactRingThread", inPlace := ["math.Float64frombits", "math.Float64bits", "math.archTrunc"], unfollowed := true, recurses := true, apart := false, narrowed := true }
def FnExactRingThreadUptoSaid : Prop := fnExactRingThreadUptoRow.holds Try.pinned (OpenSpec.upto fnExactRingThreadSpec)

/-- 'laws.FnExactWaveThread', WHERE WHAT IT READS IS OF BULK AT MOST 1048576: true; the input reads as it did. -/
def fnExactWaveThreadUptoRow : OpenClaim := { program := "ytbaohbpfnlicpaa", sum := "8a4c9e69095854dcc1ae360a4c868e2e2cc26e471734ddc78dbda3a04e0dacbd", func := "loop.example/g01266/laws.FnExactWaveThread", spec := "fnExactWaveThread", inPlace := ["math.Float64frombits", "math.Float64bits", "math.archTrunc"], unfollowed := true, recurses := true, apart := false, narrowed := true }
def FnExactWaveThreadUptoSaid : Prop := fnExactWaveThreadUptoRow.holds Try.pinned (OpenSpec.upto fnExactWaveThreadSpec)

/-- 'laws.FnExactTurnThread', WHERE WHAT IT READS IS OF BULK AT MOST 1048576: true; the input reads as it did. -/
def fnExactTurnThreadUptoRow : OpenClaim := { program := "ytbaohbpfnlicpaa", sum := "8a4c9e69095854dcc1ae360a4c868e2e2cc26e471734ddc78dbda3a04e0dacbd", func := "loop.example/g01266/laws.FnExactTurnThread", spec := "fnExactTurnThread", inPlace := ["math.Float64frombits", "math.Float64bits", "math.archTrunc"], unfollowed := true, recurses := true, apart := false, narrowed := true }
def FnExactTurnThreadUptoSaid : Prop := fnExactTurnThreadUptoRow.holds Try.pinned (OpenSpec.upto fnExactTurnThreadSpec)

end Rows
end Go.Proofs.Ytbaohbpfnlicpaa
