/-
  No cell of these rows narrows 'for every input' (looked for: loops, veiled, ifaces, maps, wideKeys, modest, calm, conditions, laid).
  DERIVED. THE GIVEN ROWS OF THIS SEAT. 3 by the template 'for every input the law returns true; each argument reads behind the call as it read before'; 0 by the template 'total and deterministic' (their statements: YtfehhbmmdbpdpaaTotals.lean).
  GIVEN WITH THE SEED: the statements are not yours to turn. If you find one false, say at which input.
  Laid BY PROGRAM, IN A SANDBOX (cutbox-rows.mjs): the forced cells as the released guide's own fill.sh prints them over the translation 0df9dbc9ed0062a8… (all of the seat's roots in one cut). By AI agents, Wed Nov 11 2026. No macro, syntax, notation, axiom, sorry.
-/
import Derived.Test.YtfehhbmmdbpdpaaChecked
import GoSem.Claim
import GoSem.ClaimJoined
import GoSem.ClaimMapViews
import Derived.JoinedTies
import Derived.KernelRfl
namespace Go.Proofs.Ytfehhbmmdbpdpaa
/- THE CELL 'sum', in the pinned program and in every row, IS THE sha256 OF THE DUMP (.gsa) THAT YtfehhbmmdbpdpaaProg.lean LOADS. Nothing in Lean hashes anything: it is a label: what it is worth is what the hold of that sum in a sandbox is worth. -/
noncomputable def Try.pinned : Pinned := { name := "ytfehhbmmdbpdpaa", sum := "0df9dbc9ed0062a8075e1f49f2e780d5715d9908e080cbfe390277bd041406eb", checked := Try.checked }
namespace Rows
def none {H : Type} : Left H := { results := [], args := [] }

/-- 'laws.FnDots': WHATEVER THE INPUT: true; the input reads as it did. -/
def fnDotsSpec : ChangeSpec := { name := "fnDots", fn := fun _ => fun
  | [d1, d2] => { results := [.lit (.bool true)], args := [d1, d2] }
  | _ => none }
def fnDotsRow : OpenClaim := { program := "ytfehhbmmdbpdpaa", sum := "0df9dbc9ed0062a8075e1f49f2e780d5715d9908e080cbfe390277bd041406eb", func := "loop.example/g01266/laws.FnDots", spec := "fnDots", inPlace := ["math.Float32frombits", "math.Float32bits"], apart := false }
def FnDotsSaid : Prop := fnDotsRow.holds Try.pinned (OpenSpec.ofChange fnDotsSpec)

/-- ITS FALSE NEIGHBOUR: 'it returns false'. Refute it at one input. -/
def fnDotsWrong : ChangeSpec := { name := "fnDots", fn := fun _ => fun
  | [d1, d2] => { results := [.lit (.bool false)], args := [d1, d2] }
  | _ => none }
def FnDotsWrongFalsely : Prop := fnDotsRow.holds Try.pinned (OpenSpec.ofChange fnDotsWrong)

/-- 'laws.FnTrees': WHATEVER THE INPUT: true; the input reads as it did. -/
def fnTreesSpec : ChangeSpec := { name := "fnTrees", fn := fun _ => fun
  | [d1, d2] => { results := [.lit (.bool true)], args := [d1, d2] }
  | _ => none }
def fnTreesRow : OpenClaim := { program := "ytfehhbmmdbpdpaa", sum := "0df9dbc9ed0062a8075e1f49f2e780d5715d9908e080cbfe390277bd041406eb", func := "loop.example/g01266/laws.FnTrees", spec := "fnTrees", inPlace := ["math.Float32bits"], unfollowed := true, recurses := true, apart := false }
def FnTreesSaid : Prop := fnTreesRow.holds Try.pinned (OpenSpec.ofChange fnTreesSpec)

/-- ITS FALSE NEIGHBOUR: 'it returns false'. Refute it at one input. -/
def fnTreesWrong : ChangeSpec := { name := "fnTrees", fn := fun _ => fun
  | [d1, d2] => { results := [.lit (.bool false)], args := [d1, d2] }
  | _ => none }
def FnTreesWrongFalsely : Prop := fnTreesRow.holds Try.pinned (OpenSpec.ofChange fnTreesWrong)

/-- 'laws.FnFlatPlates': WHATEVER THE INPUT: true; the input reads as it did. -/
def fnFlatPlatesSpec : ChangeSpec := { name := "fnFlatPlates", fn := fun _ => fun
  | [d1, d2] => { results := [.lit (.bool true)], args := [d1, d2] }
  | _ => none }
def fnFlatPlatesRow : OpenClaim := { program := "ytfehhbmmdbpdpaa", sum := "0df9dbc9ed0062a8075e1f49f2e780d5715d9908e080cbfe390277bd041406eb", func := "loop.example/g01266/laws.FnFlatPlates", spec := "fnFlatPlates", inPlace := ["math.Float64frombits", "math.Float64bits", "math.archTrunc", "math.sqrt", "math.Float32bits", "math.Float32frombits"], unfollowed := true, recurses := true, apart := false }
def FnFlatPlatesSaid : Prop := fnFlatPlatesRow.holds Try.pinned (OpenSpec.ofChange fnFlatPlatesSpec)

/-- ITS FALSE NEIGHBOUR: 'it returns false'. Refute it at one input. -/
def fnFlatPlatesWrong : ChangeSpec := { name := "fnFlatPlates", fn := fun _ => fun
  | [d1, d2] => { results := [.lit (.bool false)], args := [d1, d2] }
  | _ => none }
def FnFlatPlatesWrongFalsely : Prop := fnFlatPlatesRow.holds Try.pinned (OpenSpec.ofChange fnFlatPlatesWrong)

/- THE SECOND FORM. 'bulk': how many values and letters a reading holds, each counted each time it is reached (what is shared counts as often as it is met; a slice's spare places count too). A statement '..UptoSaid' is the law's where the arguments, and the package variables that the reading takes, are together of bulk at most 1048576: NARROWER than '..Said'. Prove '..Said' where nothing that the law and all that it calls make is longer than what came in: it says more and counts as full. Else prove '..UptoSaid'. A law counts once. -/
mutual
def uptoBulk {H : Type} : DataW H → Nat
  | .lit (.string bytes) => bytes.length + 1
  | .lit _ => 1
  | .nil => 1
  | .ptr d => uptoBulk d + 1
  | .slice elems spare => uptoBulkAll elems + uptoBulkAll spare + 1
  | .agg parts => uptoBulkAll parts + 1
  | .iface _ d => uptoBulk d + 1
  | .map entries => uptoBulkEntries entries + 1
  | .held _ => 1
def uptoBulkAll {H : Type} : List (DataW H) → Nat
  | [] => 0
  | d :: r => uptoBulk d + uptoBulkAll r
def uptoBulkEntries {H : Type} : List (Lit × DataW H) → Nat
  | [] => 0
  | x :: r => uptoBulkEntry x + uptoBulkEntries r
def uptoBulkEntry {H : Type} : Lit × DataW H → Nat
  | (.string bytes, d) => bytes.length + uptoBulk d + 1
  | (_, d) => uptoBulk d + 1
 end
def uptoSmall : (H : Type) → List (DataW H) → Bool := fun _ ds => decide (uptoBulkAll ds ≤ 1048576)
def OpenSpec.upto (s : _root_.Go.ChangeSpec) : _root_.Go.OpenSpec := { _root_.Go.OpenSpec.ofChange s with cond := some uptoSmall }

/-- 'laws.FnDots', WHERE WHAT IT READS IS OF BULK AT MOST 1048576: true; the input reads as it did. -/
def fnDotsUptoRow : OpenClaim := { program := "ytfehhbmmdbpdpaa", sum := "0df9dbc9ed0062a8075e1f49f2e780d5715d9908e080cbfe390277bd041406eb", func := "loop.example/g01266/laws.FnDots", spec := "fnDots", inPlace := ["math.Float32frombits", "math.Float32bits"], apart := false, narrowed := true }
def FnDotsUptoSaid : Prop := fnDotsUptoRow.holds Try.pinned (OpenSpec.upto fnDotsSpec)

/-- 'laws.FnTrees', WHERE WHAT IT READS IS OF BULK AT MOST 1048576: true; the input reads as it did. -/
def fnTreesUptoRow : OpenClaim := { program := "ytfehhbmmdbpdpaa", sum := "0df9dbc9ed0062a8075e1f49f2e780d5715d9908e080cbfe390277bd041406eb", func := "loop.example/g01266/laws.FnTrees", spec := "fnTrees", inPlace := ["math.Float32bits"], unfollowed := true, recurses := true, apart := false, narrowed := true }
def FnTreesUptoSaid : Prop := fnTreesUptoRow.holds Try.pinned (OpenSpec.upto fnTreesSpec)

/-- 'laws.FnFlatPlates', WHERE WHAT IT READS IS OF BULK AT MOST 1048576: true; the input reads as it did. -/
def fnFlatPlatesUptoRow : OpenClaim := { program := "ytfehhbmmdbpdpaa", sum := "0df9dbc9ed0062a8075e1f49f2e780d5715d9908e080cbfe390277bd041406eb", func := "loop.example/g01266/laws.FnFlatPlates", spec := "fnFlatPlates", inPlace := ["math.Float64frombits", "math.Float64bits", "math.archTrunc", "math.sqrt", "math.Float32bits", "math.Float32frombits"], unfollowed := true, recurses := true, apart := false, narrowed := true }
def FnFlatPlatesUptoSaid : Prop := fnFlatPlatesUptoRow.holds Try.pinned (OpenSpec.upto fnFlatPlatesSpec)

end Rows
end Go.Proofs.Ytfehhbmmdbpdpaa
