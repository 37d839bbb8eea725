/-
  No cell of these rows narrows 'for every input' (looked for: loops, veiled, ifaces, maps, wideKeys, modest, calm, conditions, laid).
  DERIVED. THE GIVEN ROWS OF THIS SEAT. 14 by the template 'for every input the law returns true; each argument reads behind the call as it read before'; 0 by the template 'total and deterministic' (their statements: YtfoojgpbgaldgaaTotals.lean).
  GIVEN WITH THE SEED: the statements are not yours to turn. If you find one false, say at which input.
  Laid BY PROGRAM, IN A SANDBOX (cutbox-rows.mjs): the forced cells as the released guide's own fill.sh prints them over the translation 9228a3abef52e85f… (all of the seat's roots in one cut). By AI agents, Wed Nov 11 2026. No macro, syntax, notation, axiom, sorry.
-/
import Derived.Test.YtfoojgpbgaldgaaChecked
import GoSem.Claim
import GoSem.ClaimJoined
import GoSem.ClaimMapViews
import Derived.JoinedTies
import Derived.KernelRfl
namespace Go.Proofs.Ytfoojgpbgaldgaa
/- THE CELL 'sum', in the pinned program and in every row, IS THE sha256 OF THE DUMP (.gsa) THAT YtfoojgpbgaldgaaProg.lean LOADS. Nothing in Lean hashes anything: it is a label: what it is worth is what the hold of that sum in a sandbox is worth. -/
noncomputable def Try.pinned : Pinned := { name := "ytfoojgpbgaldgaa", sum := "9228a3abef52e85fdac1c106aaa4268e6b23ffd396468f9c38d9828ecae905db", checked := Try.checked }
namespace Rows
def none {H : Type} : Left H := { results := [], args := [] }

/-- 'laws.FnExactSameGutter': WHATEVER THE INPUT: true; the input reads as it did. -/
def fnExactSameGutterSpec : ChangeSpec := { name := "fnExactSameGutter", fn := fun _ => fun
  | [d1, d2] => { results := [.lit (.bool true)], args := [d1, d2] }
  | _ => none }
def fnExactSameGutterRow : OpenClaim := { program := "ytfoojgpbgaldgaa", sum := "9228a3abef52e85fdac1c106aaa4268e6b23ffd396468f9c38d9828ecae905db", func := "loop.example/g01376/laws.FnExactSameGutter", spec := "fnExactSameGutter", apart := false }
def FnExactSameGutterSaid : Prop := fnExactSameGutterRow.holds Try.pinned (OpenSpec.ofChange fnExactSameGutterSpec)

/-- ITS FALSE NEIGHBOUR: 'it returns false'. Refute it at one input. -/
def fnExactSameGutterWrong : ChangeSpec := { name := "fnExactSameGutter", fn := fun _ => fun
  | [d1, d2] => { results := [.lit (.bool false)], args := [d1, d2] }
  | _ => none }
def FnExactSameGutterWrongFalsely : Prop := fnExactSameGutterRow.holds Try.pinned (OpenSpec.ofChange fnExactSameGutterWrong)

/-- 'laws.FnExactValidGutter': WHATEVER THE INPUT: true; the input reads as it did. -/
def fnExactValidGutterSpec : ChangeSpec := { name := "fnExactValidGutter", fn := fun _ => fun
  | [d] => { results := [.lit (.bool true)], args := [d] }
  | _ => none }
def fnExactValidGutterRow : OpenClaim := { program := "ytfoojgpbgaldgaa", sum := "9228a3abef52e85fdac1c106aaa4268e6b23ffd396468f9c38d9828ecae905db", func := "loop.example/g01376/laws.FnExactValidGutter", spec := "fnExactValidGutter", apart := false }
def FnExactValidGutterSaid : Prop := fnExactValidGutterRow.holds Try.pinned (OpenSpec.ofChange fnExactValidGutterSpec)

/-- ITS FALSE NEIGHBOUR: 'it returns false'. Refute it at one input. -/
def fnExactValidGutterWrong : ChangeSpec := { name := "fnExactValidGutter", fn := fun _ => fun
  | [d] => { results := [.lit (.bool false)], args := [d] }
  | _ => none }
def FnExactValidGutterWrongFalsely : Prop := fnExactValidGutterRow.holds Try.pinned (OpenSpec.ofChange fnExactValidGutterWrong)

/-- 'laws.FnExactValidWater': WHATEVER THE INPUT: true; the input reads as it did. -/
def fnExactValidWaterSpec : ChangeSpec := { name := "fnExactValidWater", fn := fun _ => fun
  | [d1, d2] => { results := [.lit (.bool true)], args := [d1, d2] }
  | _ => none }
def fnExactValidWaterRow : OpenClaim := { program := "ytfoojgpbgaldgaa", sum := "9228a3abef52e85fdac1c106aaa4268e6b23ffd396468f9c38d9828ecae905db", func := "loop.example/g01376/laws.FnExactValidWater", spec := "fnExactValidWater", apart := false }
def FnExactValidWaterSaid : Prop := fnExactValidWaterRow.holds Try.pinned (OpenSpec.ofChange fnExactValidWaterSpec)

/-- ITS FALSE NEIGHBOUR: 'it returns false'. Refute it at one input. -/
def fnExactValidWaterWrong : ChangeSpec := { name := "fnExactValidWater", fn := fun _ => fun
  | [d1, d2] => { results := [.lit (.bool false)], args := [d1, d2] }
  | _ => none }
def FnExactValidWaterWrongFalsely : Prop := fnExactValidWaterRow.holds Try.pinned (OpenSpec.ofChange fnExactValidWaterWrong)

/-- 'laws.FnExactSlopeTo': WHATEVER THE INPUT: true; the input reads as it did. -/
def fnExactSlopeToSpec : ChangeSpec := { name := "fnExactSlopeTo", fn := fun _ => fun
  | [d1, d2, d3] => { results := [.lit (.bool true)], args := [d1, d2, d3] }
  | _ => none }
def fnExactSlopeToRow : OpenClaim := { program := "ytfoojgpbgaldgaa", sum := "9228a3abef52e85fdac1c106aaa4268e6b23ffd396468f9c38d9828ecae905db", func := "loop.example/g01376/laws.FnExactSlopeTo", spec := "fnExactSlopeTo", unfollowed := true, recurses := true, apart := false }
def FnExactSlopeToSaid : Prop := fnExactSlopeToRow.holds Try.pinned (OpenSpec.ofChange fnExactSlopeToSpec)

/-- ITS FALSE NEIGHBOUR: 'it returns false'. Refute it at one input. -/
def fnExactSlopeToWrong : ChangeSpec := { name := "fnExactSlopeTo", fn := fun _ => fun
  | [d1, d2, d3] => { results := [.lit (.bool false)], args := [d1, d2, d3] }
  | _ => none }
def FnExactSlopeToWrongFalsely : Prop := fnExactSlopeToRow.holds Try.pinned (OpenSpec.ofChange fnExactSlopeToWrong)

/-- 'laws.FnExactMirrorGutter': WHATEVER THE INPUT: true; the input reads as it did. -/
def fnExactMirrorGutterSpec : ChangeSpec := { name := "fnExactMirrorGutter", fn := fun _ => fun
  | [d] => { results := [.lit (.bool true)], args := [d] }
  | _ => none }
def fnExactMirrorGutterRow : OpenClaim := { program := "ytfoojgpbgaldgaa", sum := "9228a3abef52e85fdac1c106aaa4268e6b23ffd396468f9c38d9828ecae905db", func := "loop.example/g01376/laws.FnExactMirrorGutter", spec := "fnExactMirrorGutter", unfollowed := true, recurses := true, apart := false }
def FnExactMirrorGutterSaid : Prop := fnExactMirrorGutterRow.holds Try.pinned (OpenSpec.ofChange fnExactMirrorGutterSpec)

/-- ITS FALSE NEIGHBOUR: 'it returns false'. Refute it at one input. -/
def fnExactMirrorGutterWrong : ChangeSpec := { name := "fnExactMirrorGutter", fn := fun _ => fun
  | [d] => { results := [.lit (.bool false)], args := [d] }
  | _ => none }
def FnExactMirrorGutterWrongFalsely : Prop := fnExactMirrorGutterRow.holds Try.pinned (OpenSpec.ofChange fnExactMirrorGutterWrong)

/-- 'laws.FnExactEndOf': WHATEVER THE INPUT: true; the input reads as it did. -/
def fnExactEndOfSpec : ChangeSpec := { name := "fnExactEndOf", fn := fun _ => fun
  | [d1, d2] => { results := [.lit (.bool true)], args := [d1, d2] }
  | _ => none }
def fnExactEndOfRow : OpenClaim := { program := "ytfoojgpbgaldgaa", sum := "9228a3abef52e85fdac1c106aaa4268e6b23ffd396468f9c38d9828ecae905db", func := "loop.example/g01376/laws.FnExactEndOf", spec := "fnExactEndOf", unfollowed := true, recurses := true, apart := false }
def FnExactEndOfSaid : Prop := fnExactEndOfRow.holds Try.pinned (OpenSpec.ofChange fnExactEndOfSpec)

/-- ITS FALSE NEIGHBOUR: 'it returns false'. Refute it at one input. -/
def fnExactEndOfWrong : ChangeSpec := { name := "fnExactEndOf", fn := fun _ => fun
  | [d1, d2] => { results := [.lit (.bool false)], args := [d1, d2] }
  | _ => none }
def FnExactEndOfWrongFalsely : Prop := fnExactEndOfRow.holds Try.pinned (OpenSpec.ofChange fnExactEndOfWrong)

/-- 'laws.FnExactCleanLeaf': WHATEVER THE INPUT: true; the input reads as it did. -/
def fnExactCleanLeafSpec : ChangeSpec := { name := "fnExactCleanLeaf", fn := fun _ => fun
  | [d1, d2] => { results := [.lit (.bool true)], args := [d1, d2] }
  | _ => none }
def fnExactCleanLeafRow : OpenClaim := { program := "ytfoojgpbgaldgaa", sum := "9228a3abef52e85fdac1c106aaa4268e6b23ffd396468f9c38d9828ecae905db", func := "loop.example/g01376/laws.FnExactCleanLeaf", spec := "fnExactCleanLeaf", apart := false }
def FnExactCleanLeafSaid : Prop := fnExactCleanLeafRow.holds Try.pinned (OpenSpec.ofChange fnExactCleanLeafSpec)

/-- ITS FALSE NEIGHBOUR: 'it returns false'. Refute it at one input. -/
def fnExactCleanLeafWrong : ChangeSpec := { name := "fnExactCleanLeaf", fn := fun _ => fun
  | [d1, d2] => { results := [.lit (.bool false)], args := [d1, d2] }
  | _ => none }
def FnExactCleanLeafWrongFalsely : Prop := fnExactCleanLeafRow.holds Try.pinned (OpenSpec.ofChange fnExactCleanLeafWrong)

/-- 'laws.FnExactFlowsTo': WHATEVER THE INPUT: true; the input reads as it did. -/
def fnExactFlowsToSpec : ChangeSpec := { name := "fnExactFlowsTo", fn := fun _ => fun
  | [d] => { results := [.lit (.bool true)], args := [d] }
  | _ => none }
def fnExactFlowsToRow : OpenClaim := { program := "ytfoojgpbgaldgaa", sum := "9228a3abef52e85fdac1c106aaa4268e6b23ffd396468f9c38d9828ecae905db", func := "loop.example/g01376/laws.FnExactFlowsTo", spec := "fnExactFlowsTo", unfollowed := true, recurses := true, apart := false }
def FnExactFlowsToSaid : Prop := fnExactFlowsToRow.holds Try.pinned (OpenSpec.ofChange fnExactFlowsToSpec)

/-- ITS FALSE NEIGHBOUR: 'it returns false'. Refute it at one input. -/
def fnExactFlowsToWrong : ChangeSpec := { name := "fnExactFlowsTo", fn := fun _ => fun
  | [d] => { results := [.lit (.bool false)], args := [d] }
  | _ => none }
def FnExactFlowsToWrongFalsely : Prop := fnExactFlowsToRow.holds Try.pinned (OpenSpec.ofChange fnExactFlowsToWrong)

/-- 'laws.FnExactFewestPipes': WHATEVER THE INPUT: true; the input reads as it did. -/
def fnExactFewestPipesSpec : ChangeSpec := { name := "fnExactFewestPipes", fn := fun _ => fun
  | [d] => { results := [.lit (.bool true)], args := [d] }
  | _ => none }
def fnExactFewestPipesRow : OpenClaim := { program := "ytfoojgpbgaldgaa", sum := "9228a3abef52e85fdac1c106aaa4268e6b23ffd396468f9c38d9828ecae905db", func := "loop.example/g01376/laws.FnExactFewestPipes", spec := "fnExactFewestPipes", unfollowed := true, recurses := true, apart := false }
def FnExactFewestPipesSaid : Prop := fnExactFewestPipesRow.holds Try.pinned (OpenSpec.ofChange fnExactFewestPipesSpec)

/-- ITS FALSE NEIGHBOUR: 'it returns false'. Refute it at one input. -/
def fnExactFewestPipesWrong : ChangeSpec := { name := "fnExactFewestPipes", fn := fun _ => fun
  | [d] => { results := [.lit (.bool false)], args := [d] }
  | _ => none }
def FnExactFewestPipesWrongFalsely : Prop := fnExactFewestPipesRow.holds Try.pinned (OpenSpec.ofChange fnExactFewestPipesWrong)

/-- 'laws.FnExactUndrained': WHATEVER THE INPUT: true; the input reads as it did. -/
def fnExactUndrainedSpec : ChangeSpec := { name := "fnExactUndrained", fn := fun _ => fun
  | [d] => { results := [.lit (.bool true)], args := [d] }
  | _ => none }
def fnExactUndrainedRow : OpenClaim := { program := "ytfoojgpbgaldgaa", sum := "9228a3abef52e85fdac1c106aaa4268e6b23ffd396468f9c38d9828ecae905db", func := "loop.example/g01376/laws.FnExactUndrained", spec := "fnExactUndrained", unfollowed := true, recurses := true, apart := false }
def FnExactUndrainedSaid : Prop := fnExactUndrainedRow.holds Try.pinned (OpenSpec.ofChange fnExactUndrainedSpec)

/-- ITS FALSE NEIGHBOUR: 'it returns false'. Refute it at one input. -/
def fnExactUndrainedWrong : ChangeSpec := { name := "fnExactUndrained", fn := fun _ => fun
  | [d] => { results := [.lit (.bool false)], args := [d] }
  | _ => none }
def FnExactUndrainedWrongFalsely : Prop := fnExactUndrainedRow.holds Try.pinned (OpenSpec.ofChange fnExactUndrainedWrong)

/-- 'laws.FnExactBasinOf': WHATEVER THE INPUT: true; the input reads as it did. -/
def fnExactBasinOfSpec : ChangeSpec := { name := "fnExactBasinOf", fn := fun _ => fun
  | [d1, d2] => { results := [.lit (.bool true)], args := [d1, d2] }
  | _ => none }
def fnExactBasinOfRow : OpenClaim := { program := "ytfoojgpbgaldgaa", sum := "9228a3abef52e85fdac1c106aaa4268e6b23ffd396468f9c38d9828ecae905db", func := "loop.example/g01376/laws.FnExactBasinOf", spec := "fnExactBasinOf", unfollowed := true, recurses := true, apart := false }
def FnExactBasinOfSaid : Prop := fnExactBasinOfRow.holds Try.pinned (OpenSpec.ofChange fnExactBasinOfSpec)

/-- ITS FALSE NEIGHBOUR: 'it returns false'. Refute it at one input. -/
def fnExactBasinOfWrong : ChangeSpec := { name := "fnExactBasinOf", fn := fun _ => fun
  | [d1, d2] => { results := [.lit (.bool false)], args := [d1, d2] }
  | _ => none }
def FnExactBasinOfWrongFalsely : Prop := fnExactBasinOfRow.holds Try.pinned (OpenSpec.ofChange fnExactBasinOfWrong)

/-- 'laws.FnExactDrainTime': WHATEVER THE INPUT: true; the input reads as it did. -/
def fnExactDrainTimeSpec : ChangeSpec := { name := "fnExactDrainTime", fn := fun _ => fun
  | [d1, d2] => { results := [.lit (.bool true)], args := [d1, d2] }
  | _ => none }
def fnExactDrainTimeRow : OpenClaim := { program := "ytfoojgpbgaldgaa", sum := "9228a3abef52e85fdac1c106aaa4268e6b23ffd396468f9c38d9828ecae905db", func := "loop.example/g01376/laws.FnExactDrainTime", spec := "fnExactDrainTime", unfollowed := true, recurses := true, apart := false }
def FnExactDrainTimeSaid : Prop := fnExactDrainTimeRow.holds Try.pinned (OpenSpec.ofChange fnExactDrainTimeSpec)

/-- ITS FALSE NEIGHBOUR: 'it returns false'. Refute it at one input. -/
def fnExactDrainTimeWrong : ChangeSpec := { name := "fnExactDrainTime", fn := fun _ => fun
  | [d1, d2] => { results := [.lit (.bool false)], args := [d1, d2] }
  | _ => none }
def FnExactDrainTimeWrongFalsely : Prop := fnExactDrainTimeRow.holds Try.pinned (OpenSpec.ofChange fnExactDrainTimeWrong)

/-- 'laws.FnExactFirstOver': WHATEVER THE INPUT: true; the input reads as it did. -/
def fnExactFirstOverSpec : ChangeSpec := { name := "fnExactFirstOver", fn := fun _ => fun
  | [d1, d2] => { results := [.lit (.bool true)], args := [d1, d2] }
  | _ => none }
def fnExactFirstOverRow : OpenClaim := { program := "ytfoojgpbgaldgaa", sum := "9228a3abef52e85fdac1c106aaa4268e6b23ffd396468f9c38d9828ecae905db", func := "loop.example/g01376/laws.FnExactFirstOver", spec := "fnExactFirstOver", unfollowed := true, recurses := true, apart := false }
def FnExactFirstOverSaid : Prop := fnExactFirstOverRow.holds Try.pinned (OpenSpec.ofChange fnExactFirstOverSpec)

/-- ITS FALSE NEIGHBOUR: 'it returns false'. Refute it at one input. -/
def fnExactFirstOverWrong : ChangeSpec := { name := "fnExactFirstOver", fn := fun _ => fun
  | [d1, d2] => { results := [.lit (.bool false)], args := [d1, d2] }
  | _ => none }
def FnExactFirstOverWrongFalsely : Prop := fnExactFirstOverRow.holds Try.pinned (OpenSpec.ofChange fnExactFirstOverWrong)

/-- 'laws.FnExactLeastTakes': WHATEVER THE INPUT: true; the input reads as it did. -/
def fnExactLeastTakesSpec : ChangeSpec := { name := "fnExactLeastTakes", fn := fun _ => fun
  | [d1, d2, d3] => { results := [.lit (.bool true)], args := [d1, d2, d3] }
  | _ => none }
def fnExactLeastTakesRow : OpenClaim := { program := "ytfoojgpbgaldgaa", sum := "9228a3abef52e85fdac1c106aaa4268e6b23ffd396468f9c38d9828ecae905db", func := "loop.example/g01376/laws.FnExactLeastTakes", spec := "fnExactLeastTakes", unfollowed := true, recurses := true, apart := false }
def FnExactLeastTakesSaid : Prop := fnExactLeastTakesRow.holds Try.pinned (OpenSpec.ofChange fnExactLeastTakesSpec)

/-- ITS FALSE NEIGHBOUR: 'it returns false'. Refute it at one input. -/
def fnExactLeastTakesWrong : ChangeSpec := { name := "fnExactLeastTakes", fn := fun _ => fun
  | [d1, d2, d3] => { results := [.lit (.bool false)], args := [d1, d2, d3] }
  | _ => none }
def FnExactLeastTakesWrongFalsely : Prop := fnExactLeastTakesRow.holds Try.pinned (OpenSpec.ofChange fnExactLeastTakesWrong)

/- THE SECOND FORM. 'bulk': how many values and letters a reading holds, each counted each time it is reached (what is shared counts as often as it is met; a slice's spare places count too). A statement '..UptoSaid' is the law's where the arguments, and the package variables that the reading takes, are together of bulk at most 1048576: NARROWER than '..Said'. Prove '..Said' where nothing that the law and all that it calls make is longer than what came in: it says more and counts as full. Else prove '..UptoSaid'. A law counts once. -/
mutual
def uptoBulk {H : Type} : DataW H → Nat
  | .lit (.string bytes) => bytes.length + 1
  | .lit _ => 1
  | .nil => 1
  | .ptr d => uptoBulk d + 1
  | .slice elems spare => uptoBulkAll elems + uptoBulkAll spare + 1
  | .agg parts => uptoBulkAll parts + 1
  | .iface _ d => uptoBulk d + 1
  | .map entries => uptoBulkEntries entries + 1
  | .held _ => 1
def uptoBulkAll {H : Type} : List (DataW H) → Nat
  | [] => 0
  | d :: r => uptoBulk d + uptoBulkAll r
def uptoBulkEntries {H : Type} : List (Lit × DataW H) → Nat
  | [] => 0
  | x :: r => uptoBulkEntry x + uptoBulkEntries r
def uptoBulkEntry {H : Type} : Lit × DataW H → Nat
  | (.string bytes, d) => bytes.length + uptoBulk d + 1
  | (_, d) => uptoBulk d + 1
 end
def uptoSmall : (H : Type) → List (DataW H) → Bool := fun _ ds => decide (uptoBulkAll ds ≤ 1048576)
def OpenSpec.upto (s : _root_.Go.ChangeSpec) : _root_.Go.OpenSpec := { _root_.Go.OpenSpec.ofChange s with cond := some uptoSmall }

/-- 'laws.FnExactSameGutter', WHERE WHAT IT READS IS OF BULK AT MOST 1048576: true; the input reads as it did. -/
def fnExactSameGutterUptoRow : OpenClaim := { program := "ytfoojgpbgaldgaa", sum := "9228a3abef52e85fdac1c106aaa4268e6b23ffd396468f9c38d9828ecae905db", func := "loop.example/g01376/laws.FnExactSameGutter", spec := "fnExactSameGutter", apart := false, narrowed := true }
def FnExactSameGutterUptoSaid : Prop := fnExactSameGutterUptoRow.holds Try.pinned (OpenSpec.upto fnExactSameGutterSpec)

/-- 'laws.FnExactValidGutter', WHERE WHAT IT READS IS OF BULK AT MOST 1048576: true; the input reads as it did. -/
def fnExactValidGutterUptoRow : OpenClaim := { program := "ytfoojgpbgaldgaa", sum := "9228a3abef52e85fdac1c106aaa4268e6b23ffd396468f9c38d9828ecae905db", func := "loop.example/g01376/laws.FnExactValidGutter", spec := "fnExactValidGutter", apart := false, narrowed := true }
def FnExactValidGutterUptoSaid : Prop := fnExactValidGutterUptoRow.holds Try.pinned (OpenSpec.upto fnExactValidGutterSpec)

/-- 'laws.FnExactValidWater', WHERE WHAT IT READS IS OF BULK AT MOST 1048576: true; the input reads as it did. -/
def fnExactValidWaterUptoRow : OpenClaim := { program := "ytfoojgpbgaldgaa", sum := "9228a3abef52e85fdac1c106aaa4268e6b23ffd396468f9c38d9828ecae905db", func := "loop.example/g01376/laws.FnExactValidWater", spec := "fnExactValidWater", apart := false, narrowed := true }
def FnExactValidWaterUptoSaid : Prop := fnExactValidWaterUptoRow.holds Try.pinned (OpenSpec.upto fnExactValidWaterSpec)

/-- 'laws.FnExactSlopeTo', WHERE WHAT IT READS IS OF BULK AT MOST 1048576: true; the input reads as it did. -/
def fnExactSlopeToUptoRow : OpenClaim := { program := "ytfoojgpbgaldgaa", sum := "9228a3abef52e85fdac1c106aaa4268e6b23ffd396468f9c38d9828ecae905db", func := "loop.example/g01376/laws.FnExactSlopeTo", spec := "fnExactSlopeTo", unfollowed := true, recurses := true, apart := false, narrowed := true }
def FnExactSlopeToUptoSaid : Prop := fnExactSlopeToUptoRow.holds Try.pinned (OpenSpec.upto fnExactSlopeToSpec)

/-- 'laws.FnExactMirrorGutter', WHERE WHAT IT READS IS OF BULK AT MOST 1048576: true; the input reads as it did. -/
def fnExactMirrorGutterUptoRow : OpenClaim := { program := "ytfoojgpbgaldgaa", sum := "9228a3abef52e85fdac1c106aaa4268e6b23ffd396468f9c38d9828ecae905db", func := "loop.example/g01376/laws.FnExactMirrorGutter", spec := "fnExactMirrorGutter", unfollowed := true, recurses := true, apart := false, narrowed := true }
def FnExactMirrorGutterUptoSaid : Prop := fnExactMirrorGutterUptoRow.holds Try.pinned (OpenSpec.upto fnExactMirrorGutterSpec)

/-- 'laws.FnExactEndOf', WHERE WHAT IT READS IS OF BULK AT MOST 1048576: true; the input reads as it did. -/
def fnExactEndOfUptoRow : OpenClaim := { program := "ytfoojgpbgaldgaa", sum := "9228a3abef52e85fdac1c106aaa4268e6b23ffd396468f9c38d9828ecae905db", func := "loop.example/g01376/laws.FnExactEndOf", spec := "fnExactEndOf", unfollowed := true, recurses := true, apart := false, narrowed := true }
def FnExactEndOfUptoSaid : Prop := fnExactEndOfUptoRow.holds Try.pinned (OpenSpec.upto fnExactEndOfSpec)

/-- 'laws.FnExactCleanLeaf', WHERE WHAT IT READS IS OF BULK AT MOST 1048576: true; the input reads as it did. -/
def fnExactCleanLeafUptoRow : OpenClaim := { program := "ytfoojgpbgaldgaa", sum := "9228a3abef52e85fdac1c106aaa4268e6b23ffd396468f9c38d9828ecae905db", func := "loop.example/g01376/laws.FnExactCleanLeaf", spec := "fnExactCleanLeaf", apart := false, narrowed := true }
def FnExactCleanLeafUptoSaid : Prop := fnExactCleanLeafUptoRow.holds Try.pinned (OpenSpec.upto fnExactCleanLeafSpec)

/-- 'laws.FnExactFlowsTo', WHERE WHAT IT READS IS OF BULK AT MOST 1048576: true; the input reads as it did. -/
def fnExactFlowsToUptoRow : OpenClaim := { program := "ytfoojgpbgaldgaa", sum := "9228a3abef52e85fdac1c106aaa4268e6b23ffd396468f9c38d9828ecae905db", func := "loop.example/g01376/laws.FnExactFlowsTo", spec := "fnExactFlowsTo", unfollowed := true, recurses := true, apart := false, narrowed := true }
def FnExactFlowsToUptoSaid : Prop := fnExactFlowsToUptoRow.holds Try.pinned (OpenSpec.upto fnExactFlowsToSpec)

/-- 'laws.FnExactFewestPipes', WHERE WHAT IT READS IS OF BULK AT MOST 1048576: true; the input reads as it did. -/
def fnExactFewestPipesUptoRow : OpenClaim := { program := "ytfoojgpbgaldgaa", sum := "9228a3abef52e85fdac1c106aaa4268e6b23ffd396468f9c38d9828ecae905db", func := "loop.example/g01376/laws.FnExactFewestPipes", spec := "fnExactFewestPipes", unfollowed := true, recurses := true, apart := false, narrowed := true }
def FnExactFewestPipesUptoSaid : Prop := fnExactFewestPipesUptoRow.holds Try.pinned (OpenSpec.upto fnExactFewestPipesSpec)

/-- 'laws.FnExactUndrained', WHERE WHAT IT READS IS OF BULK AT MOST 1048576: true; the input reads as it did. -/
def fnExactUndrainedUptoRow : OpenClaim := { program := "ytfoojgpbgaldgaa", sum := "9228a3abef52e85fdac1c106aaa4268e6b23ffd396468f9c38d9828ecae905db", func := "loop.example/g01376/laws.FnExactUndrained", spec := "fnExactUndrained", unfollowed := true, recurses := true, apart := false, narrowed := true }
def FnExactUndrainedUptoSaid : Prop := fnExactUndrainedUptoRow.holds Try.pinned (OpenSpec.upto fnExactUndrainedSpec)

/-- 'laws.FnExactBasinOf', WHERE WHAT IT READS IS OF BULK AT MOST 1048576: true; the input reads as it did. -/
def fnExactBasinOfUptoRow : OpenClaim := { program := "ytfoojgpbgaldgaa", sum := "9228a3abef52e85fdac1c106aaa4268e6b23ffd396468f9c38d9828ecae905db", func := "loop.example/g01376/laws.FnExactBasinOf", spec := "fnExactBasinOf", unfollowed := true, recurses := true, apart := false, narrowed := true }
def FnExactBasinOfUptoSaid : Prop := fnExactBasinOfUptoRow.holds Try.pinned (OpenSpec.upto fnExactBasinOfSpec)

/-- 'laws.FnExactDrainTime', WHERE WHAT IT READS IS OF BULK AT MOST 1048576: true; the input reads as it did. -/
def fnExactDrainTimeUptoRow : OpenClaim := { program := "ytfoojgpbgaldgaa", sum := "9228a3abef52e85fdac1c106aaa4268e6b23ffd396468f9c38d9828ecae905db", func := "loop.example/g01376/laws.FnExactDrainTime", spec := "fnExactDrainTime", unfollowed := true, recurses := true, apart := false, narrowed := true }
def FnExactDrainTimeUptoSaid : Prop := fnExactDrainTimeUptoRow.holds Try.pinned (OpenSpec.upto fnExactDrainTimeSpec)

/-- 'laws.FnExactFirstOver', WHERE WHAT IT READS IS OF BULK AT MOST 1048576: true; the input reads as it did. -/
def fnExactFirstOverUptoRow : OpenClaim := { program := "ytfoojgpbgaldgaa", sum := "9228a3abef52e85fdac1c106aaa4268e6b23ffd396468f9c38d9828ecae905db", func := "loop.example/g01376/laws.FnExactFirstOver", spec := "fnExactFirstOver", unfollowed := true, recurses := true, apart := false, narrowed := true }
def FnExactFirstOverUptoSaid : Prop := fnExactFirstOverUptoRow.holds Try.pinned (OpenSpec.upto fnExactFirstOverSpec)

/-- 'laws.FnExactLeastTakes', WHERE WHAT IT READS IS OF BULK AT MOST 1048576: true; the input reads as it did. -/
def fnExactLeastTakesUptoRow : OpenClaim := { program := "ytfoojgpbgaldgaa", sum := "9228a3abef52e85fdac1c106aaa4268e6b23ffd396468f9c38d9828ecae905db", func := "loop.example/g01376/laws.FnExactLeastTakes", spec := "fnExactLeastTakes", unfollowed := true, recurses := true, apart := false, narrowed := true }
def FnExactLeastTakesUptoSaid : Prop := fnExactLeastTakesUptoRow.holds Try.pinned (OpenSpec.upto fnExactLeastTakesSpec)

end Rows
end Go.Proofs.Ytfoojgpbgaldgaa
