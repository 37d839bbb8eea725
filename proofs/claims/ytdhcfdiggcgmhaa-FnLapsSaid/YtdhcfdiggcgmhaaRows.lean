/-
  No cell of these rows narrows 'for every input' (looked for: loops, veiled, ifaces, maps, wideKeys, modest, calm, conditions, laid).
  DERIVED. THE GIVEN ROWS OF THIS SEAT. 13 by the template 'for every input the law returns true; each argument reads behind the call as it read before'; 0 by the template 'total and deterministic' (their statements: YtdhcfdiggcgmhaaTotals.lean).
  GIVEN WITH THE SEED: the statements are not yours to turn. If you find one false, say at which input.
  Laid BY PROGRAM, IN A SANDBOX (cutbox-rows.mjs): the forced cells as the released guide's own fill.sh prints them over the translation 9b4cef8da66afcaf… (all of the seat's roots in one cut). By AI agents, Wed Nov 11 2026. No macro, syntax, notation, axiom, sorry.
-/
import Derived.Test.YtdhcfdiggcgmhaaChecked
import GoSem.Claim
import GoSem.ClaimJoined
import GoSem.ClaimMapViews
import Derived.JoinedTies
import Derived.KernelRfl
namespace Go.Proofs.Ytdhcfdiggcgmhaa
/- THE CELL 'sum', in the pinned program and in every row, IS THE sha256 OF THE DUMP (.gsa) THAT YtdhcfdiggcgmhaaProg.lean LOADS. Nothing in Lean hashes anything: it is a label: what it is worth is what the hold of that sum in a sandbox is worth. -/
noncomputable def Try.pinned : Pinned := { name := "ytdhcfdiggcgmhaa", sum := "9b4cef8da66afcaf4e6a5144862171d9e7dafd557c7609f804beffc15d66da70", checked := Try.checked }
namespace Rows
def none {H : Type} : Left H := { results := [], args := [] }

/-- 'laws.FnExactSlopeTo': WHATEVER THE INPUT: true; the input reads as it did. -/
def fnExactSlopeToSpec : ChangeSpec := { name := "fnExactSlopeTo", fn := fun _ => fun
  | [d1, d2, d3] => { results := [.lit (.bool true)], args := [d1, d2, d3] }
  | _ => none }
def fnExactSlopeToRow : OpenClaim := { program := "ytdhcfdiggcgmhaa", sum := "9b4cef8da66afcaf4e6a5144862171d9e7dafd557c7609f804beffc15d66da70", func := "loop.example/g01376/laws.FnExactSlopeTo", spec := "fnExactSlopeTo", unfollowed := true, recurses := true, plainKeys := false, apart := false }
def FnExactSlopeToSaid : Prop := fnExactSlopeToRow.holds Try.pinned (OpenSpec.ofChange fnExactSlopeToSpec)

/-- ITS FALSE NEIGHBOUR: 'it returns false'. Refute it at one input. -/
def fnExactSlopeToWrong : ChangeSpec := { name := "fnExactSlopeTo", fn := fun _ => fun
  | [d1, d2, d3] => { results := [.lit (.bool false)], args := [d1, d2, d3] }
  | _ => none }
def FnExactSlopeToWrongFalsely : Prop := fnExactSlopeToRow.holds Try.pinned (OpenSpec.ofChange fnExactSlopeToWrong)

/-- 'laws.FnExactMirrorGutter': WHATEVER THE INPUT: true; the input reads as it did. -/
def fnExactMirrorGutterSpec : ChangeSpec := { name := "fnExactMirrorGutter", fn := fun _ => fun
  | [d] => { results := [.lit (.bool true)], args := [d] }
  | _ => none }
def fnExactMirrorGutterRow : OpenClaim := { program := "ytdhcfdiggcgmhaa", sum := "9b4cef8da66afcaf4e6a5144862171d9e7dafd557c7609f804beffc15d66da70", func := "loop.example/g01376/laws.FnExactMirrorGutter", spec := "fnExactMirrorGutter", unfollowed := true, recurses := true, plainKeys := false, apart := false }
def FnExactMirrorGutterSaid : Prop := fnExactMirrorGutterRow.holds Try.pinned (OpenSpec.ofChange fnExactMirrorGutterSpec)

/-- ITS FALSE NEIGHBOUR: 'it returns false'. Refute it at one input. -/
def fnExactMirrorGutterWrong : ChangeSpec := { name := "fnExactMirrorGutter", fn := fun _ => fun
  | [d] => { results := [.lit (.bool false)], args := [d] }
  | _ => none }
def FnExactMirrorGutterWrongFalsely : Prop := fnExactMirrorGutterRow.holds Try.pinned (OpenSpec.ofChange fnExactMirrorGutterWrong)

/-- 'laws.FnExactCleanLeaf': WHATEVER THE INPUT: true; the input reads as it did. -/
def fnExactCleanLeafSpec : ChangeSpec := { name := "fnExactCleanLeaf", fn := fun _ => fun
  | [d1, d2] => { results := [.lit (.bool true)], args := [d1, d2] }
  | _ => none }
def fnExactCleanLeafRow : OpenClaim := { program := "ytdhcfdiggcgmhaa", sum := "9b4cef8da66afcaf4e6a5144862171d9e7dafd557c7609f804beffc15d66da70", func := "loop.example/g01376/laws.FnExactCleanLeaf", spec := "fnExactCleanLeaf", plainKeys := false, apart := false }
def FnExactCleanLeafSaid : Prop := fnExactCleanLeafRow.holds Try.pinned (OpenSpec.ofChange fnExactCleanLeafSpec)

/-- ITS FALSE NEIGHBOUR: 'it returns false'. Refute it at one input. -/
def fnExactCleanLeafWrong : ChangeSpec := { name := "fnExactCleanLeaf", fn := fun _ => fun
  | [d1, d2] => { results := [.lit (.bool false)], args := [d1, d2] }
  | _ => none }
def FnExactCleanLeafWrongFalsely : Prop := fnExactCleanLeafRow.holds Try.pinned (OpenSpec.ofChange fnExactCleanLeafWrong)

/-- 'laws.FnExactFewestPipes': WHATEVER THE INPUT: true; the input reads as it did. -/
def fnExactFewestPipesSpec : ChangeSpec := { name := "fnExactFewestPipes", fn := fun _ => fun
  | [d] => { results := [.lit (.bool true)], args := [d] }
  | _ => none }
def fnExactFewestPipesRow : OpenClaim := { program := "ytdhcfdiggcgmhaa", sum := "9b4cef8da66afcaf4e6a5144862171d9e7dafd557c7609f804beffc15d66da70", func := "loop.example/g01376/laws.FnExactFewestPipes", spec := "fnExactFewestPipes", unfollowed := true, recurses := true, plainKeys := false, apart := false }
def FnExactFewestPipesSaid : Prop := fnExactFewestPipesRow.holds Try.pinned (OpenSpec.ofChange fnExactFewestPipesSpec)

/-- ITS FALSE NEIGHBOUR: 'it returns false'. Refute it at one input. -/
def fnExactFewestPipesWrong : ChangeSpec := { name := "fnExactFewestPipes", fn := fun _ => fun
  | [d] => { results := [.lit (.bool false)], args := [d] }
  | _ => none }
def FnExactFewestPipesWrongFalsely : Prop := fnExactFewestPipesRow.holds Try.pinned (OpenSpec.ofChange fnExactFewestPipesWrong)

/-- 'laws.FnExactDrainTime': WHATEVER THE INPUT: true; the input reads as it did. -/
def fnExactDrainTimeSpec : ChangeSpec := { name := "fnExactDrainTime", fn := fun _ => fun
  | [d1, d2] => { results := [.lit (.bool true)], args := [d1, d2] }
  | _ => none }
def fnExactDrainTimeRow : OpenClaim := { program := "ytdhcfdiggcgmhaa", sum := "9b4cef8da66afcaf4e6a5144862171d9e7dafd557c7609f804beffc15d66da70", func := "loop.example/g01376/laws.FnExactDrainTime", spec := "fnExactDrainTime", unfollowed := true, recurses := true, plainKeys := false, apart := false }
def FnExactDrainTimeSaid : Prop := fnExactDrainTimeRow.holds Try.pinned (OpenSpec.ofChange fnExactDrainTimeSpec)

/-- ITS FALSE NEIGHBOUR: 'it returns false'. Refute it at one input. -/
def fnExactDrainTimeWrong : ChangeSpec := { name := "fnExactDrainTime", fn := fun _ => fun
  | [d1, d2] => { results := [.lit (.bool false)], args := [d1, d2] }
  | _ => none }
def FnExactDrainTimeWrongFalsely : Prop := fnExactDrainTimeRow.holds Try.pinned (OpenSpec.ofChange fnExactDrainTimeWrong)

/-- 'laws.FnExactFirstOver': WHATEVER THE INPUT: true; the input reads as it did. -/
def fnExactFirstOverSpec : ChangeSpec := { name := "fnExactFirstOver", fn := fun _ => fun
  | [d1, d2] => { results := [.lit (.bool true)], args := [d1, d2] }
  | _ => none }
def fnExactFirstOverRow : OpenClaim := { program := "ytdhcfdiggcgmhaa", sum := "9b4cef8da66afcaf4e6a5144862171d9e7dafd557c7609f804beffc15d66da70", func := "loop.example/g01376/laws.FnExactFirstOver", spec := "fnExactFirstOver", unfollowed := true, recurses := true, plainKeys := false, apart := false }
def FnExactFirstOverSaid : Prop := fnExactFirstOverRow.holds Try.pinned (OpenSpec.ofChange fnExactFirstOverSpec)

/-- ITS FALSE NEIGHBOUR: 'it returns false'. Refute it at one input. -/
def fnExactFirstOverWrong : ChangeSpec := { name := "fnExactFirstOver", fn := fun _ => fun
  | [d1, d2] => { results := [.lit (.bool false)], args := [d1, d2] }
  | _ => none }
def FnExactFirstOverWrongFalsely : Prop := fnExactFirstOverRow.holds Try.pinned (OpenSpec.ofChange fnExactFirstOverWrong)

/-- 'laws.FnExactLeastTakes': WHATEVER THE INPUT: true; the input reads as it did. -/
def fnExactLeastTakesSpec : ChangeSpec := { name := "fnExactLeastTakes", fn := fun _ => fun
  | [d1, d2, d3] => { results := [.lit (.bool true)], args := [d1, d2, d3] }
  | _ => none }
def fnExactLeastTakesRow : OpenClaim := { program := "ytdhcfdiggcgmhaa", sum := "9b4cef8da66afcaf4e6a5144862171d9e7dafd557c7609f804beffc15d66da70", func := "loop.example/g01376/laws.FnExactLeastTakes", spec := "fnExactLeastTakes", unfollowed := true, recurses := true, plainKeys := false, apart := false }
def FnExactLeastTakesSaid : Prop := fnExactLeastTakesRow.holds Try.pinned (OpenSpec.ofChange fnExactLeastTakesSpec)

/-- ITS FALSE NEIGHBOUR: 'it returns false'. Refute it at one input. -/
def fnExactLeastTakesWrong : ChangeSpec := { name := "fnExactLeastTakes", fn := fun _ => fun
  | [d1, d2, d3] => { results := [.lit (.bool false)], args := [d1, d2, d3] }
  | _ => none }
def FnExactLeastTakesWrongFalsely : Prop := fnExactLeastTakesRow.holds Try.pinned (OpenSpec.ofChange fnExactLeastTakesWrong)

/-- 'laws.FnExactKindsFor': WHATEVER THE INPUT: true; the input reads as it did. -/
def fnExactKindsForSpec : ChangeSpec := { name := "fnExactKindsFor", fn := fun _ => fun
  | [d1, d2, d3, d4] => { results := [.lit (.bool true)], args := [d1, d2, d3, d4] }
  | _ => none }
def fnExactKindsForRow : OpenClaim := { program := "ytdhcfdiggcgmhaa", sum := "9b4cef8da66afcaf4e6a5144862171d9e7dafd557c7609f804beffc15d66da70", func := "loop.example/g01376/laws.FnExactKindsFor", spec := "fnExactKindsFor", unfollowed := true, recurses := true, plainKeys := false, apart := false }
def FnExactKindsForSaid : Prop := fnExactKindsForRow.holds Try.pinned (OpenSpec.ofChange fnExactKindsForSpec)

/-- ITS FALSE NEIGHBOUR: 'it returns false'. Refute it at one input. -/
def fnExactKindsForWrong : ChangeSpec := { name := "fnExactKindsFor", fn := fun _ => fun
  | [d1, d2, d3, d4] => { results := [.lit (.bool false)], args := [d1, d2, d3, d4] }
  | _ => none }
def FnExactKindsForWrongFalsely : Prop := fnExactKindsForRow.holds Try.pinned (OpenSpec.ofChange fnExactKindsForWrong)

/-- 'laws.FnExactDripAfter': WHATEVER THE INPUT: true; the input reads as it did. -/
def fnExactDripAfterSpec : ChangeSpec := { name := "fnExactDripAfter", fn := fun _ => fun
  | [d1, d2, d3] => { results := [.lit (.bool true)], args := [d1, d2, d3] }
  | _ => none }
def fnExactDripAfterRow : OpenClaim := { program := "ytdhcfdiggcgmhaa", sum := "9b4cef8da66afcaf4e6a5144862171d9e7dafd557c7609f804beffc15d66da70", func := "loop.example/g01376/laws.FnExactDripAfter", spec := "fnExactDripAfter", unfollowed := true, recurses := true, plainKeys := false, apart := false }
def FnExactDripAfterSaid : Prop := fnExactDripAfterRow.holds Try.pinned (OpenSpec.ofChange fnExactDripAfterSpec)

/-- ITS FALSE NEIGHBOUR: 'it returns false'. Refute it at one input. -/
def fnExactDripAfterWrong : ChangeSpec := { name := "fnExactDripAfter", fn := fun _ => fun
  | [d1, d2, d3] => { results := [.lit (.bool false)], args := [d1, d2, d3] }
  | _ => none }
def FnExactDripAfterWrongFalsely : Prop := fnExactDripAfterRow.holds Try.pinned (OpenSpec.ofChange fnExactDripAfterWrong)

/-- 'laws.FnExactCheckRepairs': WHATEVER THE INPUT: true; the input reads as it did. -/
def fnExactCheckRepairsSpec : ChangeSpec := { name := "fnExactCheckRepairs", fn := fun _ => fun
  | [d1, d2, d3, d4] => { results := [.lit (.bool true)], args := [d1, d2, d3, d4] }
  | _ => none }
def fnExactCheckRepairsRow : OpenClaim := { program := "ytdhcfdiggcgmhaa", sum := "9b4cef8da66afcaf4e6a5144862171d9e7dafd557c7609f804beffc15d66da70", func := "loop.example/g01376/laws.FnExactCheckRepairs", spec := "fnExactCheckRepairs", unfollowed := true, recurses := true, plainKeys := false, apart := false }
def FnExactCheckRepairsSaid : Prop := fnExactCheckRepairsRow.holds Try.pinned (OpenSpec.ofChange fnExactCheckRepairsSpec)

/-- ITS FALSE NEIGHBOUR: 'it returns false'. Refute it at one input. -/
def fnExactCheckRepairsWrong : ChangeSpec := { name := "fnExactCheckRepairs", fn := fun _ => fun
  | [d1, d2, d3, d4] => { results := [.lit (.bool false)], args := [d1, d2, d3, d4] }
  | _ => none }
def FnExactCheckRepairsWrongFalsely : Prop := fnExactCheckRepairsRow.holds Try.pinned (OpenSpec.ofChange fnExactCheckRepairsWrong)

/-- 'laws.FnExactPushBack': WHATEVER THE INPUT: true; the input reads as it did. -/
def fnExactPushBackSpec : ChangeSpec := { name := "fnExactPushBack", fn := fun _ => fun
  | [d1, d2, d3] => { results := [.lit (.bool true)], args := [d1, d2, d3] }
  | _ => none }
def fnExactPushBackRow : OpenClaim := { program := "ytdhcfdiggcgmhaa", sum := "9b4cef8da66afcaf4e6a5144862171d9e7dafd557c7609f804beffc15d66da70", func := "loop.example/g01376/laws.FnExactPushBack", spec := "fnExactPushBack", unfollowed := true, recurses := true, plainKeys := false, apart := false }
def FnExactPushBackSaid : Prop := fnExactPushBackRow.holds Try.pinned (OpenSpec.ofChange fnExactPushBackSpec)

/-- ITS FALSE NEIGHBOUR: 'it returns false'. Refute it at one input. -/
def fnExactPushBackWrong : ChangeSpec := { name := "fnExactPushBack", fn := fun _ => fun
  | [d1, d2, d3] => { results := [.lit (.bool false)], args := [d1, d2, d3] }
  | _ => none }
def FnExactPushBackWrongFalsely : Prop := fnExactPushBackRow.holds Try.pinned (OpenSpec.ofChange fnExactPushBackWrong)

/-- 'laws.FnExactFewestLadders': WHATEVER THE INPUT: true; the input reads as it did. -/
def fnExactFewestLaddersSpec : ChangeSpec := { name := "fnExactFewestLadders", fn := fun _ => fun
  | [d1, d2, d3] => { results := [.lit (.bool true)], args := [d1, d2, d3] }
  | _ => none }
def fnExactFewestLaddersRow : OpenClaim := { program := "ytdhcfdiggcgmhaa", sum := "9b4cef8da66afcaf4e6a5144862171d9e7dafd557c7609f804beffc15d66da70", func := "loop.example/g01376/laws.FnExactFewestLadders", spec := "fnExactFewestLadders", unfollowed := true, recurses := true, plainKeys := false, apart := false }
def FnExactFewestLaddersSaid : Prop := fnExactFewestLaddersRow.holds Try.pinned (OpenSpec.ofChange fnExactFewestLaddersSpec)

/-- ITS FALSE NEIGHBOUR: 'it returns false'. Refute it at one input. -/
def fnExactFewestLaddersWrong : ChangeSpec := { name := "fnExactFewestLadders", fn := fun _ => fun
  | [d1, d2, d3] => { results := [.lit (.bool false)], args := [d1, d2, d3] }
  | _ => none }
def FnExactFewestLaddersWrongFalsely : Prop := fnExactFewestLaddersRow.holds Try.pinned (OpenSpec.ofChange fnExactFewestLaddersWrong)

/-- 'laws.FnLaps': WHATEVER THE INPUT: true; the input reads as it did. -/
def fnLapsSpec : ChangeSpec := { name := "fnLaps", fn := fun _ => fun
  | [d1, d2] => { results := [.lit (.bool true)], args := [d1, d2] }
  | _ => none }
def fnLapsRow : OpenClaim := { program := "ytdhcfdiggcgmhaa", sum := "9b4cef8da66afcaf4e6a5144862171d9e7dafd557c7609f804beffc15d66da70", func := "loop.example/g01376/laws.FnLaps", spec := "fnLaps", unfollowed := true, recurses := true, plainKeys := false, apart := false }
def FnLapsSaid : Prop := fnLapsRow.holds Try.pinned (OpenSpec.ofChange fnLapsSpec)

/-- ITS FALSE NEIGHBOUR: 'it returns false'. Refute it at one input. -/
def fnLapsWrong : ChangeSpec := { name := "fnLaps", fn := fun _ => fun
  | [d1, d2] => { results := [.lit (.bool false)], args := [d1, d2] }
  | _ => none }
def FnLapsWrongFalsely : Prop := fnLapsRow.holds Try.pinned (OpenSpec.ofChange fnLapsWrong)

/- THE SECOND FORM. 'bulk': how many values and letters a reading holds, each counted each time it is reached (what is shared counts as often as it is met; a slice's spare places count too). A statement '..UptoSaid' is the law's where the arguments, and the package variables that the reading takes, are together of bulk at most 1048576: NARROWER than '..Said'. Prove '..Said' where nothing that the law and all that it calls make is longer than what came in: it says more and counts as full. Else prove '..UptoSaid'. A law counts once. -/
mutual
def uptoBulk {H : Type} : DataW H → Nat
  | .lit (.string bytes) => bytes.length + 1
  | .lit _ => 1
  | .nil => 1
  | .ptr d => uptoBulk d + 1
  | .slice elems spare => uptoBulkAll elems + uptoBulkAll spare + 1
  | .agg parts => uptoBulkAll parts + 1
  | .iface _ d => uptoBulk d + 1
  | .map entries => uptoBulkEntries entries + 1
  | .held _ => 1
def uptoBulkAll {H : Type} : List (DataW H) → Nat
  | [] => 0
  | d :: r => uptoBulk d + uptoBulkAll r
def uptoBulkEntries {H : Type} : List (Lit × DataW H) → Nat
  | [] => 0
  | x :: r => uptoBulkEntry x + uptoBulkEntries r
def uptoBulkEntry {H : Type} : Lit × DataW H → Nat
  | (.string bytes, d) => bytes.length + uptoBulk d + 1
  | (_, d) => uptoBulk d + 1
 end
def uptoSmall : (H : Type) → List (DataW H) → Bool := fun _ ds => decide (uptoBulkAll ds ≤ 1048576)
def OpenSpec.upto (s : _root_.Go.ChangeSpec) : _root_.Go.OpenSpec := { _root_.Go.OpenSpec.ofChange s with cond := some uptoSmall }

/-- 'laws.FnExactSlopeTo', WHERE WHAT IT READS IS OF BULK AT MOST 1048576: true; the input reads as it did. -/
def fnExactSlopeToUptoRow : OpenClaim := { program := "ytdhcfdiggcgmhaa", sum := "9b4cef8da66afcaf4e6a5144862171d9e7dafd557c7609f804beffc15d66da70", func := "loop.example/g01376/laws.FnExactSlopeTo", spec := "fnExactSlopeTo", unfollowed := true, recurses := true, plainKeys := false, apart := false, narrowed := true }
def FnExactSlopeToUptoSaid : Prop := fnExactSlopeToUptoRow.holds Try.pinned (OpenSpec.upto fnExactSlopeToSpec)

/-- 'laws.FnExactMirrorGutter', WHERE WHAT IT READS IS OF BULK AT MOST 1048576: true; the input reads as it did. -/
def fnExactMirrorGutterUptoRow : OpenClaim := { program := "ytdhcfdiggcgmhaa", sum := "9b4cef8da66afcaf4e6a5144862171d9e7dafd557c7609f804beffc15d66da70", func := "loop.example/g01376/laws.FnExactMirrorGutter", spec := "fnExactMirrorGutter", unfollowed := true, recurses := true, plainKeys := false, apart := false, narrowed := true }
def FnExactMirrorGutterUptoSaid : Prop := fnExactMirrorGutterUptoRow.holds Try.pinned (OpenSpec.upto fnExactMirrorGutterSpec)

/-- 'laws.FnExactCleanLeaf', WHERE WHAT IT READS IS OF BULK AT MOST 1048576: true; the input reads as it did. -/
def fnExactCleanLeafUptoRow : OpenClaim := { program := "ytdhcfdiggcgmhaa", sum := "9b4cef8da66afcaf4e6a5144862171d9e7dafd557c7609f804beffc15d66da70", func := "loop.example/g01376/laws.FnExactCleanLeaf", spec := "fnExactCleanLeaf", plainKeys := false, apart := false, narrowed := true }
def FnExactCleanLeafUptoSaid : Prop := fnExactCleanLeafUptoRow.holds Try.pinned (OpenSpec.upto fnExactCleanLeafSpec)

/-- 'laws.FnExactFewestPipes', WHERE WHAT IT READS IS OF BULK AT MOST 1048576: true; the input reads as it did. -/
def fnExactFewestPipesUptoRow : OpenClaim := { program := "ytdhcfdiggcgmhaa", sum := "9b4cef8da66afcaf4e6a5144862171d9e7dafd557c7609f804beffc15d66da70", func := "loop.example/g01376/laws.FnExactFewestPipes", spec := "fnExactFewestPipes", unfollowed := true, recurses := true, plainKeys := false, apart := false, narrowed := true }
def FnExactFewestPipesUptoSaid : Prop := fnExactFewestPipesUptoRow.holds Try.pinned (OpenSpec.upto fnExactFewestPipesSpec)

/-- 'laws.FnExactDrainTime', WHERE WHAT IT READS IS OF BULK AT MOST 1048576: true; the input reads as it did. -/
def fnExactDrainTimeUptoRow : OpenClaim := { program := "ytdhcfdiggcgmhaa", sum := "9b4cef8da66afcaf4e6a5144862171d9e7dafd557c7609f804beffc15d66da70", func := "loop.example/g01376/laws.FnExactDrainTime", spec := "fnExactDrainTime", unfollowed := true, recurses := true, plainKeys := false, apart := false, narrowed := true }
def FnExactDrainTimeUptoSaid : Prop := fnExactDrainTimeUptoRow.holds Try.pinned (OpenSpec.upto fnExactDrainTimeSpec)

/-- 'laws.FnExactFirstOver', WHERE WHAT IT READS IS OF BULK AT MOST 1048576: true; the input reads as it did. -/
def fnExactFirstOverUptoRow : OpenClaim := { program := "ytdhcfdiggcgmhaa", sum := "9b4cef8da66afcaf4e6a5144862171d9e7dafd557c7609f804beffc15d66da70", func := "loop.example/g01376/laws.FnExactFirstOver", spec := "fnExactFirstOver", unfollowed := true, recurses := true, plainKeys := false, apart := false, narrowed := true }
def FnExactFirstOverUptoSaid : Prop := fnExactFirstOverUptoRow.holds Try.pinned (OpenSpec.upto fnExactFirstOverSpec)

/-- 'laws.FnExactLeastTakes', WHERE WHAT IT READS IS OF BULK AT MOST 1048576: true; the input reads as it did. -/
def fnExactLeastTakesUptoRow : OpenClaim := { program := "ytdhcfdiggcgmhaa", sum := "9b4cef8da66afcaf4e6a5144862171d9e7dafd557c7609f804beffc15d66da70", func := "loop.example/g01376/laws.FnExactLeastTakes", spec := "fnExactLeastTakes", unfollowed := true, recurses := true, plainKeys := false, apart := false, narrowed := true }
def FnExactLeastTakesUptoSaid : Prop := fnExactLeastTakesUptoRow.holds Try.pinned (OpenSpec.upto fnExactLeastTakesSpec)

/-- 'laws.FnExactKindsFor', WHERE WHAT IT READS IS OF BULK AT MOST 1048576: true; the input reads as it did. -/
def fnExactKindsForUptoRow : OpenClaim := { program := "ytdhcfdiggcgmhaa", sum := "9b4cef8da66afcaf4e6a5144862171d9e7dafd557c7609f804beffc15d66da70", func := "loop.example/g01376/laws.FnExactKindsFor", spec := "fnExactKindsFor", unfollowed := true, recurses := true, plainKeys := false, apart := false, narrowed := true }
def FnExactKindsForUptoSaid : Prop := fnExactKindsForUptoRow.holds Try.pinned (OpenSpec.upto fnExactKindsForSpec)

/-- 'laws.FnExactDripAfter', WHERE WHAT IT READS IS OF BULK AT MOST 1048576: true; the input reads as it did. -/
def fnExactDripAfterUptoRow : OpenClaim := { program := "ytdhcfdiggcgmhaa", sum := "9b4cef8da66afcaf4e6a5144862171d9e7dafd557c7609f804beffc15d66da70", func := "loop.example/g01376/laws.FnExactDripAfter", spec := "fnExactDripAfter", unfollowed := true, recurses := true, plainKeys := false, apart := false, narrowed := true }
def FnExactDripAfterUptoSaid : Prop := fnExactDripAfterUptoRow.holds Try.pinned (OpenSpec.upto fnExactDripAfterSpec)

/-- 'laws.FnExactCheckRepairs', WHERE WHAT IT READS IS OF BULK AT MOST 1048576: true; the input reads as it did. -/
def fnExactCheckRepairsUptoRow : OpenClaim := { program := "ytdhcfdiggcgmhaa", sum := "9b4cef8da66afcaf4e6a5144862171d9e7dafd557c7609f804beffc15d66da70", func := "loop.example/g01376/laws.FnExactCheckRepairs", spec := "fnExactCheckRepairs", unfollowed := true, recurses := true, plainKeys := false, apart := false, narrowed := true }
def FnExactCheckRepairsUptoSaid : Prop := fnExactCheckRepairsUptoRow.holds Try.pinned (OpenSpec.upto fnExactCheckRepairsSpec)

/-- 'laws.FnExactPushBack', WHERE WHAT IT READS IS OF BULK AT MOST 1048576: true; the input reads as it did. -/
def fnExactPushBackUptoRow : OpenClaim := { program := "ytdhcfdiggcgmhaa", sum := "9b4cef8da66afcaf4e6a5144862171d9e7dafd557c7609f804beffc15d66da70", func := "loop.example/g01376/laws.FnExactPushBack", spec := "fnExactPushBack", unfollowed := true, recurses := true, plainKeys := false, apart := false, narrowed := true }
def FnExactPushBackUptoSaid : Prop := fnExactPushBackUptoRow.holds Try.pinned (OpenSpec.upto fnExactPushBackSpec)

/-- 'laws.FnExactFewestLadders', WHERE WHAT IT READS IS OF BULK AT MOST 1048576: true; the input reads as it did. -/
def fnExactFewestLaddersUptoRow : OpenClaim := { program := "ytdhcfdiggcgmhaa", sum := "9b4cef8da66afcaf4e6a5144862171d9e7dafd557c7609f804beffc15d66da70", func := "loop.example/g01376/laws.FnExactFewestLadders", spec := "fnExactFewestLadders", unfollowed := true, recurses := true, plainKeys := false, apart := false, narrowed := true }
def FnExactFewestLaddersUptoSaid : Prop := fnExactFewestLaddersUptoRow.holds Try.pinned (OpenSpec.upto fnExactFewestLaddersSpec)

/-- 'laws.FnLaps', WHERE WHAT IT READS IS OF BULK AT MOST 1048576: true; the input reads as it did. -/
def fnLapsUptoRow : OpenClaim := { program := "ytdhcfdiggcgmhaa", sum := "9b4cef8da66afcaf4e6a5144862171d9e7dafd557c7609f804beffc15d66da70", func := "loop.example/g01376/laws.FnLaps", spec := "fnLaps", unfollowed := true, recurses := true, plainKeys := false, apart := false, narrowed := true }
def FnLapsUptoSaid : Prop := fnLapsUptoRow.holds Try.pinned (OpenSpec.upto fnLapsSpec)

end Rows
end Go.Proofs.Ytdhcfdiggcgmhaa
