/-
  No cell of these rows narrows 'for every input' (looked for: loops, veiled, ifaces, maps, wideKeys, modest, calm, conditions, laid).
  DERIVED. THE GIVEN ROWS OF THIS SEAT. 10 by the template 'for every input the law returns true; each argument reads behind the call as it read before'; 0 by the template 'total and deterministic' (their statements: YtgchkigngbpfbaaTotals.lean).
  GIVEN WITH THE SEED: the statements are not yours to turn. If you find one false, say at which input.
  Laid BY PROGRAM, IN A SANDBOX (cutbox-rows.mjs): the forced cells as the released guide's own fill.sh prints them over the translation da3e58f8d3adf6de… (all of the seat's roots in one cut). By AI agents, Wed Nov 11 2026. No macro, syntax, notation, axiom, sorry.
-/
import Derived.Test.YtgchkigngbpfbaaChecked
import GoSem.Claim
import GoSem.ClaimJoined
import GoSem.ClaimMapViews
import Derived.JoinedTies
import Derived.KernelRfl
namespace Go.Proofs.Ytgchkigngbpfbaa
/- THE CELL 'sum', in the pinned program and in every row, IS THE sha256 OF THE DUMP (.gsa) THAT YtgchkigngbpfbaaProg.lean LOADS. Nothing in Lean hashes anything: it is a label: what it is worth is what the hold of that sum in a sandbox is worth. -/
noncomputable def Try.pinned : Pinned := { name := "ytgchkigngbpfbaa", sum := "da3e58f8d3adf6de05692469bd4d133c9c47d08e9eda3effb6e81a00bf89afe4", checked := Try.checked }
namespace Rows
def none {H : Type} : Left H := { results := [], args := [] }

/-- 'laws.FnExactWetTiles': WHATEVER THE INPUT: true; the input reads as it did. -/
def fnExactWetTilesSpec : ChangeSpec := { name := "fnExactWetTiles", fn := fun _ => fun
  | [d1, d2] => { results := [.lit (.bool true)], args := [d1, d2] }
  | _ => none }
def fnExactWetTilesRow : OpenClaim := { program := "ytgchkigngbpfbaa", sum := "da3e58f8d3adf6de05692469bd4d133c9c47d08e9eda3effb6e81a00bf89afe4", func := "loop.example/g01376/laws.FnExactWetTiles", spec := "fnExactWetTiles", unfollowed := true, recurses := true, plainKeys := false, apart := false }
def FnExactWetTilesSaid : Prop := fnExactWetTilesRow.holds Try.pinned (OpenSpec.ofChange fnExactWetTilesSpec)

/-- ITS FALSE NEIGHBOUR: 'it returns false'. Refute it at one input. -/
def fnExactWetTilesWrong : ChangeSpec := { name := "fnExactWetTiles", fn := fun _ => fun
  | [d1, d2] => { results := [.lit (.bool false)], args := [d1, d2] }
  | _ => none }
def FnExactWetTilesWrongFalsely : Prop := fnExactWetTilesRow.holds Try.pinned (OpenSpec.ofChange fnExactWetTilesWrong)

/-- 'laws.FnExactDryTiles': WHATEVER THE INPUT: true; the input reads as it did. -/
def fnExactDryTilesSpec : ChangeSpec := { name := "fnExactDryTiles", fn := fun _ => fun
  | [d1, d2] => { results := [.lit (.bool true)], args := [d1, d2] }
  | _ => none }
def fnExactDryTilesRow : OpenClaim := { program := "ytgchkigngbpfbaa", sum := "da3e58f8d3adf6de05692469bd4d133c9c47d08e9eda3effb6e81a00bf89afe4", func := "loop.example/g01376/laws.FnExactDryTiles", spec := "fnExactDryTiles", unfollowed := true, recurses := true, plainKeys := false, apart := false }
def FnExactDryTilesSaid : Prop := fnExactDryTilesRow.holds Try.pinned (OpenSpec.ofChange fnExactDryTilesSpec)

/-- ITS FALSE NEIGHBOUR: 'it returns false'. Refute it at one input. -/
def fnExactDryTilesWrong : ChangeSpec := { name := "fnExactDryTiles", fn := fun _ => fun
  | [d1, d2] => { results := [.lit (.bool false)], args := [d1, d2] }
  | _ => none }
def FnExactDryTilesWrongFalsely : Prop := fnExactDryTilesRow.holds Try.pinned (OpenSpec.ofChange fnExactDryTilesWrong)

/-- 'laws.FnExactFillTimes': WHATEVER THE INPUT: true; the input reads as it did. -/
def fnExactFillTimesSpec : ChangeSpec := { name := "fnExactFillTimes", fn := fun _ => fun
  | [d1, d2, d3] => { results := [.lit (.bool true)], args := [d1, d2, d3] }
  | _ => none }
def fnExactFillTimesRow : OpenClaim := { program := "ytgchkigngbpfbaa", sum := "da3e58f8d3adf6de05692469bd4d133c9c47d08e9eda3effb6e81a00bf89afe4", func := "loop.example/g01376/laws.FnExactFillTimes", spec := "fnExactFillTimes", unfollowed := true, recurses := true, plainKeys := false, apart := false }
def FnExactFillTimesSaid : Prop := fnExactFillTimesRow.holds Try.pinned (OpenSpec.ofChange fnExactFillTimesSpec)

/-- ITS FALSE NEIGHBOUR: 'it returns false'. Refute it at one input. -/
def fnExactFillTimesWrong : ChangeSpec := { name := "fnExactFillTimes", fn := fun _ => fun
  | [d1, d2, d3] => { results := [.lit (.bool false)], args := [d1, d2, d3] }
  | _ => none }
def FnExactFillTimesWrongFalsely : Prop := fnExactFillTimesRow.holds Try.pinned (OpenSpec.ofChange fnExactFillTimesWrong)

/-- 'laws.FnExactLeastRain': WHATEVER THE INPUT: true; the input reads as it did. -/
def fnExactLeastRainSpec : ChangeSpec := { name := "fnExactLeastRain", fn := fun _ => fun
  | [d1, d2] => { results := [.lit (.bool true)], args := [d1, d2] }
  | _ => none }
def fnExactLeastRainRow : OpenClaim := { program := "ytgchkigngbpfbaa", sum := "da3e58f8d3adf6de05692469bd4d133c9c47d08e9eda3effb6e81a00bf89afe4", func := "loop.example/g01376/laws.FnExactLeastRain", spec := "fnExactLeastRain", unfollowed := true, recurses := true, plainKeys := false, apart := false }
def FnExactLeastRainSaid : Prop := fnExactLeastRainRow.holds Try.pinned (OpenSpec.ofChange fnExactLeastRainSpec)

/-- ITS FALSE NEIGHBOUR: 'it returns false'. Refute it at one input. -/
def fnExactLeastRainWrong : ChangeSpec := { name := "fnExactLeastRain", fn := fun _ => fun
  | [d1, d2] => { results := [.lit (.bool false)], args := [d1, d2] }
  | _ => none }
def FnExactLeastRainWrongFalsely : Prop := fnExactLeastRainRow.holds Try.pinned (OpenSpec.ofChange fnExactLeastRainWrong)

/-- 'laws.FnExactBestSave': WHATEVER THE INPUT: true; the input reads as it did. -/
def fnExactBestSaveSpec : ChangeSpec := { name := "fnExactBestSave", fn := fun _ => fun
  | [d1, d2] => { results := [.lit (.bool true)], args := [d1, d2] }
  | _ => none }
def fnExactBestSaveRow : OpenClaim := { program := "ytgchkigngbpfbaa", sum := "da3e58f8d3adf6de05692469bd4d133c9c47d08e9eda3effb6e81a00bf89afe4", func := "loop.example/g01376/laws.FnExactBestSave", spec := "fnExactBestSave", unfollowed := true, recurses := true, plainKeys := false, apart := false }
def FnExactBestSaveSaid : Prop := fnExactBestSaveRow.holds Try.pinned (OpenSpec.ofChange fnExactBestSaveSpec)

/-- ITS FALSE NEIGHBOUR: 'it returns false'. Refute it at one input. -/
def fnExactBestSaveWrong : ChangeSpec := { name := "fnExactBestSave", fn := fun _ => fun
  | [d1, d2] => { results := [.lit (.bool false)], args := [d1, d2] }
  | _ => none }
def FnExactBestSaveWrongFalsely : Prop := fnExactBestSaveRow.holds Try.pinned (OpenSpec.ofChange fnExactBestSaveWrong)

/-- 'laws.FnExactComesTo': WHATEVER THE INPUT: true; the input reads as it did. -/
def fnExactComesToSpec : ChangeSpec := { name := "fnExactComesTo", fn := fun _ => fun
  | [d1, d2, d3] => { results := [.lit (.bool true)], args := [d1, d2, d3] }
  | _ => none }
def fnExactComesToRow : OpenClaim := { program := "ytgchkigngbpfbaa", sum := "da3e58f8d3adf6de05692469bd4d133c9c47d08e9eda3effb6e81a00bf89afe4", func := "loop.example/g01376/laws.FnExactComesTo", spec := "fnExactComesTo", unfollowed := true, recurses := true, plainKeys := false, apart := false }
def FnExactComesToSaid : Prop := fnExactComesToRow.holds Try.pinned (OpenSpec.ofChange fnExactComesToSpec)

/-- ITS FALSE NEIGHBOUR: 'it returns false'. Refute it at one input. -/
def fnExactComesToWrong : ChangeSpec := { name := "fnExactComesTo", fn := fun _ => fun
  | [d1, d2, d3] => { results := [.lit (.bool false)], args := [d1, d2, d3] }
  | _ => none }
def FnExactComesToWrongFalsely : Prop := fnExactComesToRow.holds Try.pinned (OpenSpec.ofChange fnExactComesToWrong)

/-- 'laws.FnExactKindsFor': WHATEVER THE INPUT: true; the input reads as it did. -/
def fnExactKindsForSpec : ChangeSpec := { name := "fnExactKindsFor", fn := fun _ => fun
  | [d1, d2, d3, d4] => { results := [.lit (.bool true)], args := [d1, d2, d3, d4] }
  | _ => none }
def fnExactKindsForRow : OpenClaim := { program := "ytgchkigngbpfbaa", sum := "da3e58f8d3adf6de05692469bd4d133c9c47d08e9eda3effb6e81a00bf89afe4", func := "loop.example/g01376/laws.FnExactKindsFor", spec := "fnExactKindsFor", unfollowed := true, recurses := true, plainKeys := false, apart := false }
def FnExactKindsForSaid : Prop := fnExactKindsForRow.holds Try.pinned (OpenSpec.ofChange fnExactKindsForSpec)

/-- ITS FALSE NEIGHBOUR: 'it returns false'. Refute it at one input. -/
def fnExactKindsForWrong : ChangeSpec := { name := "fnExactKindsFor", fn := fun _ => fun
  | [d1, d2, d3, d4] => { results := [.lit (.bool false)], args := [d1, d2, d3, d4] }
  | _ => none }
def FnExactKindsForWrongFalsely : Prop := fnExactKindsForRow.holds Try.pinned (OpenSpec.ofChange fnExactKindsForWrong)

/-- 'laws.FnExactExplains': WHATEVER THE INPUT: true; the input reads as it did. -/
def fnExactExplainsSpec : ChangeSpec := { name := "fnExactExplains", fn := fun _ => fun
  | [d1, d2, d3] => { results := [.lit (.bool true)], args := [d1, d2, d3] }
  | _ => none }
def fnExactExplainsRow : OpenClaim := { program := "ytgchkigngbpfbaa", sum := "da3e58f8d3adf6de05692469bd4d133c9c47d08e9eda3effb6e81a00bf89afe4", func := "loop.example/g01376/laws.FnExactExplains", spec := "fnExactExplains", unfollowed := true, recurses := true, plainKeys := false, apart := false }
def FnExactExplainsSaid : Prop := fnExactExplainsRow.holds Try.pinned (OpenSpec.ofChange fnExactExplainsSpec)

/-- ITS FALSE NEIGHBOUR: 'it returns false'. Refute it at one input. -/
def fnExactExplainsWrong : ChangeSpec := { name := "fnExactExplains", fn := fun _ => fun
  | [d1, d2, d3] => { results := [.lit (.bool false)], args := [d1, d2, d3] }
  | _ => none }
def FnExactExplainsWrongFalsely : Prop := fnExactExplainsRow.holds Try.pinned (OpenSpec.ofChange fnExactExplainsWrong)

/-- 'laws.FnExactDripAfter': WHATEVER THE INPUT: true; the input reads as it did. -/
def fnExactDripAfterSpec : ChangeSpec := { name := "fnExactDripAfter", fn := fun _ => fun
  | [d1, d2, d3] => { results := [.lit (.bool true)], args := [d1, d2, d3] }
  | _ => none }
def fnExactDripAfterRow : OpenClaim := { program := "ytgchkigngbpfbaa", sum := "da3e58f8d3adf6de05692469bd4d133c9c47d08e9eda3effb6e81a00bf89afe4", func := "loop.example/g01376/laws.FnExactDripAfter", spec := "fnExactDripAfter", unfollowed := true, recurses := true, plainKeys := false, apart := false }
def FnExactDripAfterSaid : Prop := fnExactDripAfterRow.holds Try.pinned (OpenSpec.ofChange fnExactDripAfterSpec)

/-- ITS FALSE NEIGHBOUR: 'it returns false'. Refute it at one input. -/
def fnExactDripAfterWrong : ChangeSpec := { name := "fnExactDripAfter", fn := fun _ => fun
  | [d1, d2, d3] => { results := [.lit (.bool false)], args := [d1, d2, d3] }
  | _ => none }
def FnExactDripAfterWrongFalsely : Prop := fnExactDripAfterRow.holds Try.pinned (OpenSpec.ofChange fnExactDripAfterWrong)

/-- 'laws.FnExactCheckRepairs': WHATEVER THE INPUT: true; the input reads as it did. -/
def fnExactCheckRepairsSpec : ChangeSpec := { name := "fnExactCheckRepairs", fn := fun _ => fun
  | [d1, d2, d3, d4] => { results := [.lit (.bool true)], args := [d1, d2, d3, d4] }
  | _ => none }
def fnExactCheckRepairsRow : OpenClaim := { program := "ytgchkigngbpfbaa", sum := "da3e58f8d3adf6de05692469bd4d133c9c47d08e9eda3effb6e81a00bf89afe4", func := "loop.example/g01376/laws.FnExactCheckRepairs", spec := "fnExactCheckRepairs", unfollowed := true, recurses := true, plainKeys := false, apart := false }
def FnExactCheckRepairsSaid : Prop := fnExactCheckRepairsRow.holds Try.pinned (OpenSpec.ofChange fnExactCheckRepairsSpec)

/-- ITS FALSE NEIGHBOUR: 'it returns false'. Refute it at one input. -/
def fnExactCheckRepairsWrong : ChangeSpec := { name := "fnExactCheckRepairs", fn := fun _ => fun
  | [d1, d2, d3, d4] => { results := [.lit (.bool false)], args := [d1, d2, d3, d4] }
  | _ => none }
def FnExactCheckRepairsWrongFalsely : Prop := fnExactCheckRepairsRow.holds Try.pinned (OpenSpec.ofChange fnExactCheckRepairsWrong)

/- THE SECOND FORM. 'bulk': how many values and letters a reading holds, each counted each time it is reached (what is shared counts as often as it is met; a slice's spare places count too). A statement '..UptoSaid' is the law's where the arguments, and the package variables that the reading takes, are together of bulk at most 1048576: NARROWER than '..Said'. Prove '..Said' where nothing that the law and all that it calls make is longer than what came in: it says more and counts as full. Else prove '..UptoSaid'. A law counts once. -/
mutual
def uptoBulk {H : Type} : DataW H → Nat
  | .lit (.string bytes) => bytes.length + 1
  | .lit _ => 1
  | .nil => 1
  | .ptr d => uptoBulk d + 1
  | .slice elems spare => uptoBulkAll elems + uptoBulkAll spare + 1
  | .agg parts => uptoBulkAll parts + 1
  | .iface _ d => uptoBulk d + 1
  | .map entries => uptoBulkEntries entries + 1
  | .held _ => 1
def uptoBulkAll {H : Type} : List (DataW H) → Nat
  | [] => 0
  | d :: r => uptoBulk d + uptoBulkAll r
def uptoBulkEntries {H : Type} : List (Lit × DataW H) → Nat
  | [] => 0
  | x :: r => uptoBulkEntry x + uptoBulkEntries r
def uptoBulkEntry {H : Type} : Lit × DataW H → Nat
  | (.string bytes, d) => bytes.length + uptoBulk d + 1
  | (_, d) => uptoBulk d + 1
 end
def uptoSmall : (H : Type) → List (DataW H) → Bool := fun _ ds => decide (uptoBulkAll ds ≤ 1048576)
def OpenSpec.upto (s : _root_.Go.ChangeSpec) : _root_.Go.OpenSpec := { _root_.Go.OpenSpec.ofChange s with cond := some uptoSmall }

/-- 'laws.FnExactWetTiles', WHERE WHAT IT READS IS OF BULK AT MOST 1048576: true; the input reads as it did. -/
def fnExactWetTilesUptoRow : OpenClaim := { program := "ytgchkigngbpfbaa", sum := "da3e58f8d3adf6de05692469bd4d133c9c47d08e9eda3effb6e81a00bf89afe4", func := "loop.example/g01376/laws.FnExactWetTiles", spec := "fnExactWetTiles", unfollowed := true, recurses := true, plainKeys := false, apart := false, narrowed := true }
def FnExactWetTilesUptoSaid : Prop := fnExactWetTilesUptoRow.holds Try.pinned (OpenSpec.upto fnExactWetTilesSpec)

/-- 'laws.FnExactDryTiles', WHERE WHAT IT READS IS OF BULK AT MOST 1048576: true; the input reads as it did. -/
def fnExactDryTilesUptoRow : OpenClaim := { program := "ytgchkigngbpfbaa", sum := "da3e58f8d3adf6de05692469bd4d133c9c47d08e9eda3effb6e81a00bf89afe4", func := "loop.example/g01376/laws.FnExactDryTiles", spec := "fnExactDryTiles", unfollowed := true, recurses := true, plainKeys := false, apart := false, narrowed := true }
def FnExactDryTilesUptoSaid : Prop := fnExactDryTilesUptoRow.holds Try.pinned (OpenSpec.upto fnExactDryTilesSpec)

/-- 'laws.FnExactFillTimes', WHERE WHAT IT READS IS OF BULK AT MOST 1048576: true; the input reads as it did. -/
def fnExactFillTimesUptoRow : OpenClaim := { program := "ytgchkigngbpfbaa", sum := "da3e58f8d3adf6de05692469bd4d133c9c47d08e9eda3effb6e81a00bf89afe4", func := "loop.example/g01376/laws.FnExactFillTimes", spec := "fnExactFillTimes", unfollowed := true, recurses := true, plainKeys := false, apart := false, narrowed := true }
def FnExactFillTimesUptoSaid : Prop := fnExactFillTimesUptoRow.holds Try.pinned (OpenSpec.upto fnExactFillTimesSpec)

/-- 'laws.FnExactLeastRain', WHERE WHAT IT READS IS OF BULK AT MOST 1048576: true; the input reads as it did. -/
def fnExactLeastRainUptoRow : OpenClaim := { program := "ytgchkigngbpfbaa", sum := "da3e58f8d3adf6de05692469bd4d133c9c47d08e9eda3effb6e81a00bf89afe4", func := "loop.example/g01376/laws.FnExactLeastRain", spec := "fnExactLeastRain", unfollowed := true, recurses := true, plainKeys := false, apart := false, narrowed := true }
def FnExactLeastRainUptoSaid : Prop := fnExactLeastRainUptoRow.holds Try.pinned (OpenSpec.upto fnExactLeastRainSpec)

/-- 'laws.FnExactBestSave', WHERE WHAT IT READS IS OF BULK AT MOST 1048576: true; the input reads as it did. -/
def fnExactBestSaveUptoRow : OpenClaim := { program := "ytgchkigngbpfbaa", sum := "da3e58f8d3adf6de05692469bd4d133c9c47d08e9eda3effb6e81a00bf89afe4", func := "loop.example/g01376/laws.FnExactBestSave", spec := "fnExactBestSave", unfollowed := true, recurses := true, plainKeys := false, apart := false, narrowed := true }
def FnExactBestSaveUptoSaid : Prop := fnExactBestSaveUptoRow.holds Try.pinned (OpenSpec.upto fnExactBestSaveSpec)

/-- 'laws.FnExactComesTo', WHERE WHAT IT READS IS OF BULK AT MOST 1048576: true; the input reads as it did. -/
def fnExactComesToUptoRow : OpenClaim := { program := "ytgchkigngbpfbaa", sum := "da3e58f8d3adf6de05692469bd4d133c9c47d08e9eda3effb6e81a00bf89afe4", func := "loop.example/g01376/laws.FnExactComesTo", spec := "fnExactComesTo", unfollowed := true, recurses := true, plainKeys := false, apart := false, narrowed := true }
def FnExactComesToUptoSaid : Prop := fnExactComesToUptoRow.holds Try.pinned (OpenSpec.upto fnExactComesToSpec)

/-- 'laws.FnExactKindsFor', WHERE WHAT IT READS IS OF BULK AT MOST 1048576: true; the input reads as it did. -/
def fnExactKindsForUptoRow : OpenClaim := { program := "ytgchkigngbpfbaa", sum := "da3e58f8d3adf6de05692469bd4d133c9c47d08e9eda3effb6e81a00bf89afe4", func := "loop.example/g01376/laws.FnExactKindsFor", spec := "fnExactKindsFor", unfollowed := true, recurses := true, plainKeys := false, apart := false, narrowed := true }
def FnExactKindsForUptoSaid : Prop := fnExactKindsForUptoRow.holds Try.pinned (OpenSpec.upto fnExactKindsForSpec)

/-- 'laws.FnExactExplains', WHERE WHAT IT READS IS OF BULK AT MOST 1048576: true; the input reads as it did. -/
def fnExactExplainsUptoRow : OpenClaim := { program := "ytgchkigngbpfbaa", sum := "da3e58f8d3adf6de05692469bd4d133c9c47d08e9eda3effb6e81a00bf89afe4", func := "loop.example/g01376/laws.FnExactExplains", spec := "fnExactExplains", unfollowed := true, recurses := true, plainKeys := false, apart := false, narrowed := true }
def FnExactExplainsUptoSaid : Prop := fnExactExplainsUptoRow.holds Try.pinned (OpenSpec.upto fnExactExplainsSpec)

/-- 'laws.FnExactDripAfter', WHERE WHAT IT READS IS OF BULK AT MOST 1048576: true; the input reads as it did. -/
def fnExactDripAfterUptoRow : OpenClaim := { program := "ytgchkigngbpfbaa", sum := "da3e58f8d3adf6de05692469bd4d133c9c47d08e9eda3effb6e81a00bf89afe4", func := "loop.example/g01376/laws.FnExactDripAfter", spec := "fnExactDripAfter", unfollowed := true, recurses := true, plainKeys := false, apart := false, narrowed := true }
def FnExactDripAfterUptoSaid : Prop := fnExactDripAfterUptoRow.holds Try.pinned (OpenSpec.upto fnExactDripAfterSpec)

/-- 'laws.FnExactCheckRepairs', WHERE WHAT IT READS IS OF BULK AT MOST 1048576: true; the input reads as it did. -/
def fnExactCheckRepairsUptoRow : OpenClaim := { program := "ytgchkigngbpfbaa", sum := "da3e58f8d3adf6de05692469bd4d133c9c47d08e9eda3effb6e81a00bf89afe4", func := "loop.example/g01376/laws.FnExactCheckRepairs", spec := "fnExactCheckRepairs", unfollowed := true, recurses := true, plainKeys := false, apart := false, narrowed := true }
def FnExactCheckRepairsUptoSaid : Prop := fnExactCheckRepairsUptoRow.holds Try.pinned (OpenSpec.upto fnExactCheckRepairsSpec)

end Rows
end Go.Proofs.Ytgchkigngbpfbaa
