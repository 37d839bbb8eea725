/-
  No cell of these rows narrows 'for every input' (looked for: loops, veiled, ifaces, maps, wideKeys, modest, calm, conditions, laid).
  DERIVED. THE GIVEN ROWS OF THIS SEAT. 8 by the template 'for every input the law returns true; each argument reads behind the call as it read before'; 0 by the template 'total and deterministic' (their statements: YtlnpblomnlppiaaTotals.lean).
  GIVEN WITH THE SEED: the statements are not yours to turn. If you find one false, say at which input.
  Laid BY PROGRAM, IN A SANDBOX (cutbox-rows.mjs): the forced cells as the released guide's own fill.sh prints them over the translation 3795c2e20152f304… (all of the seat's roots in one cut). By AI agents, Wed Nov 11 2026. No macro, syntax, notation, axiom, sorry.
-/
import Derived.Test.YtlnpblomnlppiaaChecked
import GoSem.Claim
import GoSem.ClaimJoined
import GoSem.ClaimMapViews
import Derived.JoinedTies
import Derived.KernelRfl
namespace Go.Proofs.Ytlnpblomnlppiaa
/- THE CELL 'sum', in the pinned program and in every row, IS THE sha256 OF THE DUMP (.gsa) THAT YtlnpblomnlppiaaProg.lean LOADS. Nothing in Lean hashes anything: it is a label: what it is worth is what the hold of that sum in a sandbox is worth. -/
noncomputable def Try.pinned : Pinned := { name := "ytlnpblomnlppiaa", sum := "3795c2e20152f3045550db449c337c2e63e7fcfd58d53b2969af9308461c3a4e", checked := Try.checked }
namespace Rows
def none {H : Type} : Left H := { results := [], args := [] }

/-- 'laws.FnExactWalkFor': WHATEVER THE INPUT: true; the input reads as it did. -/
def fnExactWalkForSpec : ChangeSpec := { name := "fnExactWalkFor", fn := fun _ => fun
  | [d1, d2, d3] => { results := [.lit (.bool true)], args := [d1, d2, d3] }
  | _ => none }
def fnExactWalkForRow : OpenClaim := { program := "ytlnpblomnlppiaa", sum := "3795c2e20152f3045550db449c337c2e63e7fcfd58d53b2969af9308461c3a4e", func := "loop.example/g01376/laws.FnExactWalkFor", spec := "fnExactWalkFor", unfollowed := true, recurses := true, apart := false }
def FnExactWalkForSaid : Prop := fnExactWalkForRow.holds Try.pinned (OpenSpec.ofChange fnExactWalkForSpec)

/-- ITS FALSE NEIGHBOUR: 'it returns false'. Refute it at one input. -/
def fnExactWalkForWrong : ChangeSpec := { name := "fnExactWalkFor", fn := fun _ => fun
  | [d1, d2, d3] => { results := [.lit (.bool false)], args := [d1, d2, d3] }
  | _ => none }
def FnExactWalkForWrongFalsely : Prop := fnExactWalkForRow.holds Try.pinned (OpenSpec.ofChange fnExactWalkForWrong)

/-- 'laws.FnExactReachFrom': WHATEVER THE INPUT: true; the input reads as it did. -/
def fnExactReachFromSpec : ChangeSpec := { name := "fnExactReachFrom", fn := fun _ => fun
  | [d1, d2, d3] => { results := [.lit (.bool true)], args := [d1, d2, d3] }
  | _ => none }
def fnExactReachFromRow : OpenClaim := { program := "ytlnpblomnlppiaa", sum := "3795c2e20152f3045550db449c337c2e63e7fcfd58d53b2969af9308461c3a4e", func := "loop.example/g01376/laws.FnExactReachFrom", spec := "fnExactReachFrom", unfollowed := true, recurses := true, apart := false }
def FnExactReachFromSaid : Prop := fnExactReachFromRow.holds Try.pinned (OpenSpec.ofChange fnExactReachFromSpec)

/-- ITS FALSE NEIGHBOUR: 'it returns false'. Refute it at one input. -/
def fnExactReachFromWrong : ChangeSpec := { name := "fnExactReachFrom", fn := fun _ => fun
  | [d1, d2, d3] => { results := [.lit (.bool false)], args := [d1, d2, d3] }
  | _ => none }
def FnExactReachFromWrongFalsely : Prop := fnExactReachFromRow.holds Try.pinned (OpenSpec.ofChange fnExactReachFromWrong)

/-- 'laws.FnExactTilesNeeded': WHATEVER THE INPUT: true; the input reads as it did. -/
def fnExactTilesNeededSpec : ChangeSpec := { name := "fnExactTilesNeeded", fn := fun _ => fun
  | [d1, d2, d3] => { results := [.lit (.bool true)], args := [d1, d2, d3] }
  | _ => none }
def fnExactTilesNeededRow : OpenClaim := { program := "ytlnpblomnlppiaa", sum := "3795c2e20152f3045550db449c337c2e63e7fcfd58d53b2969af9308461c3a4e", func := "loop.example/g01376/laws.FnExactTilesNeeded", spec := "fnExactTilesNeeded", unfollowed := true, recurses := true, apart := false }
def FnExactTilesNeededSaid : Prop := fnExactTilesNeededRow.holds Try.pinned (OpenSpec.ofChange fnExactTilesNeededSpec)

/-- ITS FALSE NEIGHBOUR: 'it returns false'. Refute it at one input. -/
def fnExactTilesNeededWrong : ChangeSpec := { name := "fnExactTilesNeeded", fn := fun _ => fun
  | [d1, d2, d3] => { results := [.lit (.bool false)], args := [d1, d2, d3] }
  | _ => none }
def FnExactTilesNeededWrongFalsely : Prop := fnExactTilesNeededRow.holds Try.pinned (OpenSpec.ofChange fnExactTilesNeededWrong)

/-- 'laws.FnExactCanReach': WHATEVER THE INPUT: true; the input reads as it did. -/
def fnExactCanReachSpec : ChangeSpec := { name := "fnExactCanReach", fn := fun _ => fun
  | [d1, d2, d3, d4] => { results := [.lit (.bool true)], args := [d1, d2, d3, d4] }
  | _ => none }
def fnExactCanReachRow : OpenClaim := { program := "ytlnpblomnlppiaa", sum := "3795c2e20152f3045550db449c337c2e63e7fcfd58d53b2969af9308461c3a4e", func := "loop.example/g01376/laws.FnExactCanReach", spec := "fnExactCanReach", unfollowed := true, recurses := true, apart := false }
def FnExactCanReachSaid : Prop := fnExactCanReachRow.holds Try.pinned (OpenSpec.ofChange fnExactCanReachSpec)

/-- ITS FALSE NEIGHBOUR: 'it returns false'. Refute it at one input. -/
def fnExactCanReachWrong : ChangeSpec := { name := "fnExactCanReach", fn := fun _ => fun
  | [d1, d2, d3, d4] => { results := [.lit (.bool false)], args := [d1, d2, d3, d4] }
  | _ => none }
def FnExactCanReachWrongFalsely : Prop := fnExactCanReachRow.holds Try.pinned (OpenSpec.ofChange fnExactCanReachWrong)

/-- 'laws.FnExactLadderFor': WHATEVER THE INPUT: true; the input reads as it did. -/
def fnExactLadderForSpec : ChangeSpec := { name := "fnExactLadderFor", fn := fun _ => fun
  | [d1, d2, d3, d4] => { results := [.lit (.bool true)], args := [d1, d2, d3, d4] }
  | _ => none }
def fnExactLadderForRow : OpenClaim := { program := "ytlnpblomnlppiaa", sum := "3795c2e20152f3045550db449c337c2e63e7fcfd58d53b2969af9308461c3a4e", func := "loop.example/g01376/laws.FnExactLadderFor", spec := "fnExactLadderFor", unfollowed := true, recurses := true, apart := false }
def FnExactLadderForSaid : Prop := fnExactLadderForRow.holds Try.pinned (OpenSpec.ofChange fnExactLadderForSpec)

/-- ITS FALSE NEIGHBOUR: 'it returns false'. Refute it at one input. -/
def fnExactLadderForWrong : ChangeSpec := { name := "fnExactLadderFor", fn := fun _ => fun
  | [d1, d2, d3, d4] => { results := [.lit (.bool false)], args := [d1, d2, d3, d4] }
  | _ => none }
def FnExactLadderForWrongFalsely : Prop := fnExactLadderForRow.holds Try.pinned (OpenSpec.ofChange fnExactLadderForWrong)

/-- 'laws.FnExactFewestLadders': WHATEVER THE INPUT: true; the input reads as it did. -/
def fnExactFewestLaddersSpec : ChangeSpec := { name := "fnExactFewestLadders", fn := fun _ => fun
  | [d1, d2, d3] => { results := [.lit (.bool true)], args := [d1, d2, d3] }
  | _ => none }
def fnExactFewestLaddersRow : OpenClaim := { program := "ytlnpblomnlppiaa", sum := "3795c2e20152f3045550db449c337c2e63e7fcfd58d53b2969af9308461c3a4e", func := "loop.example/g01376/laws.FnExactFewestLadders", spec := "fnExactFewestLadders", unfollowed := true, recurses := true, apart := false }
def FnExactFewestLaddersSaid : Prop := fnExactFewestLaddersRow.holds Try.pinned (OpenSpec.ofChange fnExactFewestLaddersSpec)

/-- ITS FALSE NEIGHBOUR: 'it returns false'. Refute it at one input. -/
def fnExactFewestLaddersWrong : ChangeSpec := { name := "fnExactFewestLadders", fn := fun _ => fun
  | [d1, d2, d3] => { results := [.lit (.bool false)], args := [d1, d2, d3] }
  | _ => none }
def FnExactFewestLaddersWrongFalsely : Prop := fnExactFewestLaddersRow.holds Try.pinned (OpenSpec.ofChange fnExactFewestLaddersWrong)

/-- 'laws.FnExactPushBack': WHATEVER THE INPUT: true; the input reads as it did. -/
def fnExactPushBackSpec : ChangeSpec := { name := "fnExactPushBack", fn := fun _ => fun
  | [d1, d2, d3] => { results := [.lit (.bool true)], args := [d1, d2, d3] }
  | _ => none }
def fnExactPushBackRow : OpenClaim := { program := "ytlnpblomnlppiaa", sum := "3795c2e20152f3045550db449c337c2e63e7fcfd58d53b2969af9308461c3a4e", func := "loop.example/g01376/laws.FnExactPushBack", spec := "fnExactPushBack", unfollowed := true, recurses := true, apart := false }
def FnExactPushBackSaid : Prop := fnExactPushBackRow.holds Try.pinned (OpenSpec.ofChange fnExactPushBackSpec)

/-- ITS FALSE NEIGHBOUR: 'it returns false'. Refute it at one input. -/
def fnExactPushBackWrong : ChangeSpec := { name := "fnExactPushBack", fn := fun _ => fun
  | [d1, d2, d3] => { results := [.lit (.bool false)], args := [d1, d2, d3] }
  | _ => none }
def FnExactPushBackWrongFalsely : Prop := fnExactPushBackRow.holds Try.pinned (OpenSpec.ofChange fnExactPushBackWrong)

/-- 'laws.FnLaps': WHATEVER THE INPUT: true; the input reads as it did. -/
def fnLapsSpec : ChangeSpec := { name := "fnLaps", fn := fun _ => fun
  | [d1, d2] => { results := [.lit (.bool true)], args := [d1, d2] }
  | _ => none }
def fnLapsRow : OpenClaim := { program := "ytlnpblomnlppiaa", sum := "3795c2e20152f3045550db449c337c2e63e7fcfd58d53b2969af9308461c3a4e", func := "loop.example/g01376/laws.FnLaps", spec := "fnLaps", unfollowed := true, recurses := true, apart := false }
def FnLapsSaid : Prop := fnLapsRow.holds Try.pinned (OpenSpec.ofChange fnLapsSpec)

/-- ITS FALSE NEIGHBOUR: 'it returns false'. Refute it at one input. -/
def fnLapsWrong : ChangeSpec := { name := "fnLaps", fn := fun _ => fun
  | [d1, d2] => { results := [.lit (.bool false)], args := [d1, d2] }
  | _ => none }
def FnLapsWrongFalsely : Prop := fnLapsRow.holds Try.pinned (OpenSpec.ofChange fnLapsWrong)

/- THE SECOND FORM. 'bulk': how many values and letters a reading holds, each counted each time it is reached (what is shared counts as often as it is met; a slice's spare places count too). A statement '..UptoSaid' is the law's where the arguments, and the package variables that the reading takes, are together of bulk at most 1048576: NARROWER than '..Said'. Prove '..Said' where nothing that the law and all that it calls make is longer than what came in: it says more and counts as full. Else prove '..UptoSaid'. A law counts once. -/
mutual
def uptoBulk {H : Type} : DataW H → Nat
  | .lit (.string bytes) => bytes.length + 1
  | .lit _ => 1
  | .nil => 1
  | .ptr d => uptoBulk d + 1
  | .slice elems spare => uptoBulkAll elems + uptoBulkAll spare + 1
  | .agg parts => uptoBulkAll parts + 1
  | .iface _ d => uptoBulk d + 1
  | .map entries => uptoBulkEntries entries + 1
  | .held _ => 1
def uptoBulkAll {H : Type} : List (DataW H) → Nat
  | [] => 0
  | d :: r => uptoBulk d + uptoBulkAll r
def uptoBulkEntries {H : Type} : List (Lit × DataW H) → Nat
  | [] => 0
  | x :: r => uptoBulkEntry x + uptoBulkEntries r
def uptoBulkEntry {H : Type} : Lit × DataW H → Nat
  | (.string bytes, d) => bytes.length + uptoBulk d + 1
  | (_, d) => uptoBulk d + 1
 end
def uptoSmall : (H : Type) → List (DataW H) → Bool := fun _ ds => decide (uptoBulkAll ds ≤ 1048576)
def OpenSpec.upto (s : _root_.Go.ChangeSpec) : _root_.Go.OpenSpec := { _root_.Go.OpenSpec.ofChange s with cond := some uptoSmall }

/-- 'laws.FnExactWalkFor', WHERE WHAT IT READS IS OF BULK AT MOST 1048576: true; the input reads as it did. -/
def fnExactWalkForUptoRow : OpenClaim := { program := "ytlnpblomnlppiaa", sum := "3795c2e20152f3045550db449c337c2e63e7fcfd58d53b2969af9308461c3a4e", func := "loop.example/g01376/laws.FnExactWalkFor", spec := "fnExactWalkFor", unfollowed := true, recurses := true, apart := false, narrowed := true }
def FnExactWalkForUptoSaid : Prop := fnExactWalkForUptoRow.holds Try.pinned (OpenSpec.upto fnExactWalkForSpec)

/-- 'laws.FnExactReachFrom', WHERE WHAT IT READS IS OF BULK AT MOST 1048576: true; the input reads as it did. -/
def fnExactReachFromUptoRow : OpenClaim := { program := "ytlnpblomnlppiaa", sum := "3795c2e20152f3045550db449c337c2e63e7fcfd58d53b2969af9308461c3a4e", func := "loop.example/g01376/laws.FnExactReachFrom", spec := "fnExactReachFrom", unfollowed := true, recurses := true, apart := false, narrowed := true }
def FnExactReachFromUptoSaid : Prop := fnExactReachFromUptoRow.holds Try.pinned (OpenSpec.upto fnExactReachFromSpec)

/-- 'laws.FnExactTilesNeeded', WHERE WHAT IT READS IS OF BULK AT MOST 1048576: true; the input reads as it did. -/
def fnExactTilesNeededUptoRow : OpenClaim := { program := "ytlnpblomnlppiaa", sum := "3795c2e20152f3045550db449c337c2e63e7fcfd58d53b2969af9308461c3a4e", func := "loop.example/g01376/laws.FnExactTilesNeeded", spec := "fnExactTilesNeeded", unfollowed := true, recurses := true, apart := false, narrowed := true }
def FnExactTilesNeededUptoSaid : Prop := fnExactTilesNeededUptoRow.holds Try.pinned (OpenSpec.upto fnExactTilesNeededSpec)

/-- 'laws.FnExactCanReach', WHERE WHAT IT READS IS OF BULK AT MOST 1048576: true; the input reads as it did. -/
def fnExactCanReachUptoRow : OpenClaim := { program := "ytlnpblomnlppiaa", sum := "3795c2e20152f3045550db449c337c2e63e7fcfd58d53b2969af9308461c3a4e", func := "loop.example/g01376/laws.FnExactCanReach", spec := "fnExactCanReach", unfollowed := true, recurses := true, apart := false, narrowed := true }
def FnExactCanReachUptoSaid : Prop := fnExactCanReachUptoRow.holds Try.pinned (OpenSpec.upto fnExactCanReachSpec)

/-- 'laws.FnExactLadderFor', WHERE WHAT IT READS IS OF BULK AT MOST 1048576: true; the input reads as it did. -/
def fnExactLadderForUptoRow : OpenClaim := { program := "ytlnpblomnlppiaa", sum := "3795c2e20152f3045550db449c337c2e63e7fcfd58d53b2969af9308461c3a4e", func := "loop.example/g01376/laws.FnExactLadderFor", spec := "fnExactLadderFor", unfollowed := true, recurses := true, apart := false, narrowed := true }
def FnExactLadderForUptoSaid : Prop := fnExactLadderForUptoRow.holds Try.pinned (OpenSpec.upto fnExactLadderForSpec)

/-- 'laws.FnExactFewestLadders', WHERE WHAT IT READS IS OF BULK AT MOST 1048576: true; the input reads as it did. -/
def fnExactFewestLaddersUptoRow : OpenClaim := { program := "ytlnpblomnlppiaa", sum := "3795c2e20152f3045550db449c337c2e63e7fcfd58d53b2969af9308461c3a4e", func := "loop.example/g01376/laws.FnExactFewestLadders", spec := "fnExactFewestLadders", unfollowed := true, recurses := true, apart := false, narrowed := true }
def FnExactFewestLaddersUptoSaid : Prop := fnExactFewestLaddersUptoRow.holds Try.pinned (OpenSpec.upto fnExactFewestLaddersSpec)

/-- 'laws.FnExactPushBack', WHERE WHAT IT READS IS OF BULK AT MOST 1048576: true; the input reads as it did. -/
def fnExactPushBackUptoRow : OpenClaim := { program := "ytlnpblomnlppiaa", sum := "3795c2e20152f3045550db449c337c2e63e7fcfd58d53b2969af9308461c3a4e", func := "loop.example/g01376/laws.FnExactPushBack", spec := "fnExactPushBack", unfollowed := true, recurses := true, apart := false, narrowed := true }
def FnExactPushBackUptoSaid : Prop := fnExactPushBackUptoRow.holds Try.pinned (OpenSpec.upto fnExactPushBackSpec)

/-- 'laws.FnLaps', WHERE WHAT IT READS IS OF BULK AT MOST 1048576: true; the input reads as it did. -/
def fnLapsUptoRow : OpenClaim := { program := "ytlnpblomnlppiaa", sum := "3795c2e20152f3045550db449c337c2e63e7fcfd58d53b2969af9308461c3a4e", func := "loop.example/g01376/laws.FnLaps", spec := "fnLaps", unfollowed := true, recurses := true, apart := false, narrowed := true }
def FnLapsUptoSaid : Prop := fnLapsUptoRow.holds Try.pinned (OpenSpec.upto fnLapsSpec)

end Rows
end Go.Proofs.Ytlnpblomnlppiaa
