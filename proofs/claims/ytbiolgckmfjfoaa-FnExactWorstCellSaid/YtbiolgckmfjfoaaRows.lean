/-
  No cell of these rows narrows 'for every input' (looked for: loops, veiled, ifaces, maps, wideKeys, modest, calm, conditions, laid).
  DERIVED. THE GIVEN ROWS OF THIS SEAT. 12 by the template 'for every input the law returns true; each argument reads behind the call as it read before'; 0 by the template 'total and deterministic' (their statements: YtbiolgckmfjfoaaTotals.lean).
  GIVEN WITH THE SEED: the statements are not yours to turn. If you find one false, say at which input.
  Laid BY PROGRAM, IN A SANDBOX (cutbox-rows.mjs): the forced cells as the released guide's own fill.sh prints them over the translation 7e47a8cf7a8de85a… (all of the seat's roots in one cut). By AI agents, Wed Nov 11 2026. No macro, syntax, notation, axiom, sorry.
-/
import Derived.Test.YtbiolgckmfjfoaaChecked
import GoSem.Claim
import GoSem.ClaimJoined
import GoSem.ClaimMapViews
import Derived.JoinedTies
import Derived.KernelRfl
namespace Go.Proofs.Ytbiolgckmfjfoaa
/- THE CELL 'sum', in the pinned program and in every row, IS THE sha256 OF THE DUMP (.gsa) THAT YtbiolgckmfjfoaaProg.lean LOADS. Nothing in Lean hashes anything: it is a label: what it is worth is what the hold of that sum in a sandbox is worth. -/
noncomputable def Try.pinned : Pinned := { name := "ytbiolgckmfjfoaa", sum := "7e47a8cf7a8de85a4deee1560dbc90f3bd6029aea23855f78b5f147ca4f5e34b", checked := Try.checked }
namespace Rows
def none {H : Type} : Left H := { results := [], args := [] }

/-- 'laws.FnExactValidRain': WHATEVER THE INPUT: true; the input reads as it did. -/
def fnExactValidRainSpec : ChangeSpec := { name := "fnExactValidRain", fn := fun _ => fun
  | [d1, d2] => { results := [.lit (.bool true)], args := [d1, d2] }
  | _ => none }
def fnExactValidRainRow : OpenClaim := { program := "ytbiolgckmfjfoaa", sum := "7e47a8cf7a8de85a4deee1560dbc90f3bd6029aea23855f78b5f147ca4f5e34b", func := "loop.example/g01376/laws.FnExactValidRain", spec := "fnExactValidRain", plainKeys := false, apart := false }
def FnExactValidRainSaid : Prop := fnExactValidRainRow.holds Try.pinned (OpenSpec.ofChange fnExactValidRainSpec)

/-- ITS FALSE NEIGHBOUR: 'it returns false'. Refute it at one input. -/
def fnExactValidRainWrong : ChangeSpec := { name := "fnExactValidRain", fn := fun _ => fun
  | [d1, d2] => { results := [.lit (.bool false)], args := [d1, d2] }
  | _ => none }
def FnExactValidRainWrongFalsely : Prop := fnExactValidRainRow.holds Try.pinned (OpenSpec.ofChange fnExactValidRainWrong)

/-- 'laws.FnExactTileAt': WHATEVER THE INPUT: true; the input reads as it did. -/
def fnExactTileAtSpec : ChangeSpec := { name := "fnExactTileAt", fn := fun _ => fun
  | [d1, d2, d3] => { results := [.lit (.bool true)], args := [d1, d2, d3] }
  | _ => none }
def fnExactTileAtRow : OpenClaim := { program := "ytbiolgckmfjfoaa", sum := "7e47a8cf7a8de85a4deee1560dbc90f3bd6029aea23855f78b5f147ca4f5e34b", func := "loop.example/g01376/laws.FnExactTileAt", spec := "fnExactTileAt", plainKeys := false, apart := false }
def FnExactTileAtSaid : Prop := fnExactTileAtRow.holds Try.pinned (OpenSpec.ofChange fnExactTileAtSpec)

/-- ITS FALSE NEIGHBOUR: 'it returns false'. Refute it at one input. -/
def fnExactTileAtWrong : ChangeSpec := { name := "fnExactTileAt", fn := fun _ => fun
  | [d1, d2, d3] => { results := [.lit (.bool false)], args := [d1, d2, d3] }
  | _ => none }
def FnExactTileAtWrongFalsely : Prop := fnExactTileAtRow.holds Try.pinned (OpenSpec.ofChange fnExactTileAtWrong)

/-- 'laws.FnExactRainSum': WHATEVER THE INPUT: true; the input reads as it did. -/
def fnExactRainSumSpec : ChangeSpec := { name := "fnExactRainSum", fn := fun _ => fun
  | [d1, d2] => { results := [.lit (.bool true)], args := [d1, d2] }
  | _ => none }
def fnExactRainSumRow : OpenClaim := { program := "ytbiolgckmfjfoaa", sum := "7e47a8cf7a8de85a4deee1560dbc90f3bd6029aea23855f78b5f147ca4f5e34b", func := "loop.example/g01376/laws.FnExactRainSum", spec := "fnExactRainSum", plainKeys := false, apart := false }
def FnExactRainSumSaid : Prop := fnExactRainSumRow.holds Try.pinned (OpenSpec.ofChange fnExactRainSumSpec)

/-- ITS FALSE NEIGHBOUR: 'it returns false'. Refute it at one input. -/
def fnExactRainSumWrong : ChangeSpec := { name := "fnExactRainSum", fn := fun _ => fun
  | [d1, d2] => { results := [.lit (.bool false)], args := [d1, d2] }
  | _ => none }
def FnExactRainSumWrongFalsely : Prop := fnExactRainSumRow.holds Try.pinned (OpenSpec.ofChange fnExactRainSumWrong)

/-- 'laws.FnExactEvenRain': WHATEVER THE INPUT: true; the input reads as it did. -/
def fnExactEvenRainSpec : ChangeSpec := { name := "fnExactEvenRain", fn := fun _ => fun
  | [d1, d2] => { results := [.lit (.bool true)], args := [d1, d2] }
  | _ => none }
def fnExactEvenRainRow : OpenClaim := { program := "ytbiolgckmfjfoaa", sum := "7e47a8cf7a8de85a4deee1560dbc90f3bd6029aea23855f78b5f147ca4f5e34b", func := "loop.example/g01376/laws.FnExactEvenRain", spec := "fnExactEvenRain", plainKeys := false, apart := false }
def FnExactEvenRainSaid : Prop := fnExactEvenRainRow.holds Try.pinned (OpenSpec.ofChange fnExactEvenRainSpec)

/-- ITS FALSE NEIGHBOUR: 'it returns false'. Refute it at one input. -/
def fnExactEvenRainWrong : ChangeSpec := { name := "fnExactEvenRain", fn := fun _ => fun
  | [d1, d2] => { results := [.lit (.bool false)], args := [d1, d2] }
  | _ => none }
def FnExactEvenRainWrongFalsely : Prop := fnExactEvenRainRow.holds Try.pinned (OpenSpec.ofChange fnExactEvenRainWrong)

/-- 'laws.FnExactFirstDrip': WHATEVER THE INPUT: true; the input reads as it did. -/
def fnExactFirstDripSpec : ChangeSpec := { name := "fnExactFirstDrip", fn := fun _ => fun
  | [d1, d2] => { results := [.lit (.bool true)], args := [d1, d2] }
  | _ => none }
def fnExactFirstDripRow : OpenClaim := { program := "ytbiolgckmfjfoaa", sum := "7e47a8cf7a8de85a4deee1560dbc90f3bd6029aea23855f78b5f147ca4f5e34b", func := "loop.example/g01376/laws.FnExactFirstDrip", spec := "fnExactFirstDrip", plainKeys := false, apart := false }
def FnExactFirstDripSaid : Prop := fnExactFirstDripRow.holds Try.pinned (OpenSpec.ofChange fnExactFirstDripSpec)

/-- ITS FALSE NEIGHBOUR: 'it returns false'. Refute it at one input. -/
def fnExactFirstDripWrong : ChangeSpec := { name := "fnExactFirstDrip", fn := fun _ => fun
  | [d1, d2] => { results := [.lit (.bool false)], args := [d1, d2] }
  | _ => none }
def FnExactFirstDripWrongFalsely : Prop := fnExactFirstDripRow.holds Try.pinned (OpenSpec.ofChange fnExactFirstDripWrong)

/-- 'laws.FnExactDripSum': WHATEVER THE INPUT: true; the input reads as it did. -/
def fnExactDripSumSpec : ChangeSpec := { name := "fnExactDripSum", fn := fun _ => fun
  | [d1, d2] => { results := [.lit (.bool true)], args := [d1, d2] }
  | _ => none }
def fnExactDripSumRow : OpenClaim := { program := "ytbiolgckmfjfoaa", sum := "7e47a8cf7a8de85a4deee1560dbc90f3bd6029aea23855f78b5f147ca4f5e34b", func := "loop.example/g01376/laws.FnExactDripSum", spec := "fnExactDripSum", unfollowed := true, recurses := true, plainKeys := false, apart := false }
def FnExactDripSumSaid : Prop := fnExactDripSumRow.holds Try.pinned (OpenSpec.ofChange fnExactDripSumSpec)

/-- ITS FALSE NEIGHBOUR: 'it returns false'. Refute it at one input. -/
def fnExactDripSumWrong : ChangeSpec := { name := "fnExactDripSum", fn := fun _ => fun
  | [d1, d2] => { results := [.lit (.bool false)], args := [d1, d2] }
  | _ => none }
def FnExactDripSumWrongFalsely : Prop := fnExactDripSumRow.holds Try.pinned (OpenSpec.ofChange fnExactDripSumWrong)

/-- 'laws.FnExactRunDown': WHATEVER THE INPUT: true; the input reads as it did. -/
def fnExactRunDownSpec : ChangeSpec := { name := "fnExactRunDown", fn := fun _ => fun
  | [d1, d2] => { results := [.lit (.bool true)], args := [d1, d2] }
  | _ => none }
def fnExactRunDownRow : OpenClaim := { program := "ytbiolgckmfjfoaa", sum := "7e47a8cf7a8de85a4deee1560dbc90f3bd6029aea23855f78b5f147ca4f5e34b", func := "loop.example/g01376/laws.FnExactRunDown", spec := "fnExactRunDown", plainKeys := false, apart := false }
def FnExactRunDownSaid : Prop := fnExactRunDownRow.holds Try.pinned (OpenSpec.ofChange fnExactRunDownSpec)

/-- ITS FALSE NEIGHBOUR: 'it returns false'. Refute it at one input. -/
def fnExactRunDownWrong : ChangeSpec := { name := "fnExactRunDown", fn := fun _ => fun
  | [d1, d2] => { results := [.lit (.bool false)], args := [d1, d2] }
  | _ => none }
def FnExactRunDownWrongFalsely : Prop := fnExactRunDownRow.holds Try.pinned (OpenSpec.ofChange fnExactRunDownWrong)

/-- 'laws.FnExactCourseDrips': WHATEVER THE INPUT: true; the input reads as it did. -/
def fnExactCourseDripsSpec : ChangeSpec := { name := "fnExactCourseDrips", fn := fun _ => fun
  | [d1, d2] => { results := [.lit (.bool true)], args := [d1, d2] }
  | _ => none }
def fnExactCourseDripsRow : OpenClaim := { program := "ytbiolgckmfjfoaa", sum := "7e47a8cf7a8de85a4deee1560dbc90f3bd6029aea23855f78b5f147ca4f5e34b", func := "loop.example/g01376/laws.FnExactCourseDrips", spec := "fnExactCourseDrips", unfollowed := true, recurses := true, plainKeys := false, apart := false }
def FnExactCourseDripsSaid : Prop := fnExactCourseDripsRow.holds Try.pinned (OpenSpec.ofChange fnExactCourseDripsSpec)

/-- ITS FALSE NEIGHBOUR: 'it returns false'. Refute it at one input. -/
def fnExactCourseDripsWrong : ChangeSpec := { name := "fnExactCourseDrips", fn := fun _ => fun
  | [d1, d2] => { results := [.lit (.bool false)], args := [d1, d2] }
  | _ => none }
def FnExactCourseDripsWrongFalsely : Prop := fnExactCourseDripsRow.holds Try.pinned (OpenSpec.ofChange fnExactCourseDripsWrong)

/-- 'laws.FnExactCellDrips': WHATEVER THE INPUT: true; the input reads as it did. -/
def fnExactCellDripsSpec : ChangeSpec := { name := "fnExactCellDrips", fn := fun _ => fun
  | [d1, d2] => { results := [.lit (.bool true)], args := [d1, d2] }
  | _ => none }
def fnExactCellDripsRow : OpenClaim := { program := "ytbiolgckmfjfoaa", sum := "7e47a8cf7a8de85a4deee1560dbc90f3bd6029aea23855f78b5f147ca4f5e34b", func := "loop.example/g01376/laws.FnExactCellDrips", spec := "fnExactCellDrips", unfollowed := true, recurses := true, plainKeys := false, apart := false }
def FnExactCellDripsSaid : Prop := fnExactCellDripsRow.holds Try.pinned (OpenSpec.ofChange fnExactCellDripsSpec)

/-- ITS FALSE NEIGHBOUR: 'it returns false'. Refute it at one input. -/
def fnExactCellDripsWrong : ChangeSpec := { name := "fnExactCellDrips", fn := fun _ => fun
  | [d1, d2] => { results := [.lit (.bool false)], args := [d1, d2] }
  | _ => none }
def FnExactCellDripsWrongFalsely : Prop := fnExactCellDripsRow.holds Try.pinned (OpenSpec.ofChange fnExactCellDripsWrong)

/-- 'laws.FnExactWorstCell': WHATEVER THE INPUT: true; the input reads as it did. -/
def fnExactWorstCellSpec : ChangeSpec := { name := "fnExactWorstCell", fn := fun _ => fun
  | [d1, d2] => { results := [.lit (.bool true)], args := [d1, d2] }
  | _ => none }
def fnExactWorstCellRow : OpenClaim := { program := "ytbiolgckmfjfoaa", sum := "7e47a8cf7a8de85a4deee1560dbc90f3bd6029aea23855f78b5f147ca4f5e34b", func := "loop.example/g01376/laws.FnExactWorstCell", spec := "fnExactWorstCell", unfollowed := true, recurses := true, plainKeys := false, apart := false }
def FnExactWorstCellSaid : Prop := fnExactWorstCellRow.holds Try.pinned (OpenSpec.ofChange fnExactWorstCellSpec)

/-- ITS FALSE NEIGHBOUR: 'it returns false'. Refute it at one input. -/
def fnExactWorstCellWrong : ChangeSpec := { name := "fnExactWorstCell", fn := fun _ => fun
  | [d1, d2] => { results := [.lit (.bool false)], args := [d1, d2] }
  | _ => none }
def FnExactWorstCellWrongFalsely : Prop := fnExactWorstCellRow.holds Try.pinned (OpenSpec.ofChange fnExactWorstCellWrong)

/-- 'laws.FnExactPailsFor': WHATEVER THE INPUT: true; the input reads as it did. -/
def fnExactPailsForSpec : ChangeSpec := { name := "fnExactPailsFor", fn := fun _ => fun
  | [d1, d2, d3] => { results := [.lit (.bool true)], args := [d1, d2, d3] }
  | _ => none }
def fnExactPailsForRow : OpenClaim := { program := "ytbiolgckmfjfoaa", sum := "7e47a8cf7a8de85a4deee1560dbc90f3bd6029aea23855f78b5f147ca4f5e34b", func := "loop.example/g01376/laws.FnExactPailsFor", spec := "fnExactPailsFor", unfollowed := true, recurses := true, plainKeys := false, apart := false }
def FnExactPailsForSaid : Prop := fnExactPailsForRow.holds Try.pinned (OpenSpec.ofChange fnExactPailsForSpec)

/-- ITS FALSE NEIGHBOUR: 'it returns false'. Refute it at one input. -/
def fnExactPailsForWrong : ChangeSpec := { name := "fnExactPailsFor", fn := fun _ => fun
  | [d1, d2, d3] => { results := [.lit (.bool false)], args := [d1, d2, d3] }
  | _ => none }
def FnExactPailsForWrongFalsely : Prop := fnExactPailsForRow.holds Try.pinned (OpenSpec.ofChange fnExactPailsForWrong)

/-- 'laws.FnExactSaveOf': WHATEVER THE INPUT: true; the input reads as it did. -/
def fnExactSaveOfSpec : ChangeSpec := { name := "fnExactSaveOf", fn := fun _ => fun
  | [d1, d2, d3] => { results := [.lit (.bool true)], args := [d1, d2, d3] }
  | _ => none }
def fnExactSaveOfRow : OpenClaim := { program := "ytbiolgckmfjfoaa", sum := "7e47a8cf7a8de85a4deee1560dbc90f3bd6029aea23855f78b5f147ca4f5e34b", func := "loop.example/g01376/laws.FnExactSaveOf", spec := "fnExactSaveOf", unfollowed := true, recurses := true, plainKeys := false, apart := false }
def FnExactSaveOfSaid : Prop := fnExactSaveOfRow.holds Try.pinned (OpenSpec.ofChange fnExactSaveOfSpec)

/-- ITS FALSE NEIGHBOUR: 'it returns false'. Refute it at one input. -/
def fnExactSaveOfWrong : ChangeSpec := { name := "fnExactSaveOf", fn := fun _ => fun
  | [d1, d2, d3] => { results := [.lit (.bool false)], args := [d1, d2, d3] }
  | _ => none }
def FnExactSaveOfWrongFalsely : Prop := fnExactSaveOfRow.holds Try.pinned (OpenSpec.ofChange fnExactSaveOfWrong)

/- THE SECOND FORM. 'bulk': how many values and letters a reading holds, each counted each time it is reached (what is shared counts as often as it is met; a slice's spare places count too). A statement '..UptoSaid' is the law's where the arguments, and the package variables that the reading takes, are together of bulk at most 1048576: NARROWER than '..Said'. Prove '..Said' where nothing that the law and all that it calls make is longer than what came in: it says more and counts as full. Else prove '..UptoSaid'. A law counts once. -/
mutual
def uptoBulk {H : Type} : DataW H → Nat
  | .lit (.string bytes) => bytes.length + 1
  | .lit _ => 1
  | .nil => 1
  | .ptr d => uptoBulk d + 1
  | .slice elems spare => uptoBulkAll elems + uptoBulkAll spare + 1
  | .agg parts => uptoBulkAll parts + 1
  | .iface _ d => uptoBulk d + 1
  | .map entries => uptoBulkEntries entries + 1
  | .held _ => 1
def uptoBulkAll {H : Type} : List (DataW H) → Nat
  | [] => 0
  | d :: r => uptoBulk d + uptoBulkAll r
def uptoBulkEntries {H : Type} : List (Lit × DataW H) → Nat
  | [] => 0
  | x :: r => uptoBulkEntry x + uptoBulkEntries r
def uptoBulkEntry {H : Type} : Lit × DataW H → Nat
  | (.string bytes, d) => bytes.length + uptoBulk d + 1
  | (_, d) => uptoBulk d + 1
 end
def uptoSmall : (H : Type) → List (DataW H) → Bool := fun _ ds => decide (uptoBulkAll ds ≤ 1048576)
def OpenSpec.upto (s : _root_.Go.ChangeSpec) : _root_.Go.OpenSpec := { _root_.Go.OpenSpec.ofChange s with cond := some uptoSmall }

/-- 'laws.FnExactValidRain', WHERE WHAT IT READS IS OF BULK AT MOST 1048576: true; the input reads as it did. -/
def fnExactValidRainUptoRow : OpenClaim := { program := "ytbiolgckmfjfoaa", sum := "7e47a8cf7a8de85a4deee1560dbc90f3bd6029aea23855f78b5f147ca4f5e34b", func := "loop.example/g01376/laws.FnExactValidRain", spec := "fnExactValidRain", plainKeys := false, apart := false, narrowed := true }
def FnExactValidRainUptoSaid : Prop := fnExactValidRainUptoRow.holds Try.pinned (OpenSpec.upto fnExactValidRainSpec)

/-- 'laws.FnExactTileAt', WHERE WHAT IT READS IS OF BULK AT MOST 1048576: true; the input reads as it did. -/
def fnExactTileAtUptoRow : OpenClaim := { program := "ytbiolgckmfjfoaa", sum := "7e47a8cf7a8de85a4deee1560dbc90f3bd6029aea23855f78b5f147ca4f5e34b", func := "loop.example/g01376/laws.FnExactTileAt", spec := "fnExactTileAt", plainKeys := false, apart := false, narrowed := true }
def FnExactTileAtUptoSaid : Prop := fnExactTileAtUptoRow.holds Try.pinned (OpenSpec.upto fnExactTileAtSpec)

/-- 'laws.FnExactRainSum', WHERE WHAT IT READS IS OF BULK AT MOST 1048576: true; the input reads as it did. -/
def fnExactRainSumUptoRow : OpenClaim := { program := "ytbiolgckmfjfoaa", sum := "7e47a8cf7a8de85a4deee1560dbc90f3bd6029aea23855f78b5f147ca4f5e34b", func := "loop.example/g01376/laws.FnExactRainSum", spec := "fnExactRainSum", plainKeys := false, apart := false, narrowed := true }
def FnExactRainSumUptoSaid : Prop := fnExactRainSumUptoRow.holds Try.pinned (OpenSpec.upto fnExactRainSumSpec)

/-- 'laws.FnExactEvenRain', WHERE WHAT IT READS IS OF BULK AT MOST 1048576: true; the input reads as it did. -/
def fnExactEvenRainUptoRow : OpenClaim := { program := "ytbiolgckmfjfoaa", sum := "7e47a8cf7a8de85a4deee1560dbc90f3bd6029aea23855f78b5f147ca4f5e34b", func := "loop.example/g01376/laws.FnExactEvenRain", spec := "fnExactEvenRain", plainKeys := false, apart := false, narrowed := true }
def FnExactEvenRainUptoSaid : Prop := fnExactEvenRainUptoRow.holds Try.pinned (OpenSpec.upto fnExactEvenRainSpec)

/-- 'laws.FnExactFirstDrip', WHERE WHAT IT READS IS OF BULK AT MOST 1048576: true; the input reads as it did. -/
def fnExactFirstDripUptoRow : OpenClaim := { program := "ytbiolgckmfjfoaa", sum := "7e47a8cf7a8de85a4deee1560dbc90f3bd6029aea23855f78b5f147ca4f5e34b", func := "loop.example/g01376/laws.FnExactFirstDrip", spec := "fnExactFirstDrip", plainKeys := false, apart := false, narrowed := true }
def FnExactFirstDripUptoSaid : Prop := fnExactFirstDripUptoRow.holds Try.pinned (OpenSpec.upto fnExactFirstDripSpec)

/-- 'laws.FnExactDripSum', WHERE WHAT IT READS IS OF BULK AT MOST 1048576: true; the input reads as it did. -/
def fnExactDripSumUptoRow : OpenClaim := { program := "ytbiolgckmfjfoaa", sum := "7e47a8cf7a8de85a4deee1560dbc90f3bd6029aea23855f78b5f147ca4f5e34b", func := "loop.example/g01376/laws.FnExactDripSum", spec := "fnExactDripSum", unfollowed := true, recurses := true, plainKeys := false, apart := false, narrowed := true }
def FnExactDripSumUptoSaid : Prop := fnExactDripSumUptoRow.holds Try.pinned (OpenSpec.upto fnExactDripSumSpec)

/-- 'laws.FnExactRunDown', WHERE WHAT IT READS IS OF BULK AT MOST 1048576: true; the input reads as it did. -/
def fnExactRunDownUptoRow : OpenClaim := { program := "ytbiolgckmfjfoaa", sum := "7e47a8cf7a8de85a4deee1560dbc90f3bd6029aea23855f78b5f147ca4f5e34b", func := "loop.example/g01376/laws.FnExactRunDown", spec := "fnExactRunDown", plainKeys := false, apart := false, narrowed := true }
def FnExactRunDownUptoSaid : Prop := fnExactRunDownUptoRow.holds Try.pinned (OpenSpec.upto fnExactRunDownSpec)

/-- 'laws.FnExactCourseDrips', WHERE WHAT IT READS IS OF BULK AT MOST 1048576: true; the input reads as it did. -/
def fnExactCourseDripsUptoRow : OpenClaim := { program := "ytbiolgckmfjfoaa", sum := "7e47a8cf7a8de85a4deee1560dbc90f3bd6029aea23855f78b5f147ca4f5e34b", func := "loop.example/g01376/laws.FnExactCourseDrips", spec := "fnExactCourseDrips", unfollowed := true, recurses := true, plainKeys := false, apart := false, narrowed := true }
def FnExactCourseDripsUptoSaid : Prop := fnExactCourseDripsUptoRow.holds Try.pinned (OpenSpec.upto fnExactCourseDripsSpec)

/-- 'laws.FnExactCellDrips', WHERE WHAT IT READS IS OF BULK AT MOST 1048576: true; the input reads as it did. -/
def fnExactCellDripsUptoRow : OpenClaim := { program := "ytbiolgckmfjfoaa", sum := "7e47a8cf7a8de85a4deee1560dbc90f3bd6029aea23855f78b5f147ca4f5e34b", func := "loop.example/g01376/laws.FnExactCellDrips", spec := "fnExactCellDrips", unfollowed := true, recurses := true, plainKeys := false, apart := false, narrowed := true }
def FnExactCellDripsUptoSaid : Prop := fnExactCellDripsUptoRow.holds Try.pinned (OpenSpec.upto fnExactCellDripsSpec)

/-- 'laws.FnExactWorstCell', WHERE WHAT IT READS IS OF BULK AT MOST 1048576: true; the input reads as it did. -/
def fnExactWorstCellUptoRow : OpenClaim := { program := "ytbiolgckmfjfoaa", sum := "7e47a8cf7a8de85a4deee1560dbc90f3bd6029aea23855f78b5f147ca4f5e34b", func := "loop.example/g01376/laws.FnExactWorstCell", spec := "fnExactWorstCell", unfollowed := true, recurses := true, plainKeys := false, apart := false, narrowed := true }
def FnExactWorstCellUptoSaid : Prop := fnExactWorstCellUptoRow.holds Try.pinned (OpenSpec.upto fnExactWorstCellSpec)

/-- 'laws.FnExactPailsFor', WHERE WHAT IT READS IS OF BULK AT MOST 1048576: true; the input reads as it did. -/
def fnExactPailsForUptoRow : OpenClaim := { program := "ytbiolgckmfjfoaa", sum := "7e47a8cf7a8de85a4deee1560dbc90f3bd6029aea23855f78b5f147ca4f5e34b", func := "loop.example/g01376/laws.FnExactPailsFor", spec := "fnExactPailsFor", unfollowed := true, recurses := true, plainKeys := false, apart := false, narrowed := true }
def FnExactPailsForUptoSaid : Prop := fnExactPailsForUptoRow.holds Try.pinned (OpenSpec.upto fnExactPailsForSpec)

/-- 'laws.FnExactSaveOf', WHERE WHAT IT READS IS OF BULK AT MOST 1048576: true; the input reads as it did. -/
def fnExactSaveOfUptoRow : OpenClaim := { program := "ytbiolgckmfjfoaa", sum := "7e47a8cf7a8de85a4deee1560dbc90f3bd6029aea23855f78b5f147ca4f5e34b", func := "loop.example/g01376/laws.FnExactSaveOf", spec := "fnExactSaveOf", unfollowed := true, recurses := true, plainKeys := false, apart := false, narrowed := true }
def FnExactSaveOfUptoSaid : Prop := fnExactSaveOfUptoRow.holds Try.pinned (OpenSpec.upto fnExactSaveOfSpec)

end Rows
end Go.Proofs.Ytbiolgckmfjfoaa
