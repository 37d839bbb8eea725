/-
  DERIVED. GIVEN WITH THE SEED: THE CARDS: each row of YthdnamhilcjnhaaDoorRows.lean that lists a variable, with what it lists TIED to the program's text (the seventh form; the later family's looks); each row that meets fmt, with fmt's text TOLD by the authors' own Lean function (tested against real Go, not proved from fmt's source: count such statements apart). THE CARD IS WHAT COUNTS. Prove the row's statement (the work); the ties are given (YthdnamhilcjnhaaDoorTie.lean); close each card by the builder's one call (the guide's Derived/Test/ToyasCard.lean, 'card_holds'). Laid BY PROGRAM, IN A SANDBOX (cutbox-door.mjs). By AI agents, Wed Nov 11 2026. No macro, syntax, notation, axiom, sorry.
-/
import Derived.Test.YthdnamhilcjnhaaDoorRows
import GoSem.ClaimSeven
namespace Go.Proofs.YthdnamhilcjnhaaDoor
namespace Rows

/-- THE TIED CARD OF 'laws.FnExactReadPieces'. -/
def fnExactReadPiecesCard : Claim7 := { stood := { row := fnExactReadPiecesRow, standIns := [], harness := (true, "4467808140852e1a3e2946dd009af7a0325da70a5ca0d2e69095395b2966d1ad"), looks := false }, kinds := [], alts := [], laidByText := true, laidKinds := [.data, .data, .data, .data, .pinned], laidTests := true, laidLooks := .later }
def FnExactReadPiecesCardSaid : Prop := Claim7.holds Tryd.pinned (.plain (OpenSpec.ofChange fnExactReadPiecesSpec)) fnExactReadPiecesCard

/-- THE SECOND FORM's CARD OF 'laws.FnExactReadPieces'. -/
def fnExactReadPiecesUptoCard : Claim7 := { stood := { row := fnExactReadPiecesUptoRow, standIns := [], harness := (true, "4467808140852e1a3e2946dd009af7a0325da70a5ca0d2e69095395b2966d1ad"), looks := false }, kinds := [], alts := [], laidByText := true, laidKinds := [.data, .data, .data, .data, .pinned], laidTests := true, laidLooks := .later }
def FnExactReadPiecesUptoCardSaid : Prop := Claim7.holds Tryd.pinned (.plain (OpenSpec.upto fnExactReadPiecesSpec)) fnExactReadPiecesUptoCard
end Rows
end Go.Proofs.YthdnamhilcjnhaaDoor
