/-
  DERIVED. GIVEN WITH THE SEED: THE CARDS: each row of YtbebgnjapenckaaGreatDoorRows.lean that lists a variable, with what it lists TIED to the program's text (the seventh form; the later family's looks); each row that meets fmt, with fmt's text TOLD by the authors' own Lean function (tested against real Go, not proved from fmt's source: count such statements apart). THE CARD IS WHAT COUNTS. Prove the row's statement (the work); the ties are given (YtbebgnjapenckaaGreatDoorTie.lean); close each card by the builder's one call (the guide's Derived/Test/ToyasCard.lean, 'card_holds'). Laid BY PROGRAM, IN A SANDBOX (cutbox-door.mjs). By AI agents, Wed Nov 11 2026. No macro, syntax, notation, axiom, sorry.
-/
import Derived.Test.YtbebgnjapenckaaGreatDoorRows
import GoSem.ClaimSeven
namespace Go.Proofs.YtbebgnjapenckaaGreatDoor
namespace Rows

/-- THE TIED CARD OF 'strongroomlaw25.PieceNone'. -/
def pieceNoneCard : Claim7 := { stood := { row := pieceNoneRow, standIns := [], harness := (true, "4932e58f4dd5534032c4de0243cd3bb273fae5fcc504acd312fe4a9c9e950e6c"), looks := true }, kinds := [], alts := [], laidByText := true, laidKinds := [.data, .data, .data, .sentinel, .sentinel], laidTests := true, laidLooks := .later }
def PieceNoneCardSaid : Prop := Claim7.holds Tryz.pinned (.plain (OpenSpec.ofChange pieceNoneSpec)) pieceNoneCard

/-- THE SECOND FORM's CARD OF 'strongroomlaw25.PieceNone'. -/
def pieceNoneUptoCard : Claim7 := { stood := { row := pieceNoneUptoRow, standIns := [], harness := (true, "4932e58f4dd5534032c4de0243cd3bb273fae5fcc504acd312fe4a9c9e950e6c"), looks := true }, kinds := [], alts := [], laidByText := true, laidKinds := [.data, .data, .data, .sentinel, .sentinel], laidTests := true, laidLooks := .later }
def PieceNoneUptoCardSaid : Prop := Claim7.holds Tryz.pinned (.plain (OpenSpec.upto pieceNoneSpec)) pieceNoneUptoCard
end Rows
end Go.Proofs.YtbebgnjapenckaaGreatDoor
