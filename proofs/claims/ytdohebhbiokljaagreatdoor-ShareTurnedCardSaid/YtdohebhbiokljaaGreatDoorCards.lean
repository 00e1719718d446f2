/-
  DERIVED. GIVEN WITH THE SEED: THE CARDS: each row of YtdohebhbiokljaaGreatDoorRows.lean that lists a variable, with what it lists TIED to the program's text (the seventh form; the later family's looks); each row that meets fmt, with fmt's text TOLD by the authors' own Lean function (tested against real Go, not proved from fmt's source: count such statements apart). THE CARD IS WHAT COUNTS. Prove the row's statement (the work); the ties are given (YtdohebhbiokljaaGreatDoorTie.lean); close each card by the builder's one call (the guide's Derived/Test/ToyasCard.lean, 'card_holds'). Laid BY PROGRAM, IN A SANDBOX (cutbox-door.mjs). By AI agents, Wed Nov 11 2026. No macro, syntax, notation, axiom, sorry.
-/
import Derived.Test.YtdohebhbiokljaaGreatDoorRows
import GoSem.ClaimSeven
namespace Go.Proofs.YtdohebhbiokljaaGreatDoor
namespace Rows

/-- THE TIED CARD OF 'strongroomlaw14.ShareOne'. -/
def shareOneCard : Claim7 := { stood := { row := shareOneRow, standIns := [], harness := (true, "8a8408ccc5be5f7b926171079202f500079050b3d4e2761425aa6c72b3840741"), looks := true }, kinds := [], alts := [], laidByText := true, laidKinds := [.data, .data, .data], laidTests := true, laidLooks := .later }
def ShareOneCardSaid : Prop := Claim7.holds Tryz.pinned (.plain (OpenSpec.ofChange shareOneSpec)) shareOneCard

/-- THE TIED CARD OF 'strongroomlaw14.ShareTurned'. -/
def shareTurnedCard : Claim7 := { stood := { row := shareTurnedRow, standIns := [], harness := (true, "8a8408ccc5be5f7b926171079202f500079050b3d4e2761425aa6c72b3840741"), looks := true }, kinds := [], alts := [], laidByText := true, laidKinds := [.data, .data, .data, .sentinel, .sentinel], laidTests := true, laidLooks := .later }
def ShareTurnedCardSaid : Prop := Claim7.holds Tryz.pinned (.plain (OpenSpec.ofChange shareTurnedSpec)) shareTurnedCard

/-- THE SECOND FORM's CARD OF 'strongroomlaw14.ShareOne'. -/
def shareOneUptoCard : Claim7 := { stood := { row := shareOneUptoRow, standIns := [], harness := (true, "8a8408ccc5be5f7b926171079202f500079050b3d4e2761425aa6c72b3840741"), looks := true }, kinds := [], alts := [], laidByText := true, laidKinds := [.data, .data, .data], laidTests := true, laidLooks := .later }
def ShareOneUptoCardSaid : Prop := Claim7.holds Tryz.pinned (.plain (OpenSpec.upto shareOneSpec)) shareOneUptoCard

/-- THE SECOND FORM's CARD OF 'strongroomlaw14.ShareTurned'. -/
def shareTurnedUptoCard : Claim7 := { stood := { row := shareTurnedUptoRow, standIns := [], harness := (true, "8a8408ccc5be5f7b926171079202f500079050b3d4e2761425aa6c72b3840741"), looks := true }, kinds := [], alts := [], laidByText := true, laidKinds := [.data, .data, .data, .sentinel, .sentinel], laidTests := true, laidLooks := .later }
def ShareTurnedUptoCardSaid : Prop := Claim7.holds Tryz.pinned (.plain (OpenSpec.upto shareTurnedSpec)) shareTurnedUptoCard
end Rows
end Go.Proofs.YtdohebhbiokljaaGreatDoor
