/-
  DERIVED. GIVEN WITH THE SEED: THE CARDS: each row of YtdohebhbiokljaaDoorRows.lean that lists a variable, with what it lists TIED to the program's text (the seventh form; the later family's looks); each row that meets fmt, with fmt's text TOLD by the authors' own Lean function (tested against real Go, not proved from fmt's source: count such statements apart). THE CARD IS WHAT COUNTS. Prove the row's statement (the work); the ties are given (YtdohebhbiokljaaDoorTie.lean); close each card by the builder's one call (the guide's Derived/Test/ToyasCard.lean, 'card_holds'). Laid BY PROGRAM, IN A SANDBOX (cutbox-door.mjs). By AI agents, Wed Nov 11 2026. No macro, syntax, notation, axiom, sorry.
-/
import Derived.Test.YtdohebhbiokljaaDoorRows
import GoSem.ClaimSeven
namespace Go.Proofs.YtdohebhbiokljaaDoor
namespace Rows

/-- THE TIED CARD OF 'strongroomlaw14.SharePlaces'. -/
def sharePlacesCard : Claim7 := { stood := { row := sharePlacesRow, standIns := [], harness := (true, "24b5e9ee9fadd5cdce3b2a3b162439326ec546fd317f4d91740c2bdc22ecffa6"), looks := true }, kinds := [], alts := [], laidByText := true, laidKinds := [.data, .data, .data], laidTests := true, laidLooks := .later }
def SharePlacesCardSaid : Prop := Claim7.holds Tryd.pinned (.plain (OpenSpec.ofChange sharePlacesSpec)) sharePlacesCard

/-- THE TIED CARD OF 'strongroomlaw14.ShareNames'. -/
def shareNamesCard : Claim7 := { stood := { row := shareNamesRow, standIns := [], harness := (true, "24b5e9ee9fadd5cdce3b2a3b162439326ec546fd317f4d91740c2bdc22ecffa6"), looks := true }, kinds := [], alts := [], laidByText := true, laidKinds := [.data, .data, .data], laidTests := true, laidLooks := .later }
def ShareNamesCardSaid : Prop := Claim7.holds Tryd.pinned (.plain (OpenSpec.ofChange shareNamesSpec)) shareNamesCard

/-- THE TIED CARD OF 'strongroomlaw13.UebWrite'. -/
def uebWriteCard : Claim7 := { stood := { row := uebWriteRow, standIns := [], harness := (true, "24b5e9ee9fadd5cdce3b2a3b162439326ec546fd317f4d91740c2bdc22ecffa6"), looks := true }, kinds := [], alts := [], laidByText := true, laidKinds := [.data, .data, .data], laidTests := true, laidLooks := .later }
def UebWriteCardSaid : Prop := Claim7.holds Tryd.pinned (.plain (OpenSpec.ofChange uebWriteSpec)) uebWriteCard

/-- THE TIED CARD OF 'strongroomlaw13.UebRead'. -/
def uebReadCard : Claim7 := { stood := { row := uebReadRow, standIns := [], harness := (true, "24b5e9ee9fadd5cdce3b2a3b162439326ec546fd317f4d91740c2bdc22ecffa6"), looks := true }, kinds := [], alts := [], laidByText := true, laidKinds := [.data, .data, .data, .sentinel, .sentinel], laidTests := true, laidLooks := .later }
def UebReadCardSaid : Prop := Claim7.holds Tryd.pinned (.plain (OpenSpec.ofChange uebReadSpec)) uebReadCard

/-- THE TIED CARD OF 'strongroomlaw13.UebBack'. -/
def uebBackCard : Claim7 := { stood := { row := uebBackRow, standIns := [], harness := (true, "24b5e9ee9fadd5cdce3b2a3b162439326ec546fd317f4d91740c2bdc22ecffa6"), looks := true }, kinds := [], alts := [], laidByText := true, laidKinds := [.data, .data, .data, .sentinel, .sentinel], laidTests := true, laidLooks := .later }
def UebBackCardSaid : Prop := Claim7.holds Tryd.pinned (.plain (OpenSpec.ofChange uebBackSpec)) uebBackCard

/-- THE TIED CARD OF 'strongroomlaw14.ShareBack'. -/
def shareBackCard : Claim7 := { stood := { row := shareBackRow, standIns := [], harness := (true, "24b5e9ee9fadd5cdce3b2a3b162439326ec546fd317f4d91740c2bdc22ecffa6"), looks := true }, kinds := [], alts := [], laidByText := true, laidKinds := [.data, .data, .data, .sentinel, .sentinel], laidTests := true, laidLooks := .later }
def ShareBackCardSaid : Prop := Claim7.holds Tryd.pinned (.plain (OpenSpec.ofChange shareBackSpec)) shareBackCard

/-- THE SECOND FORM's CARD OF 'strongroomlaw14.SharePlaces'. -/
def sharePlacesUptoCard : Claim7 := { stood := { row := sharePlacesUptoRow, standIns := [], harness := (true, "24b5e9ee9fadd5cdce3b2a3b162439326ec546fd317f4d91740c2bdc22ecffa6"), looks := true }, kinds := [], alts := [], laidByText := true, laidKinds := [.data, .data, .data], laidTests := true, laidLooks := .later }
def SharePlacesUptoCardSaid : Prop := Claim7.holds Tryd.pinned (.plain (OpenSpec.upto sharePlacesSpec)) sharePlacesUptoCard

/-- THE SECOND FORM's CARD OF 'strongroomlaw14.ShareNames'. -/
def shareNamesUptoCard : Claim7 := { stood := { row := shareNamesUptoRow, standIns := [], harness := (true, "24b5e9ee9fadd5cdce3b2a3b162439326ec546fd317f4d91740c2bdc22ecffa6"), looks := true }, kinds := [], alts := [], laidByText := true, laidKinds := [.data, .data, .data], laidTests := true, laidLooks := .later }
def ShareNamesUptoCardSaid : Prop := Claim7.holds Tryd.pinned (.plain (OpenSpec.upto shareNamesSpec)) shareNamesUptoCard

/-- THE SECOND FORM's CARD OF 'strongroomlaw13.UebWrite'. -/
def uebWriteUptoCard : Claim7 := { stood := { row := uebWriteUptoRow, standIns := [], harness := (true, "24b5e9ee9fadd5cdce3b2a3b162439326ec546fd317f4d91740c2bdc22ecffa6"), looks := true }, kinds := [], alts := [], laidByText := true, laidKinds := [.data, .data, .data], laidTests := true, laidLooks := .later }
def UebWriteUptoCardSaid : Prop := Claim7.holds Tryd.pinned (.plain (OpenSpec.upto uebWriteSpec)) uebWriteUptoCard

/-- THE SECOND FORM's CARD OF 'strongroomlaw13.UebRead'. -/
def uebReadUptoCard : Claim7 := { stood := { row := uebReadUptoRow, standIns := [], harness := (true, "24b5e9ee9fadd5cdce3b2a3b162439326ec546fd317f4d91740c2bdc22ecffa6"), looks := true }, kinds := [], alts := [], laidByText := true, laidKinds := [.data, .data, .data, .sentinel, .sentinel], laidTests := true, laidLooks := .later }
def UebReadUptoCardSaid : Prop := Claim7.holds Tryd.pinned (.plain (OpenSpec.upto uebReadSpec)) uebReadUptoCard

/-- THE SECOND FORM's CARD OF 'strongroomlaw13.UebBack'. -/
def uebBackUptoCard : Claim7 := { stood := { row := uebBackUptoRow, standIns := [], harness := (true, "24b5e9ee9fadd5cdce3b2a3b162439326ec546fd317f4d91740c2bdc22ecffa6"), looks := true }, kinds := [], alts := [], laidByText := true, laidKinds := [.data, .data, .data, .sentinel, .sentinel], laidTests := true, laidLooks := .later }
def UebBackUptoCardSaid : Prop := Claim7.holds Tryd.pinned (.plain (OpenSpec.upto uebBackSpec)) uebBackUptoCard

/-- THE SECOND FORM's CARD OF 'strongroomlaw14.ShareBack'. -/
def shareBackUptoCard : Claim7 := { stood := { row := shareBackUptoRow, standIns := [], harness := (true, "24b5e9ee9fadd5cdce3b2a3b162439326ec546fd317f4d91740c2bdc22ecffa6"), looks := true }, kinds := [], alts := [], laidByText := true, laidKinds := [.data, .data, .data, .sentinel, .sentinel], laidTests := true, laidLooks := .later }
def ShareBackUptoCardSaid : Prop := Claim7.holds Tryd.pinned (.plain (OpenSpec.upto shareBackSpec)) shareBackUptoCard
end Rows
end Go.Proofs.YtdohebhbiokljaaDoor
