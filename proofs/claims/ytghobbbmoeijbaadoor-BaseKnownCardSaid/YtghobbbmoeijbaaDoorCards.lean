/-
  DERIVED. GIVEN WITH THE SEED: THE CARDS: each row of YtghobbbmoeijbaaDoorRows.lean that lists a variable, with what it lists TIED to the program's text (the seventh form; the later family's looks); each row that meets fmt, with fmt's text TOLD by the authors' own Lean function (tested against real Go, not proved from fmt's source: count such statements apart). THE CARD IS WHAT COUNTS. Prove the row's statement (the work); the ties are given (YtghobbbmoeijbaaDoorTie.lean); close each card by the builder's one call (the guide's Derived/Test/ToyasCard.lean, 'card_holds'). Laid BY PROGRAM, IN A SANDBOX (cutbox-door.mjs). By AI agents, Wed Nov 11 2026. No macro, syntax, notation, axiom, sorry.
-/
import Derived.Test.YtghobbbmoeijbaaDoorRows
import GoSem.ClaimSeven
namespace Go.Proofs.YtghobbbmoeijbaaDoor
namespace Rows

/-- THE TIED CARD OF 'strongroomlaw10.BaseFields'. -/
def baseFieldsCard : Claim7 := { stood := { row := baseFieldsRow, standIns := [], harness := (true, "6d57a4f5f84815dfca5d8a99f48a3a0b30004e7ddc5c002f1e1a6c6a60613bf1"), looks := true }, kinds := [], alts := [], laidByText := true, laidKinds := [.data, .pinned], laidTests := true, laidLooks := .later }
def BaseFieldsCardSaid : Prop := Claim7.holds Tryd.pinned (.plain (OpenSpec.ofChange baseFieldsSpec)) baseFieldsCard

/-- THE TIED CARD OF 'strongroomlaw10.BaseFieldsBack'. -/
def baseFieldsBackCard : Claim7 := { stood := { row := baseFieldsBackRow, standIns := [], harness := (true, "6d57a4f5f84815dfca5d8a99f48a3a0b30004e7ddc5c002f1e1a6c6a60613bf1"), looks := true }, kinds := [], alts := [], laidByText := true, laidKinds := [.data, .pinned], laidTests := true, laidLooks := .later }
def BaseFieldsBackCardSaid : Prop := Claim7.holds Tryd.pinned (.plain (OpenSpec.ofChange baseFieldsBackSpec)) baseFieldsBackCard

/-- THE TIED CARD OF 'strongroomlaw10.BaseNumber'. -/
def baseNumberCard : Claim7 := { stood := { row := baseNumberRow, standIns := [], harness := (true, "6d57a4f5f84815dfca5d8a99f48a3a0b30004e7ddc5c002f1e1a6c6a60613bf1"), looks := true }, kinds := [], alts := [], laidByText := true, laidKinds := [.data, .data, .data, .sentinel, .sentinel], laidTests := true, laidLooks := .later }
def BaseNumberCardSaid : Prop := Claim7.holds Tryd.pinned (.plain (OpenSpec.ofChange baseNumberSpec)) baseNumberCard

/-- THE TIED CARD OF 'strongroomlaw10.BaseOne'. -/
def baseOneCard : Claim7 := { stood := { row := baseOneRow, standIns := [], harness := (true, "6d57a4f5f84815dfca5d8a99f48a3a0b30004e7ddc5c002f1e1a6c6a60613bf1"), looks := true }, kinds := [], alts := [], laidByText := true, laidKinds := [.data, .data, .data, .sentinel, .sentinel], laidTests := true, laidLooks := .later }
def BaseOneCardSaid : Prop := Claim7.holds Tryd.pinned (.plain (OpenSpec.ofChange baseOneSpec)) baseOneCard

/-- THE TIED CARD OF 'strongroomlaw10.BaseBack'. -/
def baseBackCard : Claim7 := { stood := { row := baseBackRow, standIns := [], harness := (true, "6d57a4f5f84815dfca5d8a99f48a3a0b30004e7ddc5c002f1e1a6c6a60613bf1"), looks := true }, kinds := [], alts := [], laidByText := true, laidKinds := [.data, .data, .data, .sentinel, .sentinel], laidTests := true, laidLooks := .later }
def BaseBackCardSaid : Prop := Claim7.holds Tryd.pinned (.plain (OpenSpec.ofChange baseBackSpec)) baseBackCard

/-- THE TIED CARD OF 'strongroomlaw10.BaseKnown'. -/
def baseKnownCard : Claim7 := { stood := { row := baseKnownRow, standIns := [], harness := (true, "6d57a4f5f84815dfca5d8a99f48a3a0b30004e7ddc5c002f1e1a6c6a60613bf1"), looks := true }, kinds := [], alts := [], laidByText := true, laidKinds := [.data, .data, .data, .data, .sentinel, .sentinel, .pinned], laidTests := true, laidLooks := .later }
def BaseKnownCardSaid : Prop := Claim7.holds Tryd.pinned (.plain (OpenSpec.ofChange baseKnownSpec)) baseKnownCard

/-- THE SECOND FORM's CARD OF 'strongroomlaw10.BaseFields'. -/
def baseFieldsUptoCard : Claim7 := { stood := { row := baseFieldsUptoRow, standIns := [], harness := (true, "6d57a4f5f84815dfca5d8a99f48a3a0b30004e7ddc5c002f1e1a6c6a60613bf1"), looks := true }, kinds := [], alts := [], laidByText := true, laidKinds := [.data, .pinned], laidTests := true, laidLooks := .later }
def BaseFieldsUptoCardSaid : Prop := Claim7.holds Tryd.pinned (.plain (OpenSpec.upto baseFieldsSpec)) baseFieldsUptoCard

/-- THE SECOND FORM's CARD OF 'strongroomlaw10.BaseFieldsBack'. -/
def baseFieldsBackUptoCard : Claim7 := { stood := { row := baseFieldsBackUptoRow, standIns := [], harness := (true, "6d57a4f5f84815dfca5d8a99f48a3a0b30004e7ddc5c002f1e1a6c6a60613bf1"), looks := true }, kinds := [], alts := [], laidByText := true, laidKinds := [.data, .pinned], laidTests := true, laidLooks := .later }
def BaseFieldsBackUptoCardSaid : Prop := Claim7.holds Tryd.pinned (.plain (OpenSpec.upto baseFieldsBackSpec)) baseFieldsBackUptoCard

/-- THE SECOND FORM's CARD OF 'strongroomlaw10.BaseNumber'. -/
def baseNumberUptoCard : Claim7 := { stood := { row := baseNumberUptoRow, standIns := [], harness := (true, "6d57a4f5f84815dfca5d8a99f48a3a0b30004e7ddc5c002f1e1a6c6a60613bf1"), looks := true }, kinds := [], alts := [], laidByText := true, laidKinds := [.data, .data, .data, .sentinel, .sentinel], laidTests := true, laidLooks := .later }
def BaseNumberUptoCardSaid : Prop := Claim7.holds Tryd.pinned (.plain (OpenSpec.upto baseNumberSpec)) baseNumberUptoCard

/-- THE SECOND FORM's CARD OF 'strongroomlaw10.BaseOne'. -/
def baseOneUptoCard : Claim7 := { stood := { row := baseOneUptoRow, standIns := [], harness := (true, "6d57a4f5f84815dfca5d8a99f48a3a0b30004e7ddc5c002f1e1a6c6a60613bf1"), looks := true }, kinds := [], alts := [], laidByText := true, laidKinds := [.data, .data, .data, .sentinel, .sentinel], laidTests := true, laidLooks := .later }
def BaseOneUptoCardSaid : Prop := Claim7.holds Tryd.pinned (.plain (OpenSpec.upto baseOneSpec)) baseOneUptoCard

/-- THE SECOND FORM's CARD OF 'strongroomlaw10.BaseBack'. -/
def baseBackUptoCard : Claim7 := { stood := { row := baseBackUptoRow, standIns := [], harness := (true, "6d57a4f5f84815dfca5d8a99f48a3a0b30004e7ddc5c002f1e1a6c6a60613bf1"), looks := true }, kinds := [], alts := [], laidByText := true, laidKinds := [.data, .data, .data, .sentinel, .sentinel], laidTests := true, laidLooks := .later }
def BaseBackUptoCardSaid : Prop := Claim7.holds Tryd.pinned (.plain (OpenSpec.upto baseBackSpec)) baseBackUptoCard

/-- THE SECOND FORM's CARD OF 'strongroomlaw10.BaseKnown'. -/
def baseKnownUptoCard : Claim7 := { stood := { row := baseKnownUptoRow, standIns := [], harness := (true, "6d57a4f5f84815dfca5d8a99f48a3a0b30004e7ddc5c002f1e1a6c6a60613bf1"), looks := true }, kinds := [], alts := [], laidByText := true, laidKinds := [.data, .data, .data, .data, .sentinel, .sentinel, .pinned], laidTests := true, laidLooks := .later }
def BaseKnownUptoCardSaid : Prop := Claim7.holds Tryd.pinned (.plain (OpenSpec.upto baseKnownSpec)) baseKnownUptoCard
end Rows
end Go.Proofs.YtghobbbmoeijbaaDoor
