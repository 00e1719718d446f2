/-
  DERIVED. GIVEN WITH THE SEED: THE CARDS: each row of YtcpceaflnnkhnaaGreatDoorRows.lean that lists a variable, with what it lists TIED to the program's text (the seventh form; the later family's looks); each row that meets fmt, with fmt's text TOLD by the authors' own Lean function (tested against real Go, not proved from fmt's source: count such statements apart). THE CARD IS WHAT COUNTS. Prove the row's statement (the work); the ties are given (YtcpceaflnnkhnaaGreatDoorTie.lean); close each card by the builder's one call (the guide's Derived/Test/ToyasCard.lean, 'card_holds'). Laid BY PROGRAM, IN A SANDBOX (cutbox-door.mjs). By AI agents, Wed Nov 11 2026. No macro, syntax, notation, axiom, sorry.
-/
import Derived.Test.YtcpceaflnnkhnaaGreatDoorRows
import GoSem.ClaimSeven
namespace Go.Proofs.YtcpceaflnnkhnaaGreatDoor
namespace Rows

/-- THE TIED CARD OF 'strongroomlaw15.DeedParses'. -/
def deedParsesCard : Claim7 := { stood := { row := deedParsesRow, standIns := [], harness := (true, "3f530ee01afc04ccc74ab63cf159229f7c025d5e108cd8d0f1921158a8c68878"), looks := true }, kinds := [], alts := [], laidByText := true, laidKinds := [.data, .data, .data, .data, .handle, .sentinel, .sentinel, .pinned], laidTests := true, laidLooks := .later }
def DeedParsesCardSaid : Prop := Claim7.holds Tryz.pinned (.plain (OpenSpec.ofChange deedParsesSpec)) deedParsesCard

/-- THE TIED CARD OF 'strongroomlaw15.DeedSame'. -/
def deedSameCard : Claim7 := { stood := { row := deedSameRow, standIns := [], harness := (true, "3f530ee01afc04ccc74ab63cf159229f7c025d5e108cd8d0f1921158a8c68878"), looks := true }, kinds := [], alts := [], laidByText := true, laidKinds := [.data, .data, .data, .data, .handle, .sentinel, .sentinel, .pinned], laidTests := true, laidLooks := .later }
def DeedSameCardSaid : Prop := Claim7.holds Tryz.pinned (.plain (OpenSpec.ofChange deedSameSpec)) deedSameCard

/-- THE TIED CARD OF 'strongroomlaw15.DeedBack'. -/
def deedBackCard : Claim7 := { stood := { row := deedBackRow, standIns := [], harness := (true, "3f530ee01afc04ccc74ab63cf159229f7c025d5e108cd8d0f1921158a8c68878"), looks := true }, kinds := [], alts := [], laidByText := true, laidKinds := [.data, .data, .data, .data, .handle, .sentinel, .sentinel, .pinned], laidTests := true, laidLooks := .later }
def DeedBackCardSaid : Prop := Claim7.holds Tryz.pinned (.plain (OpenSpec.ofChange deedBackSpec)) deedBackCard

/-- THE TIED CARD OF 'strongroomlaw15.DeedOne'. -/
def deedOneCard : Claim7 := { stood := { row := deedOneRow, standIns := [], harness := (true, "3f530ee01afc04ccc74ab63cf159229f7c025d5e108cd8d0f1921158a8c68878"), looks := true }, kinds := [], alts := [], laidByText := true, laidKinds := [.data, .data, .data, .data, .handle, .sentinel, .sentinel, .pinned], laidTests := true, laidLooks := .later }
def DeedOneCardSaid : Prop := Claim7.holds Tryz.pinned (.plain (OpenSpec.ofChange deedOneSpec)) deedOneCard

/-- THE TIED CARD OF 'strongroomlaw15.DeedCaps'. -/
def deedCapsCard : Claim7 := { stood := { row := deedCapsRow, standIns := [], harness := (true, "3f530ee01afc04ccc74ab63cf159229f7c025d5e108cd8d0f1921158a8c68878"), looks := true }, kinds := [], alts := [], laidByText := true, laidKinds := [.data, .data, .data, .data, .handle, .sentinel, .sentinel, .pinned], laidTests := true, laidLooks := .later }
def DeedCapsCardSaid : Prop := Claim7.holds Tryz.pinned (.plain (OpenSpec.ofChange deedCapsSpec)) deedCapsCard

/-- THE TIED CARD OF 'strongroomlaw15.DeedNames'. -/
def deedNamesCard : Claim7 := { stood := { row := deedNamesRow, standIns := [], harness := (true, "3f530ee01afc04ccc74ab63cf159229f7c025d5e108cd8d0f1921158a8c68878"), looks := true }, kinds := [], alts := [], laidByText := true, laidKinds := [.data, .data, .data, .data, .handle, .sentinel, .sentinel, .pinned], laidTests := true, laidLooks := .later }
def DeedNamesCardSaid : Prop := Claim7.holds Tryz.pinned (.plain (OpenSpec.ofChange deedNamesSpec)) deedNamesCard

/-- THE TIED CARD OF 'strongroomlaw15.DeedWeak'. -/
def deedWeakCard : Claim7 := { stood := { row := deedWeakRow, standIns := [], harness := (true, "3f530ee01afc04ccc74ab63cf159229f7c025d5e108cd8d0f1921158a8c68878"), looks := true }, kinds := [], alts := [], laidByText := true, laidKinds := [.data, .data, .data, .data, .handle, .sentinel, .sentinel, .pinned], laidTests := true, laidLooks := .later }
def DeedWeakCardSaid : Prop := Claim7.holds Tryz.pinned (.plain (OpenSpec.ofChange deedWeakSpec)) deedWeakCard

/-- THE SECOND FORM's CARD OF 'strongroomlaw15.DeedParses'. -/
def deedParsesUptoCard : Claim7 := { stood := { row := deedParsesUptoRow, standIns := [], harness := (true, "3f530ee01afc04ccc74ab63cf159229f7c025d5e108cd8d0f1921158a8c68878"), looks := true }, kinds := [], alts := [], laidByText := true, laidKinds := [.data, .data, .data, .data, .handle, .sentinel, .sentinel, .pinned], laidTests := true, laidLooks := .later }
def DeedParsesUptoCardSaid : Prop := Claim7.holds Tryz.pinned (.plain (OpenSpec.upto deedParsesSpec)) deedParsesUptoCard

/-- THE SECOND FORM's CARD OF 'strongroomlaw15.DeedSame'. -/
def deedSameUptoCard : Claim7 := { stood := { row := deedSameUptoRow, standIns := [], harness := (true, "3f530ee01afc04ccc74ab63cf159229f7c025d5e108cd8d0f1921158a8c68878"), looks := true }, kinds := [], alts := [], laidByText := true, laidKinds := [.data, .data, .data, .data, .handle, .sentinel, .sentinel, .pinned], laidTests := true, laidLooks := .later }
def DeedSameUptoCardSaid : Prop := Claim7.holds Tryz.pinned (.plain (OpenSpec.upto deedSameSpec)) deedSameUptoCard

/-- THE SECOND FORM's CARD OF 'strongroomlaw15.DeedBack'. -/
def deedBackUptoCard : Claim7 := { stood := { row := deedBackUptoRow, standIns := [], harness := (true, "3f530ee01afc04ccc74ab63cf159229f7c025d5e108cd8d0f1921158a8c68878"), looks := true }, kinds := [], alts := [], laidByText := true, laidKinds := [.data, .data, .data, .data, .handle, .sentinel, .sentinel, .pinned], laidTests := true, laidLooks := .later }
def DeedBackUptoCardSaid : Prop := Claim7.holds Tryz.pinned (.plain (OpenSpec.upto deedBackSpec)) deedBackUptoCard

/-- THE SECOND FORM's CARD OF 'strongroomlaw15.DeedOne'. -/
def deedOneUptoCard : Claim7 := { stood := { row := deedOneUptoRow, standIns := [], harness := (true, "3f530ee01afc04ccc74ab63cf159229f7c025d5e108cd8d0f1921158a8c68878"), looks := true }, kinds := [], alts := [], laidByText := true, laidKinds := [.data, .data, .data, .data, .handle, .sentinel, .sentinel, .pinned], laidTests := true, laidLooks := .later }
def DeedOneUptoCardSaid : Prop := Claim7.holds Tryz.pinned (.plain (OpenSpec.upto deedOneSpec)) deedOneUptoCard

/-- THE SECOND FORM's CARD OF 'strongroomlaw15.DeedCaps'. -/
def deedCapsUptoCard : Claim7 := { stood := { row := deedCapsUptoRow, standIns := [], harness := (true, "3f530ee01afc04ccc74ab63cf159229f7c025d5e108cd8d0f1921158a8c68878"), looks := true }, kinds := [], alts := [], laidByText := true, laidKinds := [.data, .data, .data, .data, .handle, .sentinel, .sentinel, .pinned], laidTests := true, laidLooks := .later }
def DeedCapsUptoCardSaid : Prop := Claim7.holds Tryz.pinned (.plain (OpenSpec.upto deedCapsSpec)) deedCapsUptoCard

/-- THE SECOND FORM's CARD OF 'strongroomlaw15.DeedNames'. -/
def deedNamesUptoCard : Claim7 := { stood := { row := deedNamesUptoRow, standIns := [], harness := (true, "3f530ee01afc04ccc74ab63cf159229f7c025d5e108cd8d0f1921158a8c68878"), looks := true }, kinds := [], alts := [], laidByText := true, laidKinds := [.data, .data, .data, .data, .handle, .sentinel, .sentinel, .pinned], laidTests := true, laidLooks := .later }
def DeedNamesUptoCardSaid : Prop := Claim7.holds Tryz.pinned (.plain (OpenSpec.upto deedNamesSpec)) deedNamesUptoCard

/-- THE SECOND FORM's CARD OF 'strongroomlaw15.DeedWeak'. -/
def deedWeakUptoCard : Claim7 := { stood := { row := deedWeakUptoRow, standIns := [], harness := (true, "3f530ee01afc04ccc74ab63cf159229f7c025d5e108cd8d0f1921158a8c68878"), looks := true }, kinds := [], alts := [], laidByText := true, laidKinds := [.data, .data, .data, .data, .handle, .sentinel, .sentinel, .pinned], laidTests := true, laidLooks := .later }
def DeedWeakUptoCardSaid : Prop := Claim7.holds Tryz.pinned (.plain (OpenSpec.upto deedWeakSpec)) deedWeakUptoCard
end Rows
end Go.Proofs.YtcpceaflnnkhnaaGreatDoor
