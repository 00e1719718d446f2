/-
  No cell of these rows narrows 'for every input' (looked for: loops, veiled, ifaces, maps, wideKeys, modest, calm, conditions, laid).
  DERIVED. THE GIVEN ROWS OF THIS SEAT. 9 by the template 'for every input the law returns true; each argument reads behind the call as it read before'; 0 by the template 'total and deterministic' (their statements: YtoaaplngdomdcaaTotals.lean).
  GIVEN WITH THE SEED: the statements are not yours to turn. If you find one false, say at which input.
  Laid BY PROGRAM, IN A SANDBOX (cutbox-rows.mjs): the forced cells as the released guide's own fill.sh prints them over the translation e937c9c80597c7d6… (all of the seat's roots in one cut). By AI agents, Wed Nov 11 2026. No macro, syntax, notation, axiom, sorry.
-/
import Derived.Test.YtoaaplngdomdcaaChecked
import GoSem.Claim
import GoSem.ClaimJoined
import GoSem.ClaimMapViews
import Derived.JoinedTies
import Derived.KernelRfl
namespace Go.Proofs.Ytoaaplngdomdcaa
/- THE CELL 'sum', in the pinned program and in every row, IS THE sha256 OF THE DUMP (.gsa) THAT YtoaaplngdomdcaaProg.lean LOADS. Nothing in Lean hashes anything: it is a label: what it is worth is what the hold of that sum in a sandbox is worth. -/
noncomputable def Try.pinned : Pinned := { name := "ytoaaplngdomdcaa", sum := "e937c9c80597c7d69af003bb88917332dd730580f5450990227bd3003dca231a", checked := Try.checked }
namespace Rows
def none {H : Type} : Left H := { results := [], args := [] }

/-- 'strongroomlaw07.MatrixMods': WHATEVER THE INPUT: true; the input reads as it did. -/
def matrixModsSpec : ChangeSpec := { name := "matrixMods", fn := fun _ => fun
  | [d1, d2] => { results := [.lit (.bool true)], args := [d1, d2] }
  | _ => none }
def matrixModsRow : OpenClaim := { program := "ytoaaplngdomdcaa", sum := "e937c9c80597c7d69af003bb88917332dd730580f5450990227bd3003dca231a", func := "strongroom/strongroomlaw07.MatrixMods", spec := "matrixMods", apart := false }
def MatrixModsSaid : Prop := matrixModsRow.holds Try.pinned (OpenSpec.ofChange matrixModsSpec)

/-- ITS FALSE NEIGHBOUR: 'it returns false'. Refute it at one input. -/
def matrixModsWrong : ChangeSpec := { name := "matrixMods", fn := fun _ => fun
  | [d1, d2] => { results := [.lit (.bool false)], args := [d1, d2] }
  | _ => none }
def MatrixModsWrongFalsely : Prop := matrixModsRow.holds Try.pinned (OpenSpec.ofChange matrixModsWrong)

/-- 'strongroomlaw08.RsFar': WHATEVER THE INPUT: true; the input reads as it did. -/
def rsFarSpec : ChangeSpec := { name := "rsFar", fn := fun _ => fun
  | [d1, d2, d3, d4] => { results := [.lit (.bool true)], args := [d1, d2, d3, d4] }
  | _ => none }
def rsFarRow : OpenClaim := { program := "ytoaaplngdomdcaa", sum := "e937c9c80597c7d69af003bb88917332dd730580f5450990227bd3003dca231a", func := "strongroom/strongroomlaw08.RsFar", spec := "rsFar", unfollowed := true, recurses := true, apart := false }
def RsFarSaid : Prop := rsFarRow.holds Try.pinned (OpenSpec.ofChange rsFarSpec)

/-- ITS FALSE NEIGHBOUR: 'it returns false'. Refute it at one input. -/
def rsFarWrong : ChangeSpec := { name := "rsFar", fn := fun _ => fun
  | [d1, d2, d3, d4] => { results := [.lit (.bool false)], args := [d1, d2, d3, d4] }
  | _ => none }
def RsFarWrongFalsely : Prop := rsFarRow.holds Try.pinned (OpenSpec.ofChange rsFarWrong)

/-- 'strongroomlaw08.RsBytes': WHATEVER THE INPUT: true; the input reads as it did. -/
def rsBytesSpec : ChangeSpec := { name := "rsBytes", fn := fun _ => fun
  | [d1, d2, d3, d4] => { results := [.lit (.bool true)], args := [d1, d2, d3, d4] }
  | _ => none }
def rsBytesRow : OpenClaim := { program := "ytoaaplngdomdcaa", sum := "e937c9c80597c7d69af003bb88917332dd730580f5450990227bd3003dca231a", func := "strongroom/strongroomlaw08.RsBytes", spec := "rsBytes", unfollowed := true, recurses := true, apart := false }
def RsBytesSaid : Prop := rsBytesRow.holds Try.pinned (OpenSpec.ofChange rsBytesSpec)

/-- ITS FALSE NEIGHBOUR: 'it returns false'. Refute it at one input. -/
def rsBytesWrong : ChangeSpec := { name := "rsBytes", fn := fun _ => fun
  | [d1, d2, d3, d4] => { results := [.lit (.bool false)], args := [d1, d2, d3, d4] }
  | _ => none }
def RsBytesWrongFalsely : Prop := rsBytesRow.holds Try.pinned (OpenSpec.ofChange rsBytesWrong)

/-- 'strongroomlaw08.RsNames': WHATEVER THE INPUT: true; the input reads as it did. -/
def rsNamesSpec : ChangeSpec := { name := "rsNames", fn := fun _ => fun
  | [] => { results := [.lit (.bool true)], args := [] }
  | _ => none }
def rsNamesRow : OpenClaim := { program := "ytoaaplngdomdcaa", sum := "e937c9c80597c7d69af003bb88917332dd730580f5450990227bd3003dca231a", func := "strongroom/strongroomlaw08.RsNames", spec := "rsNames", unfollowed := true, recurses := true, apart := false }
def RsNamesSaid : Prop := rsNamesRow.holds Try.pinned (OpenSpec.ofChange rsNamesSpec)

/-- ITS FALSE NEIGHBOUR: 'it returns false'. Refute it at one input. -/
def rsNamesWrong : ChangeSpec := { name := "rsNames", fn := fun _ => fun
  | [] => { results := [.lit (.bool false)], args := [] }
  | _ => none }
def RsNamesWrongFalsely : Prop := rsNamesRow.holds Try.pinned (OpenSpec.ofChange rsNamesWrong)

/-- 'strongroomlaw07.MatrixGroups': WHATEVER THE INPUT: true; the input reads as it did. -/
def matrixGroupsSpec : ChangeSpec := { name := "matrixGroups", fn := fun _ => fun
  | [d1, d2, d3, d4, d5] => { results := [.lit (.bool true)], args := [d1, d2, d3, d4, d5] }
  | _ => none }
def matrixGroupsRow : OpenClaim := { program := "ytoaaplngdomdcaa", sum := "e937c9c80597c7d69af003bb88917332dd730580f5450990227bd3003dca231a", func := "strongroom/strongroomlaw07.MatrixGroups", spec := "matrixGroups", unfollowed := true, recurses := true, apart := false }
def MatrixGroupsSaid : Prop := matrixGroupsRow.holds Try.pinned (OpenSpec.ofChange matrixGroupsSpec)

/-- ITS FALSE NEIGHBOUR: 'it returns false'. Refute it at one input. -/
def matrixGroupsWrong : ChangeSpec := { name := "matrixGroups", fn := fun _ => fun
  | [d1, d2, d3, d4, d5] => { results := [.lit (.bool false)], args := [d1, d2, d3, d4, d5] }
  | _ => none }
def MatrixGroupsWrongFalsely : Prop := matrixGroupsRow.holds Try.pinned (OpenSpec.ofChange matrixGroupsWrong)

/-- 'strongroomlaw07.MatrixNone': WHATEVER THE INPUT: true; the input reads as it did. -/
def matrixNoneSpec : ChangeSpec := { name := "matrixNone", fn := fun _ => fun
  | [d] => { results := [.lit (.bool true)], args := [d] }
  | _ => none }
def matrixNoneRow : OpenClaim := { program := "ytoaaplngdomdcaa", sum := "e937c9c80597c7d69af003bb88917332dd730580f5450990227bd3003dca231a", func := "strongroom/strongroomlaw07.MatrixNone", spec := "matrixNone", unfollowed := true, recurses := true, apart := false }
def MatrixNoneSaid : Prop := matrixNoneRow.holds Try.pinned (OpenSpec.ofChange matrixNoneSpec)

/-- ITS FALSE NEIGHBOUR: 'it returns false'. Refute it at one input. -/
def matrixNoneWrong : ChangeSpec := { name := "matrixNone", fn := fun _ => fun
  | [d] => { results := [.lit (.bool false)], args := [d] }
  | _ => none }
def MatrixNoneWrongFalsely : Prop := matrixNoneRow.holds Try.pinned (OpenSpec.ofChange matrixNoneWrong)

/-- 'strongroomlaw08.RsAny': WHATEVER THE INPUT: true; the input reads as it did. -/
def rsAnySpec : ChangeSpec := { name := "rsAny", fn := fun _ => fun
  | [d1, d2, d3, d4, d5] => { results := [.lit (.bool true)], args := [d1, d2, d3, d4, d5] }
  | _ => none }
def rsAnyRow : OpenClaim := { program := "ytoaaplngdomdcaa", sum := "e937c9c80597c7d69af003bb88917332dd730580f5450990227bd3003dca231a", func := "strongroom/strongroomlaw08.RsAny", spec := "rsAny", unfollowed := true, recurses := true, apart := false }
def RsAnySaid : Prop := rsAnyRow.holds Try.pinned (OpenSpec.ofChange rsAnySpec)

/-- ITS FALSE NEIGHBOUR: 'it returns false'. Refute it at one input. -/
def rsAnyWrong : ChangeSpec := { name := "rsAny", fn := fun _ => fun
  | [d1, d2, d3, d4, d5] => { results := [.lit (.bool false)], args := [d1, d2, d3, d4, d5] }
  | _ => none }
def RsAnyWrongFalsely : Prop := rsAnyRow.holds Try.pinned (OpenSpec.ofChange rsAnyWrong)

/-- 'strongroomlaw08.RsCalls': WHATEVER THE INPUT: true; the input reads as it did. -/
def rsCallsSpec : ChangeSpec := { name := "rsCalls", fn := fun _ => fun
  | [d1, d2, d3, d4, d5] => { results := [.lit (.bool true)], args := [d1, d2, d3, d4, d5] }
  | _ => none }
def rsCallsRow : OpenClaim := { program := "ytoaaplngdomdcaa", sum := "e937c9c80597c7d69af003bb88917332dd730580f5450990227bd3003dca231a", func := "strongroom/strongroomlaw08.RsCalls", spec := "rsCalls", unfollowed := true, recurses := true, apart := false }
def RsCallsSaid : Prop := rsCallsRow.holds Try.pinned (OpenSpec.ofChange rsCallsSpec)

/-- ITS FALSE NEIGHBOUR: 'it returns false'. Refute it at one input. -/
def rsCallsWrong : ChangeSpec := { name := "rsCalls", fn := fun _ => fun
  | [d1, d2, d3, d4, d5] => { results := [.lit (.bool false)], args := [d1, d2, d3, d4, d5] }
  | _ => none }
def RsCallsWrongFalsely : Prop := rsCallsRow.holds Try.pinned (OpenSpec.ofChange rsCallsWrong)

/-- 'strongroomlaw08.RsNone': WHATEVER THE INPUT: true; the input reads as it did. -/
def rsNoneSpec : ChangeSpec := { name := "rsNone", fn := fun _ => fun
  | [d1, d2, d3] => { results := [.lit (.bool true)], args := [d1, d2, d3] }
  | _ => none }
def rsNoneRow : OpenClaim := { program := "ytoaaplngdomdcaa", sum := "e937c9c80597c7d69af003bb88917332dd730580f5450990227bd3003dca231a", func := "strongroom/strongroomlaw08.RsNone", spec := "rsNone", unfollowed := true, recurses := true, apart := false }
def RsNoneSaid : Prop := rsNoneRow.holds Try.pinned (OpenSpec.ofChange rsNoneSpec)

/-- ITS FALSE NEIGHBOUR: 'it returns false'. Refute it at one input. -/
def rsNoneWrong : ChangeSpec := { name := "rsNone", fn := fun _ => fun
  | [d1, d2, d3] => { results := [.lit (.bool false)], args := [d1, d2, d3] }
  | _ => none }
def RsNoneWrongFalsely : Prop := rsNoneRow.holds Try.pinned (OpenSpec.ofChange rsNoneWrong)

/- THE SECOND FORM. 'bulk': how many values and letters a reading holds, each counted each time it is reached (what is shared counts as often as it is met; a slice's spare places count too). A statement '..UptoSaid' is the law's where the arguments, and the package variables that the reading takes, are together of bulk at most 1048576: NARROWER than '..Said'. Prove '..Said' where nothing that the law and all that it calls make is longer than what came in: it says more and counts as full. Else prove '..UptoSaid'. A law counts once. -/
mutual
def uptoBulk {H : Type} : DataW H → Nat
  | .lit (.string bytes) => bytes.length + 1
  | .lit _ => 1
  | .nil => 1
  | .ptr d => uptoBulk d + 1
  | .slice elems spare => uptoBulkAll elems + uptoBulkAll spare + 1
  | .agg parts => uptoBulkAll parts + 1
  | .iface _ d => uptoBulk d + 1
  | .map entries => uptoBulkEntries entries + 1
  | .held _ => 1
def uptoBulkAll {H : Type} : List (DataW H) → Nat
  | [] => 0
  | d :: r => uptoBulk d + uptoBulkAll r
def uptoBulkEntries {H : Type} : List (Lit × DataW H) → Nat
  | [] => 0
  | x :: r => uptoBulkEntry x + uptoBulkEntries r
def uptoBulkEntry {H : Type} : Lit × DataW H → Nat
  | (.string bytes, d) => bytes.length + uptoBulk d + 1
  | (_, d) => uptoBulk d + 1
 end
def uptoSmall : (H : Type) → List (DataW H) → Bool := fun _ ds => decide (uptoBulkAll ds ≤ 1048576)
def OpenSpec.upto (s : _root_.Go.ChangeSpec) : _root_.Go.OpenSpec := { _root_.Go.OpenSpec.ofChange s with cond := some uptoSmall }

/-- 'strongroomlaw07.MatrixMods', WHERE WHAT IT READS IS OF BULK AT MOST 1048576: true; the input reads as it did. -/
def matrixModsUptoRow : OpenClaim := { program := "ytoaaplngdomdcaa", sum := "e937c9c80597c7d69af003bb88917332dd730580f5450990227bd3003dca231a", func := "strongroom/strongroomlaw07.MatrixMods", spec := "matrixMods", apart := false, narrowed := true }
def MatrixModsUptoSaid : Prop := matrixModsUptoRow.holds Try.pinned (OpenSpec.upto matrixModsSpec)

/-- 'strongroomlaw08.RsFar', WHERE WHAT IT READS IS OF BULK AT MOST 1048576: true; the input reads as it did. -/
def rsFarUptoRow : OpenClaim := { program := "ytoaaplngdomdcaa", sum := "e937c9c80597c7d69af003bb88917332dd730580f5450990227bd3003dca231a", func := "strongroom/strongroomlaw08.RsFar", spec := "rsFar", unfollowed := true, recurses := true, apart := false, narrowed := true }
def RsFarUptoSaid : Prop := rsFarUptoRow.holds Try.pinned (OpenSpec.upto rsFarSpec)

/-- 'strongroomlaw08.RsBytes', WHERE WHAT IT READS IS OF BULK AT MOST 1048576: true; the input reads as it did. -/
def rsBytesUptoRow : OpenClaim := { program := "ytoaaplngdomdcaa", sum := "e937c9c80597c7d69af003bb88917332dd730580f5450990227bd3003dca231a", func := "strongroom/strongroomlaw08.RsBytes", spec := "rsBytes", unfollowed := true, recurses := true, apart := false, narrowed := true }
def RsBytesUptoSaid : Prop := rsBytesUptoRow.holds Try.pinned (OpenSpec.upto rsBytesSpec)

/-- 'strongroomlaw08.RsNames', WHERE WHAT IT READS IS OF BULK AT MOST 1048576: true; the input reads as it did. -/
def rsNamesUptoRow : OpenClaim := { program := "ytoaaplngdomdcaa", sum := "e937c9c80597c7d69af003bb88917332dd730580f5450990227bd3003dca231a", func := "strongroom/strongroomlaw08.RsNames", spec := "rsNames", unfollowed := true, recurses := true, apart := false, narrowed := true }
def RsNamesUptoSaid : Prop := rsNamesUptoRow.holds Try.pinned (OpenSpec.upto rsNamesSpec)

/-- 'strongroomlaw07.MatrixGroups', WHERE WHAT IT READS IS OF BULK AT MOST 1048576: true; the input reads as it did. -/
def matrixGroupsUptoRow : OpenClaim := { program := "ytoaaplngdomdcaa", sum := "e937c9c80597c7d69af003bb88917332dd730580f5450990227bd3003dca231a", func := "strongroom/strongroomlaw07.MatrixGroups", spec := "matrixGroups", unfollowed := true, recurses := true, apart := false, narrowed := true }
def MatrixGroupsUptoSaid : Prop := matrixGroupsUptoRow.holds Try.pinned (OpenSpec.upto matrixGroupsSpec)

/-- 'strongroomlaw07.MatrixNone', WHERE WHAT IT READS IS OF BULK AT MOST 1048576: true; the input reads as it did. -/
def matrixNoneUptoRow : OpenClaim := { program := "ytoaaplngdomdcaa", sum := "e937c9c80597c7d69af003bb88917332dd730580f5450990227bd3003dca231a", func := "strongroom/strongroomlaw07.MatrixNone", spec := "matrixNone", unfollowed := true, recurses := true, apart := false, narrowed := true }
def MatrixNoneUptoSaid : Prop := matrixNoneUptoRow.holds Try.pinned (OpenSpec.upto matrixNoneSpec)

/-- 'strongroomlaw08.RsAny', WHERE WHAT IT READS IS OF BULK AT MOST 1048576: true; the input reads as it did. -/
def rsAnyUptoRow : OpenClaim := { program := "ytoaaplngdomdcaa", sum := "e937c9c80597c7d69af003bb88917332dd730580f5450990227bd3003dca231a", func := "strongroom/strongroomlaw08.RsAny", spec := "rsAny", unfollowed := true, recurses := true, apart := false, narrowed := true }
def RsAnyUptoSaid : Prop := rsAnyUptoRow.holds Try.pinned (OpenSpec.upto rsAnySpec)

/-- 'strongroomlaw08.RsCalls', WHERE WHAT IT READS IS OF BULK AT MOST 1048576: true; the input reads as it did. -/
def rsCallsUptoRow : OpenClaim := { program := "ytoaaplngdomdcaa", sum := "e937c9c80597c7d69af003bb88917332dd730580f5450990227bd3003dca231a", func := "strongroom/strongroomlaw08.RsCalls", spec := "rsCalls", unfollowed := true, recurses := true, apart := false, narrowed := true }
def RsCallsUptoSaid : Prop := rsCallsUptoRow.holds Try.pinned (OpenSpec.upto rsCallsSpec)

/-- 'strongroomlaw08.RsNone', WHERE WHAT IT READS IS OF BULK AT MOST 1048576: true; the input reads as it did. -/
def rsNoneUptoRow : OpenClaim := { program := "ytoaaplngdomdcaa", sum := "e937c9c80597c7d69af003bb88917332dd730580f5450990227bd3003dca231a", func := "strongroom/strongroomlaw08.RsNone", spec := "rsNone", unfollowed := true, recurses := true, apart := false, narrowed := true }
def RsNoneUptoSaid : Prop := rsNoneUptoRow.holds Try.pinned (OpenSpec.upto rsNoneSpec)

end Rows
end Go.Proofs.Ytoaaplngdomdcaa
