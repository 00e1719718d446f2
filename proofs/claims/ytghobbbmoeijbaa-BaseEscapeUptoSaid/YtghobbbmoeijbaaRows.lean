/-
  No cell of these rows narrows 'for every input' (looked for: loops, veiled, ifaces, maps, wideKeys, modest, calm, conditions, laid).
  DERIVED. THE GIVEN ROWS OF THIS SEAT. 4 by the template 'for every input the law returns true; each argument reads behind the call as it read before'; 0 by the template 'total and deterministic' (their statements: YtghobbbmoeijbaaTotals.lean).
  GIVEN WITH THE SEED: the statements are not yours to turn. If you find one false, say at which input.
  Laid BY PROGRAM, IN A SANDBOX (cutbox-rows.mjs): the forced cells as the released guide's own fill.sh prints them over the translation ece1aa31363bebfc… (all of the seat's roots in one cut). By AI agents, Wed Nov 11 2026. No macro, syntax, notation, axiom, sorry.
-/
import Derived.Test.YtghobbbmoeijbaaChecked
import GoSem.Claim
import GoSem.ClaimJoined
import GoSem.ClaimMapViews
import Derived.JoinedTies
import Derived.KernelRfl
namespace Go.Proofs.Ytghobbbmoeijbaa
/- THE CELL 'sum', in the pinned program and in every row, IS THE sha256 OF THE DUMP (.gsa) THAT YtghobbbmoeijbaaProg.lean LOADS. Nothing in Lean hashes anything: it is a label: what it is worth is what the hold of that sum in a sandbox is worth. -/
noncomputable def Try.pinned : Pinned := { name := "ytghobbbmoeijbaa", sum := "ece1aa31363bebfc84f205bca196968b9054f5f1dee59fd56027fef31a2ba2ac", checked := Try.checked }
namespace Rows
def none {H : Type} : Left H := { results := [], args := [] }

/-- 'strongroomlaw10.BaseBytes': WHATEVER THE INPUT: true; the input reads as it did. -/
def baseBytesSpec : ChangeSpec := { name := "baseBytes", fn := fun _ => fun
  | [d1, d2] => { results := [.lit (.bool true)], args := [d1, d2] }
  | _ => none }
def baseBytesRow : OpenClaim := { program := "ytghobbbmoeijbaa", sum := "ece1aa31363bebfc84f205bca196968b9054f5f1dee59fd56027fef31a2ba2ac", func := "strongroom/strongroomlaw10.BaseBytes", spec := "baseBytes", apart := false }
def BaseBytesSaid : Prop := baseBytesRow.holds Try.pinned (OpenSpec.ofChange baseBytesSpec)

/-- ITS FALSE NEIGHBOUR: 'it returns false'. Refute it at one input. -/
def baseBytesWrong : ChangeSpec := { name := "baseBytes", fn := fun _ => fun
  | [d1, d2] => { results := [.lit (.bool false)], args := [d1, d2] }
  | _ => none }
def BaseBytesWrongFalsely : Prop := baseBytesRow.holds Try.pinned (OpenSpec.ofChange baseBytesWrong)

/-- 'strongroomlaw10.BaseLetters': WHATEVER THE INPUT: true; the input reads as it did. -/
def baseLettersSpec : ChangeSpec := { name := "baseLetters", fn := fun _ => fun
  | [d1, d2] => { results := [.lit (.bool true)], args := [d1, d2] }
  | _ => none }
def baseLettersRow : OpenClaim := { program := "ytghobbbmoeijbaa", sum := "ece1aa31363bebfc84f205bca196968b9054f5f1dee59fd56027fef31a2ba2ac", func := "strongroom/strongroomlaw10.BaseLetters", spec := "baseLetters", apart := false }
def BaseLettersSaid : Prop := baseLettersRow.holds Try.pinned (OpenSpec.ofChange baseLettersSpec)

/-- ITS FALSE NEIGHBOUR: 'it returns false'. Refute it at one input. -/
def baseLettersWrong : ChangeSpec := { name := "baseLetters", fn := fun _ => fun
  | [d1, d2] => { results := [.lit (.bool false)], args := [d1, d2] }
  | _ => none }
def BaseLettersWrongFalsely : Prop := baseLettersRow.holds Try.pinned (OpenSpec.ofChange baseLettersWrong)

/-- 'strongroomlaw10.BaseOrder': WHATEVER THE INPUT: true; the input reads as it did. -/
def baseOrderSpec : ChangeSpec := { name := "baseOrder", fn := fun _ => fun
  | [d1, d2] => { results := [.lit (.bool true)], args := [d1, d2] }
  | _ => none }
def baseOrderRow : OpenClaim := { program := "ytghobbbmoeijbaa", sum := "ece1aa31363bebfc84f205bca196968b9054f5f1dee59fd56027fef31a2ba2ac", func := "strongroom/strongroomlaw10.BaseOrder", spec := "baseOrder", apart := false }
def BaseOrderSaid : Prop := baseOrderRow.holds Try.pinned (OpenSpec.ofChange baseOrderSpec)

/-- ITS FALSE NEIGHBOUR: 'it returns false'. Refute it at one input. -/
def baseOrderWrong : ChangeSpec := { name := "baseOrder", fn := fun _ => fun
  | [d1, d2] => { results := [.lit (.bool false)], args := [d1, d2] }
  | _ => none }
def BaseOrderWrongFalsely : Prop := baseOrderRow.holds Try.pinned (OpenSpec.ofChange baseOrderWrong)

/-- 'strongroomlaw10.BaseEscape': WHATEVER THE INPUT: true; the input reads as it did. -/
def baseEscapeSpec : ChangeSpec := { name := "baseEscape", fn := fun _ => fun
  | [d1, d2, d3] => { results := [.lit (.bool true)], args := [d1, d2, d3] }
  | _ => none }
def baseEscapeRow : OpenClaim := { program := "ytghobbbmoeijbaa", sum := "ece1aa31363bebfc84f205bca196968b9054f5f1dee59fd56027fef31a2ba2ac", func := "strongroom/strongroomlaw10.BaseEscape", spec := "baseEscape", inPlace := ["internal/abi.NoEscape", "internal/bytealg.IndexByteString"], apart := false }
def BaseEscapeSaid : Prop := baseEscapeRow.holds Try.pinned (OpenSpec.ofChange baseEscapeSpec)

/-- ITS FALSE NEIGHBOUR: 'it returns false'. Refute it at one input. -/
def baseEscapeWrong : ChangeSpec := { name := "baseEscape", fn := fun _ => fun
  | [d1, d2, d3] => { results := [.lit (.bool false)], args := [d1, d2, d3] }
  | _ => none }
def BaseEscapeWrongFalsely : Prop := baseEscapeRow.holds Try.pinned (OpenSpec.ofChange baseEscapeWrong)

/- THE SECOND FORM. 'bulk': how many values and letters a reading holds, each counted each time it is reached (what is shared counts as often as it is met; a slice's spare places count too). A statement '..UptoSaid' is the law's where the arguments, and the package variables that the reading takes, are together of bulk at most 1048576: NARROWER than '..Said'. Prove '..Said' where nothing that the law and all that it calls make is longer than what came in: it says more and counts as full. Else prove '..UptoSaid'. A law counts once. -/
mutual
def uptoBulk {H : Type} : DataW H → Nat
  | .lit (.string bytes) => bytes.length + 1
  | .lit _ => 1
  | .nil => 1
  | .ptr d => uptoBulk d + 1
  | .slice elems spare => uptoBulkAll elems + uptoBulkAll spare + 1
  | .agg parts => uptoBulkAll parts + 1
  | .iface _ d => uptoBulk d + 1
  | .map entries => uptoBulkEntries entries + 1
  | .held _ => 1
def uptoBulkAll {H : Type} : List (DataW H) → Nat
  | [] => 0
  | d :: r => uptoBulk d + uptoBulkAll r
def uptoBulkEntries {H : Type} : List (Lit × DataW H) → Nat
  | [] => 0
  | x :: r => uptoBulkEntry x + uptoBulkEntries r
def uptoBulkEntry {H : Type} : Lit × DataW H → Nat
  | (.string bytes, d) => bytes.length + uptoBulk d + 1
  | (_, d) => uptoBulk d + 1
 end
def uptoSmall : (H : Type) → List (DataW H) → Bool := fun _ ds => decide (uptoBulkAll ds ≤ 1048576)
def OpenSpec.upto (s : _root_.Go.ChangeSpec) : _root_.Go.OpenSpec := { _root_.Go.OpenSpec.ofChange s with cond := some uptoSmall }

/-- 'strongroomlaw10.BaseBytes', WHERE WHAT IT READS IS OF BULK AT MOST 1048576: true; the input reads as it did. -/
def baseBytesUptoRow : OpenClaim := { program := "ytghobbbmoeijbaa", sum := "ece1aa31363bebfc84f205bca196968b9054f5f1dee59fd56027fef31a2ba2ac", func := "strongroom/strongroomlaw10.BaseBytes", spec := "baseBytes", apart := false, narrowed := true }
def BaseBytesUptoSaid : Prop := baseBytesUptoRow.holds Try.pinned (OpenSpec.upto baseBytesSpec)

/-- 'strongroomlaw10.BaseLetters', WHERE WHAT IT READS IS OF BULK AT MOST 1048576: true; the input reads as it did. -/
def baseLettersUptoRow : OpenClaim := { program := "ytghobbbmoeijbaa", sum := "ece1aa31363bebfc84f205bca196968b9054f5f1dee59fd56027fef31a2ba2ac", func := "strongroom/strongroomlaw10.BaseLetters", spec := "baseLetters", apart := false, narrowed := true }
def BaseLettersUptoSaid : Prop := baseLettersUptoRow.holds Try.pinned (OpenSpec.upto baseLettersSpec)

/-- 'strongroomlaw10.BaseOrder', WHERE WHAT IT READS IS OF BULK AT MOST 1048576: true; the input reads as it did. -/
def baseOrderUptoRow : OpenClaim := { program := "ytghobbbmoeijbaa", sum := "ece1aa31363bebfc84f205bca196968b9054f5f1dee59fd56027fef31a2ba2ac", func := "strongroom/strongroomlaw10.BaseOrder", spec := "baseOrder", apart := false, narrowed := true }
def BaseOrderUptoSaid : Prop := baseOrderUptoRow.holds Try.pinned (OpenSpec.upto baseOrderSpec)

/-- 'strongroomlaw10.BaseEscape', WHERE WHAT IT READS IS OF BULK AT MOST 1048576: true; the input reads as it did. -/
def baseEscapeUptoRow : OpenClaim := { program := "ytghobbbmoeijbaa", sum := "ece1aa31363bebfc84f205bca196968b9054f5f1dee59fd56027fef31a2ba2ac", func := "strongroom/strongroomlaw10.BaseEscape", spec := "baseEscape", inPlace := ["internal/abi.NoEscape", "internal/bytealg.IndexByteString"], apart := false, narrowed := true }
def BaseEscapeUptoSaid : Prop := baseEscapeUptoRow.holds Try.pinned (OpenSpec.upto baseEscapeSpec)

end Rows
end Go.Proofs.Ytghobbbmoeijbaa
