/-
  No cell of these rows narrows 'for every input' (looked for: loops, veiled, ifaces, maps, wideKeys, modest, calm, conditions, laid).
  DERIVED. THE GIVEN ROWS OF THIS SEAT. 4 by the template 'for every input the law returns true; each argument reads behind the call as it read before'; 0 by the template 'total and deterministic' (their statements: YthieegmmbjjcbaaTotals.lean).
  GIVEN WITH THE SEED: the statements are not yours to turn. If you find one false, say at which input.
  Laid BY PROGRAM, IN A SANDBOX (cutbox-rows.mjs): the forced cells as the released guide's own fill.sh prints them over the translation 83e9a0e7ffc5fe06… (all of the seat's roots in one cut). By AI agents, Wed Nov 11 2026. No macro, syntax, notation, axiom, sorry.
-/
import Derived.Test.YthieegmmbjjcbaaChecked
import GoSem.Claim
import GoSem.ClaimJoined
import GoSem.ClaimMapViews
import Derived.JoinedTies
import Derived.KernelRfl
namespace Go.Proofs.Ythieegmmbjjcbaa
/- THE CELL 'sum', in the pinned program and in every row, IS THE sha256 OF THE DUMP (.gsa) THAT YthieegmmbjjcbaaProg.lean LOADS. Nothing in Lean hashes anything: it is a label: what it is worth is what the hold of that sum in a sandbox is worth. -/
noncomputable def Try.pinned : Pinned := { name := "ythieegmmbjjcbaa", sum := "83e9a0e7ffc5fe06cc266664e272f4ac9e2777568f47810ccc87b4696ea93e27", checked := Try.checked }
namespace Rows
def none {H : Type} : Left H := { results := [], args := [] }

/-- 'turnkeylaw06.Sha512Sums': WHATEVER THE INPUT: true; the input reads as it did. -/
def sha512SumsSpec : ChangeSpec := { name := "sha512Sums", fn := fun _ => fun
  | [d] => { results := [.lit (.bool true)], args := [d] }
  | _ => none }
def sha512SumsRow : OpenClaim := { program := "ythieegmmbjjcbaa", sum := "83e9a0e7ffc5fe06cc266664e272f4ac9e2777568f47810ccc87b4696ea93e27", func := "turnkey/turnkeylaw06.Sha512Sums", spec := "sha512Sums", apart := false }
def Sha512SumsSaid : Prop := sha512SumsRow.holds Try.pinned (OpenSpec.ofChange sha512SumsSpec)

/-- ITS FALSE NEIGHBOUR: 'it returns false'. Refute it at one input. -/
def sha512SumsWrong : ChangeSpec := { name := "sha512Sums", fn := fun _ => fun
  | [d] => { results := [.lit (.bool false)], args := [d] }
  | _ => none }
def Sha512SumsWrongFalsely : Prop := sha512SumsRow.holds Try.pinned (OpenSpec.ofChange sha512SumsWrong)

/-- 'turnkeylaw06.Sha512Public': WHATEVER THE INPUT: true; the input reads as it did. -/
def sha512PublicSpec : ChangeSpec := { name := "sha512Public", fn := fun _ => fun
  | [d1, d2, d3] => { results := [.lit (.bool true)], args := [d1, d2, d3] }
  | _ => none }
def sha512PublicRow : OpenClaim := { program := "ythieegmmbjjcbaa", sum := "83e9a0e7ffc5fe06cc266664e272f4ac9e2777568f47810ccc87b4696ea93e27", func := "turnkey/turnkeylaw06.Sha512Public", spec := "sha512Public", apart := false }
def Sha512PublicSaid : Prop := sha512PublicRow.holds Try.pinned (OpenSpec.ofChange sha512PublicSpec)

/-- ITS FALSE NEIGHBOUR: 'it returns false'. Refute it at one input. -/
def sha512PublicWrong : ChangeSpec := { name := "sha512Public", fn := fun _ => fun
  | [d1, d2, d3] => { results := [.lit (.bool false)], args := [d1, d2, d3] }
  | _ => none }
def Sha512PublicWrongFalsely : Prop := sha512PublicRow.holds Try.pinned (OpenSpec.ofChange sha512PublicWrong)

/-- 'turnkeylaw06.Sha512Names': WHATEVER THE INPUT: true; the input reads as it did. -/
def sha512NamesSpec : ChangeSpec := { name := "sha512Names", fn := fun _ => fun
  | [] => { results := [.lit (.bool true)], args := [] }
  | _ => none }
def sha512NamesRow : OpenClaim := { program := "ythieegmmbjjcbaa", sum := "83e9a0e7ffc5fe06cc266664e272f4ac9e2777568f47810ccc87b4696ea93e27", func := "turnkey/turnkeylaw06.Sha512Names", spec := "sha512Names", apart := false }
def Sha512NamesSaid : Prop := sha512NamesRow.holds Try.pinned (OpenSpec.ofChange sha512NamesSpec)

/-- ITS FALSE NEIGHBOUR: 'it returns false'. Refute it at one input. -/
def sha512NamesWrong : ChangeSpec := { name := "sha512Names", fn := fun _ => fun
  | [] => { results := [.lit (.bool false)], args := [] }
  | _ => none }
def Sha512NamesWrongFalsely : Prop := sha512NamesRow.holds Try.pinned (OpenSpec.ofChange sha512NamesWrong)

/-- 'turnkeylaw06.Sha512Pieces': WHATEVER THE INPUT: true; the input reads as it did. -/
def sha512PiecesSpec : ChangeSpec := { name := "sha512Pieces", fn := fun _ => fun
  | [d1, d2, d3] => { results := [.lit (.bool true)], args := [d1, d2, d3] }
  | _ => none }
def sha512PiecesRow : OpenClaim := { program := "ythieegmmbjjcbaa", sum := "83e9a0e7ffc5fe06cc266664e272f4ac9e2777568f47810ccc87b4696ea93e27", func := "turnkey/turnkeylaw06.Sha512Pieces", spec := "sha512Pieces", apart := false }
def Sha512PiecesSaid : Prop := sha512PiecesRow.holds Try.pinned (OpenSpec.ofChange sha512PiecesSpec)

/-- ITS FALSE NEIGHBOUR: 'it returns false'. Refute it at one input. -/
def sha512PiecesWrong : ChangeSpec := { name := "sha512Pieces", fn := fun _ => fun
  | [d1, d2, d3] => { results := [.lit (.bool false)], args := [d1, d2, d3] }
  | _ => none }
def Sha512PiecesWrongFalsely : Prop := sha512PiecesRow.holds Try.pinned (OpenSpec.ofChange sha512PiecesWrong)

/- THE SECOND FORM. 'bulk': how many values and letters a reading holds, each counted each time it is reached (what is shared counts as often as it is met; a slice's spare places count too). A statement '..UptoSaid' is the law's where the arguments, and the package variables that the reading takes, are together of bulk at most 1048576: NARROWER than '..Said'. Prove '..Said' where nothing that the law and all that it calls make is longer than what came in: it says more and counts as full. Else prove '..UptoSaid'. A law counts once. -/
mutual
def uptoBulk {H : Type} : DataW H → Nat
  | .lit (.string bytes) => bytes.length + 1
  | .lit _ => 1
  | .nil => 1
  | .ptr d => uptoBulk d + 1
  | .slice elems spare => uptoBulkAll elems + uptoBulkAll spare + 1
  | .agg parts => uptoBulkAll parts + 1
  | .iface _ d => uptoBulk d + 1
  | .map entries => uptoBulkEntries entries + 1
  | .held _ => 1
def uptoBulkAll {H : Type} : List (DataW H) → Nat
  | [] => 0
  | d :: r => uptoBulk d + uptoBulkAll r
def uptoBulkEntries {H : Type} : List (Lit × DataW H) → Nat
  | [] => 0
  | x :: r => uptoBulkEntry x + uptoBulkEntries r
def uptoBulkEntry {H : Type} : Lit × DataW H → Nat
  | (.string bytes, d) => bytes.length + uptoBulk d + 1
  | (_, d) => uptoBulk d + 1
 end
def uptoSmall : (H : Type) → List (DataW H) → Bool := fun _ ds => decide (uptoBulkAll ds ≤ 1048576)
def OpenSpec.upto (s : _root_.Go.ChangeSpec) : _root_.Go.OpenSpec := { _root_.Go.OpenSpec.ofChange s with cond := some uptoSmall }

/-- 'turnkeylaw06.Sha512Sums', WHERE WHAT IT READS IS OF BULK AT MOST 1048576: true; the input reads as it did. -/
def sha512SumsUptoRow : OpenClaim := { program := "ythieegmmbjjcbaa", sum := "83e9a0e7ffc5fe06cc266664e272f4ac9e2777568f47810ccc87b4696ea93e27", func := "turnkey/turnkeylaw06.Sha512Sums", spec := "sha512Sums", apart := false, narrowed := true }
def Sha512SumsUptoSaid : Prop := sha512SumsUptoRow.holds Try.pinned (OpenSpec.upto sha512SumsSpec)

/-- 'turnkeylaw06.Sha512Public', WHERE WHAT IT READS IS OF BULK AT MOST 1048576: true; the input reads as it did. -/
def sha512PublicUptoRow : OpenClaim := { program := "ythieegmmbjjcbaa", sum := "83e9a0e7ffc5fe06cc266664e272f4ac9e2777568f47810ccc87b4696ea93e27", func := "turnkey/turnkeylaw06.Sha512Public", spec := "sha512Public", apart := false, narrowed := true }
def Sha512PublicUptoSaid : Prop := sha512PublicUptoRow.holds Try.pinned (OpenSpec.upto sha512PublicSpec)

/-- 'turnkeylaw06.Sha512Names', WHERE WHAT IT READS IS OF BULK AT MOST 1048576: true; the input reads as it did. -/
def sha512NamesUptoRow : OpenClaim := { program := "ythieegmmbjjcbaa", sum := "83e9a0e7ffc5fe06cc266664e272f4ac9e2777568f47810ccc87b4696ea93e27", func := "turnkey/turnkeylaw06.Sha512Names", spec := "sha512Names", apart := false, narrowed := true }
def Sha512NamesUptoSaid : Prop := sha512NamesUptoRow.holds Try.pinned (OpenSpec.upto sha512NamesSpec)

/-- 'turnkeylaw06.Sha512Pieces', WHERE WHAT IT READS IS OF BULK AT MOST 1048576: true; the input reads as it did. -/
def sha512PiecesUptoRow : OpenClaim := { program := "ythieegmmbjjcbaa", sum := "83e9a0e7ffc5fe06cc266664e272f4ac9e2777568f47810ccc87b4696ea93e27", func := "turnkey/turnkeylaw06.Sha512Pieces", spec := "sha512Pieces", apart := false, narrowed := true }
def Sha512PiecesUptoSaid : Prop := sha512PiecesUptoRow.holds Try.pinned (OpenSpec.upto sha512PiecesSpec)

end Rows
end Go.Proofs.Ythieegmmbjjcbaa
