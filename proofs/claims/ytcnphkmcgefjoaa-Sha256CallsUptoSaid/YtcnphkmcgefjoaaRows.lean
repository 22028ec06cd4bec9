/-
  No cell of these rows narrows 'for every input' (looked for: loops, veiled, ifaces, maps, wideKeys, modest, calm, conditions, laid).
  DERIVED. THE GIVEN ROWS OF THIS SEAT. 5 by the template 'for every input the law returns true; each argument reads behind the call as it read before'; 0 by the template 'total and deterministic' (their statements: YtcnphkmcgefjoaaTotals.lean).
  GIVEN WITH THE SEED: the statements are not yours to turn. If you find one false, say at which input.
  Laid BY PROGRAM, IN A SANDBOX (cutbox-rows.mjs): the forced cells as the released guide's own fill.sh prints them over the translation 4a18bc0eb1185786… (all of the seat's roots in one cut). By AI agents, Wed Nov 11 2026. No macro, syntax, notation, axiom, sorry.
-/
import Derived.Test.YtcnphkmcgefjoaaChecked
import GoSem.Claim
import GoSem.ClaimJoined
import GoSem.ClaimMapViews
import Derived.JoinedTies
import Derived.KernelRfl
namespace Go.Proofs.Ytcnphkmcgefjoaa
/- THE CELL 'sum', in the pinned program and in every row, IS THE sha256 OF THE DUMP (.gsa) THAT YtcnphkmcgefjoaaProg.lean LOADS. Nothing in Lean hashes anything: it is a label: what it is worth is what the hold of that sum in a sandbox is worth. -/
noncomputable def Try.pinned : Pinned := { name := "ytcnphkmcgefjoaa", sum := "4a18bc0eb11857860697de6c42b4e50373a6408ef016f72f1f0ca56505131922", checked := Try.checked }
namespace Rows
def none {H : Type} : Left H := { results := [], args := [] }

/-- 'turnkeylaw05.Sha256Sums': WHATEVER THE INPUT: true; the input reads as it did. -/
def sha256SumsSpec : ChangeSpec := { name := "sha256Sums", fn := fun _ => fun
  | [d] => { results := [.lit (.bool true)], args := [d] }
  | _ => none }
def sha256SumsRow : OpenClaim := { program := "ytcnphkmcgefjoaa", sum := "4a18bc0eb11857860697de6c42b4e50373a6408ef016f72f1f0ca56505131922", func := "turnkey/turnkeylaw05.Sha256Sums", spec := "sha256Sums", apart := false }
def Sha256SumsSaid : Prop := sha256SumsRow.holds Try.pinned (OpenSpec.ofChange sha256SumsSpec)

/-- ITS FALSE NEIGHBOUR: 'it returns false'. Refute it at one input. -/
def sha256SumsWrong : ChangeSpec := { name := "sha256Sums", fn := fun _ => fun
  | [d] => { results := [.lit (.bool false)], args := [d] }
  | _ => none }
def Sha256SumsWrongFalsely : Prop := sha256SumsRow.holds Try.pinned (OpenSpec.ofChange sha256SumsWrong)

/-- 'turnkeylaw05.Sha256Names': WHATEVER THE INPUT: true; the input reads as it did. -/
def sha256NamesSpec : ChangeSpec := { name := "sha256Names", fn := fun _ => fun
  | [] => { results := [.lit (.bool true)], args := [] }
  | _ => none }
def sha256NamesRow : OpenClaim := { program := "ytcnphkmcgefjoaa", sum := "4a18bc0eb11857860697de6c42b4e50373a6408ef016f72f1f0ca56505131922", func := "turnkey/turnkeylaw05.Sha256Names", spec := "sha256Names", apart := false }
def Sha256NamesSaid : Prop := sha256NamesRow.holds Try.pinned (OpenSpec.ofChange sha256NamesSpec)

/-- ITS FALSE NEIGHBOUR: 'it returns false'. Refute it at one input. -/
def sha256NamesWrong : ChangeSpec := { name := "sha256Names", fn := fun _ => fun
  | [] => { results := [.lit (.bool false)], args := [] }
  | _ => none }
def Sha256NamesWrongFalsely : Prop := sha256NamesRow.holds Try.pinned (OpenSpec.ofChange sha256NamesWrong)

/-- 'turnkeylaw05.Sha256Calls': WHATEVER THE INPUT: true; the input reads as it did. -/
def sha256CallsSpec : ChangeSpec := { name := "sha256Calls", fn := fun _ => fun
  | [d] => { results := [.lit (.bool true)], args := [d] }
  | _ => none }
def sha256CallsRow : OpenClaim := { program := "ytcnphkmcgefjoaa", sum := "4a18bc0eb11857860697de6c42b4e50373a6408ef016f72f1f0ca56505131922", func := "turnkey/turnkeylaw05.Sha256Calls", spec := "sha256Calls", apart := false }
def Sha256CallsSaid : Prop := sha256CallsRow.holds Try.pinned (OpenSpec.ofChange sha256CallsSpec)

/-- ITS FALSE NEIGHBOUR: 'it returns false'. Refute it at one input. -/
def sha256CallsWrong : ChangeSpec := { name := "sha256Calls", fn := fun _ => fun
  | [d] => { results := [.lit (.bool false)], args := [d] }
  | _ => none }
def Sha256CallsWrongFalsely : Prop := sha256CallsRow.holds Try.pinned (OpenSpec.ofChange sha256CallsWrong)

/-- 'turnkeylaw05.Sha256Pieces': WHATEVER THE INPUT: true; the input reads as it did. -/
def sha256PiecesSpec : ChangeSpec := { name := "sha256Pieces", fn := fun _ => fun
  | [d1, d2, d3] => { results := [.lit (.bool true)], args := [d1, d2, d3] }
  | _ => none }
def sha256PiecesRow : OpenClaim := { program := "ytcnphkmcgefjoaa", sum := "4a18bc0eb11857860697de6c42b4e50373a6408ef016f72f1f0ca56505131922", func := "turnkey/turnkeylaw05.Sha256Pieces", spec := "sha256Pieces", apart := false }
def Sha256PiecesSaid : Prop := sha256PiecesRow.holds Try.pinned (OpenSpec.ofChange sha256PiecesSpec)

/-- ITS FALSE NEIGHBOUR: 'it returns false'. Refute it at one input. -/
def sha256PiecesWrong : ChangeSpec := { name := "sha256Pieces", fn := fun _ => fun
  | [d1, d2, d3] => { results := [.lit (.bool false)], args := [d1, d2, d3] }
  | _ => none }
def Sha256PiecesWrongFalsely : Prop := sha256PiecesRow.holds Try.pinned (OpenSpec.ofChange sha256PiecesWrong)

/-- 'turnkeylaw05.Sha256None': WHATEVER THE INPUT: true; the input reads as it did. -/
def sha256NoneSpec : ChangeSpec := { name := "sha256None", fn := fun _ => fun
  | [d] => { results := [.lit (.bool true)], args := [d] }
  | _ => none }
def sha256NoneRow : OpenClaim := { program := "ytcnphkmcgefjoaa", sum := "4a18bc0eb11857860697de6c42b4e50373a6408ef016f72f1f0ca56505131922", func := "turnkey/turnkeylaw05.Sha256None", spec := "sha256None", apart := false }
def Sha256NoneSaid : Prop := sha256NoneRow.holds Try.pinned (OpenSpec.ofChange sha256NoneSpec)

/-- ITS FALSE NEIGHBOUR: 'it returns false'. Refute it at one input. -/
def sha256NoneWrong : ChangeSpec := { name := "sha256None", fn := fun _ => fun
  | [d] => { results := [.lit (.bool false)], args := [d] }
  | _ => none }
def Sha256NoneWrongFalsely : Prop := sha256NoneRow.holds Try.pinned (OpenSpec.ofChange sha256NoneWrong)

/- THE SECOND FORM. 'bulk': how many values and letters a reading holds, each counted each time it is reached (what is shared counts as often as it is met; a slice's spare places count too). A statement '..UptoSaid' is the law's where the arguments, and the package variables that the reading takes, are together of bulk at most 1048576: NARROWER than '..Said'. Prove '..Said' where nothing that the law and all that it calls make is longer than what came in: it says more and counts as full. Else prove '..UptoSaid'. A law counts once. -/
mutual
def uptoBulk {H : Type} : DataW H → Nat
  | .lit (.string bytes) => bytes.length + 1
  | .lit _ => 1
  | .nil => 1
  | .ptr d => uptoBulk d + 1
  | .slice elems spare => uptoBulkAll elems + uptoBulkAll spare + 1
  | .agg parts => uptoBulkAll parts + 1
  | .iface _ d => uptoBulk d + 1
  | .map entries => uptoBulkEntries entries + 1
  | .held _ => 1
def uptoBulkAll {H : Type} : List (DataW H) → Nat
  | [] => 0
  | d :: r => uptoBulk d + uptoBulkAll r
def uptoBulkEntries {H : Type} : List (Lit × DataW H) → Nat
  | [] => 0
  | x :: r => uptoBulkEntry x + uptoBulkEntries r
def uptoBulkEntry {H : Type} : Lit × DataW H → Nat
  | (.string bytes, d) => bytes.length + uptoBulk d + 1
  | (_, d) => uptoBulk d + 1
 end
def uptoSmall : (H : Type) → List (DataW H) → Bool := fun _ ds => decide (uptoBulkAll ds ≤ 1048576)
def OpenSpec.upto (s : _root_.Go.ChangeSpec) : _root_.Go.OpenSpec := { _root_.Go.OpenSpec.ofChange s with cond := some uptoSmall }

/-- 'turnkeylaw05.Sha256Sums', WHERE WHAT IT READS IS OF BULK AT MOST 1048576: true; the input reads as it did. -/
def sha256SumsUptoRow : OpenClaim := { program := "ytcnphkmcgefjoaa", sum := "4a18bc0eb11857860697de6c42b4e50373a6408ef016f72f1f0ca56505131922", func := "turnkey/turnkeylaw05.Sha256Sums", spec := "sha256Sums", apart := false, narrowed := true }
def Sha256SumsUptoSaid : Prop := sha256SumsUptoRow.holds Try.pinned (OpenSpec.upto sha256SumsSpec)

/-- 'turnkeylaw05.Sha256Names', WHERE WHAT IT READS IS OF BULK AT MOST 1048576: true; the input reads as it did. -/
def sha256NamesUptoRow : OpenClaim := { program := "ytcnphkmcgefjoaa", sum := "4a18bc0eb11857860697de6c42b4e50373a6408ef016f72f1f0ca56505131922", func := "turnkey/turnkeylaw05.Sha256Names", spec := "sha256Names", apart := false, narrowed := true }
def Sha256NamesUptoSaid : Prop := sha256NamesUptoRow.holds Try.pinned (OpenSpec.upto sha256NamesSpec)

/-- 'turnkeylaw05.Sha256Calls', WHERE WHAT IT READS IS OF BULK AT MOST 1048576: true; the input reads as it did. -/
def sha256CallsUptoRow : OpenClaim := { program := "ytcnphkmcgefjoaa", sum := "4a18bc0eb11857860697de6c42b4e50373a6408ef016f72f1f0ca56505131922", func := "turnkey/turnkeylaw05.Sha256Calls", spec := "sha256Calls", apart := false, narrowed := true }
def Sha256CallsUptoSaid : Prop := sha256CallsUptoRow.holds Try.pinned (OpenSpec.upto sha256CallsSpec)

/-- 'turnkeylaw05.Sha256Pieces', WHERE WHAT IT READS IS OF BULK AT MOST 1048576: true; the input reads as it did. -/
def sha256PiecesUptoRow : OpenClaim := { program := "ytcnphkmcgefjoaa", sum := "4a18bc0eb11857860697de6c42b4e50373a6408ef016f72f1f0ca56505131922", func := "turnkey/turnkeylaw05.Sha256Pieces", spec := "sha256Pieces", apart := false, narrowed := true }
def Sha256PiecesUptoSaid : Prop := sha256PiecesUptoRow.holds Try.pinned (OpenSpec.upto sha256PiecesSpec)

/-- 'turnkeylaw05.Sha256None', WHERE WHAT IT READS IS OF BULK AT MOST 1048576: true; the input reads as it did. -/
def sha256NoneUptoRow : OpenClaim := { program := "ytcnphkmcgefjoaa", sum := "4a18bc0eb11857860697de6c42b4e50373a6408ef016f72f1f0ca56505131922", func := "turnkey/turnkeylaw05.Sha256None", spec := "sha256None", apart := false, narrowed := true }
def Sha256NoneUptoSaid : Prop := sha256NoneUptoRow.holds Try.pinned (OpenSpec.upto sha256NoneSpec)

end Rows
end Go.Proofs.Ytcnphkmcgefjoaa
