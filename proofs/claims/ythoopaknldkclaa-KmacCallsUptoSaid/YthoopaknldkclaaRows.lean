/-
  No cell of these rows narrows 'for every input' (looked for: loops, veiled, ifaces, maps, wideKeys, modest, calm, conditions, laid).
  DERIVED. THE GIVEN ROWS OF THIS SEAT. 5 by the template 'for every input the law returns true; each argument reads behind the call as it read before'; 0 by the template 'total and deterministic' (their statements: YthoopaknldkclaaTotals.lean).
  GIVEN WITH THE SEED: the statements are not yours to turn. If you find one false, say at which input.
  Laid BY PROGRAM, IN A SANDBOX (cutbox-rows.mjs): the forced cells as the released guide's own fill.sh prints them over the translation c70323b8ca948b19… (all of the seat's roots in one cut). By AI agents, Wed Nov 11 2026. No macro, syntax, notation, axiom, sorry.
-/
import Derived.Test.YthoopaknldkclaaChecked
import GoSem.Claim
import GoSem.ClaimJoined
import GoSem.ClaimMapViews
import Derived.JoinedTies
import Derived.KernelRfl
namespace Go.Proofs.Ythoopaknldkclaa
/- THE CELL 'sum', in the pinned program and in every row, IS THE sha256 OF THE DUMP (.gsa) THAT YthoopaknldkclaaProg.lean LOADS. Nothing in Lean hashes anything: it is a label: what it is worth is what the hold of that sum in a sandbox is worth. -/
noncomputable def Try.pinned : Pinned := { name := "ythoopaknldkclaa", sum := "c70323b8ca948b1900fa3b8694543314ad273cfd14acea974c503b3f5f1090d8", checked := Try.checked }
namespace Rows
def none {H : Type} : Left H := { results := [], args := [] }

/-- 'turnkeylaw14.KmacTags': WHATEVER THE INPUT: true; the input reads as it did. -/
def kmacTagsSpec : ChangeSpec := { name := "kmacTags", fn := fun _ => fun
  | [d1, d2] => { results := [.lit (.bool true)], args := [d1, d2] }
  | _ => none }
def kmacTagsRow : OpenClaim := { program := "ythoopaknldkclaa", sum := "c70323b8ca948b1900fa3b8694543314ad273cfd14acea974c503b3f5f1090d8", func := "turnkey/turnkeylaw14.KmacTags", spec := "kmacTags", apart := false }
def KmacTagsSaid : Prop := kmacTagsRow.holds Try.pinned (OpenSpec.ofChange kmacTagsSpec)

/-- ITS FALSE NEIGHBOUR: 'it returns false'. Refute it at one input. -/
def kmacTagsWrong : ChangeSpec := { name := "kmacTags", fn := fun _ => fun
  | [d1, d2] => { results := [.lit (.bool false)], args := [d1, d2] }
  | _ => none }
def KmacTagsWrongFalsely : Prop := kmacTagsRow.holds Try.pinned (OpenSpec.ofChange kmacTagsWrong)

/-- 'turnkeylaw14.KmacNames': WHATEVER THE INPUT: true; the input reads as it did. -/
def kmacNamesSpec : ChangeSpec := { name := "kmacNames", fn := fun _ => fun
  | [] => { results := [.lit (.bool true)], args := [] }
  | _ => none }
def kmacNamesRow : OpenClaim := { program := "ythoopaknldkclaa", sum := "c70323b8ca948b1900fa3b8694543314ad273cfd14acea974c503b3f5f1090d8", func := "turnkey/turnkeylaw14.KmacNames", spec := "kmacNames", apart := false }
def KmacNamesSaid : Prop := kmacNamesRow.holds Try.pinned (OpenSpec.ofChange kmacNamesSpec)

/-- ITS FALSE NEIGHBOUR: 'it returns false'. Refute it at one input. -/
def kmacNamesWrong : ChangeSpec := { name := "kmacNames", fn := fun _ => fun
  | [] => { results := [.lit (.bool false)], args := [] }
  | _ => none }
def KmacNamesWrongFalsely : Prop := kmacNamesRow.holds Try.pinned (OpenSpec.ofChange kmacNamesWrong)

/-- 'turnkeylaw14.KmacPieces': WHATEVER THE INPUT: true; the input reads as it did. -/
def kmacPiecesSpec : ChangeSpec := { name := "kmacPieces", fn := fun _ => fun
  | [d1, d2, d3] => { results := [.lit (.bool true)], args := [d1, d2, d3] }
  | _ => none }
def kmacPiecesRow : OpenClaim := { program := "ythoopaknldkclaa", sum := "c70323b8ca948b1900fa3b8694543314ad273cfd14acea974c503b3f5f1090d8", func := "turnkey/turnkeylaw14.KmacPieces", spec := "kmacPieces", apart := false }
def KmacPiecesSaid : Prop := kmacPiecesRow.holds Try.pinned (OpenSpec.ofChange kmacPiecesSpec)

/-- ITS FALSE NEIGHBOUR: 'it returns false'. Refute it at one input. -/
def kmacPiecesWrong : ChangeSpec := { name := "kmacPieces", fn := fun _ => fun
  | [d1, d2, d3] => { results := [.lit (.bool false)], args := [d1, d2, d3] }
  | _ => none }
def KmacPiecesWrongFalsely : Prop := kmacPiecesRow.holds Try.pinned (OpenSpec.ofChange kmacPiecesWrong)

/-- 'turnkeylaw14.KmacCalls': WHATEVER THE INPUT: true; the input reads as it did. -/
def kmacCallsSpec : ChangeSpec := { name := "kmacCalls", fn := fun _ => fun
  | [d1, d2, d3] => { results := [.lit (.bool true)], args := [d1, d2, d3] }
  | _ => none }
def kmacCallsRow : OpenClaim := { program := "ythoopaknldkclaa", sum := "c70323b8ca948b1900fa3b8694543314ad273cfd14acea974c503b3f5f1090d8", func := "turnkey/turnkeylaw14.KmacCalls", spec := "kmacCalls", apart := false }
def KmacCallsSaid : Prop := kmacCallsRow.holds Try.pinned (OpenSpec.ofChange kmacCallsSpec)

/-- ITS FALSE NEIGHBOUR: 'it returns false'. Refute it at one input. -/
def kmacCallsWrong : ChangeSpec := { name := "kmacCalls", fn := fun _ => fun
  | [d1, d2, d3] => { results := [.lit (.bool false)], args := [d1, d2, d3] }
  | _ => none }
def KmacCallsWrongFalsely : Prop := kmacCallsRow.holds Try.pinned (OpenSpec.ofChange kmacCallsWrong)

/-- 'turnkeylaw14.KmacNone': WHATEVER THE INPUT: true; the input reads as it did. -/
def kmacNoneSpec : ChangeSpec := { name := "kmacNone", fn := fun _ => fun
  | [d1, d2] => { results := [.lit (.bool true)], args := [d1, d2] }
  | _ => none }
def kmacNoneRow : OpenClaim := { program := "ythoopaknldkclaa", sum := "c70323b8ca948b1900fa3b8694543314ad273cfd14acea974c503b3f5f1090d8", func := "turnkey/turnkeylaw14.KmacNone", spec := "kmacNone", apart := false }
def KmacNoneSaid : Prop := kmacNoneRow.holds Try.pinned (OpenSpec.ofChange kmacNoneSpec)

/-- ITS FALSE NEIGHBOUR: 'it returns false'. Refute it at one input. -/
def kmacNoneWrong : ChangeSpec := { name := "kmacNone", fn := fun _ => fun
  | [d1, d2] => { results := [.lit (.bool false)], args := [d1, d2] }
  | _ => none }
def KmacNoneWrongFalsely : Prop := kmacNoneRow.holds Try.pinned (OpenSpec.ofChange kmacNoneWrong)

/- THE SECOND FORM. 'bulk': how many values and letters a reading holds, each counted each time it is reached (what is shared counts as often as it is met; a slice's spare places count too). A statement '..UptoSaid' is the law's where the arguments, and the package variables that the reading takes, are together of bulk at most 1048576: NARROWER than '..Said'. Prove '..Said' where nothing that the law and all that it calls make is longer than what came in: it says more and counts as full. Else prove '..UptoSaid'. A law counts once. -/
mutual
def uptoBulk {H : Type} : DataW H → Nat
  | .lit (.string bytes) => bytes.length + 1
  | .lit _ => 1
  | .nil => 1
  | .ptr d => uptoBulk d + 1
  | .slice elems spare => uptoBulkAll elems + uptoBulkAll spare + 1
  | .agg parts => uptoBulkAll parts + 1
  | .iface _ d => uptoBulk d + 1
  | .map entries => uptoBulkEntries entries + 1
  | .held _ => 1
def uptoBulkAll {H : Type} : List (DataW H) → Nat
  | [] => 0
  | d :: r => uptoBulk d + uptoBulkAll r
def uptoBulkEntries {H : Type} : List (Lit × DataW H) → Nat
  | [] => 0
  | x :: r => uptoBulkEntry x + uptoBulkEntries r
def uptoBulkEntry {H : Type} : Lit × DataW H → Nat
  | (.string bytes, d) => bytes.length + uptoBulk d + 1
  | (_, d) => uptoBulk d + 1
 end
def uptoSmall : (H : Type) → List (DataW H) → Bool := fun _ ds => decide (uptoBulkAll ds ≤ 1048576)
def OpenSpec.upto (s : _root_.Go.ChangeSpec) : _root_.Go.OpenSpec := { _root_.Go.OpenSpec.ofChange s with cond := some uptoSmall }

/-- 'turnkeylaw14.KmacTags', WHERE WHAT IT READS IS OF BULK AT MOST 1048576: true; the input reads as it did. -/
def kmacTagsUptoRow : OpenClaim := { program := "ythoopaknldkclaa", sum := "c70323b8ca948b1900fa3b8694543314ad273cfd14acea974c503b3f5f1090d8", func := "turnkey/turnkeylaw14.KmacTags", spec := "kmacTags", apart := false, narrowed := true }
def KmacTagsUptoSaid : Prop := kmacTagsUptoRow.holds Try.pinned (OpenSpec.upto kmacTagsSpec)

/-- 'turnkeylaw14.KmacNames', WHERE WHAT IT READS IS OF BULK AT MOST 1048576: true; the input reads as it did. -/
def kmacNamesUptoRow : OpenClaim := { program := "ythoopaknldkclaa", sum := "c70323b8ca948b1900fa3b8694543314ad273cfd14acea974c503b3f5f1090d8", func := "turnkey/turnkeylaw14.KmacNames", spec := "kmacNames", apart := false, narrowed := true }
def KmacNamesUptoSaid : Prop := kmacNamesUptoRow.holds Try.pinned (OpenSpec.upto kmacNamesSpec)

/-- 'turnkeylaw14.KmacPieces', WHERE WHAT IT READS IS OF BULK AT MOST 1048576: true; the input reads as it did. -/
def kmacPiecesUptoRow : OpenClaim := { program := "ythoopaknldkclaa", sum := "c70323b8ca948b1900fa3b8694543314ad273cfd14acea974c503b3f5f1090d8", func := "turnkey/turnkeylaw14.KmacPieces", spec := "kmacPieces", apart := false, narrowed := true }
def KmacPiecesUptoSaid : Prop := kmacPiecesUptoRow.holds Try.pinned (OpenSpec.upto kmacPiecesSpec)

/-- 'turnkeylaw14.KmacCalls', WHERE WHAT IT READS IS OF BULK AT MOST 1048576: true; the input reads as it did. -/
def kmacCallsUptoRow : OpenClaim := { program := "ythoopaknldkclaa", sum := "c70323b8ca948b1900fa3b8694543314ad273cfd14acea974c503b3f5f1090d8", func := "turnkey/turnkeylaw14.KmacCalls", spec := "kmacCalls", apart := false, narrowed := true }
def KmacCallsUptoSaid : Prop := kmacCallsUptoRow.holds Try.pinned (OpenSpec.upto kmacCallsSpec)

/-- 'turnkeylaw14.KmacNone', WHERE WHAT IT READS IS OF BULK AT MOST 1048576: true; the input reads as it did. -/
def kmacNoneUptoRow : OpenClaim := { program := "ythoopaknldkclaa", sum := "c70323b8ca948b1900fa3b8694543314ad273cfd14acea974c503b3f5f1090d8", func := "turnkey/turnkeylaw14.KmacNone", spec := "kmacNone", apart := false, narrowed := true }
def KmacNoneUptoSaid : Prop := kmacNoneUptoRow.holds Try.pinned (OpenSpec.upto kmacNoneSpec)

end Rows
end Go.Proofs.Ythoopaknldkclaa
