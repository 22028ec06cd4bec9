/-
  No cell of these rows narrows 'for every input' (looked for: loops, veiled, ifaces, maps, wideKeys, modest, calm, conditions, laid).
  DERIVED. THE GIVEN ROWS OF THIS SEAT. 4 by the template 'for every input the law returns true; each argument reads behind the call as it read before'; 0 by the template 'total and deterministic' (their statements: YtgjlclihgpahbaaTotals.lean).
  GIVEN WITH THE SEED: the statements are not yours to turn. If you find one false, say at which input.
  Laid BY PROGRAM, IN A SANDBOX (cutbox-rows.mjs): the forced cells as the released guide's own fill.sh prints them over the translation 815d9a903837ac5c… (all of the seat's roots in one cut). By AI agents, Wed Nov 11 2026. No macro, syntax, notation, axiom, sorry.
-/
import Derived.Test.YtgjlclihgpahbaaChecked
import GoSem.Claim
import GoSem.ClaimJoined
import GoSem.ClaimMapViews
import Derived.JoinedTies
import Derived.KernelRfl
namespace Go.Proofs.Ytgjlclihgpahbaa
/- THE CELL 'sum', in the pinned program and in every row, IS THE sha256 OF THE DUMP (.gsa) THAT YtgjlclihgpahbaaProg.lean LOADS. Nothing in Lean hashes anything: it is a label: what it is worth is what the hold of that sum in a sandbox is worth. -/
noncomputable def Try.pinned : Pinned := { name := "ytgjlclihgpahbaa", sum := "815d9a903837ac5c40c86e5b03a11d94100258ec15dbaf6476a8d6732d84313d", checked := Try.checked }
namespace Rows
def none {H : Type} : Left H := { results := [], args := [] }

/-- 'turnkeylaw08.SpongeNames': WHATEVER THE INPUT: true; the input reads as it did. -/
def spongeNamesSpec : ChangeSpec := { name := "spongeNames", fn := fun _ => fun
  | [] => { results := [.lit (.bool true)], args := [] }
  | _ => none }
def spongeNamesRow : OpenClaim := { program := "ytgjlclihgpahbaa", sum := "815d9a903837ac5c40c86e5b03a11d94100258ec15dbaf6476a8d6732d84313d", func := "turnkey/turnkeylaw08.SpongeNames", spec := "spongeNames", apart := false }
def SpongeNamesSaid : Prop := spongeNamesRow.holds Try.pinned (OpenSpec.ofChange spongeNamesSpec)

/-- ITS FALSE NEIGHBOUR: 'it returns false'. Refute it at one input. -/
def spongeNamesWrong : ChangeSpec := { name := "spongeNames", fn := fun _ => fun
  | [] => { results := [.lit (.bool false)], args := [] }
  | _ => none }
def SpongeNamesWrongFalsely : Prop := spongeNamesRow.holds Try.pinned (OpenSpec.ofChange spongeNamesWrong)

/-- 'turnkeylaw08.SpongePieces': WHATEVER THE INPUT: true; the input reads as it did. -/
def spongePiecesSpec : ChangeSpec := { name := "spongePieces", fn := fun _ => fun
  | [d1, d2, d3] => { results := [.lit (.bool true)], args := [d1, d2, d3] }
  | _ => none }
def spongePiecesRow : OpenClaim := { program := "ytgjlclihgpahbaa", sum := "815d9a903837ac5c40c86e5b03a11d94100258ec15dbaf6476a8d6732d84313d", func := "turnkey/turnkeylaw08.SpongePieces", spec := "spongePieces", apart := false }
def SpongePiecesSaid : Prop := spongePiecesRow.holds Try.pinned (OpenSpec.ofChange spongePiecesSpec)

/-- ITS FALSE NEIGHBOUR: 'it returns false'. Refute it at one input. -/
def spongePiecesWrong : ChangeSpec := { name := "spongePieces", fn := fun _ => fun
  | [d1, d2, d3] => { results := [.lit (.bool false)], args := [d1, d2, d3] }
  | _ => none }
def SpongePiecesWrongFalsely : Prop := spongePiecesRow.holds Try.pinned (OpenSpec.ofChange spongePiecesWrong)

/-- 'turnkeylaw08.SpongeCalls': WHATEVER THE INPUT: true; the input reads as it did. -/
def spongeCallsSpec : ChangeSpec := { name := "spongeCalls", fn := fun _ => fun
  | [d1, d2, d3] => { results := [.lit (.bool true)], args := [d1, d2, d3] }
  | _ => none }
def spongeCallsRow : OpenClaim := { program := "ytgjlclihgpahbaa", sum := "815d9a903837ac5c40c86e5b03a11d94100258ec15dbaf6476a8d6732d84313d", func := "turnkey/turnkeylaw08.SpongeCalls", spec := "spongeCalls", apart := false }
def SpongeCallsSaid : Prop := spongeCallsRow.holds Try.pinned (OpenSpec.ofChange spongeCallsSpec)

/-- ITS FALSE NEIGHBOUR: 'it returns false'. Refute it at one input. -/
def spongeCallsWrong : ChangeSpec := { name := "spongeCalls", fn := fun _ => fun
  | [d1, d2, d3] => { results := [.lit (.bool false)], args := [d1, d2, d3] }
  | _ => none }
def SpongeCallsWrongFalsely : Prop := spongeCallsRow.holds Try.pinned (OpenSpec.ofChange spongeCallsWrong)

/-- 'turnkeylaw08.SpongeNone': WHATEVER THE INPUT: true; the input reads as it did. -/
def spongeNoneSpec : ChangeSpec := { name := "spongeNone", fn := fun _ => fun
  | [d1, d2] => { results := [.lit (.bool true)], args := [d1, d2] }
  | _ => none }
def spongeNoneRow : OpenClaim := { program := "ytgjlclihgpahbaa", sum := "815d9a903837ac5c40c86e5b03a11d94100258ec15dbaf6476a8d6732d84313d", func := "turnkey/turnkeylaw08.SpongeNone", spec := "spongeNone", apart := false }
def SpongeNoneSaid : Prop := spongeNoneRow.holds Try.pinned (OpenSpec.ofChange spongeNoneSpec)

/-- ITS FALSE NEIGHBOUR: 'it returns false'. Refute it at one input. -/
def spongeNoneWrong : ChangeSpec := { name := "spongeNone", fn := fun _ => fun
  | [d1, d2] => { results := [.lit (.bool false)], args := [d1, d2] }
  | _ => none }
def SpongeNoneWrongFalsely : Prop := spongeNoneRow.holds Try.pinned (OpenSpec.ofChange spongeNoneWrong)

/- THE SECOND FORM. 'bulk': how many values and letters a reading holds, each counted each time it is reached (what is shared counts as often as it is met; a slice's spare places count too). A statement '..UptoSaid' is the law's where the arguments, and the package variables that the reading takes, are together of bulk at most 1048576: NARROWER than '..Said'. Prove '..Said' where nothing that the law and all that it calls make is longer than what came in: it says more and counts as full. Else prove '..UptoSaid'. A law counts once. -/
mutual
def uptoBulk {H : Type} : DataW H → Nat
  | .lit (.string bytes) => bytes.length + 1
  | .lit _ => 1
  | .nil => 1
  | .ptr d => uptoBulk d + 1
  | .slice elems spare => uptoBulkAll elems + uptoBulkAll spare + 1
  | .agg parts => uptoBulkAll parts + 1
  | .iface _ d => uptoBulk d + 1
  | .map entries => uptoBulkEntries entries + 1
  | .held _ => 1
def uptoBulkAll {H : Type} : List (DataW H) → Nat
  | [] => 0
  | d :: r => uptoBulk d + uptoBulkAll r
def uptoBulkEntries {H : Type} : List (Lit × DataW H) → Nat
  | [] => 0
  | x :: r => uptoBulkEntry x + uptoBulkEntries r
def uptoBulkEntry {H : Type} : Lit × DataW H → Nat
  | (.string bytes, d) => bytes.length + uptoBulk d + 1
  | (_, d) => uptoBulk d + 1
 end
def uptoSmall : (H : Type) → List (DataW H) → Bool := fun _ ds => decide (uptoBulkAll ds ≤ 1048576)
def OpenSpec.upto (s : _root_.Go.ChangeSpec) : _root_.Go.OpenSpec := { _root_.Go.OpenSpec.ofChange s with cond := some uptoSmall }

/-- 'turnkeylaw08.SpongeNames', WHERE WHAT IT READS IS OF BULK AT MOST 1048576: true; the input reads as it did. -/
def spongeNamesUptoRow : OpenClaim := { program := "ytgjlclihgpahbaa", sum := "815d9a903837ac5c40c86e5b03a11d94100258ec15dbaf6476a8d6732d84313d", func := "turnkey/turnkeylaw08.SpongeNames", spec := "spongeNames", apart := false, narrowed := true }
def SpongeNamesUptoSaid : Prop := spongeNamesUptoRow.holds Try.pinned (OpenSpec.upto spongeNamesSpec)

/-- 'turnkeylaw08.SpongePieces', WHERE WHAT IT READS IS OF BULK AT MOST 1048576: true; the input reads as it did. -/
def spongePiecesUptoRow : OpenClaim := { program := "ytgjlclihgpahbaa", sum := "815d9a903837ac5c40c86e5b03a11d94100258ec15dbaf6476a8d6732d84313d", func := "turnkey/turnkeylaw08.SpongePieces", spec := "spongePieces", apart := false, narrowed := true }
def SpongePiecesUptoSaid : Prop := spongePiecesUptoRow.holds Try.pinned (OpenSpec.upto spongePiecesSpec)

/-- 'turnkeylaw08.SpongeCalls', WHERE WHAT IT READS IS OF BULK AT MOST 1048576: true; the input reads as it did. -/
def spongeCallsUptoRow : OpenClaim := { program := "ytgjlclihgpahbaa", sum := "815d9a903837ac5c40c86e5b03a11d94100258ec15dbaf6476a8d6732d84313d", func := "turnkey/turnkeylaw08.SpongeCalls", spec := "spongeCalls", apart := false, narrowed := true }
def SpongeCallsUptoSaid : Prop := spongeCallsUptoRow.holds Try.pinned (OpenSpec.upto spongeCallsSpec)

/-- 'turnkeylaw08.SpongeNone', WHERE WHAT IT READS IS OF BULK AT MOST 1048576: true; the input reads as it did. -/
def spongeNoneUptoRow : OpenClaim := { program := "ytgjlclihgpahbaa", sum := "815d9a903837ac5c40c86e5b03a11d94100258ec15dbaf6476a8d6732d84313d", func := "turnkey/turnkeylaw08.SpongeNone", spec := "spongeNone", apart := false, narrowed := true }
def SpongeNoneUptoSaid : Prop := spongeNoneUptoRow.holds Try.pinned (OpenSpec.upto spongeNoneSpec)

end Rows
end Go.Proofs.Ytgjlclihgpahbaa
