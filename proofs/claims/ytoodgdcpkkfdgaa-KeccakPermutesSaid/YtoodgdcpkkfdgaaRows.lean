/-
  No cell of these rows narrows 'for every input' (looked for: loops, veiled, ifaces, maps, wideKeys, modest, calm, conditions, laid).
  DERIVED. THE GIVEN ROWS OF THIS SEAT. 4 by the template 'for every input the law returns true; each argument reads behind the call as it read before'; 0 by the template 'total and deterministic' (their statements: YtoodgdcpkkfdgaaTotals.lean).
  GIVEN WITH THE SEED: the statements are not yours to turn. If you find one false, say at which input.
  Laid BY PROGRAM, IN A SANDBOX (cutbox-rows.mjs): the forced cells as the released guide's own fill.sh prints them over the translation d316bf294f8104be… (all of the seat's roots in one cut). By AI agents, Wed Nov 11 2026. No macro, syntax, notation, axiom, sorry.
-/
import Derived.Test.YtoodgdcpkkfdgaaChecked
import GoSem.Claim
import GoSem.ClaimJoined
import GoSem.ClaimMapViews
import Derived.JoinedTies
import Derived.KernelRfl
namespace Go.Proofs.Ytoodgdcpkkfdgaa
/- THE CELL 'sum', in the pinned program and in every row, IS THE sha256 OF THE DUMP (.gsa) THAT YtoodgdcpkkfdgaaProg.lean LOADS. Nothing in Lean hashes anything: it is a label: what it is worth is what the hold of that sum in a sandbox is worth. -/
noncomputable def Try.pinned : Pinned := { name := "ytoodgdcpkkfdgaa", sum := "d316bf294f8104bea116cec6618d68fa592355ec57d902f76d11218fba0c275c", checked := Try.checked }
namespace Rows
def none {H : Type} : Left H := { results := [], args := [] }

/-- 'turnkeylaw07.KeccakBytes': WHATEVER THE INPUT: true; the input reads as it did. -/
def keccakBytesSpec : ChangeSpec := { name := "keccakBytes", fn := fun _ => fun
  | [d] => { results := [.lit (.bool true)], args := [d] }
  | _ => none }
def keccakBytesRow : OpenClaim := { program := "ytoodgdcpkkfdgaa", sum := "d316bf294f8104bea116cec6618d68fa592355ec57d902f76d11218fba0c275c", func := "turnkey/turnkeylaw07.KeccakBytes", spec := "keccakBytes", apart := false }
def KeccakBytesSaid : Prop := keccakBytesRow.holds Try.pinned (OpenSpec.ofChange keccakBytesSpec)

/-- ITS FALSE NEIGHBOUR: 'it returns false'. Refute it at one input. -/
def keccakBytesWrong : ChangeSpec := { name := "keccakBytes", fn := fun _ => fun
  | [d] => { results := [.lit (.bool false)], args := [d] }
  | _ => none }
def KeccakBytesWrongFalsely : Prop := keccakBytesRow.holds Try.pinned (OpenSpec.ofChange keccakBytesWrong)

/-- 'turnkeylaw07.KeccakPermutes': WHATEVER THE INPUT: true; the input reads as it did. -/
def keccakPermutesSpec : ChangeSpec := { name := "keccakPermutes", fn := fun _ => fun
  | [d1, d2] => { results := [.lit (.bool true)], args := [d1, d2] }
  | _ => none }
def keccakPermutesRow : OpenClaim := { program := "ytoodgdcpkkfdgaa", sum := "d316bf294f8104bea116cec6618d68fa592355ec57d902f76d11218fba0c275c", func := "turnkey/turnkeylaw07.KeccakPermutes", spec := "keccakPermutes", apart := false }
def KeccakPermutesSaid : Prop := keccakPermutesRow.holds Try.pinned (OpenSpec.ofChange keccakPermutesSpec)

/-- ITS FALSE NEIGHBOUR: 'it returns false'. Refute it at one input. -/
def keccakPermutesWrong : ChangeSpec := { name := "keccakPermutes", fn := fun _ => fun
  | [d1, d2] => { results := [.lit (.bool false)], args := [d1, d2] }
  | _ => none }
def KeccakPermutesWrongFalsely : Prop := keccakPermutesRow.holds Try.pinned (OpenSpec.ofChange keccakPermutesWrong)

/-- 'turnkeylaw07.KeccakApart': WHATEVER THE INPUT: true; the input reads as it did. -/
def keccakApartSpec : ChangeSpec := { name := "keccakApart", fn := fun _ => fun
  | [d1, d2] => { results := [.lit (.bool true)], args := [d1, d2] }
  | _ => none }
def keccakApartRow : OpenClaim := { program := "ytoodgdcpkkfdgaa", sum := "d316bf294f8104bea116cec6618d68fa592355ec57d902f76d11218fba0c275c", func := "turnkey/turnkeylaw07.KeccakApart", spec := "keccakApart", apart := false }
def KeccakApartSaid : Prop := keccakApartRow.holds Try.pinned (OpenSpec.ofChange keccakApartSpec)

/-- ITS FALSE NEIGHBOUR: 'it returns false'. Refute it at one input. -/
def keccakApartWrong : ChangeSpec := { name := "keccakApart", fn := fun _ => fun
  | [d1, d2] => { results := [.lit (.bool false)], args := [d1, d2] }
  | _ => none }
def KeccakApartWrongFalsely : Prop := keccakApartRow.holds Try.pinned (OpenSpec.ofChange keccakApartWrong)

/-- 'turnkeylaw07.KeccakKnown': WHATEVER THE INPUT: true; the input reads as it did. -/
def keccakKnownSpec : ChangeSpec := { name := "keccakKnown", fn := fun _ => fun
  | [] => { results := [.lit (.bool true)], args := [] }
  | _ => none }
def keccakKnownRow : OpenClaim := { program := "ytoodgdcpkkfdgaa", sum := "d316bf294f8104bea116cec6618d68fa592355ec57d902f76d11218fba0c275c", func := "turnkey/turnkeylaw07.KeccakKnown", spec := "keccakKnown", apart := false }
def KeccakKnownSaid : Prop := keccakKnownRow.holds Try.pinned (OpenSpec.ofChange keccakKnownSpec)

/-- ITS FALSE NEIGHBOUR: 'it returns false'. Refute it at one input. -/
def keccakKnownWrong : ChangeSpec := { name := "keccakKnown", fn := fun _ => fun
  | [] => { results := [.lit (.bool false)], args := [] }
  | _ => none }
def KeccakKnownWrongFalsely : Prop := keccakKnownRow.holds Try.pinned (OpenSpec.ofChange keccakKnownWrong)

/- THE SECOND FORM. 'bulk': how many values and letters a reading holds, each counted each time it is reached (what is shared counts as often as it is met; a slice's spare places count too). A statement '..UptoSaid' is the law's where the arguments, and the package variables that the reading takes, are together of bulk at most 1048576: NARROWER than '..Said'. Prove '..Said' where nothing that the law and all that it calls make is longer than what came in: it says more and counts as full. Else prove '..UptoSaid'. A law counts once. -/
mutual
def uptoBulk {H : Type} : DataW H → Nat
  | .lit (.string bytes) => bytes.length + 1
  | .lit _ => 1
  | .nil => 1
  | .ptr d => uptoBulk d + 1
  | .slice elems spare => uptoBulkAll elems + uptoBulkAll spare + 1
  | .agg parts => uptoBulkAll parts + 1
  | .iface _ d => uptoBulk d + 1
  | .map entries => uptoBulkEntries entries + 1
  | .held _ => 1
def uptoBulkAll {H : Type} : List (DataW H) → Nat
  | [] => 0
  | d :: r => uptoBulk d + uptoBulkAll r
def uptoBulkEntries {H : Type} : List (Lit × DataW H) → Nat
  | [] => 0
  | x :: r => uptoBulkEntry x + uptoBulkEntries r
def uptoBulkEntry {H : Type} : Lit × DataW H → Nat
  | (.string bytes, d) => bytes.length + uptoBulk d + 1
  | (_, d) => uptoBulk d + 1
 end
def uptoSmall : (H : Type) → List (DataW H) → Bool := fun _ ds => decide (uptoBulkAll ds ≤ 1048576)
def OpenSpec.upto (s : _root_.Go.ChangeSpec) : _root_.Go.OpenSpec := { _root_.Go.OpenSpec.ofChange s with cond := some uptoSmall }

/-- 'turnkeylaw07.KeccakBytes', WHERE WHAT IT READS IS OF BULK AT MOST 1048576: true; the input reads as it did. -/
def keccakBytesUptoRow : OpenClaim := { program := "ytoodgdcpkkfdgaa", sum := "d316bf294f8104bea116cec6618d68fa592355ec57d902f76d11218fba0c275c", func := "turnkey/turnkeylaw07.KeccakBytes", spec := "keccakBytes", apart := false, narrowed := true }
def KeccakBytesUptoSaid : Prop := keccakBytesUptoRow.holds Try.pinned (OpenSpec.upto keccakBytesSpec)

/-- 'turnkeylaw07.KeccakPermutes', WHERE WHAT IT READS IS OF BULK AT MOST 1048576: true; the input reads as it did. -/
def keccakPermutesUptoRow : OpenClaim := { program := "ytoodgdcpkkfdgaa", sum := "d316bf294f8104bea116cec6618d68fa592355ec57d902f76d11218fba0c275c", func := "turnkey/turnkeylaw07.KeccakPermutes", spec := "keccakPermutes", apart := false, narrowed := true }
def KeccakPermutesUptoSaid : Prop := keccakPermutesUptoRow.holds Try.pinned (OpenSpec.upto keccakPermutesSpec)

/-- 'turnkeylaw07.KeccakApart', WHERE WHAT IT READS IS OF BULK AT MOST 1048576: true; the input reads as it did. -/
def keccakApartUptoRow : OpenClaim := { program := "ytoodgdcpkkfdgaa", sum := "d316bf294f8104bea116cec6618d68fa592355ec57d902f76d11218fba0c275c", func := "turnkey/turnkeylaw07.KeccakApart", spec := "keccakApart", apart := false, narrowed := true }
def KeccakApartUptoSaid : Prop := keccakApartUptoRow.holds Try.pinned (OpenSpec.upto keccakApartSpec)

/-- 'turnkeylaw07.KeccakKnown', WHERE WHAT IT READS IS OF BULK AT MOST 1048576: true; the input reads as it did. -/
def keccakKnownUptoRow : OpenClaim := { program := "ytoodgdcpkkfdgaa", sum := "d316bf294f8104bea116cec6618d68fa592355ec57d902f76d11218fba0c275c", func := "turnkey/turnkeylaw07.KeccakKnown", spec := "keccakKnown", apart := false, narrowed := true }
def KeccakKnownUptoSaid : Prop := keccakKnownUptoRow.holds Try.pinned (OpenSpec.upto keccakKnownSpec)

end Rows
end Go.Proofs.Ytoodgdcpkkfdgaa
