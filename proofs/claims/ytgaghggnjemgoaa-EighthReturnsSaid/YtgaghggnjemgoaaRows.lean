/-
  No cell of these rows narrows 'for every input' (looked for: loops, veiled, ifaces, maps, wideKeys, modest, calm, conditions, laid).
  DERIVED. THE GIVEN ROWS OF THIS SEAT. 7 by the template 'for every input the law returns true; each argument reads behind the call as it read before'; 0 by the template 'total and deterministic' (their statements: YtgaghggnjemgoaaTotals.lean).
  GIVEN WITH THE SEED: the statements are not yours to turn. If you find one false, say at which input.
  Laid BY PROGRAM, IN A SANDBOX (cutbox-rows.mjs): the forced cells as the released guide's own fill.sh prints them over the translation 24e3d51cf27bd1a8… (all of the seat's roots in one cut). By AI agents, Wed Nov 11 2026. No macro, syntax, notation, axiom, sorry.
-/
import Derived.Test.YtgaghggnjemgoaaChecked
import GoSem.Claim
import GoSem.ClaimJoined
import GoSem.ClaimMapViews
import Derived.JoinedTies
import Derived.KernelRfl
namespace Go.Proofs.Ytgaghggnjemgoaa
/- THE CELL 'sum', in the pinned program and in every row, IS THE sha256 OF THE DUMP (.gsa) THAT YtgaghggnjemgoaaProg.lean LOADS. Nothing in Lean hashes anything: it is a label: what it is worth is what the hold of that sum in a sandbox is worth. -/
noncomputable def Try.pinned : Pinned := { name := "ytgaghggnjemgoaa", sum := "24e3d51cf27bd1a8eabb4ae89eeb9b9fb0863139d18fbfe0315f5c53f23a92c8", checked := Try.checked }
namespace Rows
def none {H : Type} : Left H := { results := [], args := [] }

/-- 'turnkeylaw28.EighthRoots': WHATEVER THE INPUT: true; the input reads as it did. -/
def eighthRootsSpec : ChangeSpec := { name := "eighthRoots", fn := fun _ => fun
  | [d] => { results := [.lit (.bool true)], args := [d] }
  | _ => none }
def eighthRootsRow : OpenClaim := { program := "ytgaghggnjemgoaa", sum := "24e3d51cf27bd1a8eabb4ae89eeb9b9fb0863139d18fbfe0315f5c53f23a92c8", func := "turnkey/turnkeylaw28.EighthRoots", spec := "eighthRoots", inPlace := ["math.sqrt"], apart := false }
def EighthRootsSaid : Prop := eighthRootsRow.holds Try.pinned (OpenSpec.ofChange eighthRootsSpec)

/-- ITS FALSE NEIGHBOUR: 'it returns false'. Refute it at one input. -/
def eighthRootsWrong : ChangeSpec := { name := "eighthRoots", fn := fun _ => fun
  | [d] => { results := [.lit (.bool false)], args := [d] }
  | _ => none }
def EighthRootsWrongFalsely : Prop := eighthRootsRow.holds Try.pinned (OpenSpec.ofChange eighthRootsWrong)

/-- 'turnkeylaw28.EighthBacks': WHATEVER THE INPUT: true; the input reads as it did. -/
def eighthBacksSpec : ChangeSpec := { name := "eighthBacks", fn := fun _ => fun
  | [d1, d2] => { results := [.lit (.bool true)], args := [d1, d2] }
  | _ => none }
def eighthBacksRow : OpenClaim := { program := "ytgaghggnjemgoaa", sum := "24e3d51cf27bd1a8eabb4ae89eeb9b9fb0863139d18fbfe0315f5c53f23a92c8", func := "turnkey/turnkeylaw28.EighthBacks", spec := "eighthBacks", inPlace := ["math.Float64frombits", "math.sqrt"], apart := false }
def EighthBacksSaid : Prop := eighthBacksRow.holds Try.pinned (OpenSpec.ofChange eighthBacksSpec)

/-- ITS FALSE NEIGHBOUR: 'it returns false'. Refute it at one input. -/
def eighthBacksWrong : ChangeSpec := { name := "eighthBacks", fn := fun _ => fun
  | [d1, d2] => { results := [.lit (.bool false)], args := [d1, d2] }
  | _ => none }
def EighthBacksWrongFalsely : Prop := eighthBacksRow.holds Try.pinned (OpenSpec.ofChange eighthBacksWrong)

/-- 'turnkeylaw28.EighthSums': WHATEVER THE INPUT: true; the input reads as it did. -/
def eighthSumsSpec : ChangeSpec := { name := "eighthSums", fn := fun _ => fun
  | [d] => { results := [.lit (.bool true)], args := [d] }
  | _ => none }
def eighthSumsRow : OpenClaim := { program := "ytgaghggnjemgoaa", sum := "24e3d51cf27bd1a8eabb4ae89eeb9b9fb0863139d18fbfe0315f5c53f23a92c8", func := "turnkey/turnkeylaw28.EighthSums", spec := "eighthSums", inPlace := ["math.Float64frombits", "math.sqrt"], apart := false }
def EighthSumsSaid : Prop := eighthSumsRow.holds Try.pinned (OpenSpec.ofChange eighthSumsSpec)

/-- ITS FALSE NEIGHBOUR: 'it returns false'. Refute it at one input. -/
def eighthSumsWrong : ChangeSpec := { name := "eighthSums", fn := fun _ => fun
  | [d] => { results := [.lit (.bool false)], args := [d] }
  | _ => none }
def EighthSumsWrongFalsely : Prop := eighthSumsRow.holds Try.pinned (OpenSpec.ofChange eighthSumsWrong)

/-- 'turnkeylaw28.EighthMirror': WHATEVER THE INPUT: true; the input reads as it did. -/
def eighthMirrorSpec : ChangeSpec := { name := "eighthMirror", fn := fun _ => fun
  | [d] => { results := [.lit (.bool true)], args := [d] }
  | _ => none }
def eighthMirrorRow : OpenClaim := { program := "ytgaghggnjemgoaa", sum := "24e3d51cf27bd1a8eabb4ae89eeb9b9fb0863139d18fbfe0315f5c53f23a92c8", func := "turnkey/turnkeylaw28.EighthMirror", spec := "eighthMirror", inPlace := ["math.sqrt"], apart := false }
def EighthMirrorSaid : Prop := eighthMirrorRow.holds Try.pinned (OpenSpec.ofChange eighthMirrorSpec)

/-- ITS FALSE NEIGHBOUR: 'it returns false'. Refute it at one input. -/
def eighthMirrorWrong : ChangeSpec := { name := "eighthMirror", fn := fun _ => fun
  | [d] => { results := [.lit (.bool false)], args := [d] }
  | _ => none }
def EighthMirrorWrongFalsely : Prop := eighthMirrorRow.holds Try.pinned (OpenSpec.ofChange eighthMirrorWrong)

/-- 'turnkeylaw28.EighthTurns': WHATEVER THE INPUT: true; the input reads as it did. -/
def eighthTurnsSpec : ChangeSpec := { name := "eighthTurns", fn := fun _ => fun
  | [d] => { results := [.lit (.bool true)], args := [d] }
  | _ => none }
def eighthTurnsRow : OpenClaim := { program := "ytgaghggnjemgoaa", sum := "24e3d51cf27bd1a8eabb4ae89eeb9b9fb0863139d18fbfe0315f5c53f23a92c8", func := "turnkey/turnkeylaw28.EighthTurns", spec := "eighthTurns", inPlace := ["math.sqrt"], apart := false }
def EighthTurnsSaid : Prop := eighthTurnsRow.holds Try.pinned (OpenSpec.ofChange eighthTurnsSpec)

/-- ITS FALSE NEIGHBOUR: 'it returns false'. Refute it at one input. -/
def eighthTurnsWrong : ChangeSpec := { name := "eighthTurns", fn := fun _ => fun
  | [d] => { results := [.lit (.bool false)], args := [d] }
  | _ => none }
def EighthTurnsWrongFalsely : Prop := eighthTurnsRow.holds Try.pinned (OpenSpec.ofChange eighthTurnsWrong)

/-- 'turnkeylaw28.EighthKnown': WHATEVER THE INPUT: true; the input reads as it did. -/
def eighthKnownSpec : ChangeSpec := { name := "eighthKnown", fn := fun _ => fun
  | [] => { results := [.lit (.bool true)], args := [] }
  | _ => none }
def eighthKnownRow : OpenClaim := { program := "ytgaghggnjemgoaa", sum := "24e3d51cf27bd1a8eabb4ae89eeb9b9fb0863139d18fbfe0315f5c53f23a92c8", func := "turnkey/turnkeylaw28.EighthKnown", spec := "eighthKnown", inPlace := ["math.sqrt", "math.Float64frombits"], apart := false }
def EighthKnownSaid : Prop := eighthKnownRow.holds Try.pinned (OpenSpec.ofChange eighthKnownSpec)

/-- ITS FALSE NEIGHBOUR: 'it returns false'. Refute it at one input. -/
def eighthKnownWrong : ChangeSpec := { name := "eighthKnown", fn := fun _ => fun
  | [] => { results := [.lit (.bool false)], args := [] }
  | _ => none }
def EighthKnownWrongFalsely : Prop := eighthKnownRow.holds Try.pinned (OpenSpec.ofChange eighthKnownWrong)

/-- 'turnkeylaw28.EighthReturns': WHATEVER THE INPUT: true; the input reads as it did. -/
def eighthReturnsSpec : ChangeSpec := { name := "eighthReturns", fn := fun _ => fun
  | [d] => { results := [.lit (.bool true)], args := [d] }
  | _ => none }
def eighthReturnsRow : OpenClaim := { program := "ytgaghggnjemgoaa", sum := "24e3d51cf27bd1a8eabb4ae89eeb9b9fb0863139d18fbfe0315f5c53f23a92c8", func := "turnkey/turnkeylaw28.EighthReturns", spec := "eighthReturns", inPlace := ["math.sqrt"], apart := false }
def EighthReturnsSaid : Prop := eighthReturnsRow.holds Try.pinned (OpenSpec.ofChange eighthReturnsSpec)

/-- ITS FALSE NEIGHBOUR: 'it returns false'. Refute it at one input. -/
def eighthReturnsWrong : ChangeSpec := { name := "eighthReturns", fn := fun _ => fun
  | [d] => { results := [.lit (.bool false)], args := [d] }
  | _ => none }
def EighthReturnsWrongFalsely : Prop := eighthReturnsRow.holds Try.pinned (OpenSpec.ofChange eighthReturnsWrong)

/- THE SECOND FORM. 'bulk': how many values and letters a reading holds, each counted each time it is reached (what is shared counts as often as it is met; a slice's spare places count too). A statement '..UptoSaid' is the law's where the arguments, and the package variables that the reading takes, are together of bulk at most 1048576: NARROWER than '..Said'. Prove '..Said' where nothing that the law and all that it calls make is longer than what came in: it says more and counts as full. Else prove '..UptoSaid'. A law counts once. -/
mutual
def uptoBulk {H : Type} : DataW H → Nat
  | .lit (.string bytes) => bytes.length + 1
  | .lit _ => 1
  | .nil => 1
  | .ptr d => uptoBulk d + 1
  | .slice elems spare => uptoBulkAll elems + uptoBulkAll spare + 1
  | .agg parts => uptoBulkAll parts + 1
  | .iface _ d => uptoBulk d + 1
  | .map entries => uptoBulkEntries entries + 1
  | .held _ => 1
def uptoBulkAll {H : Type} : List (DataW H) → Nat
  | [] => 0
  | d :: r => uptoBulk d + uptoBulkAll r
def uptoBulkEntries {H : Type} : List (Lit × DataW H) → Nat
  | [] => 0
  | x :: r => uptoBulkEntry x + uptoBulkEntries r
def uptoBulkEntry {H : Type} : Lit × DataW H → Nat
  | (.string bytes, d) => bytes.length + uptoBulk d + 1
  | (_, d) => uptoBulk d + 1
 end
def uptoSmall : (H : Type) → List (DataW H) → Bool := fun _ ds => decide (uptoBulkAll ds ≤ 1048576)
def OpenSpec.upto (s : _root_.Go.ChangeSpec) : _root_.Go.OpenSpec := { _root_.Go.OpenSpec.ofChange s with cond := some uptoSmall }

/-- 'turnkeylaw28.EighthRoots', WHERE WHAT IT READS IS OF BULK AT MOST 1048576: true; the input reads as it did. -/
def eighthRootsUptoRow : OpenClaim := { program := "ytgaghggnjemgoaa", sum := "24e3d51cf27bd1a8eabb4ae89eeb9b9fb0863139d18fbfe0315f5c53f23a92c8", func := "turnkey/turnkeylaw28.EighthRoots", spec := "eighthRoots", inPlace := ["math.sqrt"], apart := false, narrowed := true }
def EighthRootsUptoSaid : Prop := eighthRootsUptoRow.holds Try.pinned (OpenSpec.upto eighthRootsSpec)

/-- 'turnkeylaw28.EighthBacks', WHERE WHAT IT READS IS OF BULK AT MOST 1048576: true; the input reads as it did. -/
def eighthBacksUptoRow : OpenClaim := { program := "ytgaghggnjemgoaa", sum := "24e3d51cf27bd1a8eabb4ae89eeb9b9fb0863139d18fbfe0315f5c53f23a92c8", func := "turnkey/turnkeylaw28.EighthBacks", spec := "eighthBacks", inPlace := ["math.Float64frombits", "math.sqrt"], apart := false, narrowed := true }
def EighthBacksUptoSaid : Prop := eighthBacksUptoRow.holds Try.pinned (OpenSpec.upto eighthBacksSpec)

/-- 'turnkeylaw28.EighthSums', WHERE WHAT IT READS IS OF BULK AT MOST 1048576: true; the input reads as it did. -/
def eighthSumsUptoRow : OpenClaim := { program := "ytgaghggnjemgoaa", sum := "24e3d51cf27bd1a8eabb4ae89eeb9b9fb0863139d18fbfe0315f5c53f23a92c8", func := "turnkey/turnkeylaw28.EighthSums", spec := "eighthSums", inPlace := ["math.Float64frombits", "math.sqrt"], apart := false, narrowed := true }
def EighthSumsUptoSaid : Prop := eighthSumsUptoRow.holds Try.pinned (OpenSpec.upto eighthSumsSpec)

/-- 'turnkeylaw28.EighthMirror', WHERE WHAT IT READS IS OF BULK AT MOST 1048576: true; the input reads as it did. -/
def eighthMirrorUptoRow : OpenClaim := { program := "ytgaghggnjemgoaa", sum := "24e3d51cf27bd1a8eabb4ae89eeb9b9fb0863139d18fbfe0315f5c53f23a92c8", func := "turnkey/turnkeylaw28.EighthMirror", spec := "eighthMirror", inPlace := ["math.sqrt"], apart := false, narrowed := true }
def EighthMirrorUptoSaid : Prop := eighthMirrorUptoRow.holds Try.pinned (OpenSpec.upto eighthMirrorSpec)

/-- 'turnkeylaw28.EighthTurns', WHERE WHAT IT READS IS OF BULK AT MOST 1048576: true; the input reads as it did. -/
def eighthTurnsUptoRow : OpenClaim := { program := "ytgaghggnjemgoaa", sum := "24e3d51cf27bd1a8eabb4ae89eeb9b9fb0863139d18fbfe0315f5c53f23a92c8", func := "turnkey/turnkeylaw28.EighthTurns", spec := "eighthTurns", inPlace := ["math.sqrt"], apart := false, narrowed := true }
def EighthTurnsUptoSaid : Prop := eighthTurnsUptoRow.holds Try.pinned (OpenSpec.upto eighthTurnsSpec)

/-- 'turnkeylaw28.EighthKnown', WHERE WHAT IT READS IS OF BULK AT MOST 1048576: true; the input reads as it did. -/
def eighthKnownUptoRow : OpenClaim := { program := "ytgaghggnjemgoaa", sum := "24e3d51cf27bd1a8eabb4ae89eeb9b9fb0863139d18fbfe0315f5c53f23a92c8", func := "turnkey/turnkeylaw28.EighthKnown", spec := "eighthKnown", inPlace := ["math.sqrt", "math.Float64frombits"], apart := false, narrowed := true }
def EighthKnownUptoSaid : Prop := eighthKnownUptoRow.holds Try.pinned (OpenSpec.upto eighthKnownSpec)

/-- 'turnkeylaw28.EighthReturns', WHERE WHAT IT READS IS OF BULK AT MOST 1048576: true; the input reads as it did. -/
def eighthReturnsUptoRow : OpenClaim := { program := "ytgaghggnjemgoaa", sum := "24e3d51cf27bd1a8eabb4ae89eeb9b9fb0863139d18fbfe0315f5c53f23a92c8", func := "turnkey/turnkeylaw28.EighthReturns", spec := "eighthReturns", inPlace := ["math.sqrt"], apart := false, narrowed := true }
def EighthReturnsUptoSaid : Prop := eighthReturnsUptoRow.holds Try.pinned (OpenSpec.upto eighthReturnsSpec)

end Rows
end Go.Proofs.Ytgaghggnjemgoaa
