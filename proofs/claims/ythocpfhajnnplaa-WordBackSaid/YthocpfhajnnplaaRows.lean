/-
  No cell of these rows narrows 'for every input' (looked for: loops, veiled, ifaces, maps, wideKeys, modest, calm, conditions, laid).
  DERIVED. THE GIVEN ROWS OF THIS SEAT. 6 by the template 'for every input the law returns true; each argument reads behind the call as it read before'; 0 by the template 'total and deterministic' (their statements: YthocpfhajnnplaaTotals.lean).
  GIVEN WITH THE SEED: the statements are not yours to turn. If you find one false, say at which input.
  Laid BY PROGRAM, IN A SANDBOX (cutbox-rows.mjs): the forced cells as the released guide's own fill.sh prints them over the translation c888086765231806… (all of the seat's roots in one cut). By AI agents, Wed Nov 11 2026. No macro, syntax, notation, axiom, sorry.
-/
import Derived.Test.YthocpfhajnnplaaChecked
import GoSem.Claim
import GoSem.ClaimJoined
import GoSem.ClaimMapViews
import Derived.JoinedTies
import Derived.KernelRfl
namespace Go.Proofs.Ythocpfhajnnplaa
/- THE CELL 'sum', in the pinned program and in every row, IS THE sha256 OF THE DUMP (.gsa) THAT YthocpfhajnnplaaProg.lean LOADS. Nothing in Lean hashes anything: it is a label: what it is worth is what the hold of that sum in a sandbox is worth. -/
noncomputable def Try.pinned : Pinned := { name := "ythocpfhajnnplaa", sum := "c888086765231806d6bbc05a14a9100fb8e5356931a220b598eb0ddc4e3b4fdb", checked := Try.checked }
namespace Rows
def none {H : Type} : Left H := { results := [], args := [] }

/-- 'turnkeylaw01.WordXors': WHATEVER THE INPUT: true; the input reads as it did. -/
def wordXorsSpec : ChangeSpec := { name := "wordXors", fn := fun _ => fun
  | [d1, d2] => { results := [.lit (.bool true)], args := [d1, d2] }
  | _ => none }
def wordXorsRow : OpenClaim := { program := "ythocpfhajnnplaa", sum := "c888086765231806d6bbc05a14a9100fb8e5356931a220b598eb0ddc4e3b4fdb", func := "turnkey/turnkeylaw01.WordXors", spec := "wordXors", apart := false }
def WordXorsSaid : Prop := wordXorsRow.holds Try.pinned (OpenSpec.ofChange wordXorsSpec)

/-- ITS FALSE NEIGHBOUR: 'it returns false'. Refute it at one input. -/
def wordXorsWrong : ChangeSpec := { name := "wordXors", fn := fun _ => fun
  | [d1, d2] => { results := [.lit (.bool false)], args := [d1, d2] }
  | _ => none }
def WordXorsWrongFalsely : Prop := wordXorsRow.holds Try.pinned (OpenSpec.ofChange wordXorsWrong)

/-- 'turnkeylaw01.WordTurns': WHATEVER THE INPUT: true; the input reads as it did. -/
def wordTurnsSpec : ChangeSpec := { name := "wordTurns", fn := fun _ => fun
  | [d1, d2] => { results := [.lit (.bool true)], args := [d1, d2] }
  | _ => none }
def wordTurnsRow : OpenClaim := { program := "ythocpfhajnnplaa", sum := "c888086765231806d6bbc05a14a9100fb8e5356931a220b598eb0ddc4e3b4fdb", func := "turnkey/turnkeylaw01.WordTurns", spec := "wordTurns", apart := false }
def WordTurnsSaid : Prop := wordTurnsRow.holds Try.pinned (OpenSpec.ofChange wordTurnsSpec)

/-- ITS FALSE NEIGHBOUR: 'it returns false'. Refute it at one input. -/
def wordTurnsWrong : ChangeSpec := { name := "wordTurns", fn := fun _ => fun
  | [d1, d2] => { results := [.lit (.bool false)], args := [d1, d2] }
  | _ => none }
def WordTurnsWrongFalsely : Prop := wordTurnsRow.holds Try.pinned (OpenSpec.ofChange wordTurnsWrong)

/-- 'turnkeylaw01.WordLays': WHATEVER THE INPUT: true; the input reads as it did. -/
def wordLaysSpec : ChangeSpec := { name := "wordLays", fn := fun _ => fun
  | [d] => { results := [.lit (.bool true)], args := [d] }
  | _ => none }
def wordLaysRow : OpenClaim := { program := "ythocpfhajnnplaa", sum := "c888086765231806d6bbc05a14a9100fb8e5356931a220b598eb0ddc4e3b4fdb", func := "turnkey/turnkeylaw01.WordLays", spec := "wordLays", apart := false }
def WordLaysSaid : Prop := wordLaysRow.holds Try.pinned (OpenSpec.ofChange wordLaysSpec)

/-- ITS FALSE NEIGHBOUR: 'it returns false'. Refute it at one input. -/
def wordLaysWrong : ChangeSpec := { name := "wordLays", fn := fun _ => fun
  | [d] => { results := [.lit (.bool false)], args := [d] }
  | _ => none }
def WordLaysWrongFalsely : Prop := wordLaysRow.holds Try.pinned (OpenSpec.ofChange wordLaysWrong)

/-- 'turnkeylaw01.WordTakes': WHATEVER THE INPUT: true; the input reads as it did. -/
def wordTakesSpec : ChangeSpec := { name := "wordTakes", fn := fun _ => fun
  | [d1, d2] => { results := [.lit (.bool true)], args := [d1, d2] }
  | _ => none }
def wordTakesRow : OpenClaim := { program := "ythocpfhajnnplaa", sum := "c888086765231806d6bbc05a14a9100fb8e5356931a220b598eb0ddc4e3b4fdb", func := "turnkey/turnkeylaw01.WordTakes", spec := "wordTakes", apart := false }
def WordTakesSaid : Prop := wordTakesRow.holds Try.pinned (OpenSpec.ofChange wordTakesSpec)

/-- ITS FALSE NEIGHBOUR: 'it returns false'. Refute it at one input. -/
def wordTakesWrong : ChangeSpec := { name := "wordTakes", fn := fun _ => fun
  | [d1, d2] => { results := [.lit (.bool false)], args := [d1, d2] }
  | _ => none }
def WordTakesWrongFalsely : Prop := wordTakesRow.holds Try.pinned (OpenSpec.ofChange wordTakesWrong)

/-- 'turnkeylaw01.WordBack': WHATEVER THE INPUT: true; the input reads as it did. -/
def wordBackSpec : ChangeSpec := { name := "wordBack", fn := fun _ => fun
  | [d1, d2, d3, d4, d5] => { results := [.lit (.bool true)], args := [d1, d2, d3, d4, d5] }
  | _ => none }
def wordBackRow : OpenClaim := { program := "ythocpfhajnnplaa", sum := "c888086765231806d6bbc05a14a9100fb8e5356931a220b598eb0ddc4e3b4fdb", func := "turnkey/turnkeylaw01.WordBack", spec := "wordBack", apart := false }
def WordBackSaid : Prop := wordBackRow.holds Try.pinned (OpenSpec.ofChange wordBackSpec)

/-- ITS FALSE NEIGHBOUR: 'it returns false'. Refute it at one input. -/
def wordBackWrong : ChangeSpec := { name := "wordBack", fn := fun _ => fun
  | [d1, d2, d3, d4, d5] => { results := [.lit (.bool false)], args := [d1, d2, d3, d4, d5] }
  | _ => none }
def WordBackWrongFalsely : Prop := wordBackRow.holds Try.pinned (OpenSpec.ofChange wordBackWrong)

/-- 'turnkeylaw01.WordKnown': WHATEVER THE INPUT: true; the input reads as it did. -/
def wordKnownSpec : ChangeSpec := { name := "wordKnown", fn := fun _ => fun
  | [] => { results := [.lit (.bool true)], args := [] }
  | _ => none }
def wordKnownRow : OpenClaim := { program := "ythocpfhajnnplaa", sum := "c888086765231806d6bbc05a14a9100fb8e5356931a220b598eb0ddc4e3b4fdb", func := "turnkey/turnkeylaw01.WordKnown", spec := "wordKnown", apart := false }
def WordKnownSaid : Prop := wordKnownRow.holds Try.pinned (OpenSpec.ofChange wordKnownSpec)

/-- ITS FALSE NEIGHBOUR: 'it returns false'. Refute it at one input. -/
def wordKnownWrong : ChangeSpec := { name := "wordKnown", fn := fun _ => fun
  | [] => { results := [.lit (.bool false)], args := [] }
  | _ => none }
def WordKnownWrongFalsely : Prop := wordKnownRow.holds Try.pinned (OpenSpec.ofChange wordKnownWrong)

/- THE SECOND FORM. 'bulk': how many values and letters a reading holds, each counted each time it is reached (what is shared counts as often as it is met; a slice's spare places count too). A statement '..UptoSaid' is the law's where the arguments, and the package variables that the reading takes, are together of bulk at most 1048576: NARROWER than '..Said'. Prove '..Said' where nothing that the law and all that it calls make is longer than what came in: it says more and counts as full. Else prove '..UptoSaid'. A law counts once. -/
mutual
def uptoBulk {H : Type} : DataW H → Nat
  | .lit (.string bytes) => bytes.length + 1
  | .lit _ => 1
  | .nil => 1
  | .ptr d => uptoBulk d + 1
  | .slice elems spare => uptoBulkAll elems + uptoBulkAll spare + 1
  | .agg parts => uptoBulkAll parts + 1
  | .iface _ d => uptoBulk d + 1
  | .map entries => uptoBulkEntries entries + 1
  | .held _ => 1
def uptoBulkAll {H : Type} : List (DataW H) → Nat
  | [] => 0
  | d :: r => uptoBulk d + uptoBulkAll r
def uptoBulkEntries {H : Type} : List (Lit × DataW H) → Nat
  | [] => 0
  | x :: r => uptoBulkEntry x + uptoBulkEntries r
def uptoBulkEntry {H : Type} : Lit × DataW H → Nat
  | (.string bytes, d) => bytes.length + uptoBulk d + 1
  | (_, d) => uptoBulk d + 1
 end
def uptoSmall : (H : Type) → List (DataW H) → Bool := fun _ ds => decide (uptoBulkAll ds ≤ 1048576)
def OpenSpec.upto (s : _root_.Go.ChangeSpec) : _root_.Go.OpenSpec := { _root_.Go.OpenSpec.ofChange s with cond := some uptoSmall }

/-- 'turnkeylaw01.WordXors', WHERE WHAT IT READS IS OF BULK AT MOST 1048576: true; the input reads as it did. -/
def wordXorsUptoRow : OpenClaim := { program := "ythocpfhajnnplaa", sum := "c888086765231806d6bbc05a14a9100fb8e5356931a220b598eb0ddc4e3b4fdb", func := "turnkey/turnkeylaw01.WordXors", spec := "wordXors", apart := false, narrowed := true }
def WordXorsUptoSaid : Prop := wordXorsUptoRow.holds Try.pinned (OpenSpec.upto wordXorsSpec)

/-- 'turnkeylaw01.WordTurns', WHERE WHAT IT READS IS OF BULK AT MOST 1048576: true; the input reads as it did. -/
def wordTurnsUptoRow : OpenClaim := { program := "ythocpfhajnnplaa", sum := "c888086765231806d6bbc05a14a9100fb8e5356931a220b598eb0ddc4e3b4fdb", func := "turnkey/turnkeylaw01.WordTurns", spec := "wordTurns", apart := false, narrowed := true }
def WordTurnsUptoSaid : Prop := wordTurnsUptoRow.holds Try.pinned (OpenSpec.upto wordTurnsSpec)

/-- 'turnkeylaw01.WordLays', WHERE WHAT IT READS IS OF BULK AT MOST 1048576: true; the input reads as it did. -/
def wordLaysUptoRow : OpenClaim := { program := "ythocpfhajnnplaa", sum := "c888086765231806d6bbc05a14a9100fb8e5356931a220b598eb0ddc4e3b4fdb", func := "turnkey/turnkeylaw01.WordLays", spec := "wordLays", apart := false, narrowed := true }
def WordLaysUptoSaid : Prop := wordLaysUptoRow.holds Try.pinned (OpenSpec.upto wordLaysSpec)

/-- 'turnkeylaw01.WordTakes', WHERE WHAT IT READS IS OF BULK AT MOST 1048576: true; the input reads as it did. -/
def wordTakesUptoRow : OpenClaim := { program := "ythocpfhajnnplaa", sum := "c888086765231806d6bbc05a14a9100fb8e5356931a220b598eb0ddc4e3b4fdb", func := "turnkey/turnkeylaw01.WordTakes", spec := "wordTakes", apart := false, narrowed := true }
def WordTakesUptoSaid : Prop := wordTakesUptoRow.holds Try.pinned (OpenSpec.upto wordTakesSpec)

/-- 'turnkeylaw01.WordBack', WHERE WHAT IT READS IS OF BULK AT MOST 1048576: true; the input reads as it did. -/
def wordBackUptoRow : OpenClaim := { program := "ythocpfhajnnplaa", sum := "c888086765231806d6bbc05a14a9100fb8e5356931a220b598eb0ddc4e3b4fdb", func := "turnkey/turnkeylaw01.WordBack", spec := "wordBack", apart := false, narrowed := true }
def WordBackUptoSaid : Prop := wordBackUptoRow.holds Try.pinned (OpenSpec.upto wordBackSpec)

/-- 'turnkeylaw01.WordKnown', WHERE WHAT IT READS IS OF BULK AT MOST 1048576: true; the input reads as it did. -/
def wordKnownUptoRow : OpenClaim := { program := "ythocpfhajnnplaa", sum := "c888086765231806d6bbc05a14a9100fb8e5356931a220b598eb0ddc4e3b4fdb", func := "turnkey/turnkeylaw01.WordKnown", spec := "wordKnown", apart := false, narrowed := true }
def WordKnownUptoSaid : Prop := wordKnownUptoRow.holds Try.pinned (OpenSpec.upto wordKnownSpec)

end Rows
end Go.Proofs.Ythocpfhajnnplaa
