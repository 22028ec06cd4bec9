/-
  No cell of these rows narrows 'for every input' (looked for: loops, veiled, ifaces, maps, wideKeys, modest, calm, conditions, laid).
  DERIVED. THE GIVEN ROWS OF THIS SEAT. 6 by the template 'for every input the law returns true; each argument reads behind the call as it read before'; 0 by the template 'total and deterministic' (their statements: YthdfbnababmanaaTotals.lean).
  GIVEN WITH THE SEED: the statements are not yours to turn. If you find one false, say at which input.
  Laid BY PROGRAM, IN A SANDBOX (cutbox-rows.mjs): the forced cells as the released guide's own fill.sh prints them over the translation 90f1101f02da1542… (all of the seat's roots in one cut). By AI agents, Wed Nov 11 2026. No macro, syntax, notation, axiom, sorry.
-/
import Derived.Test.YthdfbnababmanaaChecked
import GoSem.Claim
import GoSem.ClaimJoined
import GoSem.ClaimMapViews
import Derived.JoinedTies
import Derived.KernelRfl
namespace Go.Proofs.Ythdfbnababmanaa
/- THE CELL 'sum', in the pinned program and in every row, IS THE sha256 OF THE DUMP (.gsa) THAT YthdfbnababmanaaProg.lean LOADS. Nothing in Lean hashes anything: it is a label: what it is worth is what the hold of that sum in a sandbox is worth. -/
noncomputable def Try.pinned : Pinned := { name := "ythdfbnababmanaa", sum := "90f1101f02da1542db63f9542831fe303d56db0d526084b6e705ab30d93f25e5", checked := Try.checked }
namespace Rows
def none {H : Type} : Left H := { results := [], args := [] }

/-- 'turnkeylaw09.ShakeNumbers': WHATEVER THE INPUT: true; the input reads as it did. -/
def shakeNumbersSpec : ChangeSpec := { name := "shakeNumbers", fn := fun _ => fun
  | [d1, d2, d3] => { results := [.lit (.bool true)], args := [d1, d2, d3] }
  | _ => none }
def shakeNumbersRow : OpenClaim := { program := "ythdfbnababmanaa", sum := "90f1101f02da1542db63f9542831fe303d56db0d526084b6e705ab30d93f25e5", func := "turnkey/turnkeylaw09.ShakeNumbers", spec := "shakeNumbers", apart := false }
def ShakeNumbersSaid : Prop := shakeNumbersRow.holds Try.pinned (OpenSpec.ofChange shakeNumbersSpec)

/-- ITS FALSE NEIGHBOUR: 'it returns false'. Refute it at one input. -/
def shakeNumbersWrong : ChangeSpec := { name := "shakeNumbers", fn := fun _ => fun
  | [d1, d2, d3] => { results := [.lit (.bool false)], args := [d1, d2, d3] }
  | _ => none }
def ShakeNumbersWrongFalsely : Prop := shakeNumbersRow.holds Try.pinned (OpenSpec.ofChange shakeNumbersWrong)

/-- 'turnkeylaw09.ShakeBegins': WHATEVER THE INPUT: true; the input reads as it did. -/
def shakeBeginsSpec : ChangeSpec := { name := "shakeBegins", fn := fun _ => fun
  | [d1, d2, d3, d4, d5, d6, d7] => { results := [.lit (.bool true)], args := [d1, d2, d3, d4, d5, d6, d7] }
  | _ => none }
def shakeBeginsRow : OpenClaim := { program := "ythdfbnababmanaa", sum := "90f1101f02da1542db63f9542831fe303d56db0d526084b6e705ab30d93f25e5", func := "turnkey/turnkeylaw09.ShakeBegins", spec := "shakeBegins", apart := false }
def ShakeBeginsSaid : Prop := shakeBeginsRow.holds Try.pinned (OpenSpec.ofChange shakeBeginsSpec)

/-- ITS FALSE NEIGHBOUR: 'it returns false'. Refute it at one input. -/
def shakeBeginsWrong : ChangeSpec := { name := "shakeBegins", fn := fun _ => fun
  | [d1, d2, d3, d4, d5, d6, d7] => { results := [.lit (.bool false)], args := [d1, d2, d3, d4, d5, d6, d7] }
  | _ => none }
def ShakeBeginsWrongFalsely : Prop := shakeBeginsRow.holds Try.pinned (OpenSpec.ofChange shakeBeginsWrong)

/-- 'turnkeylaw09.ShakeParts': WHATEVER THE INPUT: true; the input reads as it did. -/
def shakePartsSpec : ChangeSpec := { name := "shakeParts", fn := fun _ => fun
  | [d1, d2, d3, d4, d5, d6, d7] => { results := [.lit (.bool true)], args := [d1, d2, d3, d4, d5, d6, d7] }
  | _ => none }
def shakePartsRow : OpenClaim := { program := "ythdfbnababmanaa", sum := "90f1101f02da1542db63f9542831fe303d56db0d526084b6e705ab30d93f25e5", func := "turnkey/turnkeylaw09.ShakeParts", spec := "shakeParts", apart := false }
def ShakePartsSaid : Prop := shakePartsRow.holds Try.pinned (OpenSpec.ofChange shakePartsSpec)

/-- ITS FALSE NEIGHBOUR: 'it returns false'. Refute it at one input. -/
def shakePartsWrong : ChangeSpec := { name := "shakeParts", fn := fun _ => fun
  | [d1, d2, d3, d4, d5, d6, d7] => { results := [.lit (.bool false)], args := [d1, d2, d3, d4, d5, d6, d7] }
  | _ => none }
def ShakePartsWrongFalsely : Prop := shakePartsRow.holds Try.pinned (OpenSpec.ofChange shakePartsWrong)

/-- 'turnkeylaw09.ShakeCounts': WHATEVER THE INPUT: true; the input reads as it did. -/
def shakeCountsSpec : ChangeSpec := { name := "shakeCounts", fn := fun _ => fun
  | [d1, d2, d3, d4, d5, d6, d7] => { results := [.lit (.bool true)], args := [d1, d2, d3, d4, d5, d6, d7] }
  | _ => none }
def shakeCountsRow : OpenClaim := { program := "ythdfbnababmanaa", sum := "90f1101f02da1542db63f9542831fe303d56db0d526084b6e705ab30d93f25e5", func := "turnkey/turnkeylaw09.ShakeCounts", spec := "shakeCounts", unfollowed := true, recurses := true, apart := false }
def ShakeCountsSaid : Prop := shakeCountsRow.holds Try.pinned (OpenSpec.ofChange shakeCountsSpec)

/-- ITS FALSE NEIGHBOUR: 'it returns false'. Refute it at one input. -/
def shakeCountsWrong : ChangeSpec := { name := "shakeCounts", fn := fun _ => fun
  | [d1, d2, d3, d4, d5, d6, d7] => { results := [.lit (.bool false)], args := [d1, d2, d3, d4, d5, d6, d7] }
  | _ => none }
def ShakeCountsWrongFalsely : Prop := shakeCountsRow.holds Try.pinned (OpenSpec.ofChange shakeCountsWrong)

/-- 'turnkeylaw09.ShakeReads': WHATEVER THE INPUT: true; the input reads as it did. -/
def shakeReadsSpec : ChangeSpec := { name := "shakeReads", fn := fun _ => fun
  | [d1, d2, d3, d4] => { results := [.lit (.bool true)], args := [d1, d2, d3, d4] }
  | _ => none }
def shakeReadsRow : OpenClaim := { program := "ythdfbnababmanaa", sum := "90f1101f02da1542db63f9542831fe303d56db0d526084b6e705ab30d93f25e5", func := "turnkey/turnkeylaw09.ShakeReads", spec := "shakeReads", apart := false }
def ShakeReadsSaid : Prop := shakeReadsRow.holds Try.pinned (OpenSpec.ofChange shakeReadsSpec)

/-- ITS FALSE NEIGHBOUR: 'it returns false'. Refute it at one input. -/
def shakeReadsWrong : ChangeSpec := { name := "shakeReads", fn := fun _ => fun
  | [d1, d2, d3, d4] => { results := [.lit (.bool false)], args := [d1, d2, d3, d4] }
  | _ => none }
def ShakeReadsWrongFalsely : Prop := shakeReadsRow.holds Try.pinned (OpenSpec.ofChange shakeReadsWrong)

/-- 'turnkeylaw09.ShakeNames': WHATEVER THE INPUT: true; the input reads as it did. -/
def shakeNamesSpec : ChangeSpec := { name := "shakeNames", fn := fun _ => fun
  | [] => { results := [.lit (.bool true)], args := [] }
  | _ => none }
def shakeNamesRow : OpenClaim := { program := "ythdfbnababmanaa", sum := "90f1101f02da1542db63f9542831fe303d56db0d526084b6e705ab30d93f25e5", func := "turnkey/turnkeylaw09.ShakeNames", spec := "shakeNames", apart := false }
def ShakeNamesSaid : Prop := shakeNamesRow.holds Try.pinned (OpenSpec.ofChange shakeNamesSpec)

/-- ITS FALSE NEIGHBOUR: 'it returns false'. Refute it at one input. -/
def shakeNamesWrong : ChangeSpec := { name := "shakeNames", fn := fun _ => fun
  | [] => { results := [.lit (.bool false)], args := [] }
  | _ => none }
def ShakeNamesWrongFalsely : Prop := shakeNamesRow.holds Try.pinned (OpenSpec.ofChange shakeNamesWrong)

/- THE SECOND FORM. 'bulk': how many values and letters a reading holds, each counted each time it is reached (what is shared counts as often as it is met; a slice's spare places count too). A statement '..UptoSaid' is the law's where the arguments, and the package variables that the reading takes, are together of bulk at most 1048576: NARROWER than '..Said'. Prove '..Said' where nothing that the law and all that it calls make is longer than what came in: it says more and counts as full. Else prove '..UptoSaid'. A law counts once. -/
mutual
def uptoBulk {H : Type} : DataW H → Nat
  | .lit (.string bytes) => bytes.length + 1
  | .lit _ => 1
  | .nil => 1
  | .ptr d => uptoBulk d + 1
  | .slice elems spare => uptoBulkAll elems + uptoBulkAll spare + 1
  | .agg parts => uptoBulkAll parts + 1
  | .iface _ d => uptoBulk d + 1
  | .map entries => uptoBulkEntries entries + 1
  | .held _ => 1
def uptoBulkAll {H : Type} : List (DataW H) → Nat
  | [] => 0
  | d :: r => uptoBulk d + uptoBulkAll r
def uptoBulkEntries {H : Type} : List (Lit × DataW H) → Nat
  | [] => 0
  | x :: r => uptoBulkEntry x + uptoBulkEntries r
def uptoBulkEntry {H : Type} : Lit × DataW H → Nat
  | (.string bytes, d) => bytes.length + uptoBulk d + 1
  | (_, d) => uptoBulk d + 1
 end
def uptoSmall : (H : Type) → List (DataW H) → Bool := fun _ ds => decide (uptoBulkAll ds ≤ 1048576)
def OpenSpec.upto (s : _root_.Go.ChangeSpec) : _root_.Go.OpenSpec := { _root_.Go.OpenSpec.ofChange s with cond := some uptoSmall }

/-- 'turnkeylaw09.ShakeNumbers', WHERE WHAT IT READS IS OF BULK AT MOST 1048576: true; the input reads as it did. -/
def shakeNumbersUptoRow : OpenClaim := { program := "ythdfbnababmanaa", sum := "90f1101f02da1542db63f9542831fe303d56db0d526084b6e705ab30d93f25e5", func := "turnkey/turnkeylaw09.ShakeNumbers", spec := "shakeNumbers", apart := false, narrowed := true }
def ShakeNumbersUptoSaid : Prop := shakeNumbersUptoRow.holds Try.pinned (OpenSpec.upto shakeNumbersSpec)

/-- 'turnkeylaw09.ShakeBegins', WHERE WHAT IT READS IS OF BULK AT MOST 1048576: true; the input reads as it did. -/
def shakeBeginsUptoRow : OpenClaim := { program := "ythdfbnababmanaa", sum := "90f1101f02da1542db63f9542831fe303d56db0d526084b6e705ab30d93f25e5", func := "turnkey/turnkeylaw09.ShakeBegins", spec := "shakeBegins", apart := false, narrowed := true }
def ShakeBeginsUptoSaid : Prop := shakeBeginsUptoRow.holds Try.pinned (OpenSpec.upto shakeBeginsSpec)

/-- 'turnkeylaw09.ShakeParts', WHERE WHAT IT READS IS OF BULK AT MOST 1048576: true; the input reads as it did. -/
def shakePartsUptoRow : OpenClaim := { program := "ythdfbnababmanaa", sum := "90f1101f02da1542db63f9542831fe303d56db0d526084b6e705ab30d93f25e5", func := "turnkey/turnkeylaw09.ShakeParts", spec := "shakeParts", apart := false, narrowed := true }
def ShakePartsUptoSaid : Prop := shakePartsUptoRow.holds Try.pinned (OpenSpec.upto shakePartsSpec)

/-- 'turnkeylaw09.ShakeCounts', WHERE WHAT IT READS IS OF BULK AT MOST 1048576: true; the input reads as it did. -/
def shakeCountsUptoRow : OpenClaim := { program := "ythdfbnababmanaa", sum := "90f1101f02da1542db63f9542831fe303d56db0d526084b6e705ab30d93f25e5", func := "turnkey/turnkeylaw09.ShakeCounts", spec := "shakeCounts", unfollowed := true, recurses := true, apart := false, narrowed := true }
def ShakeCountsUptoSaid : Prop := shakeCountsUptoRow.holds Try.pinned (OpenSpec.upto shakeCountsSpec)

/-- 'turnkeylaw09.ShakeReads', WHERE WHAT IT READS IS OF BULK AT MOST 1048576: true; the input reads as it did. -/
def shakeReadsUptoRow : OpenClaim := { program := "ythdfbnababmanaa", sum := "90f1101f02da1542db63f9542831fe303d56db0d526084b6e705ab30d93f25e5", func := "turnkey/turnkeylaw09.ShakeReads", spec := "shakeReads", apart := false, narrowed := true }
def ShakeReadsUptoSaid : Prop := shakeReadsUptoRow.holds Try.pinned (OpenSpec.upto shakeReadsSpec)

/-- 'turnkeylaw09.ShakeNames', WHERE WHAT IT READS IS OF BULK AT MOST 1048576: true; the input reads as it did. -/
def shakeNamesUptoRow : OpenClaim := { program := "ythdfbnababmanaa", sum := "90f1101f02da1542db63f9542831fe303d56db0d526084b6e705ab30d93f25e5", func := "turnkey/turnkeylaw09.ShakeNames", spec := "shakeNames", apart := false, narrowed := true }
def ShakeNamesUptoSaid : Prop := shakeNamesUptoRow.holds Try.pinned (OpenSpec.upto shakeNamesSpec)

end Rows
end Go.Proofs.Ythdfbnababmanaa
