/-
  No cell of these rows narrows 'for every input' (looked for: loops, veiled, ifaces, maps, wideKeys, modest, calm, conditions, laid).
  DERIVED. THE GIVEN ROWS OF THIS SEAT. 11 by the template 'for every input the law returns true; each argument reads behind the call as it read before'; 0 by the template 'total and deterministic' (their statements: YtgfhnbjpdhdhgaaTotals.lean).
  GIVEN WITH THE SEED: the statements are not yours to turn. If you find one false, say at which input.
  Laid BY PROGRAM, IN A SANDBOX (cutbox-rows.mjs): the forced cells as the released guide's own fill.sh prints them over the translation 723e91e7c0504884… (all of the seat's roots in one cut). By AI agents, Wed Nov 11 2026. No macro, syntax, notation, axiom, sorry.
-/
import Derived.Test.YtgfhnbjpdhdhgaaChecked
import GoSem.Claim
import GoSem.ClaimJoined
import GoSem.ClaimMapViews
import Derived.JoinedTies
import Derived.KernelRfl
namespace Go.Proofs.Ytgfhnbjpdhdhgaa
/- THE CELL 'sum', in the pinned program and in every row, IS THE sha256 OF THE DUMP (.gsa) THAT YtgfhnbjpdhdhgaaProg.lean LOADS. Nothing in Lean hashes anything: it is a label: what it is worth is what the hold of that sum in a sandbox is worth. -/
noncomputable def Try.pinned : Pinned := { name := "ytgfhnbjpdhdhgaa", sum := "723e91e7c0504884b025c77e80c64cddc0e675a259d6b3f1ca6ec75ee33e9145", checked := Try.checked }
namespace Rows
def none {H : Type} : Left H := { results := [], args := [] }

/-- 'turnkeylaw21.SkelHolds': WHATEVER THE INPUT: true; the input reads as it did. -/
def skelHoldsSpec : ChangeSpec := { name := "skelHolds", fn := fun _ => fun
  | [d1, d2] => { results := [.lit (.bool true)], args := [d1, d2] }
  | _ => none }
def skelHoldsRow : OpenClaim := { program := "ytgfhnbjpdhdhgaa", sum := "723e91e7c0504884b025c77e80c64cddc0e675a259d6b3f1ca6ec75ee33e9145", func := "turnkey/turnkeylaw21.SkelHolds", spec := "skelHolds", apart := false }
def SkelHoldsSaid : Prop := skelHoldsRow.holds Try.pinned (OpenSpec.ofChange skelHoldsSpec)

/-- ITS FALSE NEIGHBOUR: 'it returns false'. Refute it at one input. -/
def skelHoldsWrong : ChangeSpec := { name := "skelHolds", fn := fun _ => fun
  | [d1, d2] => { results := [.lit (.bool false)], args := [d1, d2] }
  | _ => none }
def SkelHoldsWrongFalsely : Prop := skelHoldsRow.holds Try.pinned (OpenSpec.ofChange skelHoldsWrong)

/-- 'turnkeylaw20.OpReads': WHATEVER THE INPUT: true; the input reads as it did. -/
def opReadsSpec : ChangeSpec := { name := "opReads", fn := fun _ => fun
  | [d] => { results := [.lit (.bool true)], args := [d] }
  | _ => none }
def opReadsRow : OpenClaim := { program := "ytgfhnbjpdhdhgaa", sum := "723e91e7c0504884b025c77e80c64cddc0e675a259d6b3f1ca6ec75ee33e9145", func := "turnkey/turnkeylaw20.OpReads", spec := "opReads", apart := false }
def OpReadsSaid : Prop := opReadsRow.holds Try.pinned (OpenSpec.ofChange opReadsSpec)

/-- ITS FALSE NEIGHBOUR: 'it returns false'. Refute it at one input. -/
def opReadsWrong : ChangeSpec := { name := "opReads", fn := fun _ => fun
  | [d] => { results := [.lit (.bool false)], args := [d] }
  | _ => none }
def OpReadsWrongFalsely : Prop := opReadsRow.holds Try.pinned (OpenSpec.ofChange opReadsWrong)

/-- 'turnkeylaw20.OpLong': WHATEVER THE INPUT: true; the input reads as it did. -/
def opLongSpec : ChangeSpec := { name := "opLong", fn := fun _ => fun
  | [] => { results := [.lit (.bool true)], args := [] }
  | _ => none }
def opLongRow : OpenClaim := { program := "ytgfhnbjpdhdhgaa", sum := "723e91e7c0504884b025c77e80c64cddc0e675a259d6b3f1ca6ec75ee33e9145", func := "turnkey/turnkeylaw20.OpLong", spec := "opLong", apart := false }
def OpLongSaid : Prop := opLongRow.holds Try.pinned (OpenSpec.ofChange opLongSpec)

/-- ITS FALSE NEIGHBOUR: 'it returns false'. Refute it at one input. -/
def opLongWrong : ChangeSpec := { name := "opLong", fn := fun _ => fun
  | [] => { results := [.lit (.bool false)], args := [] }
  | _ => none }
def OpLongWrongFalsely : Prop := opLongRow.holds Try.pinned (OpenSpec.ofChange opLongWrong)

/-- 'turnkeylaw21.SkelTakes': WHATEVER THE INPUT: true; the input reads as it did. -/
def skelTakesSpec : ChangeSpec := { name := "skelTakes", fn := fun _ => fun
  | [d] => { results := [.lit (.bool true)], args := [d] }
  | _ => none }
def skelTakesRow : OpenClaim := { program := "ytgfhnbjpdhdhgaa", sum := "723e91e7c0504884b025c77e80c64cddc0e675a259d6b3f1ca6ec75ee33e9145", func := "turnkey/turnkeylaw21.SkelTakes", spec := "skelTakes", unfollowed := true, recurses := true, apart := false }
def SkelTakesSaid : Prop := skelTakesRow.holds Try.pinned (OpenSpec.ofChange skelTakesSpec)

/-- ITS FALSE NEIGHBOUR: 'it returns false'. Refute it at one input. -/
def skelTakesWrong : ChangeSpec := { name := "skelTakes", fn := fun _ => fun
  | [d] => { results := [.lit (.bool false)], args := [d] }
  | _ => none }
def SkelTakesWrongFalsely : Prop := skelTakesRow.holds Try.pinned (OpenSpec.ofChange skelTakesWrong)

/-- 'turnkeylaw20.OpSame': WHATEVER THE INPUT: true; the input reads as it did. -/
def opSameSpec : ChangeSpec := { name := "opSame", fn := fun _ => fun
  | [d1, d2] => { results := [.lit (.bool true)], args := [d1, d2] }
  | _ => none }
def opSameRow : OpenClaim := { program := "ytgfhnbjpdhdhgaa", sum := "723e91e7c0504884b025c77e80c64cddc0e675a259d6b3f1ca6ec75ee33e9145", func := "turnkey/turnkeylaw20.OpSame", spec := "opSame", apart := false }
def OpSameSaid : Prop := opSameRow.holds Try.pinned (OpenSpec.ofChange opSameSpec)

/-- ITS FALSE NEIGHBOUR: 'it returns false'. Refute it at one input. -/
def opSameWrong : ChangeSpec := { name := "opSame", fn := fun _ => fun
  | [d1, d2] => { results := [.lit (.bool false)], args := [d1, d2] }
  | _ => none }
def OpSameWrongFalsely : Prop := opSameRow.holds Try.pinned (OpenSpec.ofChange opSameWrong)

/-- 'turnkeylaw21.SkelFills': WHATEVER THE INPUT: true; the input reads as it did. -/
def skelFillsSpec : ChangeSpec := { name := "skelFills", fn := fun _ => fun
  | [d1, d2] => { results := [.lit (.bool true)], args := [d1, d2] }
  | _ => none }
def skelFillsRow : OpenClaim := { program := "ytgfhnbjpdhdhgaa", sum := "723e91e7c0504884b025c77e80c64cddc0e675a259d6b3f1ca6ec75ee33e9145", func := "turnkey/turnkeylaw21.SkelFills", spec := "skelFills", unfollowed := true, recurses := true, apart := false }
def SkelFillsSaid : Prop := skelFillsRow.holds Try.pinned (OpenSpec.ofChange skelFillsSpec)

/-- ITS FALSE NEIGHBOUR: 'it returns false'. Refute it at one input. -/
def skelFillsWrong : ChangeSpec := { name := "skelFills", fn := fun _ => fun
  | [d1, d2] => { results := [.lit (.bool false)], args := [d1, d2] }
  | _ => none }
def SkelFillsWrongFalsely : Prop := skelFillsRow.holds Try.pinned (OpenSpec.ofChange skelFillsWrong)

/-- 'turnkeylaw21.SkelNames': WHATEVER THE INPUT: true; the input reads as it did. -/
def skelNamesSpec : ChangeSpec := { name := "skelNames", fn := fun _ => fun
  | [] => { results := [.lit (.bool true)], args := [] }
  | _ => none }
def skelNamesRow : OpenClaim := { program := "ytgfhnbjpdhdhgaa", sum := "723e91e7c0504884b025c77e80c64cddc0e675a259d6b3f1ca6ec75ee33e9145", func := "turnkey/turnkeylaw21.SkelNames", spec := "skelNames", unfollowed := true, recurses := true, apart := false }
def SkelNamesSaid : Prop := skelNamesRow.holds Try.pinned (OpenSpec.ofChange skelNamesSpec)

/-- ITS FALSE NEIGHBOUR: 'it returns false'. Refute it at one input. -/
def skelNamesWrong : ChangeSpec := { name := "skelNames", fn := fun _ => fun
  | [] => { results := [.lit (.bool false)], args := [] }
  | _ => none }
def SkelNamesWrongFalsely : Prop := skelNamesRow.holds Try.pinned (OpenSpec.ofChange skelNamesWrong)

/-- 'turnkeylaw20.OpBytes': WHATEVER THE INPUT: true; the input reads as it did. -/
def opBytesSpec : ChangeSpec := { name := "opBytes", fn := fun _ => fun
  | [d] => { results := [.lit (.bool true)], args := [d] }
  | _ => none }
def opBytesRow : OpenClaim := { program := "ytgfhnbjpdhdhgaa", sum := "723e91e7c0504884b025c77e80c64cddc0e675a259d6b3f1ca6ec75ee33e9145", func := "turnkey/turnkeylaw20.OpBytes", spec := "opBytes", apart := false }
def OpBytesSaid : Prop := opBytesRow.holds Try.pinned (OpenSpec.ofChange opBytesSpec)

/-- ITS FALSE NEIGHBOUR: 'it returns false'. Refute it at one input. -/
def opBytesWrong : ChangeSpec := { name := "opBytes", fn := fun _ => fun
  | [d] => { results := [.lit (.bool false)], args := [d] }
  | _ => none }
def OpBytesWrongFalsely : Prop := opBytesRow.holds Try.pinned (OpenSpec.ofChange opBytesWrong)

/-- 'turnkeylaw20.OpNames': WHATEVER THE INPUT: true; the input reads as it did. -/
def opNamesSpec : ChangeSpec := { name := "opNames", fn := fun _ => fun
  | [] => { results := [.lit (.bool true)], args := [] }
  | _ => none }
def opNamesRow : OpenClaim := { program := "ytgfhnbjpdhdhgaa", sum := "723e91e7c0504884b025c77e80c64cddc0e675a259d6b3f1ca6ec75ee33e9145", func := "turnkey/turnkeylaw20.OpNames", spec := "opNames", apart := false }
def OpNamesSaid : Prop := opNamesRow.holds Try.pinned (OpenSpec.ofChange opNamesSpec)

/-- ITS FALSE NEIGHBOUR: 'it returns false'. Refute it at one input. -/
def opNamesWrong : ChangeSpec := { name := "opNames", fn := fun _ => fun
  | [] => { results := [.lit (.bool false)], args := [] }
  | _ => none }
def OpNamesWrongFalsely : Prop := opNamesRow.holds Try.pinned (OpenSpec.ofChange opNamesWrong)

/-- 'turnkeylaw20.OpBack': WHATEVER THE INPUT: true; the input reads as it did. -/
def opBackSpec : ChangeSpec := { name := "opBack", fn := fun _ => fun
  | [d1, d2, d3] => { results := [.lit (.bool true)], args := [d1, d2, d3] }
  | _ => none }
def opBackRow : OpenClaim := { program := "ytgfhnbjpdhdhgaa", sum := "723e91e7c0504884b025c77e80c64cddc0e675a259d6b3f1ca6ec75ee33e9145", func := "turnkey/turnkeylaw20.OpBack", spec := "opBack", apart := false }
def OpBackSaid : Prop := opBackRow.holds Try.pinned (OpenSpec.ofChange opBackSpec)

/-- ITS FALSE NEIGHBOUR: 'it returns false'. Refute it at one input. -/
def opBackWrong : ChangeSpec := { name := "opBack", fn := fun _ => fun
  | [d1, d2, d3] => { results := [.lit (.bool false)], args := [d1, d2, d3] }
  | _ => none }
def OpBackWrongFalsely : Prop := opBackRow.holds Try.pinned (OpenSpec.ofChange opBackWrong)

/-- 'turnkeylaw21.SkelPublic': WHATEVER THE INPUT: true; the input reads as it did. -/
def skelPublicSpec : ChangeSpec := { name := "skelPublic", fn := fun _ => fun
  | [d1, d2, d3] => { results := [.lit (.bool true)], args := [d1, d2, d3] }
  | _ => none }
def skelPublicRow : OpenClaim := { program := "ytgfhnbjpdhdhgaa", sum := "723e91e7c0504884b025c77e80c64cddc0e675a259d6b3f1ca6ec75ee33e9145", func := "turnkey/turnkeylaw21.SkelPublic", spec := "skelPublic", unfollowed := true, recurses := true, apart := false }
def SkelPublicSaid : Prop := skelPublicRow.holds Try.pinned (OpenSpec.ofChange skelPublicSpec)

/-- ITS FALSE NEIGHBOUR: 'it returns false'. Refute it at one input. -/
def skelPublicWrong : ChangeSpec := { name := "skelPublic", fn := fun _ => fun
  | [d1, d2, d3] => { results := [.lit (.bool false)], args := [d1, d2, d3] }
  | _ => none }
def SkelPublicWrongFalsely : Prop := skelPublicRow.holds Try.pinned (OpenSpec.ofChange skelPublicWrong)

/- THE SECOND FORM. 'bulk': how many values and letters a reading holds, each counted each time it is reached (what is shared counts as often as it is met; a slice's spare places count too). A statement '..UptoSaid' is the law's where the arguments, and the package variables that the reading takes, are together of bulk at most 1048576: NARROWER than '..Said'. Prove '..Said' where nothing that the law and all that it calls make is longer than what came in: it says more and counts as full. Else prove '..UptoSaid'. A law counts once. -/
mutual
def uptoBulk {H : Type} : DataW H → Nat
  | .lit (.string bytes) => bytes.length + 1
  | .lit _ => 1
  | .nil => 1
  | .ptr d => uptoBulk d + 1
  | .slice elems spare => uptoBulkAll elems + uptoBulkAll spare + 1
  | .agg parts => uptoBulkAll parts + 1
  | .iface _ d => uptoBulk d + 1
  | .map entries => uptoBulkEntries entries + 1
  | .held _ => 1
def uptoBulkAll {H : Type} : List (DataW H) → Nat
  | [] => 0
  | d :: r => uptoBulk d + uptoBulkAll r
def uptoBulkEntries {H : Type} : List (Lit × DataW H) → Nat
  | [] => 0
  | x :: r => uptoBulkEntry x + uptoBulkEntries r
def uptoBulkEntry {H : Type} : Lit × DataW H → Nat
  | (.string bytes, d) => bytes.length + uptoBulk d + 1
  | (_, d) => uptoBulk d + 1
 end
def uptoSmall : (H : Type) → List (DataW H) → Bool := fun _ ds => decide (uptoBulkAll ds ≤ 1048576)
def OpenSpec.upto (s : _root_.Go.ChangeSpec) : _root_.Go.OpenSpec := { _root_.Go.OpenSpec.ofChange s with cond := some uptoSmall }

/-- 'turnkeylaw21.SkelHolds', WHERE WHAT IT READS IS OF BULK AT MOST 1048576: true; the input reads as it did. -/
def skelHoldsUptoRow : OpenClaim := { program := "ytgfhnbjpdhdhgaa", sum := "723e91e7c0504884b025c77e80c64cddc0e675a259d6b3f1ca6ec75ee33e9145", func := "turnkey/turnkeylaw21.SkelHolds", spec := "skelHolds", apart := false, narrowed := true }
def SkelHoldsUptoSaid : Prop := skelHoldsUptoRow.holds Try.pinned (OpenSpec.upto skelHoldsSpec)

/-- 'turnkeylaw20.OpReads', WHERE WHAT IT READS IS OF BULK AT MOST 1048576: true; the input reads as it did. -/
def opReadsUptoRow : OpenClaim := { program := "ytgfhnbjpdhdhgaa", sum := "723e91e7c0504884b025c77e80c64cddc0e675a259d6b3f1ca6ec75ee33e9145", func := "turnkey/turnkeylaw20.OpReads", spec := "opReads", apart := false, narrowed := true }
def OpReadsUptoSaid : Prop := opReadsUptoRow.holds Try.pinned (OpenSpec.upto opReadsSpec)

/-- 'turnkeylaw20.OpLong', WHERE WHAT IT READS IS OF BULK AT MOST 1048576: true; the input reads as it did. -/
def opLongUptoRow : OpenClaim := { program := "ytgfhnbjpdhdhgaa", sum := "723e91e7c0504884b025c77e80c64cddc0e675a259d6b3f1ca6ec75ee33e9145", func := "turnkey/turnkeylaw20.OpLong", spec := "opLong", apart := false, narrowed := true }
def OpLongUptoSaid : Prop := opLongUptoRow.holds Try.pinned (OpenSpec.upto opLongSpec)

/-- 'turnkeylaw21.SkelTakes', WHERE WHAT IT READS IS OF BULK AT MOST 1048576: true; the input reads as it did. -/
def skelTakesUptoRow : OpenClaim := { program := "ytgfhnbjpdhdhgaa", sum := "723e91e7c0504884b025c77e80c64cddc0e675a259d6b3f1ca6ec75ee33e9145", func := "turnkey/turnkeylaw21.SkelTakes", spec := "skelTakes", unfollowed := true, recurses := true, apart := false, narrowed := true }
def SkelTakesUptoSaid : Prop := skelTakesUptoRow.holds Try.pinned (OpenSpec.upto skelTakesSpec)

/-- 'turnkeylaw20.OpSame', WHERE WHAT IT READS IS OF BULK AT MOST 1048576: true; the input reads as it did. -/
def opSameUptoRow : OpenClaim := { program := "ytgfhnbjpdhdhgaa", sum := "723e91e7c0504884b025c77e80c64cddc0e675a259d6b3f1ca6ec75ee33e9145", func := "turnkey/turnkeylaw20.OpSame", spec := "opSame", apart := false, narrowed := true }
def OpSameUptoSaid : Prop := opSameUptoRow.holds Try.pinned (OpenSpec.upto opSameSpec)

/-- 'turnkeylaw21.SkelFills', WHERE WHAT IT READS IS OF BULK AT MOST 1048576: true; the input reads as it did. -/
def skelFillsUptoRow : OpenClaim := { program := "ytgfhnbjpdhdhgaa", sum := "723e91e7c0504884b025c77e80c64cddc0e675a259d6b3f1ca6ec75ee33e9145", func := "turnkey/turnkeylaw21.SkelFills", spec := "skelFills", unfollowed := true, recurses := true, apart := false, narrowed := true }
def SkelFillsUptoSaid : Prop := skelFillsUptoRow.holds Try.pinned (OpenSpec.upto skelFillsSpec)

/-- 'turnkeylaw21.SkelNames', WHERE WHAT IT READS IS OF BULK AT MOST 1048576: true; the input reads as it did. -/
def skelNamesUptoRow : OpenClaim := { program := "ytgfhnbjpdhdhgaa", sum := "723e91e7c0504884b025c77e80c64cddc0e675a259d6b3f1ca6ec75ee33e9145", func := "turnkey/turnkeylaw21.SkelNames", spec := "skelNames", unfollowed := true, recurses := true, apart := false, narrowed := true }
def SkelNamesUptoSaid : Prop := skelNamesUptoRow.holds Try.pinned (OpenSpec.upto skelNamesSpec)

/-- 'turnkeylaw20.OpBytes', WHERE WHAT IT READS IS OF BULK AT MOST 1048576: true; the input reads as it did. -/
def opBytesUptoRow : OpenClaim := { program := "ytgfhnbjpdhdhgaa", sum := "723e91e7c0504884b025c77e80c64cddc0e675a259d6b3f1ca6ec75ee33e9145", func := "turnkey/turnkeylaw20.OpBytes", spec := "opBytes", apart := false, narrowed := true }
def OpBytesUptoSaid : Prop := opBytesUptoRow.holds Try.pinned (OpenSpec.upto opBytesSpec)

/-- 'turnkeylaw20.OpNames', WHERE WHAT IT READS IS OF BULK AT MOST 1048576: true; the input reads as it did. -/
def opNamesUptoRow : OpenClaim := { program := "ytgfhnbjpdhdhgaa", sum := "723e91e7c0504884b025c77e80c64cddc0e675a259d6b3f1ca6ec75ee33e9145", func := "turnkey/turnkeylaw20.OpNames", spec := "opNames", apart := false, narrowed := true }
def OpNamesUptoSaid : Prop := opNamesUptoRow.holds Try.pinned (OpenSpec.upto opNamesSpec)

/-- 'turnkeylaw20.OpBack', WHERE WHAT IT READS IS OF BULK AT MOST 1048576: true; the input reads as it did. -/
def opBackUptoRow : OpenClaim := { program := "ytgfhnbjpdhdhgaa", sum := "723e91e7c0504884b025c77e80c64cddc0e675a259d6b3f1ca6ec75ee33e9145", func := "turnkey/turnkeylaw20.OpBack", spec := "opBack", apart := false, narrowed := true }
def OpBackUptoSaid : Prop := opBackUptoRow.holds Try.pinned (OpenSpec.upto opBackSpec)

/-- 'turnkeylaw21.SkelPublic', WHERE WHAT IT READS IS OF BULK AT MOST 1048576: true; the input reads as it did. -/
def skelPublicUptoRow : OpenClaim := { program := "ytgfhnbjpdhdhgaa", sum := "723e91e7c0504884b025c77e80c64cddc0e675a259d6b3f1ca6ec75ee33e9145", func := "turnkey/turnkeylaw21.SkelPublic", spec := "skelPublic", unfollowed := true, recurses := true, apart := false, narrowed := true }
def SkelPublicUptoSaid : Prop := skelPublicUptoRow.holds Try.pinned (OpenSpec.upto skelPublicSpec)

end Rows
end Go.Proofs.Ytgfhnbjpdhdhgaa
