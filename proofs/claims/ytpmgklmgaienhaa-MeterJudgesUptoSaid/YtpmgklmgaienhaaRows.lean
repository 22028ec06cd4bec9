/-
  No cell of these rows narrows 'for every input' (looked for: loops, veiled, ifaces, maps, wideKeys, modest, calm, conditions, laid).
  DERIVED. THE GIVEN ROWS OF THIS SEAT. 6 by the template 'for every input the law returns true; each argument reads behind the call as it read before'; 0 by the template 'total and deterministic' (their statements: YtpmgklmgaienhaaTotals.lean).
  GIVEN WITH THE SEED: the statements are not yours to turn. If you find one false, say at which input.
  Laid BY PROGRAM, IN A SANDBOX (cutbox-rows.mjs): the forced cells as the released guide's own fill.sh prints them over the translation 86192feea84d7cb7… (all of the seat's roots in one cut). By AI agents, Wed Nov 11 2026. No macro, syntax, notation, axiom, sorry.
-/
import Derived.Test.YtpmgklmgaienhaaChecked
import GoSem.Claim
import GoSem.ClaimJoined
import GoSem.ClaimMapViews
import Derived.JoinedTies
import Derived.KernelRfl
namespace Go.Proofs.Ytpmgklmgaienhaa
/- THE CELL 'sum', in the pinned program and in every row, IS THE sha256 OF THE DUMP (.gsa) THAT YtpmgklmgaienhaaProg.lean LOADS. Nothing in Lean hashes anything: it is a label: what it is worth is what the hold of that sum in a sandbox is worth. -/
noncomputable def Try.pinned : Pinned := { name := "ytpmgklmgaienhaa", sum := "86192feea84d7cb70972573ab4dcb707ed0d505b87408cd4699cfa6384ee4eed", checked := Try.checked }
namespace Rows
def none {H : Type} : Left H := { results := [], args := [] }

/-- 'turnkeylaw29.MeterNumbers': WHATEVER THE INPUT: true; the input reads as it did. -/
def meterNumbersSpec : ChangeSpec := { name := "meterNumbers", fn := fun _ => fun
  | [d1, d2] => { results := [.lit (.bool true)], args := [d1, d2] }
  | _ => none }
def meterNumbersRow : OpenClaim := { program := "ytpmgklmgaienhaa", sum := "86192feea84d7cb70972573ab4dcb707ed0d505b87408cd4699cfa6384ee4eed", func := "turnkey/turnkeylaw29.MeterNumbers", spec := "meterNumbers", inPlace := ["math.sqrt", "math.Float64frombits"], apart := false }
def MeterNumbersSaid : Prop := meterNumbersRow.holds Try.pinned (OpenSpec.ofChange meterNumbersSpec)

/-- ITS FALSE NEIGHBOUR: 'it returns false'. Refute it at one input. -/
def meterNumbersWrong : ChangeSpec := { name := "meterNumbers", fn := fun _ => fun
  | [d1, d2] => { results := [.lit (.bool false)], args := [d1, d2] }
  | _ => none }
def MeterNumbersWrongFalsely : Prop := meterNumbersRow.holds Try.pinned (OpenSpec.ofChange meterNumbersWrong)

/-- 'turnkeylaw29.MeterWhole': WHATEVER THE INPUT: true; the input reads as it did. -/
def meterWholeSpec : ChangeSpec := { name := "meterWhole", fn := fun _ => fun
  | [d1, d2, d3] => { results := [.lit (.bool true)], args := [d1, d2, d3] }
  | _ => none }
def meterWholeRow : OpenClaim := { program := "ytpmgklmgaienhaa", sum := "86192feea84d7cb70972573ab4dcb707ed0d505b87408cd4699cfa6384ee4eed", func := "turnkey/turnkeylaw29.MeterWhole", spec := "meterWhole", inPlace := ["math.sqrt", "math.Float64frombits"], apart := false }
def MeterWholeSaid : Prop := meterWholeRow.holds Try.pinned (OpenSpec.ofChange meterWholeSpec)

/-- ITS FALSE NEIGHBOUR: 'it returns false'. Refute it at one input. -/
def meterWholeWrong : ChangeSpec := { name := "meterWhole", fn := fun _ => fun
  | [d1, d2, d3] => { results := [.lit (.bool false)], args := [d1, d2, d3] }
  | _ => none }
def MeterWholeWrongFalsely : Prop := meterWholeRow.holds Try.pinned (OpenSpec.ofChange meterWholeWrong)

/-- 'turnkeylaw29.MeterRows': WHATEVER THE INPUT: true; the input reads as it did. -/
def meterRowsSpec : ChangeSpec := { name := "meterRows", fn := fun _ => fun
  | [d1, d2] => { results := [.lit (.bool true)], args := [d1, d2] }
  | _ => none }
def meterRowsRow : OpenClaim := { program := "ytpmgklmgaienhaa", sum := "86192feea84d7cb70972573ab4dcb707ed0d505b87408cd4699cfa6384ee4eed", func := "turnkey/turnkeylaw29.MeterRows", spec := "meterRows", inPlace := ["math.sqrt", "math.Float64frombits"], apart := false }
def MeterRowsSaid : Prop := meterRowsRow.holds Try.pinned (OpenSpec.ofChange meterRowsSpec)

/-- ITS FALSE NEIGHBOUR: 'it returns false'. Refute it at one input. -/
def meterRowsWrong : ChangeSpec := { name := "meterRows", fn := fun _ => fun
  | [d1, d2] => { results := [.lit (.bool false)], args := [d1, d2] }
  | _ => none }
def MeterRowsWrongFalsely : Prop := meterRowsRow.holds Try.pinned (OpenSpec.ofChange meterRowsWrong)

/-- 'turnkeylaw29.MeterJudges': WHATEVER THE INPUT: true; the input reads as it did. -/
def meterJudgesSpec : ChangeSpec := { name := "meterJudges", fn := fun _ => fun
  | [d1, d2] => { results := [.lit (.bool true)], args := [d1, d2] }
  | _ => none }
def meterJudgesRow : OpenClaim := { program := "ytpmgklmgaienhaa", sum := "86192feea84d7cb70972573ab4dcb707ed0d505b87408cd4699cfa6384ee4eed", func := "turnkey/turnkeylaw29.MeterJudges", spec := "meterJudges", inPlace := ["math.sqrt", "math.Float64frombits", "math.Float64bits"], apart := false }
def MeterJudgesSaid : Prop := meterJudgesRow.holds Try.pinned (OpenSpec.ofChange meterJudgesSpec)

/-- ITS FALSE NEIGHBOUR: 'it returns false'. Refute it at one input. -/
def meterJudgesWrong : ChangeSpec := { name := "meterJudges", fn := fun _ => fun
  | [d1, d2] => { results := [.lit (.bool false)], args := [d1, d2] }
  | _ => none }
def MeterJudgesWrongFalsely : Prop := meterJudgesRow.holds Try.pinned (OpenSpec.ofChange meterJudgesWrong)

/-- 'turnkeylaw29.MeterAlike': WHATEVER THE INPUT: true; the input reads as it did. -/
def meterAlikeSpec : ChangeSpec := { name := "meterAlike", fn := fun _ => fun
  | [d1, d2, d3, d4] => { results := [.lit (.bool true)], args := [d1, d2, d3, d4] }
  | _ => none }
def meterAlikeRow : OpenClaim := { program := "ytpmgklmgaienhaa", sum := "86192feea84d7cb70972573ab4dcb707ed0d505b87408cd4699cfa6384ee4eed", func := "turnkey/turnkeylaw29.MeterAlike", spec := "meterAlike", inPlace := ["math.sqrt", "math.Float64frombits", "math.Float64bits"], apart := false }
def MeterAlikeSaid : Prop := meterAlikeRow.holds Try.pinned (OpenSpec.ofChange meterAlikeSpec)

/-- ITS FALSE NEIGHBOUR: 'it returns false'. Refute it at one input. -/
def meterAlikeWrong : ChangeSpec := { name := "meterAlike", fn := fun _ => fun
  | [d1, d2, d3, d4] => { results := [.lit (.bool false)], args := [d1, d2, d3, d4] }
  | _ => none }
def MeterAlikeWrongFalsely : Prop := meterAlikeRow.holds Try.pinned (OpenSpec.ofChange meterAlikeWrong)

/-- 'turnkeylaw29.MeterNames': WHATEVER THE INPUT: true; the input reads as it did. -/
def meterNamesSpec : ChangeSpec := { name := "meterNames", fn := fun _ => fun
  | [] => { results := [.lit (.bool true)], args := [] }
  | _ => none }
def meterNamesRow : OpenClaim := { program := "ytpmgklmgaienhaa", sum := "86192feea84d7cb70972573ab4dcb707ed0d505b87408cd4699cfa6384ee4eed", func := "turnkey/turnkeylaw29.MeterNames", spec := "meterNames", inPlace := ["math.sqrt", "math.Float64frombits", "math.Float64bits"], apart := false }
def MeterNamesSaid : Prop := meterNamesRow.holds Try.pinned (OpenSpec.ofChange meterNamesSpec)

/-- ITS FALSE NEIGHBOUR: 'it returns false'. Refute it at one input. -/
def meterNamesWrong : ChangeSpec := { name := "meterNames", fn := fun _ => fun
  | [] => { results := [.lit (.bool false)], args := [] }
  | _ => none }
def MeterNamesWrongFalsely : Prop := meterNamesRow.holds Try.pinned (OpenSpec.ofChange meterNamesWrong)

/- THE SECOND FORM. 'bulk': how many values and letters a reading holds, each counted each time it is reached (what is shared counts as often as it is met; a slice's spare places count too). A statement '..UptoSaid' is the law's where the arguments, and the package variables that the reading takes, are together of bulk at most 1048576: NARROWER than '..Said'. Prove '..Said' where nothing that the law and all that it calls make is longer than what came in: it says more and counts as full. Else prove '..UptoSaid'. A law counts once. -/
mutual
def uptoBulk {H : Type} : DataW H → Nat
  | .lit (.string bytes) => bytes.length + 1
  | .lit _ => 1
  | .nil => 1
  | .ptr d => uptoBulk d + 1
  | .slice elems spare => uptoBulkAll elems + uptoBulkAll spare + 1
  | .agg parts => uptoBulkAll parts + 1
  | .iface _ d => uptoBulk d + 1
  | .map entries => uptoBulkEntries entries + 1
  | .held _ => 1
def uptoBulkAll {H : Type} : List (DataW H) → Nat
  | [] => 0
  | d :: r => uptoBulk d + uptoBulkAll r
def uptoBulkEntries {H : Type} : List (Lit × DataW H) → Nat
  | [] => 0
  | x :: r => uptoBulkEntry x + uptoBulkEntries r
def uptoBulkEntry {H : Type} : Lit × DataW H → Nat
  | (.string bytes, d) => bytes.length + uptoBulk d + 1
  | (_, d) => uptoBulk d + 1
 end
def uptoSmall : (H : Type) → List (DataW H) → Bool := fun _ ds => decide (uptoBulkAll ds ≤ 1048576)
def OpenSpec.upto (s : _root_.Go.ChangeSpec) : _root_.Go.OpenSpec := { _root_.Go.OpenSpec.ofChange s with cond := some uptoSmall }

/-- 'turnkeylaw29.MeterNumbers', WHERE WHAT IT READS IS OF BULK AT MOST 1048576: true; the input reads as it did. -/
def meterNumbersUptoRow : OpenClaim := { program := "ytpmgklmgaienhaa", sum := "86192feea84d7cb70972573ab4dcb707ed0d505b87408cd4699cfa6384ee4eed", func := "turnkey/turnkeylaw29.MeterNumbers", spec := "meterNumbers", inPlace := ["math.sqrt", "math.Float64frombits"], apart := false, narrowed := true }
def MeterNumbersUptoSaid : Prop := meterNumbersUptoRow.holds Try.pinned (OpenSpec.upto meterNumbersSpec)

/-- 'turnkeylaw29.MeterWhole', WHERE WHAT IT READS IS OF BULK AT MOST 1048576: true; the input reads as it did. -/
def meterWholeUptoRow : OpenClaim := { program := "ytpmgklmgaienhaa", sum := "86192feea84d7cb70972573ab4dcb707ed0d505b87408cd4699cfa6384ee4eed", func := "turnkey/turnkeylaw29.MeterWhole", spec := "meterWhole", inPlace := ["math.sqrt", "math.Float64frombits"], apart := false, narrowed := true }
def MeterWholeUptoSaid : Prop := meterWholeUptoRow.holds Try.pinned (OpenSpec.upto meterWholeSpec)

/-- 'turnkeylaw29.MeterRows', WHERE WHAT IT READS IS OF BULK AT MOST 1048576: true; the input reads as it did. -/
def meterRowsUptoRow : OpenClaim := { program := "ytpmgklmgaienhaa", sum := "86192feea84d7cb70972573ab4dcb707ed0d505b87408cd4699cfa6384ee4eed", func := "turnkey/turnkeylaw29.MeterRows", spec := "meterRows", inPlace := ["math.sqrt", "math.Float64frombits"], apart := false, narrowed := true }
def MeterRowsUptoSaid : Prop := meterRowsUptoRow.holds Try.pinned (OpenSpec.upto meterRowsSpec)

/-- 'turnkeylaw29.MeterJudges', WHERE WHAT IT READS IS OF BULK AT MOST 1048576: true; the input reads as it did. -/
def meterJudgesUptoRow : OpenClaim := { program := "ytpmgklmgaienhaa", sum := "86192feea84d7cb70972573ab4dcb707ed0d505b87408cd4699cfa6384ee4eed", func := "turnkey/turnkeylaw29.MeterJudges", spec := "meterJudges", inPlace := ["math.sqrt", "math.Float64frombits", "math.Float64bits"], apart := false, narrowed := true }
def MeterJudgesUptoSaid : Prop := meterJudgesUptoRow.holds Try.pinned (OpenSpec.upto meterJudgesSpec)

/-- 'turnkeylaw29.MeterAlike', WHERE WHAT IT READS IS OF BULK AT MOST 1048576: true; the input reads as it did. -/
def meterAlikeUptoRow : OpenClaim := { program := "ytpmgklmgaienhaa", sum := "86192feea84d7cb70972573ab4dcb707ed0d505b87408cd4699cfa6384ee4eed", func := "turnkey/turnkeylaw29.MeterAlike", spec := "meterAlike", inPlace := ["math.sqrt", "math.Float64frombits", "math.Float64bits"], apart := false, narrowed := true }
def MeterAlikeUptoSaid : Prop := meterAlikeUptoRow.holds Try.pinned (OpenSpec.upto meterAlikeSpec)

/-- 'turnkeylaw29.MeterNames', WHERE WHAT IT READS IS OF BULK AT MOST 1048576: true; the input reads as it did. -/
def meterNamesUptoRow : OpenClaim := { program := "ytpmgklmgaienhaa", sum := "86192feea84d7cb70972573ab4dcb707ed0d505b87408cd4699cfa6384ee4eed", func := "turnkey/turnkeylaw29.MeterNames", spec := "meterNames", inPlace := ["math.sqrt", "math.Float64frombits", "math.Float64bits"], apart := false, narrowed := true }
def MeterNamesUptoSaid : Prop := meterNamesUptoRow.holds Try.pinned (OpenSpec.upto meterNamesSpec)

end Rows
end Go.Proofs.Ytpmgklmgaienhaa
