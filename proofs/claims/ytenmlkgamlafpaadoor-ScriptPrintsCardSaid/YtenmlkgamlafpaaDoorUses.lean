/- Which fields a kind uses, in op and in the document. -/
import Derived.Test.YtenmlkgamlafpaaDoorOpA

namespace Go.Proofs.YtenmlkgamlafpaaDoor
open Go.RowKit
set_option linter.unusedVariables false

/-- a field's name: Handle, Alg, Count, Out, Data, More -/
def nm : Nat → ByteArray
  | 0 => ⟨#[72, 97, 110, 100, 108, 101]⟩
  | 1 => ⟨#[65, 108, 103]⟩
  | 2 => ⟨#[67, 111, 117, 110, 116]⟩
  | 3 => ⟨#[79, 117, 116]⟩
  | 4 => ⟨#[68, 97, 116, 97]⟩
  | _ => ⟨#[77, 111, 114, 101]⟩

abbrev nmV (i : Nat) : Value := .string (nm i)

def usesOf (k : UInt8) : List Nat :=
  if k = 1 then [4] else
  if k = 2 then [0, 1, 3, 4] else
  if k = 3 then [0, 4] else
  if k = 4 then [0] else
  if k = 5 then [0, 4] else
  if k = 6 then [0] else
  if k = 7 then [0, 1, 3, 4, 5] else
  if k = 8 then [0, 1, 2, 3, 4] else
  if k = 9 then [0] else
  if k = 10 then [0] else
  []

theorem uses_1 : usesOf 1 = [4] := rfl

theorem uses_2 : usesOf 2 = [0, 1, 3, 4] := rfl

theorem uses_3 : usesOf 3 = [0, 4] := rfl

theorem uses_4 : usesOf 4 = [0] := rfl

theorem uses_5 : usesOf 5 = [0, 4] := rfl

theorem uses_6 : usesOf 6 = [0] := rfl

theorem uses_7 : usesOf 7 = [0, 1, 3, 4, 5] := rfl

theorem uses_8 : usesOf 8 = [0, 1, 2, 3, 4] := rfl

theorem uses_9 : usesOf 9 = [0] := rfl

theorem uses_10 : usesOf 10 = [0] := rfl

theorem uses_no {k : UInt8} (h1 : k ≠ 1) (h2 : k ≠ 2) (h3 : k ≠ 3) (h4 : k ≠ 4) (h5 : k ≠ 5) (h6 : k ≠ 6) (h7 : k ≠ 7) (h8 : k ≠ 8) (h9 : k ≠ 9) (h10 : k ≠ 10) : usesOf k = [] := by unfold usesOf; simp [h1, h2, h3, h4, h5, h6, h7, h8, h9, h10]

theorem u8_is (k c : UInt8) (h : k ≠ c) (x : Int) (hx : x = (c.toNat : Int)) : ((k.toNat : Int) == x) = false := by
  subst hx
  simp only [beq_eq_false_iff_ne, ne_eq]
  exact fun e => h (UInt8.toNat_inj.1 (by omega))

theorem str_info : (Tryd.prog.info? 9).map (fun i => (i.zero, i.size, i.bytes)) = some (some (.string ⟨#[]⟩), 1, 16) := by kernel_rfl

theorem nm_one (l : List Nat) : ∀ u ∈ l.map nmV, u.oneCell' = true := by
  intro u hu
  obtain ⟨b, -, rfl⟩ := List.mem_map.1 hu
  rfl

/-- a row of names -/
def UsesP (k : UInt8) (w : World) (e : Ending) (w' : World) : Prop := ∃ v, e = .returned v ∧ w'.ownsRow w.heap.size 9 1 v (usesOf k).length ((usesOf k).map nmV) ∧ Below w.heap.size w w'

end Go.Proofs.YtenmlkgamlafpaaDoor
