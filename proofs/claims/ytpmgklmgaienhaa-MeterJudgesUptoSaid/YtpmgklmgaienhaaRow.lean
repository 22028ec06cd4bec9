/- What a row's reading gives to a walk: slices of bytes that came in. -/
import Derived.Test.YtpmgklmgaienhaaRows
import Derived.Test.YtpmgklmgaienhaaLib
import Derived.WalkKit
import Derived.ProofKit
import Derived.OpenShut
import Derived.ShutString
import Derived.ChangeOld
import Derived.Below
import Derived.SizedLaws
namespace Go.Proofs.Ytpmgklmgaienhaa
open Go.ChangeShapes Go.WideShapes Go.ChangeAt Go.RowKit
open Go.ChangeMaps (open_string shut_string)

theorem rowOwn : ownKnob Try.prog.godebug = none := by kernel_rfl
theorem rowLaid : laidOutB Try.prog = true := by kernel_rfl
theorem rowBytes : Try.prog.bytesOf 5 = 1 := by kernel_rfl
theorem rowCells : Try.prog.cellsOf 5 = 1 := by kernel_rfl

theorem u64_of {x : Int} (h : (Lit.int .u64 x).wf = true) : ∃ u : UInt64, x = (u.toNat : Int) := by
  have hb : 0 ≤ x ∧ x ≤ 18446744073709551615 := by
    simp [Lit.wf, IntKind.min, IntKind.max, IntKind.signed, IntKind.bits] at h
    omega
  exact ⟨UInt64.ofNat x.toNat, by rw [UInt64.toNat_ofNat']; omega⟩
theorem u32_of {x : Int} (h : (Lit.int .u32 x).wf = true) : ∃ u : UInt32, x = (u.toNat : Int) := by
  have hb : 0 ≤ x ∧ x ≤ 4294967295 := by
    simp [Lit.wf, IntKind.min, IntKind.max, IntKind.signed, IntKind.bits] at h
    omega
  exact ⟨UInt32.ofNat x.toNat, by rw [UInt32.toNat_ofNat']; omega⟩
theorem u8_of {x : Int} (h : (Lit.int .u8 x).wf = true) : ∃ u : UInt8, x = (u.toNat : Int) := by
  have hb := bounds_u8 h
  exact ⟨UInt8.ofNat x.toNat, by rw [UInt8.toNat_ofNat']; omega⟩
theorem i64_of {x : Int} (h : (Lit.int .i64 x).wf = true) : -9223372036854775808 ≤ x ∧ x ≤ 9223372036854775807 := by
  simp [Lit.wf, IntKind.min, IntKind.max, IntKind.signed, IntKind.bits] at h
  omega
end Go.Proofs.Ytpmgklmgaienhaa
