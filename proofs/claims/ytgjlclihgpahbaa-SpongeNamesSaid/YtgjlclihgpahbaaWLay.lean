/- word.Lay in its four instances. -/
import Derived.Test.YtgjlclihgpahbaaRows
import Derived.Test.YtgjlclihgpahbaaLib
import Derived.Test.YtgjlclihgpahbaaKitB
import Derived.Test.YtgjlclihgpahbaaHeap
import Derived.Test.YtgjlclihgpahbaaRot
import Derived.Test.YtgjlclihgpahbaaTurn
import Derived.Test.YtgjlclihgpahbaaLay
import Derived.Test.YtgjlclihgpahbaaMade
namespace Go.Proofs.Ytgjlclihgpahbaa
open Go.RowKit
set_option linter.unusedVariables false

theorem byte_eq (x d : Nat) : (x : Int) / 2 ^ (8 * d) % 256 = ((UInt8.ofNat (x / 256 ^ d)).toNat : Int) := by
  have e : (x : Int) / 2 ^ (8 * d) = ((x / 256 ^ d : Nat) : Int) := by
    rw [show (256 : Nat) ^ d = 2 ^ (8 * d) by rw [Nat.pow_mul], Int.natCast_ediv, Int.natCast_pow]; rfl
  rw [e, UInt8.toNat_ofNat']
  rfl
theorem made_bytes {w : World} {base g n : Nat} (h : w.ownsRow base 5 1 (.slice (some ⟨g, 0, none⟩) n n) n (madeCells (Value.int .u8 0).cells (n * 1)).toList) : OwnB w base (.slice (some ⟨g, 0, none⟩) n n) (List.replicate n 0) := by
  unfold OwnB
  rw [List.length_replicate, List.map_replicate]
  rw [show (Value.int .u8 0).cells = #[.int .u8 0] from rfl, toList_madeCells_one, Nat.mul_one] at h
  exact h

end Go.Proofs.Ytgjlclihgpahbaa
