/- Numbers as bytes and bytes as numbers, in op and in the document. -/
import Derived.Test.YtenmlkgamlafpaaDoorRows
import Derived.Test.YtenmlkgamlafpaaDoorFlat
import Derived.Test.YtenmlkgamlafpaaDoorKitB
import Derived.Test.YtenmlkgamlafpaaDoorRot
import Derived.Test.YtenmlkgamlafpaaDoorTurn
import Derived.Test.YtenmlkgamlafpaaDoorLay
import Derived.Test.YtenmlkgamlafpaaDoorMade

namespace Go.Proofs.YtenmlkgamlafpaaDoor
open Go.RowKit
set_option linter.unusedVariables false

/-- the number that bytes are -/
def tk (l : List UInt8) : Nat := l.foldl (fun n b => 256 * n + b.toNat) 0

theorem tk_zero : tk [] = 0 := rfl

theorem tk_snoc (l : List UInt8) (b : UInt8) : tk (l ++ [b]) = 256 * tk l + b.toNat := by simp [tk]

theorem tk_from (l : List UInt8) : ∀ a, l.foldl (fun n b => 256 * n + b.toNat) a + 1 ≤ (a + 1) * 256 ^ l.length := by
  induction l with
  | nil => intro a; simp
  | cons b l ih =>
    intro a
    have h := ih (256 * a + b.toNat)
    have hb := b.toNat_lt
    rw [List.foldl_cons, List.length_cons, Nat.pow_succ]
    refine Nat.le_trans h ?_
    rw [Nat.mul_comm (256 ^ l.length), ← Nat.mul_assoc]
    exact Nat.mul_le_mul_right _ (by omega)

theorem tk_lt (l : List UInt8) : tk l < 256 ^ l.length := by
  have h := tk_from l 0
  unfold tk
  omega

theorem byte_eq (x d : Nat) : (x : Int) / 2 ^ (8 * d) % 256 = ((UInt8.ofNat (x / 256 ^ d)).toNat : Int) := by
  have e : (x : Int) / 2 ^ (8 * d) = ((x / 256 ^ d : Nat) : Int) := by
    rw [show (256 : Nat) ^ d = 2 ^ (8 * d) by rw [Nat.pow_mul], Int.natCast_ediv, Int.natCast_pow]; rfl
  rw [e, UInt8.toNat_ofNat']
  rfl

theorem or_byte_64 {b x : Nat} (hb : b ≤ 72057594037927935) (hx : x ≤ 255) : bits .or .u64 ((b : Int) * 256) (x : Int) = ((256 * b + x : Nat) : Int) := by
  have e : (b : Int) * 256 = ((256 * b : Nat) : Int) := by omega
  rw [e, u64_or_nat _ _ (by omega) (by omega), Nat.two_pow_add_eq_or_of_lt (i := 8) (by omega)]

end Go.Proofs.YtenmlkgamlafpaaDoor
