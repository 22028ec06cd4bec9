/- word.Turn in its four instances. -/
import Derived.Test.YtenmlkgamlafpaaDoorRows
import Derived.Test.YtenmlkgamlafpaaDoorLib
import Derived.Test.YtenmlkgamlafpaaDoorRot
namespace Go.Proofs.YtenmlkgamlafpaaDoor
open Go.RowKit
set_option linter.unusedVariables false

theorem ret_int {k : IntKind} {a b : Int} (h : a = b) : Ending.returned (.int k a) = .returned (.int k b) := by rw [h]
theorem rot_bits_32 (x m : Nat) (hm : m < 32) (hx : x < 2 ^ 32) : bits .or .u32 ((x : Int) * 2 ^ m % 4294967296) ((x : Int) / 2 ^ (32 - m)) = ((rotN 32 x m : Nat) : Int) := by
  have e1 : (x : Int) * 2 ^ m % 4294967296 = ((x * 2 ^ m % 2 ^ 32 : Nat) : Int) := by
    rw [Int.natCast_emod, Int.natCast_mul, Int.natCast_pow, show ((2 ^ 32 : Nat) : Int) = 4294967296 from rfl]; rfl
  have e2 : (x : Int) / 2 ^ (32 - m) = ((x / 2 ^ (32 - m) : Nat) : Int) := by
    rw [Int.natCast_ediv, Int.natCast_pow]; rfl
  rw [e1, e2, u32_or_nat _ _ (Nat.mod_lt _ (by decide)) (Nat.lt_of_le_of_lt (Nat.div_le_self _ _) (by omega)), rotN_or 32 x m hm hx]
theorem rot_bits_64 (x m : Nat) (hm : m < 64) (hx : x < 2 ^ 64) : bits .or .u64 ((x : Int) * 2 ^ m % 18446744073709551616) ((x : Int) / 2 ^ (64 - m)) = ((rotN 64 x m : Nat) : Int) := by
  have e1 : (x : Int) * 2 ^ m % 18446744073709551616 = ((x * 2 ^ m % 2 ^ 64 : Nat) : Int) := by
    rw [Int.natCast_emod, Int.natCast_mul, Int.natCast_pow, show ((2 ^ 64 : Nat) : Int) = 18446744073709551616 from rfl]; rfl
  have e2 : (x : Int) / 2 ^ (64 - m) = ((x / 2 ^ (64 - m) : Nat) : Int) := by
    rw [Int.natCast_ediv, Int.natCast_pow]; rfl
  rw [e1, e2, u64_or_nat _ _ (Nat.mod_lt _ (by decide)) (Nat.lt_of_le_of_lt (Nat.div_le_self _ _) (by omega)), rotN_or 64 x m hm hx]
theorem tmod_lo (W : Int) (hW : W = 32 ∨ W = 64) (n : Int) (h : n.tmod W < 0) : wrap64 (n.tmod W + W) = ((n % W).toNat : Int) := by
  have e := Int.tmod_eq_emod (a := n) (b := W)
  unfold wrap64
  rcases hW with rfl | rfl
  · rw [show Int.natAbs 32 = 32 from rfl] at e; split at e <;> omega
  · rw [show Int.natAbs 64 = 64 from rfl] at e; split at e <;> omega
theorem tmod_hi (W : Int) (hW : W = 32 ∨ W = 64) (n : Int) (h : ¬ n.tmod W < 0) : n.tmod W = ((n % W).toNat : Int) := by
  have e := Int.tmod_eq_emod (a := n) (b := W)
  rcases hW with rfl | rfl
  · rw [show Int.natAbs 32 = 32 from rfl] at e; split at e <;> omega
  · rw [show Int.natAbs 64 = 64 from rfl] at e; split at e <;> omega

end Go.Proofs.YtenmlkgamlafpaaDoor
