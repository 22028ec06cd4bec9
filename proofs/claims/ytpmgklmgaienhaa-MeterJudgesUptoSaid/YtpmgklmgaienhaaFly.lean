/- Whole numbers as floats: their sums, differences, products and quotients, exactly. Nothing here speaks of the program. -/
import Derived.Test.YtpmgklmgaienhaaFlx
namespace Go.Proofs.Ytpmgklmgaienhaa
open Go Ieee
set_option linter.unusedVariables false
set_option linter.unusedSimpArgs false

theorem powW : (2 ^ uE : Int).natAbs = 2 ^ uE := by rw [Int.natAbs_pow]; rfl
theorem bigW {a : Nat} (h : a < 2 ^ 53) : a * 2 ^ uE ≤ 2 ^ (uT + uE) := by
  rw [Nat.pow_add]
  exact Nat.mul_le_mul_right _ (uT_53 h)
theorem opW {op : BinOp} {x y r : Nat} (h : floatBits op .f64 x y = some r) : opA op (some x) (some y) = some r := by simp [opA, h]
theorem zeroW : Is 0 (0 * 2 ^ uE) := by
  rw [Int.zero_mul]
  exact ⟨false, 0, rfl, by decide +kernel, by simp [mag_zero, sg]⟩
theorem intW {n : Int} (h : n.natAbs < 2 ^ 53) : Is (floatOfInt .f64 n) (n * 2 ^ uE) := int_is h
theorem addW {x y : Nat} {a b : Int} (hx : Is x (a * 2 ^ uE)) (hy : Is y (b * 2 ^ uE)) (h : (a + b).natAbs < 2 ^ 53) : ∃ r, opA .add (some x) (some y) = some r ∧ Is r ((a + b) * 2 ^ uE) := by
  obtain ⟨r, e, i⟩ := add_is hx hy (by rw [← Int.add_mul, Int.natAbs_mul, powW]; exact bigW h)
  rw [← Int.add_mul, rd_exact _ h] at i
  exact ⟨r, opW e, i⟩
theorem subW {x y : Nat} {a b : Int} (hx : Is x (a * 2 ^ uE)) (hy : Is y (b * 2 ^ uE)) (h : (a - b).natAbs < 2 ^ 53) : ∃ r, opA .sub (some x) (some y) = some r ∧ Is r ((a - b) * 2 ^ uE) := by
  obtain ⟨r, e, i⟩ := sub_is hx hy (by rw [← Int.sub_mul, Int.natAbs_mul, powW]; exact bigW h)
  rw [← Int.sub_mul, rd_exact _ h] at i
  exact ⟨r, opW e, i⟩
theorem mulW {x y : Nat} {a b : Int} (hx : Is x (a * 2 ^ uE)) (hy : Is y (b * 2 ^ uE)) (h : (a * b).natAbs < 2 ^ 53) : ∃ r, opA .mul (some x) (some y) = some r ∧ Is r (a * b * 2 ^ uE) := by
  obtain ⟨r, e, i⟩ := mul_is hx hy (q := a * b * 2 ^ uE) (by simp [Int.mul_comm, Int.mul_left_comm, Int.mul_assoc]) (by rw [Int.natAbs_mul, powW]; exact bigW h)
  rw [rd_exact _ h] at i
  exact ⟨r, opW e, i⟩
/-- an exact quotient -/
theorem divW {x y : Nat} {N a : Int} (hx : Is x (N * a * 2 ^ uE)) (hy : Is y (N * 2 ^ uE)) (hN : N ≠ 0) (h : a.natAbs < 2 ^ 53) : ∃ r, opA .quo (some x) (some y) = some r ∧ Is r (a * 2 ^ uE) := by
  have hp := two_pow_int_pos uE
  obtain ⟨r, e, i⟩ := div_is hx hy (q := a * 2 ^ uE) (fun h0 => by
    rcases Int.mul_eq_zero.1 h0 with h1 | h1
    · exact hN h1
    · omega) (by simp [Int.mul_comm, Int.mul_left_comm, Int.mul_assoc]) ⟨a.natAbs, uE, h, by rw [Int.natAbs_mul, powW]⟩ (by rw [Int.natAbs_mul, powW]; exact bigW h)
  exact ⟨r, opW e, i⟩
theorem cmpW {a b : Int} : compare (a * 2 ^ uE) (b * 2 ^ uE) = compare a b := cmp_mul _ _ _ (two_pow_int_pos _)
theorem orderW {x y : Nat} {a b : Int} (hx : Is x (a * 2 ^ uE)) (hy : Is y (b * 2 ^ uE)) : FloatKind.f64.format.order x y = some (compare a b) := by
  rw [order_is hx hy, cmpW]
theorem cmp_eq (a : Int) : compare a a = Ordering.eq := by
  show (if a < a then Ordering.lt else if a = a then Ordering.eq else Ordering.gt) = _
  simp
theorem cmp_lt {a b : Int} (h : a < b) : compare a b = Ordering.lt := by
  show (if a < b then Ordering.lt else if a = b then Ordering.eq else Ordering.gt) = _
  simp [h]
theorem cmp_gt {a b : Int} (h : b < a) : compare a b = Ordering.gt := by
  show (if a < b then Ordering.lt else if a = b then Ordering.eq else Ordering.gt) = _
  rw [if_neg (by omega), if_neg (by omega)]
end Go.Proofs.Ytpmgklmgaienhaa
