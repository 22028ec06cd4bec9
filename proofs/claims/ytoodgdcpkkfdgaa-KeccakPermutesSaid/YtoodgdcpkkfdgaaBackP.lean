/- Words turned twice, laid and taken, in plain numbers. -/
import Derived.Test.YtoodgdcpkkfdgaaRot
import Derived.Test.YtoodgdcpkkfdgaaLay
namespace Go.Proofs.Ytoodgdcpkkfdgaa
theorem rotN_bit (W x n i : Nat) (hn : n < W) (hx : x < 2 ^ W) : (rotN W x n).testBit i = (decide (i < W) && x.testBit (if n ≤ i then i - n else W - n + i)) := by
  rw [← rotN_or W x n hn hx, Nat.testBit_or, Nat.testBit_mod_two_pow, Nat.testBit_div_two_pow, Nat.mul_comm x, Nat.testBit_two_pow_mul]
  by_cases hi : i < W
  · by_cases hni : n ≤ i
    · have h2 : x.testBit (i + (W - n)) = false := Nat.testBit_lt_two_pow (Nat.lt_of_lt_of_le hx (Nat.pow_le_pow_right (by omega) (by omega)))
      simp [hi, hni, h2]
    · have h3 : i + (W - n) = W - n + i := by omega
      simp [hi, hni, h3]
  · have h2 : x.testBit (i + (W - n)) = false := Nat.testBit_lt_two_pow (Nat.lt_of_lt_of_le hx (Nat.pow_le_pow_right (by omega) (by omega)))
    simp [hi, h2]
theorem rotN_rotN (W x a b : Nat) (ha : a < W) (hb : b < W) (hx : x < 2 ^ W) : rotN W (rotN W x a) b = rotN W x ((a + b) % W) := by
  apply Nat.eq_of_testBit_eq
  intro i
  have hc : (a + b) % W < W := Nat.mod_lt _ (by omega)
  rw [rotN_bit W _ b i hb (rotN_lt W x a ha hx), rotN_bit W x _ i hc hx]
  by_cases hi : i < W
  · simp only [hi, decide_true, Bool.true_and]
    rw [rotN_bit W x a _ ha hx]
    have hlt : (if b ≤ i then i - b else W - b + i) < W := by split <;> omega
    simp only [hlt, decide_true, Bool.true_and]
    congr 1
    have hm : (a + b) % W = if a + b < W then a + b else a + b - W := by
      split
      · rw [Nat.mod_eq_of_lt (by omega)]
      · rw [Nat.mod_eq_sub_mod (by omega), Nat.mod_eq_of_lt (by omega)]
    rw [hm]
    split <;> split <;> split <;> split <;> omega
  · simp [hi]
theorem rotN_zero (W x : Nat) (hx : x < 2 ^ W) : rotN W x 0 = x := by
  unfold rotN
  simp [Nat.mod_eq_of_lt hx, Nat.div_eq_of_lt hx]
theorem emod_add (W : Nat) (hW : 0 < W) (n m : Int) : ((n % W).toNat + (m % W).toNat) % W = ((n + m) % W).toNat := by
  have h1 := Int.emod_nonneg n (show (W : Int) ≠ 0 by omega)
  have h2 := Int.emod_nonneg m (show (W : Int) ≠ 0 by omega)
  have h3 := Int.emod_nonneg (n + m) (show (W : Int) ≠ 0 by omega)
  apply Int.ofNat_inj.1
  rw [Int.natCast_emod, Int.natCast_add, Int.toNat_of_nonneg h1, Int.toNat_of_nonneg h2, Int.toNat_of_nonneg h3, ← Int.add_emod]
end Go.Proofs.Ytoodgdcpkkfdgaa
namespace Go.Proofs.Ytoodgdcpkkfdgaa
theorem byteAt_nat {l : List UInt8} {k : Nat} {b : UInt8} (h : l[k]? = some b) : byteAt l (k : Int) = b.toNat := by
  obtain ⟨hk, rfl⟩ := List.getElem?_eq_some_iff.1 h
  unfold byteAt
  rw [if_pos (by omega)]
  simp [List.getElem?_eq_getElem hk]
theorem leTo_leL (x N : Nat) (k : Nat) (hk : k ≤ N) : leTo (leL N x) 0 k = x % 256 ^ k := by
  induction k with
  | zero => simp [leTo, Nat.mod_one]
  | succ k ih =>
    unfold leTo
    rw [ih (by omega), Int.zero_add, byteAt_nat (leL_get (show k < N by omega)), Nat.pow_succ, Nat.mod_mul, UInt8.toNat_ofNat', Nat.mul_comm (256 ^ k)]
theorem beTo_beL (x N : Nat) (hx : x < 256 ^ N) (k : Nat) (hk : k ≤ N) : beTo (beL N x) 0 k = x / 256 ^ (N - k) := by
  induction k with
  | zero => simp [beTo, Nat.div_eq_of_lt hx]
  | succ k ih =>
    unfold beTo
    rw [ih (by omega), Int.zero_add, byteAt_nat (beL_get (show k < N by omega)), UInt8.toNat_ofNat']
    have e : N - k = (N - (k + 1)) + 1 := by omega
    have e2 : N - 1 - k = N - (k + 1) := by omega
    rw [e2, e, Nat.pow_succ, ← Nat.div_div_eq_div_mul]
    omega
theorem beTo_back (x N : Nat) (hx : x < 256 ^ N) : beTo (beL N x) 0 N = x := by rw [beTo_beL x N hx N (Nat.le_refl _), Nat.sub_self]; simp
theorem leTo_back (x N : Nat) (hx : x < 256 ^ N) : leTo (leL N x) 0 N = x := by rw [leTo_leL x N N (Nat.le_refl _), Nat.mod_eq_of_lt hx]
end Go.Proofs.Ytoodgdcpkkfdgaa
