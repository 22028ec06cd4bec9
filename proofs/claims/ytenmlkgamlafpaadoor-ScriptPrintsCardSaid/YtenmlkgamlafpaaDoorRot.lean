/- Turning words, in plain numbers. -/
namespace Go.Proofs.YtenmlkgamlafpaaDoor
/-- x turned left by n in a word of W bits. -/
def rotN (W x n : Nat) : Nat := x * 2 ^ n % 2 ^ W + x / 2 ^ (W - n)
/-- what the reference has gathered after i bits -/
def rotTo (W x n i : Nat) : Nat := if i ≤ W - n then (x % 2 ^ i) * 2 ^ n else (x % 2 ^ (W - n)) * 2 ^ n + (x / 2 ^ (W - n)) % 2 ^ (i - (W - n))

theorem mod_succ_bit (x i : Nat) : x % 2 ^ (i + 1) = x % 2 ^ i + x / 2 ^ i % 2 * 2 ^ i := by
  rw [Nat.pow_succ, Nat.mod_mul, Nat.mul_comm (2 ^ i)]

theorem rotTo_zero (W x n : Nat) : rotTo W x n 0 = 0 := by simp [rotTo, Nat.mod_one]

theorem rotTo_succ (W x n i : Nat) (hn : n < W) (hi : i < W) : rotTo W x n (i + 1) = rotTo W x n i + x / 2 ^ i % 2 * 2 ^ ((i + n) % W) := by
  unfold rotTo
  rcases Nat.lt_trichotomy i (W - n) with h | h | h
  · rw [if_pos (by omega), if_pos (by omega), mod_succ_bit, Nat.add_mul, Nat.mod_eq_of_lt (a := i + n) (by omega), Nat.pow_add, Nat.mul_assoc]
  · have e : (i + n) % W = 0 := by
      have : i + n = W := by omega
      rw [this, Nat.mod_self]
    have e1 : i + 1 - (W - n) = 1 := by omega
    rw [if_neg (by omega), if_pos (by omega), e, e1]
    subst h
    simp
  · have e : (i + n) % W = i - (W - n) := by
      rw [Nat.mod_eq_sub_mod (by omega), Nat.mod_eq_of_lt (by omega)]; omega
    have e1 : i + 1 - (W - n) = (i - (W - n)) + 1 := by omega
    rw [if_neg (by omega), if_neg (by omega), e, e1, mod_succ_bit, Nat.div_div_eq_div_mul, ← Nat.pow_add, Nat.add_assoc]
    have e2 : W - n + (i - (W - n)) = i := by omega
    rw [e2]

theorem rotTo_end (W x n : Nat) (hn : n < W) (hx : x < 2 ^ W) : rotTo W x n W = rotN W x n := by
  have h1 : x * 2 ^ n % 2 ^ W = (x % 2 ^ (W - n)) * 2 ^ n := by
    have e : 2 ^ W = 2 ^ (W - n) * 2 ^ n := by rw [← Nat.pow_add]; congr 1; omega
    rw [e, Nat.mul_mod_mul_right]
  unfold rotTo rotN
  by_cases h0 : n = 0
  · subst h0
    rw [if_pos (by omega)]
    simp [Nat.mod_eq_of_lt hx, Nat.div_eq_of_lt hx]
  · rw [if_neg (by omega), h1]
    congr 1
    have e : W - (W - n) = n := by omega
    rw [e, Nat.mod_eq_of_lt]
    have e2 : 2 ^ W = 2 ^ (W - n) * 2 ^ n := by rw [← Nat.pow_add]; congr 1; omega
    rw [Nat.div_lt_iff_lt_mul (Nat.two_pow_pos _), Nat.mul_comm, ← e2]
    exact hx

theorem rotTo_lt (W x n i : Nat) (hn : n < W) (hi : i ≤ W) : rotTo W x n i < 2 ^ W := by
  have e : 2 ^ W = 2 ^ (W - n) * 2 ^ n := by rw [← Nat.pow_add]; congr 1; omega
  unfold rotTo
  by_cases h : i ≤ W - n
  · rw [if_pos h, e]
    have h1 : x % 2 ^ i < 2 ^ i := Nat.mod_lt _ (Nat.two_pow_pos _)
    have h2 : 2 ^ i ≤ 2 ^ (W - n) := Nat.pow_le_pow_right (by omega) h
    exact Nat.mul_lt_mul_of_pos_right (by omega) (Nat.two_pow_pos _)
  · rw [if_neg h, e]
    have h1 : x % 2 ^ (W - n) < 2 ^ (W - n) := Nat.mod_lt _ (Nat.two_pow_pos _)
    have h2 : x / 2 ^ (W - n) % 2 ^ (i - (W - n)) < 2 ^ n := Nat.lt_of_lt_of_le (Nat.mod_lt _ (Nat.two_pow_pos _)) (Nat.pow_le_pow_right (by omega) (by omega))
    have h3 : (x % 2 ^ (W - n) + 1) * 2 ^ n ≤ 2 ^ (W - n) * 2 ^ n := Nat.mul_le_mul_right _ h1
    rw [Nat.add_mul, Nat.one_mul] at h3
    omega

/-- the two parts lie apart -/
theorem rotN_or (W x n : Nat) (hn : n < W) (hx : x < 2 ^ W) : (x * 2 ^ n % 2 ^ W) ||| (x / 2 ^ (W - n)) = rotN W x n := by
  have e2 : 2 ^ W = 2 ^ (W - n) * 2 ^ n := by rw [← Nat.pow_add]; congr 1; omega
  have h1 : x * 2 ^ n % 2 ^ W = 2 ^ n * (x % 2 ^ (W - n)) := by
    rw [e2, Nat.mul_mod_mul_right, Nat.mul_comm]
  have h2 : x / 2 ^ (W - n) < 2 ^ n := by
    rw [Nat.div_lt_iff_lt_mul (Nat.two_pow_pos _), Nat.mul_comm, ← e2]
    exact hx
  unfold rotN
  rw [h1, Nat.two_pow_add_eq_or_of_lt h2]
theorem rotN_lt (W x n : Nat) (hn : n < W) (hx : x < 2 ^ W) : rotN W x n < 2 ^ W := by
  rw [← rotTo_end W x n hn hx]; exact rotTo_lt W x n W hn (Nat.le_refl _)
end Go.Proofs.YtenmlkgamlafpaaDoor
