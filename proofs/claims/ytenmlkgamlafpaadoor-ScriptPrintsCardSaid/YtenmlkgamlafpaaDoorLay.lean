/- Words laid into bytes and taken out of them, in plain numbers. -/
namespace Go.Proofs.YtenmlkgamlafpaaDoor
/-- a word's n bytes, the lowest first -/
def leL (n x : Nat) : List UInt8 := (List.range n).map fun i => UInt8.ofNat (x / 256 ^ i)
def beL (n x : Nat) : List UInt8 := (leL n x).reverse
theorem leL_length (n x : Nat) : (leL n x).length = n := by simp [leL]
theorem beL_length (n x : Nat) : (beL n x).length = n := by simp [beL, leL]
theorem leL_succ (n x : Nat) : leL (n + 1) x = leL n x ++ [UInt8.ofNat (x / 256 ^ n)] := by simp [leL, List.range_succ]
theorem leL_get {n x i : Nat} (h : i < n) : (leL n x)[i]? = some (UInt8.ofNat (x / 256 ^ i)) := by simp [leL, h]
theorem beL_get {n x i : Nat} (h : i < n) : (beL n x)[i]? = some (UInt8.ofNat (x / 256 ^ (n - 1 - i))) := by
  unfold beL
  rw [List.getElem?_reverse (by rw [leL_length]; exact h), leL_length, leL_get (by omega)]
/-- the byte at a place, 0 where there is none -/
def byteAt (l : List UInt8) (at' : Int) : Nat := if 0 ≤ at' ∧ at' < l.length then (l.getD at'.toNat 0).toNat else 0
theorem byteAt_lt (l : List UInt8) (a : Int) : byteAt l a < 256 := by
  unfold byteAt; split
  · exact UInt8.toNat_lt _
  · omega
/-- the first n bytes from a place on, the highest first -/
def beTo (l : List UInt8) (a : Int) : Nat → Nat
  | 0 => 0
  | k + 1 => 256 * beTo l a k + byteAt l (a + k)
/-- the lowest first -/
def leTo (l : List UInt8) (a : Int) : Nat → Nat
  | 0 => 0
  | k + 1 => leTo l a k + byteAt l (a + k) * 256 ^ k
theorem beTo_lt (l : List UInt8) (a : Int) (k : Nat) : beTo l a k < 256 ^ k := by
  induction k with
  | zero => simp [beTo]
  | succ k ih => have := byteAt_lt l (a + k); rw [Nat.pow_succ]; unfold beTo; omega
theorem leTo_lt (l : List UInt8) (a : Int) (k : Nat) : leTo l a k < 256 ^ k := by
  induction k with
  | zero => simp [leTo]
  | succ k ih =>
    have := byteAt_lt l (a + k)
    unfold leTo
    rw [Nat.pow_succ]
    have h : (byteAt l (a + k) + 1) * 256 ^ k ≤ 256 * 256 ^ k := Nat.mul_le_mul_right _ this
    rw [Nat.add_mul, Nat.one_mul] at h
    omega
theorem byteAt_out (l : List UInt8) (a : Int) (h : a < 0 ∨ (l.length : Int) ≤ a) : byteAt l a = 0 := by
  unfold byteAt; rw [if_neg]; omega
theorem beTo_out (l : List UInt8) (a : Int) (n : Nat) (h : a + n ≤ 0 ∨ (l.length : Int) ≤ a) (k : Nat) (hk : k ≤ n) : beTo l a k = 0 := by
  induction k with
  | zero => rfl
  | succ k ih => unfold beTo; rw [ih (by omega), byteAt_out l _ (by omega)]
theorem leTo_out (l : List UInt8) (a : Int) (n : Nat) (h : a + n ≤ 0 ∨ (l.length : Int) ≤ a) (k : Nat) (hk : k ≤ n) : leTo l a k = 0 := by
  induction k with
  | zero => rfl
  | succ k ih => unfold leTo; rw [ih (by omega), byteAt_out l _ (by omega)]; omega
/-- the reference's way from the highest of n down: what it has gathered when i is still to come -/
def leDown (l : List UInt8) (a : Int) : Nat → Nat → Nat
  | _, 0 => 0
  | n, d + 1 => 256 * leDown l a n d + byteAt l (a + (n - 1 - d : Nat))
theorem leDown_eq (l : List UInt8) (a : Int) (n d : Nat) (h : d ≤ n) : leTo l a n = leTo l a (n - d) + leDown l a n d * 256 ^ (n - d) := by
  induction d with
  | zero => simp [leDown]
  | succ d ih =>
    rw [ih (by omega)]
    have e : n - d = (n - (d + 1)) + 1 := by omega
    rw [e]
    have e2 : n - 1 - d = n - (d + 1) := by omega
    rw [leDown, leTo, e2, Nat.add_mul, Nat.pow_succ, Nat.mul_comm (256 ^ (n - (d + 1))) 256, ← Nat.mul_assoc, Nat.mul_comm (leDown l a n d) 256]
    omega
theorem leDown_all (l : List UInt8) (a : Int) (n : Nat) : leDown l a n n = leTo l a n := by
  have := leDown_eq l a n n (Nat.le_refl _)
  rw [Nat.sub_self] at this
  simp [leTo] at this
  omega
theorem leDown_lt (l : List UInt8) (a : Int) (n d : Nat) : leDown l a n d < 256 ^ d := by
  induction d with
  | zero => simp [leDown]
  | succ d ih => have := byteAt_lt l (a + (n - 1 - d : Nat)); rw [Nat.pow_succ]; unfold leDown; omega
end Go.Proofs.YtenmlkgamlafpaaDoor
