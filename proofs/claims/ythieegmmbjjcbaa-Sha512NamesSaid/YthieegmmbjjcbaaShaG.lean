/- A hash state, plain: the words behind all whole blocks of a message, and what waits. Nothing here speaks of the program. -/
import Derived.Test.YthieegmmbjjcbaaLib
namespace Go.Proofs.Ythieegmmbjjcbaa
open Go.RowKit
set_option linter.unusedVariables false

section
variable {α : Type} (B : Nat) (c : List α → List UInt8 → List α) (h0 : List α)

/-- the words behind k blocks -/
def hTo (m : List UInt8) : Nat → List α
  | 0 => h0
  | k + 1 => c (hTo m k) ((m.drop (B * k)).take B)

def hAll (m : List UInt8) : List α := hTo B c h0 m (m.length / B)

def restOf (m : List UInt8) : List UInt8 := m.drop (B * (m.length / B))

def waitOf (m : List UInt8) : List UInt8 := restOf B m ++ List.replicate (B - m.length % B) 0

variable {B c h0}

theorem hTo_append (m p : List UInt8) : ∀ k, B * k ≤ m.length → hTo B c h0 (m ++ p) k = hTo B c h0 m k := by
  intro k
  induction k with
  | zero => intro _; rfl
  | succ k ih =>
    intro h
    have hk : B * k + B ≤ m.length := by rw [← Nat.mul_succ]; exact h
    show c (hTo B c h0 (m ++ p) k) _ = c (hTo B c h0 m k) _
    rw [ih (by omega), List.drop_append_of_le_length (by omega), List.take_append_of_le_length (by rw [List.length_drop]; omega)]

theorem rest_length (hB : 0 < B) (m : List UInt8) : (restOf B m).length = m.length % B := by
  unfold restOf
  rw [List.length_drop]
  have := Nat.div_add_mod m.length B
  omega

theorem wait_length (hB : 0 < B) (m : List UInt8) : (waitOf B m).length = B := by
  unfold waitOf
  rw [List.length_append, rest_length hB, List.length_replicate]
  have := Nat.mod_lt m.length hB
  omega

theorem div_stay {n k : Nat} (h : n % B + k < B) : (n + k) / B = n / B ∧ (n + k) % B = n % B + k := by
  have h1 := Nat.div_add_mod n B
  have e : n + k = B * (n / B) + (n % B + k) := by omega
  have hB : 0 < B := by omega
  constructor
  · rw [e, Nat.mul_add_div hB, Nat.div_eq_of_lt h, Nat.add_zero]
  · rw [e, Nat.mul_add_mod, Nat.mod_eq_of_lt h]

theorem div_next {n k : Nat} (hB : 0 < B) (h : n % B + k = B) : (n + k) / B = n / B + 1 ∧ (n + k) % B = 0 := by
  have h1 := Nat.div_add_mod n B
  have e : n + k = B * (n / B + 1) := by rw [Nat.mul_add, Nat.mul_one]; omega
  constructor
  · rw [e, Nat.mul_div_cancel_left _ hB]
  · rw [e, Nat.mul_mod_right]

/-- a few bytes more, and the block is not full -/
theorem hAll_stay {m x : List UInt8} (h : m.length % B + x.length < B) : hAll B c h0 (m ++ x) = hAll B c h0 m := by
  unfold hAll
  rw [List.length_append, (div_stay h).1]
  have := Nat.div_add_mod m.length B
  exact hTo_append m x _ (by omega)

theorem rest_stay {m x : List UInt8} (h : m.length % B + x.length < B) : restOf B (m ++ x) = restOf B m ++ x := by
  unfold restOf
  rw [List.length_append, (div_stay h).1]
  have := Nat.div_add_mod m.length B
  rw [List.drop_append_of_le_length (by omega)]

/-- the bytes behind the place where a list is put -/
def putAt (b : List UInt8) (k : Nat) (x : List UInt8) : List UInt8 := b.take k ++ x ++ b.drop (k + x.length)

theorem wait_put {m x : List UInt8} (hB : 0 < B) (h : m.length % B + x.length ≤ B) : putAt (waitOf B m) (m.length % B) x = restOf B m ++ x ++ List.replicate (B - (m.length % B + x.length)) 0 := by
  unfold putAt waitOf
  rw [List.take_left' (rest_length hB m), List.drop_append, rest_length hB, List.drop_eq_nil_of_le (by rw [rest_length hB]; omega), List.nil_append, List.drop_replicate]
  congr 2
  omega

theorem wait_stay {m x : List UInt8} (h : m.length % B + x.length < B) : putAt (waitOf B m) (m.length % B) x = waitOf B (m ++ x) := by
  rw [wait_put (by omega) (by omega)]
  have e : waitOf B (m ++ x) = restOf B (m ++ x) ++ List.replicate (B - (m ++ x).length % B) 0 := rfl
  rw [e, rest_stay h, List.length_append, (div_stay h).2]

/-- a few bytes more, and the block is full -/
theorem wait_full {m x : List UInt8} (hB : 0 < B) (h : m.length % B + x.length = B) : putAt (waitOf B m) (m.length % B) x = restOf B m ++ x := by
  rw [wait_put hB (by omega), h, Nat.sub_self, List.replicate_zero, List.append_nil]

theorem hAll_next {m x : List UInt8} (hB : 0 < B) (h : m.length % B + x.length = B) : hAll B c h0 (m ++ x) = c (hAll B c h0 m) (restOf B m ++ x) := by
  unfold hAll
  rw [List.length_append, (div_next hB h).1]
  have h1 := Nat.div_add_mod m.length B
  show c (hTo B c h0 (m ++ x) _) _ = _
  rw [hTo_append m x _ (by omega)]
  congr 1
  unfold restOf
  rw [List.drop_append_of_le_length (by omega), List.take_of_length_le]
  rw [List.length_append, List.length_drop]
  omega

theorem rest_next {m x : List UInt8} (hB : 0 < B) (h : m.length % B + x.length = B) : restOf B (m ++ x) = [] := by
  apply List.eq_nil_of_length_eq_zero
  rw [rest_length hB, List.length_append, (div_next hB h).2]

theorem wait_next {m x : List UInt8} (hB : 0 < B) (h : m.length % B + x.length = B) : waitOf B (m ++ x) = List.replicate B 0 := by
  unfold waitOf
  rw [rest_next hB h, List.length_append, (div_next hB h).2]
  rfl

theorem hAll_nil : hAll B c h0 [] = h0 := by unfold hAll; rw [List.length_nil, Nat.zero_div]; rfl

theorem wait_nil : waitOf B [] = List.replicate B 0 := by unfold waitOf restOf; simp

theorem hTo_length (hc : ∀ h b, (c h b).length = h.length) (m : List UInt8) : ∀ k, (hTo B c h0 m k).length = h0.length := by
  intro k
  induction k with
  | zero => rfl
  | succ k ih => exact (hc _ _).trans ih

theorem hAll_length (hc : ∀ h b, (c h b).length = h.length) (m : List UInt8) : (hAll B c h0 m).length = h0.length := hTo_length hc m _

end
end Go.Proofs.Ythieegmmbjjcbaa
