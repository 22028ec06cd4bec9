/- Lanes out of bytes out of lanes. -/
import Derived.Test.YtoodgdcpkkfdgaaKecA
import Derived.Test.YtoodgdcpkkfdgaaKecInj
namespace Go.Proofs.Ytoodgdcpkkfdgaa
open Go.RowKit
set_option linter.unusedVariables false

theorem leTo_slice (l m : List UInt8) (a : Nat) (n : Nat) (h : ∀ j, j < n → l[a + j]? = m[j]?) : leTo l (a : Int) n = leTo m 0 n := by
  induction n with
  | zero => rfl
  | succ n ih =>
    unfold leTo
    rw [ih fun j hj => h j (by omega), show (a : Int) + (n : Int) = ((a + n : Nat) : Int) by omega, Int.zero_add]
    congr 2
    have h1 := h n (by omega)
    cases hm : m[n]? with
    | none =>
      rw [hm] at h1
      have e1 := List.getElem?_eq_none_iff.1 h1
      have e2 := List.getElem?_eq_none_iff.1 hm
      unfold byteAt
      rw [if_neg (by omega), if_neg (by omega)]
    | some b => rw [hm] at h1; rw [byteAt_nat h1, byteAt_nat hm]
theorem flat_get (s : List UInt64) : ∀ (i j : Nat), i < s.length → j < 8 → (s.flatMap fun x => leL 8 x.toNat)[8 * i + j]? = (leL 8 (at64 s i).toNat)[j]? := by
  induction s with
  | nil => intro i j hi; simp at hi
  | cons x s ih =>
    intro i j hi hj
    rw [List.flatMap_cons]
    cases i with
    | zero =>
      rw [List.getElem?_append_left (by rw [leL_length]; omega), Nat.mul_zero, Nat.zero_add]
      rfl
    | succ i =>
      rw [List.getElem?_append_right (by rw [leL_length]; omega), leL_length, show 8 * (i + 1) + j - 8 = 8 * i + j by omega, ih i j (by simpa using hi) hj]
      rfl
theorem from_back (s : List UInt64) (hs : s.length = 25) : kFrom (kBytes s) = s := by
  unfold kFrom kBytes
  apply List.ext_getElem
  · simp [hs]
  · intro i h1 h2
    have hi : i < 25 := by simpa using h1
    rw [List.getElem_map, List.getElem_range]
    have e := leTo_slice (s.flatMap fun x => leL 8 x.toNat) (leL 8 (at64 s i).toNat) (8 * i) 8 (fun j hj => flat_get s i j h2 hj)
    rw [show ((8 : Int) * (i : Int)) = ((8 * i : Nat) : Int) by omega, e, leTo_back _ _ (at64 s i).toNat_lt]
    rw [UInt64.ofNat_toNat]
    simp [at64, h2]
theorem kBytes_inj {s t : List UInt64} (hs : s.length = 25) (ht : t.length = 25) (h : kBytes s = kBytes t) : s = t := by
  rw [← from_back s hs, ← from_back t ht, h]
theorem bytes_h (s : List UInt64) (hs : Hid (s.length = 25)) (w : World) :
    Calls Try.prog 9 #[.agg (s.map u64v).toArray] w fun e w' => e = .returned (.agg ((kBytes s).map vb).toArray) ∧ Below w.heap.size w w' := bytes_s s hs.out w
theorem from_b (s : List UInt64) (hs : Hid (s.length = 25)) (w : World) :
    Calls Try.prog 10 #[.agg ((kBytes s).map vb).toArray] w fun e w' => e = .returned (.agg (s.map u64v).toArray) ∧ Below w.heap.size w w' := by
  have h := from_s (kBytes s) (kBytes_length s hs.out) w
  rw [from_back s hs.out] at h
  exact h
end Go.Proofs.Ytoodgdcpkkfdgaa
