/- word.TakeLE in its four instances. -/
import Derived.Test.YtgjlclihgpahbaaRows
import Derived.Test.YtgjlclihgpahbaaLib
import Derived.Test.YtgjlclihgpahbaaRot
import Derived.Test.YtgjlclihgpahbaaTurn
import Derived.Test.YtgjlclihgpahbaaLay
import Derived.Test.YtgjlclihgpahbaaTakeA
namespace Go.Proofs.Ytgjlclihgpahbaa
open Go.RowKit
set_option linter.unusedVariables false

theorem or_le_nat {y x k : Nat} (hy : y < 256 ^ k) : y ||| (x * 256 ^ k) = y + x * 256 ^ k := by
  have e : 256 ^ k = 2 ^ (8 * k) := by rw [Nat.pow_mul]
  rw [e] at hy ⊢
  rw [Nat.or_comm, Nat.mul_comm x, ← Nat.two_pow_add_eq_or_of_lt hy]
  omega
theorem or_le_32 {y x k : Nat} (hk : k < 4) (hy : y < 256 ^ k) (hx : x ≤ 255) : bits .or .u32 (y : Int) ((x : Int) * 2 ^ (8 * k) % 4294967296) = ((y + x * 256 ^ k : Nat) : Int) := by
  have e : 256 ^ k = 2 ^ (8 * k) := by rw [Nat.pow_mul]
  have hp : 256 ^ (k + 1) ≤ 256 ^ 4 := Nat.pow_le_pow_right (by omega) (by omega)
  rw [Nat.pow_succ] at hp
  have hm : x * 256 ^ k ≤ 255 * 256 ^ k := Nat.mul_le_mul_right _ hx
  have hB : (256 : Nat) ^ 4 = 4294967296 := by decide
  rw [hB] at hp
  have e2 : (x : Int) * 2 ^ (8 * k) = ((x * 256 ^ k : Nat) : Int) := by rw [e, Int.natCast_mul, Int.natCast_pow]; rfl
  rw [e2, Int.emod_eq_of_lt (by omega) (by omega), u32_or_nat _ _ (by omega) (by omega), or_le_nat hy]
theorem or_le_64 {y x k : Nat} (hk : k < 8) (hy : y < 256 ^ k) (hx : x ≤ 255) : bits .or .u64 (y : Int) (IntKind.u64.wrap ((x : Int) * 2 ^ (8 * k))) = ((y + x * 256 ^ k : Nat) : Int) := by
  have e : 256 ^ k = 2 ^ (8 * k) := by rw [Nat.pow_mul]
  have hp : 256 ^ (k + 1) ≤ 256 ^ 8 := Nat.pow_le_pow_right (by omega) (by omega)
  rw [Nat.pow_succ] at hp
  have hm : x * 256 ^ k ≤ 255 * 256 ^ k := Nat.mul_le_mul_right _ hx
  have hB : (256 : Nat) ^ 8 = 18446744073709551616 := by decide
  rw [hB] at hp
  have e2 : (x : Int) * 2 ^ (8 * k) = ((x * 256 ^ k : Nat) : Int) := by rw [e, Int.natCast_mul, Int.natCast_pow]; rfl
  rw [e2, IntWalk.u64_in _ (by omega), u64_or_nat _ _ (by omega) (by omega), or_le_nat hy]

set_option maxRecDepth 20000 in
set_option maxHeartbeats 400000 in
theorem takeLE_u64 (A : Option Addr) (n c : Nat) (l : List UInt8) (a : Int) (w : World) (h : Rd w 1 A n (l.map vb)) (hn : n ≤ 140737488355328) :
    Calls Try.prog 62 #[.slice A n c, .int .i64 a] w fun e w' => e = .returned (.int .u64 (leTo l a 8 : Nat)) ∧ w = w' := by
  have hl : l.length = n := by simpa using h.1
  have HL := Lib.hid hl
  clear hl
  by_cases hin : -(8 : Int) < a ∧ a < n
  · obtain ⟨hin1, hin2⟩ := hin
    go_enter Try.func62, Try.ntmps62
    go_wp2_with (first | (go_at_call 67; refine (width_u64 _).mono ?_; rintro e w1 ⟨rfl, rfl⟩) | (go_at_call 69; refine (within_yes A n c 8 a _ (by omega) (by omega) hin2).mono ?_; rintro e w1 ⟨rfl, rfl⟩))
    go_loop [5, 17] (fun y i => ∃ k : Nat, k ≤ 8 ∧ i = .int .i64 k ∧ y = .int .u64 (leTo l a k : Nat)) (fun _ i => 8 - (intOf i).toNat)
    case atStart => exact ⟨0, Nat.zero_le _, rfl, rfl⟩
    case round =>
      obtain ⟨k, hk, rfl, rfl⟩ := hrel
      by_cases hlt : k < 8
      · have hb := leTo_lt l a k
        have hp : 256 ^ k ≤ 72057594037927936 := Nat.le_trans (Nat.pow_le_pow_right (by omega) (show k ≤ 7 by omega)) (by decide)
        have hs : leTo l a (k + 1) = leTo l a k + byteAt l (a + k) * 256 ^ k := rfl
        have hb' : ((leTo l a k : Nat) : Int) ≤ 72057594037927935 := by omega
        have HS := Lib.hid hs
        have HB := Lib.hid hb
        clear hs hp hb
        by_cases h0 : a + k < 0
        · have hz : byteAt l (a + k) = 0 := byteAt_out l _ (.inl h0)
          have HZ := Lib.hid hz
          clear hz
          go_wp2
          go_round
          case rel => exact ⟨k + 1, by omega, by go_num, by rw [HS.out, HZ.out, Nat.zero_mul]; go_num⟩
          case measure => simp [intOf]; omega
        · by_cases h1 : a + k < n
          · obtain ⟨j, hj⟩ := Int.eq_ofNat_of_zero_le (by omega : 0 ≤ a + k)
            obtain ⟨p, x, rfl, hx, hc⟩ := h.byteAt (show j < n by omega)
            have hz : byteAt l (a + k) = x.toNat := byteAt_in hj hx
            have HZ := Lib.hid hz
            clear hz hx
            have hxb : (x.toNat : Int) ≤ 255 := by have := x.toNat_lt; omega
            have hjn : (j : Int) < n := by omega
            clear h0 h1
            go_wp2
            go_round
            case rel => exact ⟨k + 1, by omega, by go_num, by rw [HS.out, HZ.out, or_le_64 hlt HB.out (by omega)]⟩
            case measure => simp [intOf]; omega
          · have hz : byteAt l (a + k) = 0 := byteAt_out l _ (.inr (by have := HL.out; omega))
            have HZ := Lib.hid hz
            clear hz
            go_wp2
            go_round
            case rel => exact ⟨k + 1, by omega, by go_num, by rw [HS.out, HZ.out, Nat.zero_mul]; go_num⟩
            case measure => simp [intOf]; omega
      · have hkN : k = 8 := by omega
        subst hkN
        go_wp2
        go_ret
        exact ⟨rfl, rfl⟩
  · have hout : a + 8 ≤ 0 ∨ (l.length : Int) ≤ a := by have := HL.out; omega
    have hz := leTo_out l a 8 hout 8 (Nat.le_refl _)
    have HZ := Lib.hid hz
    have hno : a ≤ -((8 : Nat) : Int) ∨ (n : Int) ≤ a := by omega
    clear hz hout hin
    go_enter Try.func62, Try.ntmps62
    go_wp2_with (first | (go_at_call 67; refine (width_u64 _).mono ?_; rintro e w1 ⟨rfl, rfl⟩) | (go_at_call 69; refine (within_no A n c 8 a _ (by omega) hno).mono ?_; rintro e w1 ⟨rfl, rfl⟩))
    go_ret
    exact ⟨ret_int (by rw [HZ.out]; rfl), rfl⟩

end Go.Proofs.Ytgjlclihgpahbaa
