/- word.Take in its four instances. -/
import Derived.Test.YthieegmmbjjcbaaRows
import Derived.Test.YthieegmmbjjcbaaLib
import Derived.Test.YthieegmmbjjcbaaRot
import Derived.Test.YthieegmmbjjcbaaTurn
import Derived.Test.YthieegmmbjjcbaaLay
import Derived.Test.YthieegmmbjjcbaaTakeA
namespace Go.Proofs.Ythieegmmbjjcbaa
open Go.RowKit
set_option linter.unusedVariables false

theorem or_byteT_32 {b x : Nat} (hb : b ≤ 16777215) (hx : x ≤ 255) : bits .or .u32 ((b : Int) * 256) (x : Int) = ((256 * b + x : Nat) : Int) := by
  have e : (b : Int) * 256 = ((256 * b : Nat) : Int) := by omega
  rw [e, u32_or_nat _ _ (by omega) (by omega), Nat.two_pow_add_eq_or_of_lt (i := 8) (by omega)]
theorem or_byteT_64 {b x : Nat} (hb : b ≤ 72057594037927935) (hx : x ≤ 255) : bits .or .u64 ((b : Int) * 256) (x : Int) = ((256 * b + x : Nat) : Int) := by
  have e : (b : Int) * 256 = ((256 * b : Nat) : Int) := by omega
  rw [e, u64_or_nat _ _ (by omega) (by omega), Nat.two_pow_add_eq_or_of_lt (i := 8) (by omega)]

set_option maxRecDepth 20000 in
set_option maxHeartbeats 400000 in
theorem take_u64 (A : Option Addr) (n c : Nat) (l : List UInt8) (a : Int) (w : World) (h : Rd w 1 A n (l.map vb)) (hn : n ≤ 140737488355328) :
    Calls Try.prog 45 #[.slice A n c, .int .i64 a] w fun e w' => e = .returned (.int .u64 (beTo l a 8 : Nat)) ∧ w = w' := by
  have hl : l.length = n := by simpa using h.1
  have HL := Lib.hid hl
  clear hl
  by_cases hin : -(8 : Int) < a ∧ a < n
  · obtain ⟨hin1, hin2⟩ := hin
    go_enter Try.func45, Try.ntmps45
    go_wp2_with (first | (go_at_call 48; refine (width_u64 _).mono ?_; rintro e w1 ⟨rfl, rfl⟩) | (go_at_call 52; refine (within_yes A n c 8 a _ (by omega) (by omega) hin2).mono ?_; rintro e w1 ⟨rfl, rfl⟩))
    go_loop [5, 17] (fun y i => ∃ k : Nat, k ≤ 8 ∧ i = .int .i64 k ∧ y = .int .u64 (beTo l a k : Nat)) (fun _ i => 8 - (intOf i).toNat)
    case atStart => exact ⟨0, Nat.zero_le _, rfl, rfl⟩
    case round =>
      obtain ⟨k, hk, rfl, rfl⟩ := hrel
      by_cases hlt : k < 8
      · have hb := beTo_lt l a k
        have hp : 256 ^ k ≤ 72057594037927936 := Nat.le_trans (Nat.pow_le_pow_right (by omega) (show k ≤ 7 by omega)) (by decide)
        have hs : beTo l a (k + 1) = 256 * beTo l a k + byteAt l (a + k) := rfl
        have hb' : ((beTo l a k : Nat) : Int) ≤ 72057594037927935 := by omega
        have HS := Lib.hid hs
        clear hs hp hb
        by_cases h0 : a + k < 0
        · have hz : byteAt l (a + k) = 0 := byteAt_out l _ (.inl h0)
          have HZ := Lib.hid hz
          clear hz
          go_wp2
          go_round
          case rel => exact ⟨k + 1, by omega, by go_num, by rw [HS.out, HZ.out]; go_num⟩
          case measure => simp [intOf]; omega
        · by_cases h1 : a + k < n
          · obtain ⟨j, hj⟩ := Int.eq_ofNat_of_zero_le (by omega : 0 ≤ a + k)
            obtain ⟨p, x, rfl, hx, hc⟩ := h.byteAt (show j < n by omega)
            have hz : byteAt l (a + k) = x.toNat := byteAt_in hj hx
            have HZ := Lib.hid hz
            clear hz hx
            have hxb : (x.toNat : Int) ≤ 255 := by have := x.toNat_lt; omega
            have hjn : (j : Int) < n := by omega
            clear h0 h1
            go_wp2
            go_round
            case rel => exact ⟨k + 1, by omega, by go_num, by rw [HS.out, HZ.out, or_byteT_64 (by omega) (by omega)]⟩
            case measure => simp [intOf]; omega
          · have hz : byteAt l (a + k) = 0 := byteAt_out l _ (.inr (by have := HL.out; omega))
            have HZ := Lib.hid hz
            clear hz
            go_wp2
            go_round
            case rel => exact ⟨k + 1, by omega, by go_num, by rw [HS.out, HZ.out]; go_num⟩
            case measure => simp [intOf]; omega
      · have hkN : k = 8 := by omega
        subst hkN
        go_wp2
        go_ret
        exact ⟨rfl, rfl⟩
  · have hout : a + 8 ≤ 0 ∨ (l.length : Int) ≤ a := by have := HL.out; omega
    have hz := beTo_out l a 8 hout 8 (Nat.le_refl _)
    have HZ := Lib.hid hz
    have hno : a ≤ -((8 : Nat) : Int) ∨ (n : Int) ≤ a := by omega
    clear hz hout hin
    go_enter Try.func45, Try.ntmps45
    go_wp2_with (first | (go_at_call 48; refine (width_u64 _).mono ?_; rintro e w1 ⟨rfl, rfl⟩) | (go_at_call 52; refine (within_no A n c 8 a _ (by omega) hno).mono ?_; rintro e w1 ⟨rfl, rfl⟩))
    go_ret
    exact ⟨ret_int (by rw [HZ.out]; rfl), rfl⟩

end Go.Proofs.Ythieegmmbjjcbaa
