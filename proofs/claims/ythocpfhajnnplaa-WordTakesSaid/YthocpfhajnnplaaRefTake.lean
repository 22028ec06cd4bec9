/- The reference's Take and TakeLE. -/
import Derived.Test.YthocpfhajnnplaaRows
import Derived.Test.YthocpfhajnnplaaLib
import Derived.Test.YthocpfhajnnplaaRot
import Derived.Test.YthocpfhajnnplaaTurn
import Derived.Test.YthocpfhajnnplaaLay
import Derived.Test.YthocpfhajnnplaaTakeA
namespace Go.Proofs.Ythocpfhajnnplaa
open Go.RowKit
set_option linter.unusedVariables false

set_option maxHeartbeats 400000 in
theorem refTake_32 (A : Option Addr) (n c : Nat) (l : List UInt8) (a : Int) (w : World) (h : Rd w 1 A n (l.map vb)) (hn : n ≤ 140737488355328) (ha1 : -9223372036854775808 ≤ a) (ha2 : a ≤ 9223372036854775807) :
    Calls Try.prog 43 #[.slice A n c, .int .i64 a, .int .i64 4] w fun e w' => e = .returned (.int .u64 (beTo l a 4 : Nat)) ∧ w = w' := by
  have hl : l.length = n := by simpa using h.1
  have HL := Lib.hid hl
  clear hl
  go_enter Try.func43, Try.ntmps43
  go_wp2
  go_loop [7, 8] (fun y i => ∃ k : Nat, k ≤ 4 ∧ i = .int .i64 k ∧ y = .int .u64 (beTo l a k : Nat)) (fun _ i => 4 - (intOf i).toNat)
  case atStart => exact ⟨0, Nat.zero_le _, rfl, rfl⟩
  case round =>
    obtain ⟨k, hk, rfl, rfl⟩ := hrel
    by_cases hlt : k < 4
    · have hb := beTo_lt l a k
      have hp : 256 ^ k ≤ 72057594037927936 := Nat.le_trans (Nat.pow_le_pow_right (by omega) (show k ≤ 7 by omega)) (by decide)
      have hb' : ((beTo l a k : Nat) : Int) ≤ 72057594037927935 := by omega
      have hy := byteAt_lt l (a + k)
      have hy' : ((byteAt l (a + k) : Nat) : Int) ≤ 255 := by omega
      have hs : beTo l a (k + 1) = 256 * beTo l a k + byteAt l (a + k) := rfl
      have HS := Lib.hid hs
      clear hs hp hb hy
      by_cases hbig : a ≤ 4611686018427387904
      · go_wp2_with (go_at_call 50; refine (byte_any A n c l (a + k) _ h (by omega)).mono ?_; rintro e w1 ⟨rfl, rfl⟩)
        go_round
        case rel => exact ⟨k + 1, by omega, by go_num, by rw [HS.out]; go_num⟩
        case measure => simp [intOf]; omega
      · have hz : byteAt l (a + k) = 0 := byteAt_out l _ (.inr (by have := HL.out; omega))
        have HZ := Lib.hid hz
        clear hz
        go_wp2
        go_round
        case rel => exact ⟨k + 1, by omega, by go_num, by rw [HS.out, HZ.out]; go_num⟩
        case measure => simp [intOf]; omega
    · have hkN : k = 4 := by omega
      subst hkN
      go_wp2
      go_ret
      exact ⟨rfl, rfl⟩

set_option maxHeartbeats 400000 in
theorem refTakeLE_32 (A : Option Addr) (n c : Nat) (l : List UInt8) (a : Int) (w : World) (h : Rd w 1 A n (l.map vb)) (hn : n ≤ 140737488355328) (ha1 : -9223372036854775808 ≤ a) (ha2 : a ≤ 9223372036854775807) :
    Calls Try.prog 44 #[.slice A n c, .int .i64 a, .int .i64 4] w fun e w' => e = .returned (.int .u64 (leTo l a 4 : Nat)) ∧ w = w' := by
  have hl : l.length = n := by simpa using h.1
  have HL := Lib.hid hl
  clear hl
  go_enter Try.func44, Try.ntmps44
  go_wp2
  go_loop [7, 8] (fun y i => ∃ (k : Nat) (j : Int), k ≤ 4 ∧ j ≤ (4 : Int) - 1 - k ∧ (4 : Int) - 1 - k ≤ j ∧ i = .int .i64 j ∧ y = .int .u64 (leDown l a 4 k : Nat)) (fun _ i => ((intOf i) + 1).toNat)
  case atStart => exact ⟨0, 4 - 1, Nat.zero_le _, by omega, by omega, rfl, rfl⟩
  case round =>
    obtain ⟨k, j, hk, hj1, hj2, rfl, rfl⟩ := hrel
    by_cases hlt : k < 4
    · have hb := leDown_lt l a 4 k
      have hp : 256 ^ k ≤ 72057594037927936 := Nat.le_trans (Nat.pow_le_pow_right (by omega) (show k ≤ 7 by omega)) (by decide)
      have hb' : ((leDown l a 4 k : Nat) : Int) ≤ 72057594037927935 := by omega
      have hy := byteAt_lt l (a + (4 - 1 - k : Nat))
      have hs : leDown l a 4 (k + 1) = 256 * leDown l a 4 k + byteAt l (a + (4 - 1 - k : Nat)) := rfl
      rw [show ((4 - 1 - k : Nat) : Int) = j by omega] at hs hy
      have hy' : ((byteAt l (a + j) : Nat) : Int) ≤ 255 := by omega
      have HS := Lib.hid hs
      clear hs hp hb hy
      by_cases hbig : a ≤ 4611686018427387904
      · go_wp2_with (go_at_call 50; refine (byte_any A n c l (a + j) _ h (by omega)).mono ?_; rintro e w1 ⟨rfl, rfl⟩)
        go_round
        case rel => exact ⟨k + 1, j - 1, by omega, by omega, by omega, by go_num, by rw [HS.out]; go_num⟩
        case measure => simp [intOf]; omega
      · have hz : byteAt l (a + j) = 0 := byteAt_out l _ (.inr (by have := HL.out; omega))
        have HZ := Lib.hid hz
        clear hz
        go_wp2
        go_round
        case rel => exact ⟨k + 1, j - 1, by omega, by omega, by omega, by go_num, by rw [HS.out, HZ.out]; go_num⟩
        case measure => simp [intOf]; omega
    · have hkN : k = 4 := by omega
      subst hkN
      go_wp2
      go_ret
      exact ⟨ret_int (by rw [leDown_all]), rfl⟩

set_option maxHeartbeats 400000 in
theorem refTake_64 (A : Option Addr) (n c : Nat) (l : List UInt8) (a : Int) (w : World) (h : Rd w 1 A n (l.map vb)) (hn : n ≤ 140737488355328) (ha1 : -9223372036854775808 ≤ a) (ha2 : a ≤ 9223372036854775807) :
    Calls Try.prog 43 #[.slice A n c, .int .i64 a, .int .i64 8] w fun e w' => e = .returned (.int .u64 (beTo l a 8 : Nat)) ∧ w = w' := by
  have hl : l.length = n := by simpa using h.1
  have HL := Lib.hid hl
  clear hl
  go_enter Try.func43, Try.ntmps43
  go_wp2
  go_loop [7, 8] (fun y i => ∃ k : Nat, k ≤ 8 ∧ i = .int .i64 k ∧ y = .int .u64 (beTo l a k : Nat)) (fun _ i => 8 - (intOf i).toNat)
  case atStart => exact ⟨0, Nat.zero_le _, rfl, rfl⟩
  case round =>
    obtain ⟨k, hk, rfl, rfl⟩ := hrel
    by_cases hlt : k < 8
    · have hb := beTo_lt l a k
      have hp : 256 ^ k ≤ 72057594037927936 := Nat.le_trans (Nat.pow_le_pow_right (by omega) (show k ≤ 7 by omega)) (by decide)
      have hb' : ((beTo l a k : Nat) : Int) ≤ 72057594037927935 := by omega
      have hy := byteAt_lt l (a + k)
      have hy' : ((byteAt l (a + k) : Nat) : Int) ≤ 255 := by omega
      have hs : beTo l a (k + 1) = 256 * beTo l a k + byteAt l (a + k) := rfl
      have HS := Lib.hid hs
      clear hs hp hb hy
      by_cases hbig : a ≤ 4611686018427387904
      · go_wp2_with (go_at_call 50; refine (byte_any A n c l (a + k) _ h (by omega)).mono ?_; rintro e w1 ⟨rfl, rfl⟩)
        go_round
        case rel => exact ⟨k + 1, by omega, by go_num, by rw [HS.out]; go_num⟩
        case measure => simp [intOf]; omega
      · have hz : byteAt l (a + k) = 0 := byteAt_out l _ (.inr (by have := HL.out; omega))
        have HZ := Lib.hid hz
        clear hz
        go_wp2
        go_round
        case rel => exact ⟨k + 1, by omega, by go_num, by rw [HS.out, HZ.out]; go_num⟩
        case measure => simp [intOf]; omega
    · have hkN : k = 8 := by omega
      subst hkN
      go_wp2
      go_ret
      exact ⟨rfl, rfl⟩

set_option maxHeartbeats 400000 in
theorem refTakeLE_64 (A : Option Addr) (n c : Nat) (l : List UInt8) (a : Int) (w : World) (h : Rd w 1 A n (l.map vb)) (hn : n ≤ 140737488355328) (ha1 : -9223372036854775808 ≤ a) (ha2 : a ≤ 9223372036854775807) :
    Calls Try.prog 44 #[.slice A n c, .int .i64 a, .int .i64 8] w fun e w' => e = .returned (.int .u64 (leTo l a 8 : Nat)) ∧ w = w' := by
  have hl : l.length = n := by simpa using h.1
  have HL := Lib.hid hl
  clear hl
  go_enter Try.func44, Try.ntmps44
  go_wp2
  go_loop [7, 8] (fun y i => ∃ (k : Nat) (j : Int), k ≤ 8 ∧ j ≤ (8 : Int) - 1 - k ∧ (8 : Int) - 1 - k ≤ j ∧ i = .int .i64 j ∧ y = .int .u64 (leDown l a 8 k : Nat)) (fun _ i => ((intOf i) + 1).toNat)
  case atStart => exact ⟨0, 8 - 1, Nat.zero_le _, by omega, by omega, rfl, rfl⟩
  case round =>
    obtain ⟨k, j, hk, hj1, hj2, rfl, rfl⟩ := hrel
    by_cases hlt : k < 8
    · have hb := leDown_lt l a 8 k
      have hp : 256 ^ k ≤ 72057594037927936 := Nat.le_trans (Nat.pow_le_pow_right (by omega) (show k ≤ 7 by omega)) (by decide)
      have hb' : ((leDown l a 8 k : Nat) : Int) ≤ 72057594037927935 := by omega
      have hy := byteAt_lt l (a + (8 - 1 - k : Nat))
      have hs : leDown l a 8 (k + 1) = 256 * leDown l a 8 k + byteAt l (a + (8 - 1 - k : Nat)) := rfl
      rw [show ((8 - 1 - k : Nat) : Int) = j by omega] at hs hy
      have hy' : ((byteAt l (a + j) : Nat) : Int) ≤ 255 := by omega
      have HS := Lib.hid hs
      clear hs hp hb hy
      by_cases hbig : a ≤ 4611686018427387904
      · go_wp2_with (go_at_call 50; refine (byte_any A n c l (a + j) _ h (by omega)).mono ?_; rintro e w1 ⟨rfl, rfl⟩)
        go_round
        case rel => exact ⟨k + 1, j - 1, by omega, by omega, by omega, by go_num, by rw [HS.out]; go_num⟩
        case measure => simp [intOf]; omega
      · have hz : byteAt l (a + j) = 0 := byteAt_out l _ (.inr (by have := HL.out; omega))
        have HZ := Lib.hid hz
        clear hz
        go_wp2
        go_round
        case rel => exact ⟨k + 1, j - 1, by omega, by omega, by omega, by go_num, by rw [HS.out, HZ.out]; go_num⟩
        case measure => simp [intOf]; omega
    · have hkN : k = 8 := by omega
      subst hkN
      go_wp2
      go_ret
      exact ⟨ret_int (by rw [leDown_all]), rfl⟩
end Go.Proofs.Ythocpfhajnnplaa
