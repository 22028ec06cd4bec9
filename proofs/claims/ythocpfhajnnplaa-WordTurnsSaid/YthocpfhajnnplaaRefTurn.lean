/- The reference's Turn. -/
import Derived.Test.YthocpfhajnnplaaRows
import Derived.Test.YthocpfhajnnplaaLib
import Derived.Test.YthocpfhajnnplaaRot
import Derived.Test.YthocpfhajnnplaaTurn
namespace Go.Proofs.Ythocpfhajnnplaa
open Go.RowKit
set_option linter.unusedVariables false

theorem bit_of (x k : Nat) : ((x : Int) / 2 ^ k).tmod 2 = ((x / 2 ^ k % 2 : Nat) : Int) := by
  have e : (x : Int) / 2 ^ k = ((x / 2 ^ k : Nat) : Int) := by rw [Int.natCast_ediv, Int.natCast_pow]; rfl
  rw [e, Int.tmod_eq_emod_of_nonneg (Int.natCast_nonneg _)]
  rfl
theorem ref_step_yes (W x m k : Nat) (hm : m < W) (hk : k < W) (hW : W ≤ 64) (h : (((x : Int) / 2 ^ k).tmod 2 == 1) = true) :
    IntKind.u64.wrap ((rotTo W x m k : Int) + IntKind.u64.wrap (2 ^ ((k + m) % W))) = (rotTo W x m (k + 1) : Int) := by
  have hb : x / 2 ^ k % 2 = 1 := by rw [bit_of] at h; simp only [beq_iff_eq] at h; omega
  have hs := rotTo_succ W x m k hm hk
  rw [hb, Nat.one_mul] at hs
  have hl := rotTo_lt W x m (k + 1) hm (by omega)
  have h64 : 2 ^ W ≤ 2 ^ 64 := Nat.pow_le_pow_right (by omega) hW
  have e : (2 : Int) ^ ((k + m) % W) = ((2 ^ ((k + m) % W) : Nat) : Int) := by rw [Int.natCast_pow]; rfl
  rw [e]
  generalize 2 ^ ((k + m) % W) = a at *
  generalize 2 ^ W = b at *
  have ha : (a : Int) ≤ 18446744073709551615 := by omega
  have hb2 : ((rotTo W x m k : Nat) : Int) + a ≤ 18446744073709551615 := by omega
  rw [IntWalk.u64_in (a : Int) (by omega), IntWalk.u64_in _ (by omega)]
  omega
theorem ref_step_no (W x m k : Nat) (hm : m < W) (hk : k < W) (h : (((x : Int) / 2 ^ k).tmod 2 == 1) = false) : rotTo W x m (k + 1) = rotTo W x m k := by
  have hb : x / 2 ^ k % 2 = 0 := by rw [bit_of] at h; simp only [beq_eq_false_iff_ne, ne_eq] at h; omega
  rw [rotTo_succ W x m k hm hk, hb]; omega

set_option maxHeartbeats 1000000 in
theorem refTurn_32 (x : Nat) (n : Int) (w : World) (hx : x < 2 ^ 32) :
    Calls Try.prog 18 #[.int .u64 (x : Int), .int .i64 n, .int .i64 4] w fun e w' => e = .returned (.int .u64 (rotN 32 x (n % 32).toNat : Nat)) ∧ w = w' := by
  obtain ⟨m, hm⟩ : ∃ m : Nat, m = (n % 32).toNat := ⟨_, rfl⟩
  rw [← hm]
  have hmW : m < 32 := by omega
  by_cases hneg : n.tmod 32 < 0
  · have he : wrap64 (n.tmod 32 + 32) = (m : Int) := by rw [hm]; exact tmod_lo 32 (by omega) n hneg
    clear hm
    go_enter Try.func18, Try.ntmps18
    go_wp2
    rw [he]
    clear he hneg
    go_loop [8, 9] (fun y i => ∃ k : Nat, k ≤ 32 ∧ i = .int .i64 k ∧ y = .int .u64 (rotTo 32 x m k : Nat)) (fun _ i => 32 - (intOf i).toNat)
    case atStart => exact ⟨0, Nat.zero_le _, rfl, by rw [rotTo_zero]; rfl⟩
    case round =>
      obtain ⟨k, hk, rfl, rfl⟩ := hrel
      by_cases hlt : k < 32
      · go_wp2
        · have hy : (((x : Int) / 2 ^ k).tmod 2 == 1) = true := by assumption
          go_round
          case rel => exact ⟨k + 1, by omega, by go_num, by rw [← ref_step_yes 32 x m k hmW hlt (by omega) hy]⟩
          case measure => simp [intOf]; omega
        · have hy : (((x : Int) / 2 ^ k).tmod 2 == 1) = false := by assumption
          go_round
          case rel => exact ⟨k + 1, by omega, by go_num, by rw [ref_step_no 32 x m k hmW hlt hy]⟩
          case measure => simp [intOf]; omega
      · have hkW : k = 32 := by omega
        subst hkW
        go_wp2
        go_ret
        exact ⟨ret_int (by rw [rotTo_end 32 x m hmW hx]), rfl⟩
  · have he : n.tmod 32 = (m : Int) := by rw [hm]; exact tmod_hi 32 (by omega) n hneg
    clear hm
    go_enter Try.func18, Try.ntmps18
    go_wp2
    clear he hneg
    go_loop [8, 9] (fun y i => ∃ k : Nat, k ≤ 32 ∧ i = .int .i64 k ∧ y = .int .u64 (rotTo 32 x m k : Nat)) (fun _ i => 32 - (intOf i).toNat)
    case atStart => exact ⟨0, Nat.zero_le _, rfl, by rw [rotTo_zero]; rfl⟩
    case round =>
      obtain ⟨k, hk, rfl, rfl⟩ := hrel
      by_cases hlt : k < 32
      · go_wp2
        · have hy : (((x : Int) / 2 ^ k).tmod 2 == 1) = true := by assumption
          go_round
          case rel => exact ⟨k + 1, by omega, by go_num, by rw [← ref_step_yes 32 x m k hmW hlt (by omega) hy]⟩
          case measure => simp [intOf]; omega
        · have hy : (((x : Int) / 2 ^ k).tmod 2 == 1) = false := by assumption
          go_round
          case rel => exact ⟨k + 1, by omega, by go_num, by rw [ref_step_no 32 x m k hmW hlt hy]⟩
          case measure => simp [intOf]; omega
      · have hkW : k = 32 := by omega
        subst hkW
        go_wp2
        go_ret
        exact ⟨ret_int (by rw [rotTo_end 32 x m hmW hx]), rfl⟩

set_option maxHeartbeats 1000000 in
theorem refTurn_64 (x : Nat) (n : Int) (w : World) (hx : x < 2 ^ 64) :
    Calls Try.prog 18 #[.int .u64 (x : Int), .int .i64 n, .int .i64 8] w fun e w' => e = .returned (.int .u64 (rotN 64 x (n % 64).toNat : Nat)) ∧ w = w' := by
  obtain ⟨m, hm⟩ : ∃ m : Nat, m = (n % 64).toNat := ⟨_, rfl⟩
  rw [← hm]
  have hmW : m < 64 := by omega
  by_cases hneg : n.tmod 64 < 0
  · have he : wrap64 (n.tmod 64 + 64) = (m : Int) := by rw [hm]; exact tmod_lo 64 (by omega) n hneg
    clear hm
    go_enter Try.func18, Try.ntmps18
    go_wp2
    rw [he]
    clear he hneg
    go_loop [8, 9] (fun y i => ∃ k : Nat, k ≤ 64 ∧ i = .int .i64 k ∧ y = .int .u64 (rotTo 64 x m k : Nat)) (fun _ i => 64 - (intOf i).toNat)
    case atStart => exact ⟨0, Nat.zero_le _, rfl, by rw [rotTo_zero]; rfl⟩
    case round =>
      obtain ⟨k, hk, rfl, rfl⟩ := hrel
      by_cases hlt : k < 64
      · go_wp2
        · have hy : (((x : Int) / 2 ^ k).tmod 2 == 1) = true := by assumption
          go_round
          case rel => exact ⟨k + 1, by omega, by go_num, by rw [← ref_step_yes 64 x m k hmW hlt (by omega) hy]⟩
          case measure => simp [intOf]; omega
        · have hy : (((x : Int) / 2 ^ k).tmod 2 == 1) = false := by assumption
          go_round
          case rel => exact ⟨k + 1, by omega, by go_num, by rw [ref_step_no 64 x m k hmW hlt hy]⟩
          case measure => simp [intOf]; omega
      · have hkW : k = 64 := by omega
        subst hkW
        go_wp2
        go_ret
        exact ⟨ret_int (by rw [rotTo_end 64 x m hmW hx]), rfl⟩
  · have he : n.tmod 64 = (m : Int) := by rw [hm]; exact tmod_hi 64 (by omega) n hneg
    clear hm
    go_enter Try.func18, Try.ntmps18
    go_wp2
    clear he hneg
    go_loop [8, 9] (fun y i => ∃ k : Nat, k ≤ 64 ∧ i = .int .i64 k ∧ y = .int .u64 (rotTo 64 x m k : Nat)) (fun _ i => 64 - (intOf i).toNat)
    case atStart => exact ⟨0, Nat.zero_le _, rfl, by rw [rotTo_zero]; rfl⟩
    case round =>
      obtain ⟨k, hk, rfl, rfl⟩ := hrel
      by_cases hlt : k < 64
      · go_wp2
        · have hy : (((x : Int) / 2 ^ k).tmod 2 == 1) = true := by assumption
          go_round
          case rel => exact ⟨k + 1, by omega, by go_num, by rw [← ref_step_yes 64 x m k hmW hlt (by omega) hy]⟩
          case measure => simp [intOf]; omega
        · have hy : (((x : Int) / 2 ^ k).tmod 2 == 1) = false := by assumption
          go_round
          case rel => exact ⟨k + 1, by omega, by go_num, by rw [ref_step_no 64 x m k hmW hlt hy]⟩
          case measure => simp [intOf]; omega
      · have hkW : k = 64 := by omega
        subst hkW
        go_wp2
        go_ret
        exact ⟨ret_int (by rw [rotTo_end 64 x m hmW hx]), rfl⟩
end Go.Proofs.Ythocpfhajnnplaa
