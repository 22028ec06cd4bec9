/- The document's constants and its Permute, walked. -/
import Derived.Test.YtoodgdcpkkfdgaaKecR
import Derived.Test.YtoodgdcpkkfdgaaKecP
namespace Go.Proofs.Ytoodgdcpkkfdgaa
open Go.RowKit
set_option linter.unusedVariables false

/-- only draws lie between -/
def Drawn (w w' : World) : Prop := ∃ q, w' = w.drewN q
theorem Drawn.more {w w' : World} (h : Drawn w w') (n : Nat) : Drawn w (w'.drewN n) := by
  obtain ⟨q, rfl⟩ := h; exact ⟨q + n, by simp⟩
def cStep (r : Nat) : Nat := if 256 ≤ 2 * r then (2 * r - 256) ^^^ 113 else 2 * r
def cReg (n : Nat) : Nat := iter (fun r _ => cStep r) 1 n
theorem cStep_lt (r : Nat) (h : r < 256) : cStep r < 256 := by
  have H : ∀ n : Fin 256, cStep n.val < 256 := by decide +kernel
  exact H ⟨r, h⟩
theorem cReg_lt (n : Nat) : cReg n < 256 := by
  induction n with
  | zero => decide
  | succ n ih => exact cStep_lt _ ih
def cBit (n : Nat) : UInt64 := UInt64.ofNat (cReg n % 2)
theorem cBit_toNat (n : Nat) : ((cBit n).toNat : Int) = ((cReg n % 2 : Nat) : Int) := by
  unfold cBit; rw [UInt64.toNat_ofNat', Nat.mod_eq_of_lt (by omega)]
theorem cReg_succ (n : Nat) : cReg (n + 1) = cStep (cReg n) := rfl
theorem cReg_zero : cReg 0 = 1 := rfl
def rConTo (i k : Nat) : UInt64 := iter (fun x j => x + (cBit (j + 7 * i) <<< UInt64.ofNat (2 ^ j - 1))) 0 k
theorem rCon_eq (i : Nat) (h : i < 24) : rConTo i 7 = at64 kConsts i := by
  have H : ∀ n : Fin 24, rConTo n.val 7 = at64 kConsts n.val := by decide +kernel
  exact H ⟨i, h⟩
theorem rConTo_succ (i k : Nat) : rConTo i (k + 1) = rConTo i k + (cBit (k + 7 * i) <<< UInt64.ofNat (2 ^ k - 1)) := rfl
theorem rConTo_zero (i : Nat) : rConTo i 0 = 0 := rfl
theorem add64 (x y : UInt64) : IntKind.u64.wrap ((x.toNat : Int) + (y.toNat : Int)) = ((x + y).toNat : Int) := by
  rw [IntKind.wrap_u64, UInt64.toNat_add]; rfl
theorem shl_c (n k : Nat) (hk : k < 7) : IntKind.u64.wrap (((cBit n).toNat : Int) * 2 ^ min (IntKind.u64.wrap (IntKind.u64.wrap (2 ^ k) - 1)).toNat 64) = ((cBit n <<< UInt64.ofNat (2 ^ k - 1)).toNat : Int) := by
  have H : ∀ b : Fin 2, ∀ k : Fin 7, IntKind.u64.wrap (((UInt64.ofNat b.val).toNat : Int) * 2 ^ min (IntKind.u64.wrap (IntKind.u64.wrap (2 ^ k.val) - 1)).toNat 64) = ((UInt64.ofNat b.val <<< UInt64.ofNat (2 ^ k.val - 1)).toNat : Int) := by decide +kernel
  exact H ⟨cReg n % 2, Nat.mod_lt _ (by omega)⟩ ⟨k, hk⟩
attribute [local irreducible] cReg rConTo cBit

set_option maxRecDepth 100000 in
set_option maxHeartbeats 400000 in
theorem c_any (n : Nat) (hn : n ≤ 1000) (w : World) :
    Calls Try.prog 37 #[.int .i64 (n : Int)] w fun e w' => e = .returned (.int .u64 ((cBit n).toNat : Int)) ∧ ∃ q, w' = w.drewN q := by
  have HB := Lib.hid (cBit_toNat n)
  go_enter Try.func37, Try.ntmps37
  go_wp2
  go_loopw [3, 4] (fun r i wr => ∃ k q : Nat, k ≤ n ∧ i = .int .i64 k ∧ r = .int .i64 (cReg k : Nat) ∧ wr = w.drewN q) (fun _ i _ => n - (intOf i).toNat)
  case atStart => exact ⟨0, 0, by omega, rfl, by rw [cReg_zero]; rfl, rfl⟩
  case round =>
    obtain ⟨k, q, hk, rfl, rfl, rfl⟩ := hrel
    by_cases hlt : k < n
    · have hr : cReg k ≤ 255 := by have := cReg_lt k; omega
      have HE := Lib.hid (cReg_succ k)
      generalize cReg k = r at *
      by_cases h2 : 256 ≤ 2 * r
      · have HX : Hid (bits .xor .i64 (2 * (r : Int) - 256) 113 = ((cReg (k + 1) : Nat) : Int)) := by
          rw [HE.out]; unfold cStep; rw [if_pos h2]
          have H : ∀ m : Fin 256, bits .xor .i64 ((m.val : Int)) 113 = ((m.val ^^^ 113 : Nat) : Int) := by decide +kernel
          have h := H ⟨2 * r - 256, by omega⟩
          simp only at h
          rw [← h, show ((2 * r - 256 : Nat) : Int) = 2 * (r : Int) - 256 by omega]; rfl
        go_wp2
        go_roundw
        case rel => exact ⟨k + 1, q, by omega, by go_num, by rw [HX.out], rfl⟩
        case measure => simp [intOf]; omega
      · have HX : Hid (cReg (k + 1) = 2 * r) := by rw [HE.out]; unfold cStep; rw [if_neg h2]; rfl
        go_wp2
        go_roundw
        case rel => exact ⟨k + 1, q, by omega, by go_num, by rw [HX.out]; go_num, rfl⟩
        case measure => simp [intOf]; omega
    · obtain rfl : k = n := by omega
      have hr : cReg k ≤ 255 := by have := cReg_lt k; omega
      go_wp2
      go_ret
      refine ⟨ret_int ?_, q, rfl⟩
      rw [HB.out]
      omega
theorem c_q (n : Nat) (m : Int) (hm : m = (n : Int)) (hn : n ≤ 1000) (w : World) (q : Nat) :
    Calls Try.prog 37 #[.int .i64 m] (w.drewN q) fun e w' => e = .returned (.int .u64 ((cBit n).toNat : Int)) ∧ ∃ q, w' = w.drewN q := by
  subst hm
  exact (c_any n hn _).mono fun _ _ ⟨h, m, h'⟩ => ⟨h, q + m, by rw [h', World.drewN_drewN]⟩

set_option maxHeartbeats 400000 in
theorem constant_any (i : Nat) (hi : i < 24) (w : World) :
    Calls Try.prog 29 #[.int .i64 (i : Int)] w fun e w' => e = .returned (.int .u64 ((at64 kConsts i).toNat : Int)) ∧ ∃ q, w' = w.drewN q := by
  have HB := Lib.hid (rCon_eq i hi)
  have hi' : i ≤ 23 := by omega
  clear hi
  go_enter Try.func29, Try.ntmps29
  go_wp2
  go_loopw [3, 4] (fun x j wr => ∃ k : Nat, k ≤ 7 ∧ j = .int .i64 k ∧ x = .int .u64 ((rConTo i k).toNat : Int) ∧ Drawn w wr) (fun _ j _ => 7 - (intOf j).toNat)
  case atStart => exact ⟨0, by omega, rfl, by rw [rConTo_zero]; rfl, ⟨0, rfl⟩⟩
  case round =>
    obtain ⟨k, hk, rfl, rfl, hw⟩ := hrel
    by_cases hlt : k < 7
    · have HE := Lib.hid (rConTo_succ i k)
      have hk6 : (k : Int) ≤ 6 := by omega
      have hc := fun w q => c_q (k + 7 * i) ((k : Int) + 7 * (i : Int)) (by omega) (by omega) w q
      go_wp2
      have s1 : IntKind.i64.wrap (7 * (i : Int)) = 7 * (i : Int) := IntWalk.i64_in _ (by omega)
      have s2 : IntKind.i64.wrap ((k : Int) + 7 * (i : Int)) = (k : Int) + 7 * (i : Int) := IntWalk.i64_in _ (by omega)
      go_quiet ((go_at_call 37; exact hc _ _))
      clear hc s1 s2
      go_wp2
      go_roundw
      case rel => exact ⟨k + 1, by omega, by go_num, by rw [shl_c _ _ hlt, add64, ← HE.out], hw.more nq⟩
      case measure => simp [intOf]; omega
    · obtain rfl : k = 7 := by omega
      go_wp2
      go_ret
      exact ⟨ret_int (by rw [HB.out]), hw⟩
end Go.Proofs.Ytoodgdcpkkfdgaa
