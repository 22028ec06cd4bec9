/- The law WordTurns, walked: every word, every number. -/
import Derived.Test.YthocpfhajnnplaaRows
import Derived.Test.YthocpfhajnnplaaLib
import Derived.Test.YthocpfhajnnplaaRot
import Derived.Test.YthocpfhajnnplaaTurn
import Derived.Test.YthocpfhajnnplaaRefTurn
namespace Go.Proofs.Ythocpfhajnnplaa
open Go.RowKit
set_option linter.unusedVariables false

set_option maxHeartbeats 1000000 in
theorem wordTurns_walk (x : UInt64) (n : Int) (w : World) (hn1 : -9223372036854775808 ≤ n) (hn2 : n ≤ 9223372036854775807) :
    Calls Try.prog 4 #[.int .u64 (x.toNat : Int), .int .i64 n] w fun e w' => e = .returned (.bool true) ∧ Below w.heap.size w w' := by
  have hx : x.toNat < 2 ^ 64 := x.toNat_lt
  generalize x.toNat = X at hx ⊢
  obtain ⟨y, hy⟩ : ∃ y : Nat, y = X % 4294967296 := ⟨_, rfl⟩
  have hyb : y < 2 ^ 32 := by omega
  have hXy : (X : Int) % 4294967296 = (y : Int) := by omega
  clear hy
  have hr32 := rotN_lt 32 y (n % 32).toNat (by omega) hyb
  have hr32' : ((rotN 32 y (n % 32).toNat : Nat) : Int) ≤ 4294967295 := by omega
  have hyb' : (y : Int) ≤ 4294967295 := by omega
  have hr64 := rotN_lt 64 X (n % 64).toNat (by omega) hx
  have hr64' : ((rotN 64 X (n % 64).toNat : Nat) : Int) ≤ 18446744073709551615 := by omega
  have hx' : (X : Int) ≤ 18446744073709551615 := by omega
  have R1 := Lib.hid hr32
  have R2 := Lib.hid hr64
  have R3 := Lib.hid hx
  have R4 := Lib.hid hyb
  clear hr32 hr64 hx hyb
  go_enter Try.func4, Try.ntmps4
  go_wp2_with (first | (go_at_call 17; refine (turn_u32 y n _ R4.out).mono ?_; rintro e w1 ⟨rfl, q1, rfl⟩) | (go_at_call 19; refine (turn_s32 y n _ R4.out).mono ?_; rintro e w1 ⟨rfl, q2, rfl⟩) | (go_at_call 20; refine (turn_u64 X n _ R3.out).mono ?_; rintro e w1 ⟨rfl, q3, rfl⟩) | (go_at_call 21; refine (turn_l64 X n _ R3.out).mono ?_; rintro e w1 ⟨rfl, q4, rfl⟩) | (go_at_call_of 18 (Value.int .u64 (y : Int)); refine (refTurn_32 y n _ R4.out).mono ?_; rintro e w1 ⟨rfl, rfl⟩) | (go_at_call_of 18 (Value.int .u64 (X : Int)); refine (refTurn_64 X n _ R3.out).mono ?_; rintro e w1 ⟨rfl, rfl⟩))
  go_ret
  exact ⟨by simp, bdrewN (Below.refl _ _) _⟩
end Go.Proofs.Ythocpfhajnnplaa
