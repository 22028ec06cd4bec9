/- turnkeykit.Pick, walked. -/
import Derived.Test.YtpmgklmgaienhaaRows
import Derived.Test.YtpmgklmgaienhaaLib
import Derived.Test.YtpmgklmgaienhaaSep
namespace Go.Proofs.Ytpmgklmgaienhaa
open Go.RowKit
set_option linter.unusedVariables false

theorem pick_any (x : Int) (N : Nat) (w : World) (h1 : -9223372036854775808 ≤ x) (h2 : x ≤ 9223372036854775807) (hN1 : 1 ≤ N) (hN : N ≤ 1099511627776) {b : Int} (hb : b = (N : Int)) :
    Calls Try.prog 32 #[.int .i64 x, .int .i64 b] w fun e w' => (∃ n : Nat, n < N ∧ (n : Int) = x % (N : Int) ∧ e = .returned (.int .i64 (n : Int))) ∧ w = w' := by
  subst hb
  have h4 := Int.emod_nonneg x (show (N : Int) ≠ 0 by omega)
  have h5 := Int.emod_lt_of_pos x (show (0 : Int) < N by omega)
  have hr : x.tmod N = x % N ∨ x.tmod N = x % N - N := by
    rw [Int.tmod_eq_emod (a := x) (b := (N : Int))]
    split
    · left; simp
    · right; simp
  generalize x % (N : Int) = y at *
  obtain ⟨r, hr'⟩ : ∃ r, x.tmod N = r := ⟨_, rfl⟩
  rw [hr'] at hr
  have HM : Hid (y = if r < 0 then r + N else r) := by unfold Hid; split <;> omega
  have hlt : r < N := by omega
  have hgt : -(N : Int) ≤ r := by omega
  clear hr h4 h5
  by_cases hneg : r < 0
  · have HY : Hid (y = r + N) := by have h := HM.out; rw [if_pos hneg] at h; exact h
    clear HM
    go_enter Try.func32, Try.ntmps32
    go_wp2
    go_ret
    exact ⟨⟨(r + N).toNat, by omega, by rw [HY.out]; omega, by go_num⟩, rfl⟩
  · have HY : Hid (y = r) := by have h := HM.out; rw [if_neg hneg] at h; exact h
    clear HM
    go_enter Try.func32, Try.ntmps32
    go_wp2
    go_ret
    exact ⟨⟨r.toNat, by omega, by rw [HY.out]; omega, by go_num⟩, rfl⟩
end Go.Proofs.Ytpmgklmgaienhaa
