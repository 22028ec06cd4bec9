/- The sum that stops at the greatest int, in ledger and in the document. -/
import Derived.Test.YtpmgklmgaienhaaMeR
namespace Go.Proofs.Ytpmgklmgaienhaa
open Go.RowKit
set_option linter.unusedVariables false
set_option maxRecDepth 100000

def plusI (a b : Int) : Int := if a > 9223372036854775807 - b then 9223372036854775807 else a + b
theorem plusI_in {a b : Int} (ha : 0 ≤ a ∧ a ≤ 9223372036854775807) (hb : 0 ≤ b ∧ b ≤ 9223372036854775807) : 0 ≤ plusI a b ∧ plusI a b ≤ 9223372036854775807 := by
  unfold plusI; split <;> omega
theorem plus_s (a b : Int) (w : World) (ha : 0 ≤ a ∧ a ≤ 9223372036854775807) (hb : 0 ≤ b ∧ b ≤ 9223372036854775807) : Calls Try.prog 57 #[.int .i64 a, .int .i64 b] w fun e w' => e = .returned (.int .i64 (plusI a b)) ∧ w = w' := by
  have h1 : IntKind.i64.wrap (9223372036854775807 - b) = 9223372036854775807 - b := IntWalk.i64_in _ (by omega)
  by_cases h : a > 9223372036854775807 - b
  · have e1 : decide (a > 9223372036854775807 - b) = true := by simpa using h
    rw [show plusI a b = 9223372036854775807 from if_pos h]
    clear h
    go_enter Try.func57, Try.ntmps57
    go_wp2
    go_ret
    exact ⟨rfl, rfl⟩
  · have e1 : decide (a > 9223372036854775807 - b) = false := by simpa using h
    have h2 : IntKind.i64.wrap (a + b) = a + b := IntWalk.i64_in _ (by omega)
    rw [show plusI a b = a + b from if_neg h]
    clear h
    go_enter Try.func57, Try.ntmps57
    go_wp2
    go_ret
    exact ⟨rfl, rfl⟩
theorem sum_s (a b : Int) (w : World) (ha : 0 ≤ a ∧ a ≤ 9223372036854775807) (hb : 0 ≤ b ∧ b ≤ 9223372036854775807) : Calls Try.prog 58 #[.int .i64 a, .int .i64 b] w fun e w' => e = .returned (.int .i64 (plusI a b)) ∧ w = w' := by
  have h1 : IntKind.i64.wrap (9223372036854775807 - b) = 9223372036854775807 - b := IntWalk.i64_in _ (by omega)
  by_cases h : a > 9223372036854775807 - b
  · have e1 : decide (a > 9223372036854775807 - b) = true := by simpa using h
    rw [show plusI a b = 9223372036854775807 from if_pos h]
    clear h
    go_enter Try.func58, Try.ntmps58
    go_wp2
    go_ret
    exact ⟨rfl, rfl⟩
  · have e1 : decide (a > 9223372036854775807 - b) = false := by simpa using h
    have h2 : IntKind.i64.wrap (a + b) = a + b := IntWalk.i64_in _ (by omega)
    rw [show plusI a b = a + b from if_neg h]
    clear h
    go_enter Try.func58, Try.ntmps58
    go_wp2
    go_ret
    exact ⟨rfl, rfl⟩
end Go.Proofs.Ytpmgklmgaienhaa
