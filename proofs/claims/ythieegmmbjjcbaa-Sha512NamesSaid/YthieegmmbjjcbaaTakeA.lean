/- Byte, within. -/
import Derived.Test.YthieegmmbjjcbaaRows
import Derived.Test.YthieegmmbjjcbaaLib
import Derived.Test.YthieegmmbjjcbaaRot
import Derived.Test.YthieegmmbjjcbaaTurn
import Derived.Test.YthieegmmbjjcbaaLay
namespace Go.Proofs.Ythieegmmbjjcbaa
open Go.RowKit
set_option linter.unusedVariables false

theorem byteAt_in {l : List UInt8} {a : Int} {k : Nat} {x : UInt8} (ha : a = (k : Int)) (hx : l[k]? = some x) : byteAt l a = x.toNat := by
  obtain ⟨hk, rfl⟩ := List.getElem?_eq_some_iff.1 hx
  unfold byteAt
  rw [if_pos (by omega)]
  subst ha
  simp [List.getElem?_eq_getElem hk]

theorem within_yes (A : Option Addr) (n c N : Nat) (a : Int) (w : World) (hN : N ≤ 8) (h1 : -(N : Int) < a) (h2 : a < n) :
    Calls Try.prog 52 #[.slice A n c, .int .i64 a, .int .i64 (N : Int)] w fun e w' => e = .returned (.bool true) ∧ w = w' := by
  go_enter Try.func52, Try.ntmps52
  go_wp2
  go_ret
  exact ⟨by simp, rfl⟩
theorem within_no (A : Option Addr) (n c N : Nat) (a : Int) (w : World) (hN : N ≤ 8) (h : a ≤ -(N : Int) ∨ (n : Int) ≤ a) :
    Calls Try.prog 52 #[.slice A n c, .int .i64 a, .int .i64 (N : Int)] w fun e w' => e = .returned (.bool false) ∧ w = w' := by
  by_cases h1 : a ≤ -(N : Int)
  · go_enter Try.func52, Try.ntmps52
    go_wp2
    go_ret
    exact ⟨rfl, rfl⟩
  · have h2 : (n : Int) ≤ a := by omega
    go_enter Try.func52, Try.ntmps52
    go_wp2
    go_ret
    exact ⟨by simp; exact h2, rfl⟩
end Go.Proofs.Ythieegmmbjjcbaa
