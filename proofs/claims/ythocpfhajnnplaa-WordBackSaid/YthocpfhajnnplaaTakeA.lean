/- Byte, within. -/
import Derived.Test.YthocpfhajnnplaaRows
import Derived.Test.YthocpfhajnnplaaLib
import Derived.Test.YthocpfhajnnplaaRot
import Derived.Test.YthocpfhajnnplaaTurn
import Derived.Test.YthocpfhajnnplaaLay
namespace Go.Proofs.Ythocpfhajnnplaa
open Go.RowKit
set_option linter.unusedVariables false

theorem byteAt_in {l : List UInt8} {a : Int} {k : Nat} {x : UInt8} (ha : a = (k : Int)) (hx : l[k]? = some x) : byteAt l a = x.toNat := by
  obtain ⟨hk, rfl⟩ := List.getElem?_eq_some_iff.1 hx
  unfold byteAt
  rw [if_pos (by omega)]
  subst ha
  simp [List.getElem?_eq_getElem hk]

set_option maxHeartbeats 400000 in
theorem byte_any (A : Option Addr) (n c : Nat) (l : List UInt8) (a : Int) (w : World) (h : Rd w 1 A n (l.map vb)) (hn : n ≤ 9223372036854775807) :
    Calls Try.prog 50 #[.slice A n c, .int .i64 a] w fun e w' => e = .returned (.int .u8 (byteAt l a : Nat)) ∧ w = w' := by
  have hl : l.length = n := by simpa using h.1
  by_cases h0 : a < 0
  · have hb := byteAt_out l a (.inl h0)
    have HB := Lib.hid hb
    have HL := Lib.hid hl
    clear hb hl
    go_enter Try.func50, Try.ntmps50
    go_wp2
    go_ret
    exact ⟨ret_int (by rw [HB.out]; rfl), rfl⟩
  · by_cases h1 : a < n
    · obtain ⟨k, rfl⟩ := Int.eq_ofNat_of_zero_le (by omega : 0 ≤ a)
      obtain ⟨p, x, rfl, hx, hc⟩ := h.byteAt (show k < n by omega)
      have hb := byteAt_in (a := (k : Int)) rfl hx
      have HB := Lib.hid hb
      have HL := Lib.hid hl
      clear hb hl hx
      go_enter Try.func50, Try.ntmps50
      go_wp2
      go_ret
      exact ⟨ret_int (by rw [HB.out]), rfl⟩
    · have hb := byteAt_out l a (.inr (by omega))
      have HB := Lib.hid hb
      have HL := Lib.hid hl
      clear hb hl
      have h2 : (n : Int) ≤ a := by omega
      go_enter Try.func50, Try.ntmps50
      go_wp2
      go_ret
      exact ⟨ret_int (by rw [HB.out]; rfl), rfl⟩

theorem within_yes (A : Option Addr) (n c N : Nat) (a : Int) (w : World) (hN : N ≤ 8) (h1 : -(N : Int) < a) (h2 : a < n) :
    Calls Try.prog 49 #[.slice A n c, .int .i64 a, .int .i64 (N : Int)] w fun e w' => e = .returned (.bool true) ∧ w = w' := by
  go_enter Try.func49, Try.ntmps49
  go_wp2
  go_ret
  exact ⟨by simp, rfl⟩
theorem within_no (A : Option Addr) (n c N : Nat) (a : Int) (w : World) (hN : N ≤ 8) (h : a ≤ -(N : Int) ∨ (n : Int) ≤ a) :
    Calls Try.prog 49 #[.slice A n c, .int .i64 a, .int .i64 (N : Int)] w fun e w' => e = .returned (.bool false) ∧ w = w' := by
  by_cases h1 : a ≤ -(N : Int)
  · go_enter Try.func49, Try.ntmps49
    go_wp2
    go_ret
    exact ⟨rfl, rfl⟩
  · have h2 : (n : Int) ≤ a := by omega
    go_enter Try.func49, Try.ntmps49
    go_wp2
    go_ret
    exact ⟨by simp; exact h2, rfl⟩
end Go.Proofs.Ythocpfhajnnplaa
