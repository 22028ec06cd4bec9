/- Powers of any complex number, in eighth and in the document; Same of two floats that are alike. -/
import Derived.Test.YtgaghggnjemgoaaEiPeakN
namespace Go.Proofs.Ytgaghggnjemgoaa
open Go.RowKit
set_option linter.unusedVariables false

def powA (a b : Option Nat) : Option Nat := opA .add (opA .mul a a) (opA .mul b b)
theorem power_a (a b : Nat) (w : World) : Calls Try.prog 15 #[.complex .f64 a b] w fun e w' => ∃ r n, e = .returned (.float .f64 r) ∧ Hid (absF r = powA (absF a) (absF b)) ∧ w' = w.drewN n := by
  obtain ⟨p, n1, m1, e1⟩ := run_float_any (P := Try.prog) w .mul rfl 22 a a
  obtain ⟨q, n2, m2, e2⟩ := run_float_any (P := Try.prog) (w.drewN n1) .mul rfl 22 b b
  obtain ⟨r, n3, m3, e3⟩ := run_float_any (P := Try.prog) (w.drewN (n1 + n2)) .add rfl 22 p q
  have h : Hid (absF r = powA (absF a) (absF b)) := by unfold Hid powA; rw [e3, e1, e2]
  clear e1 e2 e3
  go_enter Try.func15, Try.ntmps15
  go_wp2
  go_ret
  exact ⟨r, _, rfl, h, rfl⟩
theorem refPower_a (a b : Nat) (w : World) : Calls Try.prog 16 #[.float .f64 a, .float .f64 b] w fun e w' => ∃ r n, e = .returned (.float .f64 r) ∧ Hid (absF r = powA (absF a) (absF b)) ∧ w' = w.drewN n := by
  obtain ⟨p, n1, m1, e1⟩ := run_float_any (P := Try.prog) w .mul rfl 22 a a
  obtain ⟨q, n2, m2, e2⟩ := run_float_any (P := Try.prog) (w.drewN n1) .mul rfl 22 b b
  obtain ⟨r, n3, m3, e3⟩ := run_float_any (P := Try.prog) (w.drewN (n1 + n2)) .add rfl 22 p q
  have h : Hid (absF r = powA (absF a) (absF b)) := by unfold Hid powA; rw [e3, e1, e2]
  clear e1 e2 e3
  go_enter Try.func16, Try.ntmps16
  go_wp2
  go_ret
  exact ⟨r, _, rfl, h, rfl⟩
theorem same_abs (x y : Nat) (w : World) (h : absF x = absF y) : Calls Try.prog 14 #[.float .f64 x, .float .f64 y] w fun e w' => e = .returned (.bool true) ∧ w' = w := by
  unfold absF at h
  cases hx : isN x with
  | false =>
    cases hy : isN y with
    | false =>
      rw [hx, hy] at h
      simp at h
      subst h
      exact same_f x w
    | true => rw [hx, hy] at h; simp at h
  | true =>
    cases hy : isN y with
    | false => rw [hx, hy] at h; simp at h
    | true =>
      have o1 := order_nan y hx
      have o2 := order_nan x hx
      have o3 := order_nan y hy
      clear hx hy h
      go_enter Try.func14, Try.ntmps14
      go_wp2
      go_ret
      exact ⟨rfl, rfl⟩
end Go.Proofs.Ytgaghggnjemgoaa
