/- Powers of any complex number, in eighth and in the document; Same of two floats that are alike. -/
import Derived.Test.YtpmgklmgaienhaaEiPeakN

namespace Go.Proofs.Ytpmgklmgaienhaa
open Go.RowKit
set_option linter.unusedVariables false

def powA (a b : Option Nat) : Option Nat := opA .add (opA .mul a a) (opA .mul b b)

theorem power_a (a b : Nat) (w : World) : Calls Try.prog 61 #[.complex .f64 a b] w fun e w' => ∃ r n, e = .returned (.float .f64 r) ∧ Hid (absF r = powA (absF a) (absF b)) ∧ w' = w.drewN n := by
  obtain ⟨p, n1, m1, e1⟩ := run_float_any (P := Try.prog) w .mul rfl 25 a a
  obtain ⟨q, n2, m2, e2⟩ := run_float_any (P := Try.prog) (w.drewN n1) .mul rfl 25 b b
  obtain ⟨r, n3, m3, e3⟩ := run_float_any (P := Try.prog) (w.drewN (n1 + n2)) .add rfl 25 p q
  have h : Hid (absF r = powA (absF a) (absF b)) := by unfold Hid powA; rw [e3, e1, e2]
  clear e1 e2 e3
  go_enter Try.func61, Try.ntmps61
  go_wp2
  go_ret
  exact ⟨r, _, rfl, h, rfl⟩

theorem refPower_a (a b : Nat) (w : World) : Calls Try.prog 63 #[.float .f64 a, .float .f64 b] w fun e w' => ∃ r n, e = .returned (.float .f64 r) ∧ Hid (absF r = powA (absF a) (absF b)) ∧ w' = w.drewN n := by
  obtain ⟨p, n1, m1, e1⟩ := run_float_any (P := Try.prog) w .mul rfl 25 a a
  obtain ⟨q, n2, m2, e2⟩ := run_float_any (P := Try.prog) (w.drewN n1) .mul rfl 25 b b
  obtain ⟨r, n3, m3, e3⟩ := run_float_any (P := Try.prog) (w.drewN (n1 + n2)) .add rfl 25 p q
  have h : Hid (absF r = powA (absF a) (absF b)) := by unfold Hid powA; rw [e3, e1, e2]
  clear e1 e2 e3
  go_enter Try.func63, Try.ntmps63
  go_wp2
  go_ret
  exact ⟨r, _, rfl, h, rfl⟩

end Go.Proofs.Ytpmgklmgaienhaa
