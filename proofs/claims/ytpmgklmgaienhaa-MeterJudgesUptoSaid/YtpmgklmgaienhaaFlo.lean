/- Floating-point operations with NaNs: what an operation gives, up to which NaN it is. Nothing here speaks of the program. -/
import Derived.Laws.FloatArith
import Derived.Laws.FloatBits
import Derived.RowKit
import Derived.Test.YtpmgklmgaienhaaLib
namespace Go.Proofs.Ytpmgklmgaienhaa
open Go.RowKit
set_option linter.unusedVariables false

def isN (x : Nat) : Bool := (FloatKind.f64.format.read x).isNaN
/-- a number as its bits; every NaN alike -/
def absF (x : Nat) : Option Nat := if isN x then none else some x
def opA (op : BinOp) (a b : Option Nat) : Option Nat := a.bind fun x => b.bind fun y => floatBits op .f64 x y

theorem word_not_nan (neg : Bool) {rung : Nat} (h : rung ≤ Ieee.double.infRung) : (Ieee.double.read (Ieee.double.word neg rung)).isNaN = false := by
  have hi : Ieee.double.infRung = 9218868437227405312 := by decide +kernel
  have hs : Ieee.double.signWeight = 9223372036854775808 := by decide +kernel
  have hr : (Ieee.double.word neg rung) % Ieee.double.signWeight = rung := by
    unfold Ieee.Format.word
    rw [hs]
    split <;> omega
  unfold Ieee.Format.read
  simp only [hr]
  split
  · rfl
  · split
    · rfl
    · split
      · rfl
      · omega
theorem write_not_nan {d : Ieee.Datum} (h : d.isNaN = false) : isN (Ieee.double.write d) = false := by
  unfold isN
  show (Ieee.double.read _).isNaN = false
  cases d with
  | number neg mag place =>
    show (Ieee.double.read (Ieee.double.nearest neg mag place)).isNaN = false
    unfold Ieee.Format.nearest
    split
    · exact word_not_nan neg (Nat.zero_le _)
    · exact word_not_nan neg (Nat.min_le_right _ _)
  | infinity neg => exact word_not_nan neg (Nat.le_refl _)
  | nan neg f => simp [Ieee.Datum.isNaN] at h
theorem sum_not_nan {a b d : Ieee.Datum} (h : a.sum b = some d) : d.isNaN = false ∧ a.isNaN = false ∧ b.isNaN = false := by
  cases a <;> cases b <;> simp [Ieee.Datum.sum] at h
  all_goals first
    | (obtain ⟨-, rfl⟩ := h; exact ⟨rfl, rfl, rfl⟩)
    | (subst h; exact ⟨rfl, rfl, rfl⟩)
theorem product_not_nan {a b d : Ieee.Datum} (h : a.product b = some d) : d.isNaN = false ∧ a.isNaN = false ∧ b.isNaN = false := by
  cases a <;> cases b <;> simp [Ieee.Datum.product] at h
  all_goals first
    | (obtain ⟨-, rfl⟩ := h; exact ⟨rfl, rfl, rfl⟩)
    | (subst h; exact ⟨rfl, rfl, rfl⟩)
theorem quotient_not_nan {k : Nat} {a b d : Ieee.Datum} (h : a.quotient k b = some d) : d.isNaN = false ∧ a.isNaN = false ∧ b.isNaN = false := by
  cases a with
  | nan x y => cases b <;> simp [Ieee.Datum.quotient] at h
  | infinity x =>
    cases b with
    | nan y z => simp [Ieee.Datum.quotient] at h
    | infinity y => simp [Ieee.Datum.quotient] at h
    | number y m e => simp [Ieee.Datum.quotient] at h; subst h; exact ⟨rfl, rfl, rfl⟩
  | number x m e =>
    cases b with
    | nan y z => simp [Ieee.Datum.quotient] at h
    | infinity y => simp [Ieee.Datum.quotient] at h; subst h; exact ⟨rfl, rfl, rfl⟩
    | number y n f =>
      unfold Ieee.Datum.quotient at h
      dsimp only at h
      split at h
      · split at h
        · cases h
        · cases h; exact ⟨rfl, rfl, rfl⟩
      · cases h; exact ⟨rfl, rfl, rfl⟩
theorem opposite_nan (a : Ieee.Datum) : a.opposite.isNaN = a.isNaN := by cases a <;> rfl
/-- the operations of chapter 28 -/
def arith : BinOp → Bool
  | .add | .sub | .mul | .quo => true
  | _ => false
theorem valid_nan {op : BinOp} (ho : arith op = true) {x y r : Nat} (h : floatBits op .f64 x y = some r) : isN r = false ∧ isN x = false ∧ isN y = false := by
  cases op <;> simp only [arith] at ho <;> first | (cases ho; done) | skip
  · obtain ⟨d, hd, rfl⟩ := Option.map_eq_some_iff.1 (show (((Ieee.double.read x).sum (Ieee.double.read y)).map Ieee.double.write) = some r from h)
    obtain ⟨h1, h2, h3⟩ := sum_not_nan hd
    exact ⟨write_not_nan h1, h2, h3⟩
  · obtain ⟨d, hd, rfl⟩ := Option.map_eq_some_iff.1 (show (((Ieee.double.read x).sum (Ieee.double.read y).opposite).map Ieee.double.write) = some r from h)
    obtain ⟨h1, h2, h3⟩ := sum_not_nan hd
    rw [opposite_nan] at h3
    exact ⟨write_not_nan h1, h2, h3⟩
  · obtain ⟨d, hd, rfl⟩ := Option.map_eq_some_iff.1 (show (((Ieee.double.read x).product (Ieee.double.read y)).map Ieee.double.write) = some r from h)
    obtain ⟨h1, h2, h3⟩ := product_not_nan hd
    exact ⟨write_not_nan h1, h2, h3⟩
  · obtain ⟨d, hd, rfl⟩ := Option.map_eq_some_iff.1 (show (((Ieee.double.read x).quotient (Ieee.double.fractionBits + 2) (Ieee.double.read y)).map Ieee.double.write) = some r from h)
    obtain ⟨h1, h2, h3⟩ := quotient_not_nan hd
    exact ⟨write_not_nan h1, h2, h3⟩
theorem cut_nan (t : Nat) : isN (t % 2 * 2 ^ 63 + 0x7ff0000000000000 + 1 + t / 2 % (2 ^ 52 - 1)) = true := by
  have hi : Ieee.double.infRung = 9218868437227405312 := by decide +kernel
  have hb : Ieee.double.binade = 4503599627370496 := by decide +kernel
  have hs : Ieee.double.signWeight = 9223372036854775808 := by decide +kernel
  unfold isN
  show (Ieee.double.read _).isNaN = true
  unfold Ieee.Format.read
  simp only [hi, hb, hs]
  generalize hq : t / 2 % (2 ^ 52 - 1) = q
  have hq2 : q < 4503599627370495 := by rw [← hq]; exact Nat.mod_lt _ (by decide)
  have e : (t % 2 * 2 ^ 63 + 0x7ff0000000000000 + 1 + q) % 9223372036854775808 = 9218868437227405313 + q := by
    rw [show t % 2 * 2 ^ 63 + 0x7ff0000000000000 + 1 + q = (9218868437227405313 + q) + 9223372036854775808 * (t % 2) by omega, Nat.add_mul_mod_self_left, Nat.mod_eq_of_lt (by omega)]
  rw [e]
  rw [if_neg (by omega), if_neg (by omega), if_neg (by omega)]
  rfl
theorem opA_valid {op : BinOp} (ho : arith op = true) {x y r : Nat} (h : floatBits op .f64 x y = some r) : opA op (absF x) (absF y) = some r ∧ absF r = some r := by
  obtain ⟨h1, h2, h3⟩ := valid_nan ho h
  simp [opA, absF, h1, h2, h3, h]
theorem opA_none {op : BinOp} {x y : Nat} (h : floatBits op .f64 x y = none) : opA op (absF x) (absF y) = none := by
  unfold opA absF
  cases isN x <;> cases isN y <;> simp [h]
/-- WHATEVER THE OPERANDS: a result, and what it is but for which NaN -/
theorem run_float_any {P : Program} (w : World) (op : BinOp) (ho : arith op = true) (t : TypeId) (x y : Nat) : ∃ r n, (binOp op t (.float .f64 x) (.float .f64 y)).run P w = .ok (.float .f64 r) (w.drewN n) ∧ absF r = opA op (absF x) (absF y) := by
  cases h : floatBits op .f64 x y with
  | some r =>
    obtain ⟨h1, h2⟩ := opA_valid ho h
    exact ⟨r, 0, run_float_arith w op t .f64 x y r h, by rw [h1, h2]⟩
  | none =>
    refine ⟨(w.tape w.drawn (.nanBits .f64 x y)) % 2 * 2 ^ 63 + 0x7ff0000000000000 + 1 + (w.tape w.drawn (.nanBits .f64 x y)) / 2 % (2 ^ 52 - 1), 1, ?_, ?_⟩
    · have hq : (choose (.nanBits .f64 x y)).run P w = .ok ((w.tape w.drawn (.nanBits .f64 x y)) % 2 * 2 ^ 63 + 0x7ff0000000000000 + 1 + (w.tape w.drawn (.nanBits .f64 x y)) / 2 % (2 ^ 52 - 1)) w.drew := by
        rw [run_choose_drew]
        rfl
      unfold floatBits at h
      cases op <;> simp only [arith] at ho <;> first | (cases ho; done) | skip
      all_goals
        simp only at h
        simp only [binOp, Op.floatArith, h, Sem.run_bind, Sem.run_pure, Result.andThen_ok, hq]
        rfl
    · rw [opA_none h]
      unfold absF
      rw [cut_nan]
      rfl
end Go.Proofs.Ytpmgklmgaienhaa
