/- The weight of a number: math.Abs, and the document's. -/
import Derived.Test.YtpmgklmgaienhaaMeJp
import Derived.Test.YtpmgklmgaienhaaFly
namespace Go.Proofs.Ytpmgklmgaienhaa
open Go.RowKit
set_option linter.unusedVariables false
set_option maxRecDepth 100000

theorem u64_abs {x : Nat} (h : x < 2 ^ 64) : bits BinOp.andNot IntKind.u64 (x : Int) 9223372036854775808 = ((x % 2 ^ 63 : Nat) : Int) := by
  have key : (BitVec.ofInt 64 (x : Int) &&& ~~~ (BitVec.ofInt 64 9223372036854775808)).toNat = x % 2 ^ 63 := by
    have e1 : (BitVec.ofInt 64 (x : Int)).toNat = x := by
      rw [BitVec.toNat_ofInt]; omega
    have e2 : (~~~ (BitVec.ofInt 64 9223372036854775808)).toNat = 2 ^ 63 - 1 := by decide
    rw [BitVec.toNat_and, e1, e2, Nat.and_two_pow_sub_one_eq_mod]
  show IntKind.u64.wrap ((BitVec.ofInt 64 (x : Int) &&& ~~~ (BitVec.ofInt 64 9223372036854775808)).toNat : Nat) = _
  rw [key]
  exact IntWalk.u64_in _ (by omega)

theorem fbits_call (n : Nat) (w : World) : (callFunc 59 #[.float .f64 n]).run Try.prog w = .ok (.value (.int .u64 (n : Int))) w := by
  rw [run_callFunc_extern (P := Try.prog) (f := 59) (fn := Try.f59) (e := Extern.MathFloatBits.float64bits) Try.func59 (by kernel_rfl) (by kernel_rfl) (by kernel_rfl) (by kernel_rfl)]
  rfl

theorem abs_s (x : Nat) (w : World) (h : x < 2 ^ 64) : Calls Try.prog 48 #[.float .f64 x] w fun e w' => e = .returned (.float .f64 (x % 2 ^ 63)) ∧ w = w' := by
  have h1 := fbits_call x
  have h2 := bits_callM (x % 2 ^ 63)
  have h3 := u64_abs h
  generalize x % 2 ^ 63 = y at h2 h3 ⊢
  clear h
  go_enter Try.func48, Try.ntmps48
  go_wp2
  go_ret
  exact ⟨rfl, rfl⟩

theorem cmp_self (a : Int) : compare a a = Ordering.eq := by
  show (if a < a then Ordering.lt else if a = a then Ordering.eq else Ordering.gt) = _
  simp
theorem ord_self {x : Nat} (h : isN x = false) : FloatKind.f64.format.order x x = some Ordering.eq := by
  unfold isN at h
  show (FloatKind.f64.format.read x).order (FloatKind.f64.format.read x) = _
  cases hr : FloatKind.f64.format.read x with
  | number s m i =>
    show some (compare _ _) = _
    rw [cmp_self]
  | infinity s =>
    show some (compare s.toNat s.toNat) = _
    rw [Nat.compare_eq_eq.2 rfl]
  | nan s f => rw [hr] at h; cases h
theorem ordNum (neg : Bool) (m : Nat) (e : Int) (he : -1074 ≤ e) : (Ieee.Datum.number neg m e).order (.number false 0 (-1074)) = some (compare (sg neg (m * 2 ^ (e + 1074).toNat)) 0) := by
  show some (compare (Ieee.signed neg m (e - min e (-1074)).toNat) (Ieee.signed false 0 (-1074 - min e (-1074)).toNat)) = _
  rw [show min e (-1074) = -1074 by omega, signed_eq, signed_eq, show e - -1074 = e + 1074 by omega]
  simp [sg]
theorem cmp_pos {m k : Nat} (h : m ≠ 0) : compare (sg false (m * 2 ^ k)) 0 = Ordering.gt := by
  have : 0 < m * 2 ^ k := Nat.mul_pos (Nat.pos_of_ne_zero h) (Nat.two_pow_pos k)
  exact cmp_gt (by simp only [sg]; show (0 : Int) < ((m * 2 ^ k : Nat) : Int); omega)
theorem cmp_negv {m k : Nat} (h : m ≠ 0) : compare (sg true (m * 2 ^ k)) 0 = Ordering.lt := by
  have : 0 < m * 2 ^ k := Nat.mul_pos (Nat.pos_of_ne_zero h) (Nat.two_pow_pos k)
  exact cmp_lt (by simp only [sg, if_true]; show -((m * 2 ^ k : Nat) : Int) < 0; omega)
theorem cmp_nil (s : Bool) (k : Nat) : compare (sg s (0 * 2 ^ k)) 0 = Ordering.eq := by
  rw [Nat.zero_mul, show sg s 0 = 0 by cases s <;> rfl]; exact cmp_self 0
/-- how a number stands to nought -/
theorem ord_sign {x : Nat} (h : x < 2 ^ 64) (hn : isN x = false) : (x % 2 ^ 63 = 0 ∧ FloatKind.f64.format.order x 0 = some Ordering.eq) ∨ (x % 2 ^ 63 ≠ 0 ∧ x < 2 ^ 63 ∧ FloatKind.f64.format.order x 0 = some Ordering.gt) ∨ (x % 2 ^ 63 ≠ 0 ∧ 2 ^ 63 ≤ x ∧ FloatKind.f64.format.order x 0 = some Ordering.lt) := by
  have h0 : Ieee.double.read 0 = .number false 0 (-1074) := by decide +kernel
  have hs : x < 2 ^ 63 ∧ (x / 2 ^ 63 % 2 == 1) = false ∨ 2 ^ 63 ≤ x ∧ (x / 2 ^ 63 % 2 == 1) = true := by
    rcases Nat.lt_or_ge x (2 ^ 63) with h1 | h1
    · left; exact ⟨h1, by rw [Nat.div_eq_of_lt h1]; rfl⟩
    · right; refine ⟨h1, ?_⟩
      have : x / 2 ^ 63 = 1 := by omega
      rw [this]; rfl
  have ho : FloatKind.f64.format.order x 0 = (Ieee.double.read x).order (.number false 0 (-1074)) := by rw [← h0]; rfl
  have hnn : (Ieee.double.read x).isNaN = false := hn
  rw [ho]
  clear ho hn h0
  unfold Ieee.Format.read at hnn ⊢
  rw [sw_eq, bin_eq, infR_eq, least_eq] at hnn ⊢
  simp only at hnn ⊢
  generalize hr : x % 2 ^ 63 = r at hnn ⊢
  by_cases h1 : r < 2 ^ 52
  · rw [if_pos h1] at hnn ⊢
    rw [ordNum _ _ _ (by omega)]
    by_cases hz : r = 0
    · left; exact ⟨hz, by rw [hz, cmp_nil]⟩
    · rcases hs with ⟨a, b⟩ | ⟨a, b⟩
      · right; left; rw [b]; exact ⟨hz, a, by rw [cmp_pos hz]⟩
      · right; right; rw [b]; exact ⟨hz, a, by rw [cmp_negv hz]⟩
  · rw [if_neg h1] at hnn ⊢
    have hz : r ≠ 0 := by omega
    by_cases h2 : r < infR
    · rw [if_pos h2] at hnn ⊢
      rw [ordNum _ _ _ (by omega)]
      have hm : 2 ^ 52 + r % 2 ^ 52 ≠ 0 := by omega
      rcases hs with ⟨a, b⟩ | ⟨a, b⟩
      · right; left; rw [b]; exact ⟨hz, a, by rw [cmp_pos hm]⟩
      · right; right; rw [b]; exact ⟨hz, a, by rw [cmp_negv hm]⟩
    · rw [if_neg h2] at hnn ⊢
      by_cases h3 : r = infR
      · rw [if_pos h3] at hnn ⊢
        rcases hs with ⟨a, b⟩ | ⟨a, b⟩
        · right; left; rw [b]; exact ⟨hz, a, rfl⟩
        · right; right; rw [b]; exact ⟨hz, a, rfl⟩
      · rw [if_neg h3] at hnn
        cases hnn
theorem neg_bits {x : Nat} (h1 : 2 ^ 63 ≤ x) (h2 : x < 2 ^ 64) : Op.negFloat .f64 x = x % 2 ^ 63 := by
  show x ^^^ 2 ^ 63 = x % 2 ^ 63
  apply Nat.eq_of_testBit_eq
  intro i
  rw [Nat.testBit_xor, Nat.testBit_two_pow, Nat.testBit_mod_two_pow]
  rcases Nat.lt_or_ge i 63 with hi | hi
  · simp [hi, show 63 ≠ i by omega]
  · by_cases h63 : i = 63
    · subst h63
      have : x.testBit 63 = true := by
        rw [show x = 2 ^ 63 + (x - 2 ^ 63) by omega, Nat.testBit_two_pow_add_eq, Nat.testBit_lt_two_pow (by omega)]; rfl
      rw [this]; simp
    · have hx : x < 2 ^ i := Nat.lt_of_lt_of_le h2 (Nat.pow_le_pow_right (by decide) (by omega))
      rw [Nat.testBit_lt_two_pow hx]
      simp [show 63 ≠ i by omega]
theorem neg_floatM (x : Nat) (w : World) : (Op.unary UnOp.neg (.float .f64 x)).run Try.prog w = .ok (.float .f64 (Op.negFloat .f64 x)) w := rfl

theorem weight_s (r : Nat) (w : World) (ho : ∀ x, absF r = some x → x < 2 ^ 64) : Calls Try.prog 52 #[.float .f64 r] w fun e w' => e = .returned (.float .f64 (wtO (absF r))) ∧ w = w' := by
  cases h : absF r with
  | none =>
    have o1 := ordN1 0 (absF_n h)
    clear h ho
    go_enter Try.func52, Try.ntmps52
    go_wp2
    go_ret
    exact ⟨rfl, rfl⟩
  | some x =>
    obtain ⟨rfl, hn⟩ := absF_s h
    have hlt := ho r h
    have hw : wtO (some r) = r % 2 ^ 63 := rfl
    rw [hw]
    rcases ord_sign hlt hn with ⟨a, o1⟩ | ⟨a, b, o1⟩ | ⟨a, b, o1⟩
    · rw [a]
      clear h ho hn hlt hw a
      go_enter Try.func52, Try.ntmps52
      go_wp2
      go_ret
      exact ⟨rfl, rfl⟩
    · rw [Nat.mod_eq_of_lt b]
      clear h ho hn hlt hw a b
      go_enter Try.func52, Try.ntmps52
      go_wp2
      go_ret
      exact ⟨rfl, rfl⟩
    · rw [← neg_bits b hlt]
      have hng := neg_floatM r
      generalize Op.negFloat .f64 r = y at hng ⊢
      clear h ho hn hlt hw a b
      go_enter Try.func52, Try.ntmps52
      go_wp2
      go_ret
      exact ⟨rfl, rfl⟩
end Go.Proofs.Ytpmgklmgaienhaa
