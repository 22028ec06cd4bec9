/- Mean, Spread and T of any floats, in meter and in the document: the same, up to which NaN it is. -/
import Derived.Test.YtpmgklmgaienhaaMeL
namespace Go.Proofs.Ytpmgklmgaienhaa
open Go.RowKit
set_option linter.unusedVariables false
set_option maxRecDepth 100000

theorem absF_zero9 : absF 0 = some 0 := by decide +kernel
theorem absF_int (n : Int) : absF (floatOfInt .f64 n) = some (floatOfInt .f64 n) := by
  have h : isN (floatOfInt .f64 n) = false := write_not_nan (d := .number (n < 0) n.natAbs 0) rfl
  unfold absF
  rw [h]; rfl
theorem absF_n {r : Nat} (h : absF r = none) : isN r = true := by
  unfold absF at h
  cases hr : isN r with
  | true => rfl
  | false => rw [hr] at h; simp at h
theorem absF_s {r x : Nat} (h : absF r = some x) : r = x ∧ isN r = false := by
  unfold absF at h
  cases hr : isN r with
  | true => rw [hr] at h; simp at h
  | false => rw [hr] at h; simp at h; exact ⟨h, rfl⟩
theorem ordN1 {r : Nat} (s : Nat) (h : isN r = true) : FloatKind.f64.format.order r s = none := by
  unfold isN at h
  show (FloatKind.f64.format.read r).order (FloatKind.f64.format.read s) = none
  cases hr : FloatKind.f64.format.read r with
  | number a b c => rw [hr] at h; cases h
  | infinity a => rw [hr] at h; cases h
  | nan a b => cases FloatKind.f64.format.read s <;> rfl
theorem ordN2 {r : Nat} (s : Nat) (h : isN r = true) : FloatKind.f64.format.order s r = none := by
  unfold isN at h
  show (FloatKind.f64.format.read s).order (FloatKind.f64.format.read r) = none
  cases hr : FloatKind.f64.format.read r with
  | number a b c => rw [hr] at h; cases h
  | infinity a => rw [hr] at h; cases h
  | nan a b => cases FloatKind.f64.format.read s <;> rfl
/-- how two floats stand, up to which NaN they are -/
def ordA : Option Nat → Option Nat → Option Ordering
  | some x, some y => FloatKind.f64.format.order x y
  | _, _ => none
theorem ordA_eq (r s : Nat) : FloatKind.f64.format.order r s = ordA (absF r) (absF s) := by
  cases hr : absF r with
  | none => rw [ordN1 s (absF_n hr)]; rfl
  | some x =>
    cases hs : absF s with
    | none => rw [ordN2 r (absF_n hs)]; rfl
    | some y => rw [(absF_s hr).1, (absF_s hs).1]; rfl
/-- sums of the first k -/
def sumO (x : List Nat) : Nat → Option Nat
  | 0 => some 0
  | k + 1 => opA .add (sumO x k) (absF (x.getD k 0))
def meanA (x : List Nat) (n : Nat) : Option Nat := if n = 0 then some 0 else opA .quo (sumO x n) (some (floatOfInt .f64 (n : Int)))
def sqO (x : List Nat) (m : Option Nat) : Nat → Option Nat
  | 0 => some 0
  | k + 1 => opA .add (sqO x m k) (opA .mul (opA .sub (absF (x.getD k 0)) m) (opA .sub (absF (x.getD k 0)) m))
def spreadA (x : List Nat) (n : Nat) : Option Nat := if n < 2 then some 0 else opA .quo (sqO x (meanA x n) n) (some (floatOfInt .f64 ((n : Int) - 1)))
def dA (x : List Nat) (n : Nat) (y : List Nat) (m : Nat) : Option Nat := opA .sub (meanA x n) (meanA y m)
def sA (x : List Nat) (n : Nat) (y : List Nat) (m : Nat) : Option Nat := opA .add (opA .quo (spreadA x n) (some (floatOfInt .f64 (n : Int)))) (opA .quo (spreadA y m) (some (floatOfInt .f64 (m : Int))))
def rootA (s : Option Nat) : Option Nat := s.bind fun x => FloatKind.f64.format.sqrt x
def tRes (d s : Option Nat) : Option Nat := if (ordA s (some 0) == some Ordering.eq) = true then (if (ordA d (some 0) == some Ordering.eq) = true then some 0 else if (ordA d (some 0) == some Ordering.gt) = true then some 9218868437227405312 else some 18442240474082181120) else opA .quo d (rootA s)
def tA (x : List Nat) (n : Nat) (y : List Nat) (m : Nat) : Option Nat := if n < 2 ∨ m < 2 then some 0 else tRes (dA x n y m) (sA x n y m)
def tE (n m : Nat) : Int := if n < 2 ∨ m < 2 then 2 else 0

theorem root_not_nan {k : Nat} {a d : Ieee.Datum} (h : a.root k = some d) : d.isNaN = false ∧ a.isNaN = false := by
  cases a with
  | nan x y => simp [Ieee.Datum.root] at h
  | infinity x =>
    simp [Ieee.Datum.root] at h
    obtain ⟨-, rfl⟩ := h
    exact ⟨rfl, rfl⟩
  | number x m e =>
    unfold Ieee.Datum.root at h
    dsimp only at h
    split at h
    · cases h; exact ⟨rfl, rfl⟩
    · split at h
      · cases h
      · cases h; exact ⟨rfl, rfl⟩
theorem sqrt_anyF (x : Nat) (w : World) : ∃ r n, (callFunc 55 #[.float .f64 x]).run Try.prog w = .ok (.value (.float .f64 r)) (w.drewN n) ∧ absF r = rootA (absF x) := by
  rw [run_callFunc_extern (P := Try.prog) (f := 55) (fn := Try.f55) (e := Extern.MathSqrt.sqrt) Try.func55 (by kernel_rfl) (by kernel_rfl) (by kernel_rfl) (by kernel_rfl)]
  have e : Extern.MathSqrt.sqrt #[.float .f64 x] = (match FloatKind.f64.format.sqrt x with | some r => pure (Value.float .f64 r) | none => do pure (Value.float .f64 (← choose (.nanBits .f64 x x)))) := rfl
  rw [e]
  cases h : FloatKind.f64.format.sqrt x with
  | some r =>
    refine ⟨r, 0, rfl, ?_⟩
    have h2 := h
    obtain ⟨d, hd, hr⟩ := Option.map_eq_some_iff.1 (show ((Ieee.double.read x).root (Ieee.double.fractionBits + 2)).map Ieee.double.write = some r from h)
    obtain ⟨a1, a2⟩ := root_not_nan hd
    have e1 : absF x = some x := by
      have : isN x = false := a2
      unfold absF; rw [this]; rfl
    have e2 : absF r = some r := by
      have : isN r = false := by rw [← hr]; exact write_not_nan a1
      unfold absF; rw [this]; rfl
    rw [e1, e2]
    exact h2.symm
  | none =>
    refine ⟨(w.tape w.drawn (.nanBits .f64 x x)) % 2 * 2 ^ 63 + 0x7ff0000000000000 + 1 + (w.tape w.drawn (.nanBits .f64 x x)) / 2 % (2 ^ 52 - 1), 1, ?_, ?_⟩
    · have hq : (choose (.nanBits .f64 x x)).run Try.prog w = .ok ((w.tape w.drawn (.nanBits .f64 x x)) % 2 * 2 ^ 63 + 0x7ff0000000000000 + 1 + (w.tape w.drawn (.nanBits .f64 x x)) / 2 % (2 ^ 52 - 1)) w.drew := by
        rw [run_choose_drew]
        rfl
      simp only [Sem.run_bind, Sem.run_pure, Result.andThen_ok, hq]
      rfl
    · have e1 : rootA (absF x) = none := by
        unfold rootA absF
        cases isN x <;> simp [h]
      rw [e1]
      unfold absF
      rw [cut_nan]
      rfl
theorem sqrt_a (x : Nat) (w : World) : Calls Try.prog 35 #[.float .f64 x] w fun e w' => ∃ r n, e = .returned (.float .f64 r) ∧ Hid (absF r = rootA (absF x)) ∧ w' = w.drewN n := by
  obtain ⟨r, n, hs, hr⟩ := sqrt_anyF x w
  have HR := Lib.hid hr
  clear hr
  go_enter Try.func35, Try.ntmps35
  go_wp2
  go_ret
  exact ⟨r, n, rfl, HR, rfl⟩
theorem inf_pos (w : World) : Calls Try.prog 19 #[.int .i64 1] w fun e w' => e = .returned (.float .f64 9218868437227405312) ∧ w' = w := by
  have hs : ∀ w, (callFunc 40 #[.int .u64 9218868437227405312]).run Try.prog w = .ok (.value (.float .f64 9218868437227405312)) w := bits_callM 9218868437227405312
  go_enter Try.func19, Try.ntmps19
  go_wp2
  go_ret
  exact ⟨rfl, rfl⟩
theorem alikeF (x y : Nat) (w : World) (h : absF x = absF y) : Calls Try.prog 13 #[.float .f64 x, .float .f64 y] w fun e w' => e = .returned (.bool true) ∧ w' = w := by
  cases hx : absF x with
  | none =>
    have hy : absF y = none := by rw [← h, hx]
    have o1 := ordN1 y (absF_n hx)
    have o2 := ordN1 x (absF_n hx)
    have o3 := ordN1 y (absF_n hy)
    clear hx hy h
    go_enter Try.func13, Try.ntmps13
    go_wp2
    go_ret
    exact ⟨rfl, rfl⟩
  | some z =>
    have hy : absF y = some z := by rw [← h, hx]
    obtain ⟨rfl, hn⟩ := absF_s hx
    obtain ⟨rfl, -⟩ := absF_s hy
    clear hx hy h hn
    by_cases h : FloatKind.f64.format.order y y = some Ordering.eq
    · go_enter Try.func13, Try.ntmps13
      go_wp2
      go_ret
      exact ⟨ret_bool (by simp [h]), rfl⟩
    · go_enter Try.func13, Try.ntmps13
      go_wp2
      go_ret
      exact ⟨ret_bool (by simp; exact Classical.em _), rfl⟩

set_option maxHeartbeats 1000000 in
theorem mean_a (A : Option Addr) (n c : Nat) (x : List Nat) (w : World) (hR : Rd w 1 A n (x.map flV)) (hn : n ≤ 17592186044416) :
    Calls Try.prog 14 #[.slice A n c] w fun e w' => ∃ r q, e = .returned (.float .f64 r) ∧ Hid (absF r = meanA x n) ∧ w' = w.drewN q := by
  have hl : x.length = n := by simpa using hR.1
  have HL := Lib.hid hl
  clear hl
  go_enter Try.func14, Try.ntmps14
  by_cases h0 : n = 0
  · subst h0
    go_wp2
    go_ret
    exact ⟨0, 0, rfl, absF_zero9, rfl⟩
  have hn2 : ((n : Int) == 0) = false := by simp; omega
  go_wp2
  go_loopw [3, 11] (fun s i wr => ∃ j q T : Nat, j ≤ n ∧ i = .int .i64 (j : Int) ∧ s = .float .f64 T ∧ Hid (absF T = sumO x j) ∧ wr = w.drewN q) (fun _ i _ => n - (intOf i).toNat)
  case atStart => exact ⟨0, 0, 0, Nat.zero_le _, rfl, rfl, absF_zero9, rfl⟩
  case round =>
    obtain ⟨j, q, T, hj, rfl, rfl, HT, rfl⟩ := hrel
    by_cases hlt : j < n
    · obtain ⟨v, hv⟩ : ∃ v, x[j]? = some v := ⟨_, List.getElem?_eq_getElem (by rw [HL.out]; exact hlt)⟩
      obtain ⟨g, o, rfl, -, hc⟩ := hR.flat (by omega) (by omega)
      have c1 := hc j (flV v) (by rw [List.getElem?_map, hv]; rfl)
      obtain ⟨r, n1, m1, e1⟩ := run_float_any (P := Try.prog) (w.drewN q) .add rfl 25 T v
      have HE : Hid (absF r = sumO x (j + 1)) := by
        unfold Hid sumO
        rw [List.getD_eq_getElem?_getD, hv, e1, HT.out]; rfl
      have hji : (j : Int) < n := by omega
      clear hc hv e1 HT
      go_wp2
      go_roundw
      case rel => exact ⟨j + 1, _, r, by omega, by go_num, rfl, HE, rfl⟩
      case measure => simp [intOf]; omega
    · obtain rfl : j = n := by omega
      have hji : ¬ (j : Int) < j := by omega
      obtain ⟨r, n1, m1, e1⟩ := run_float_any (P := Try.prog) (w.drewN q) .quo rfl 25 T (floatOfInt .f64 (j : Int))
      have HE : Hid (absF r = meanA x j) := by
        unfold Hid meanA
        rw [if_neg h0, e1, HT.out, absF_int]
      clear e1 HT
      go_wp2
      go_ret
      exact ⟨r, rfl, HE, _, rfl⟩

set_option maxHeartbeats 1000000 in
theorem refMean_a (A : Option Addr) (n c : Nat) (x : List Nat) (w : World) (hR : Rd w 1 A n (x.map flV)) (hn : n ≤ 17592186044416) :
    Calls Try.prog 15 #[.slice A n c] w fun e w' => ∃ r q, e = .returned (.float .f64 r) ∧ Hid (absF r = meanA x n) ∧ w' = w.drewN q := by
  have hl : x.length = n := by simpa using hR.1
  have HL := Lib.hid hl
  clear hl
  go_enter Try.func15, Try.ntmps15
  by_cases h0 : n = 0
  · subst h0
    go_wp2
    go_ret
    exact ⟨0, 0, rfl, absF_zero9, rfl⟩
  have hn2 : ((n : Int) == 0) = false := by simp; omega
  go_wp2
  go_loopw [3, 4] (fun s i wr => ∃ j q T : Nat, j ≤ n ∧ i = .int .i64 (j : Int) ∧ s = .float .f64 T ∧ Hid (absF T = sumO x j) ∧ wr = w.drewN q) (fun _ i _ => n - (intOf i).toNat)
  case atStart => exact ⟨0, 0, 0, Nat.zero_le _, rfl, rfl, absF_zero9, rfl⟩
  case round =>
    obtain ⟨j, q, T, hj, rfl, rfl, HT, rfl⟩ := hrel
    by_cases hlt : j < n
    · obtain ⟨v, hv⟩ : ∃ v, x[j]? = some v := ⟨_, List.getElem?_eq_getElem (by rw [HL.out]; exact hlt)⟩
      obtain ⟨g, o, rfl, -, hc⟩ := hR.flat (by omega) (by omega)
      have c1 := hc j (flV v) (by rw [List.getElem?_map, hv]; rfl)
      obtain ⟨r, n1, m1, e1⟩ := run_float_any (P := Try.prog) (w.drewN q) .add rfl 25 T v
      have HE : Hid (absF r = sumO x (j + 1)) := by
        unfold Hid sumO
        rw [List.getD_eq_getElem?_getD, hv, e1, HT.out]; rfl
      have hji : (j : Int) < n := by omega
      clear hc hv e1 HT
      go_wp2
      go_roundw
      case rel => exact ⟨j + 1, _, r, by omega, by go_num, rfl, HE, rfl⟩
      case measure => simp [intOf]; omega
    · obtain rfl : j = n := by omega
      have hji : ¬ (j : Int) < j := by omega
      obtain ⟨r, n1, m1, e1⟩ := run_float_any (P := Try.prog) (w.drewN q) .quo rfl 25 T (floatOfInt .f64 (j : Int))
      have HE : Hid (absF r = meanA x j) := by
        unfold Hid meanA
        rw [if_neg h0, e1, HT.out, absF_int]
      clear e1 HT
      go_wp2
      go_ret
      exact ⟨r, rfl, HE, _, rfl⟩

set_option maxHeartbeats 1000000 in
theorem spread_a (A : Option Addr) (n c : Nat) (x : List Nat) (w : World) (hR : Rd w 1 A n (x.map flV)) (hn : n ≤ 17592186044416) :
    Calls Try.prog 16 #[.slice A n c] w fun e w' => ∃ r q, e = .returned (.float .f64 r) ∧ Hid (absF r = spreadA x n) ∧ w' = w.drewN q := by
  have hl : x.length = n := by simpa using hR.1
  have HL := Lib.hid hl
  clear hl
  go_enter Try.func16, Try.ntmps16
  by_cases h0 : n < 2
  · have hn2 : decide ((n : Int) < 2) = true := by simp; omega
    go_wp2
    go_ret
    exact ⟨0, 0, rfl, by unfold Hid spreadA; rw [if_pos h0]; exact absF_zero9, rfl⟩
  have hn2 : decide ((n : Int) < 2) = false := by simp; omega
  go_wp2_with fail
  refine (mean_a A n c x w hR hn).mono ?_
  rintro e w1 ⟨mm, q0, rfl, HM, rfl⟩
  have w1 : IntKind.i64.wrap ((n : Int) - 1) = (n : Int) - 1 := IntWalk.i64_in _ (by omega)
  go_wp2
  go_loopw [4, 16] (fun s i wr => ∃ j q T : Nat, j ≤ n ∧ i = .int .i64 (j : Int) ∧ s = .float .f64 T ∧ Hid (absF T = sqO x (meanA x n) j) ∧ wr = w.drewN q) (fun _ i _ => n - (intOf i).toNat)
  case atStart => exact ⟨0, q0, 0, Nat.zero_le _, rfl, rfl, absF_zero9, rfl⟩
  case round =>
    obtain ⟨j, q, T, hj, rfl, rfl, HT, rfl⟩ := hrel
    by_cases hlt : j < n
    · obtain ⟨v, hv⟩ : ∃ v, x[j]? = some v := ⟨_, List.getElem?_eq_getElem (by rw [HL.out]; exact hlt)⟩
      obtain ⟨g, o, rfl, -, hc⟩ := hR.flat (by omega) (by omega)
      have c1 := hc j (flV v) (by rw [List.getElem?_map, hv]; rfl)
      obtain ⟨d, n1, m1, e1⟩ := run_float_any (P := Try.prog) (w.drewN q) .sub rfl 25 v mm
      obtain ⟨s, n2, m2, e2⟩ := run_float_any (P := Try.prog) (w.drewN (q + n1)) .mul rfl 25 d d
      obtain ⟨r, n3, m3, e3⟩ := run_float_any (P := Try.prog) (w.drewN (q + n1 + n2)) .add rfl 25 T s
      have HE : Hid (absF r = sqO x (meanA x n) (j + 1)) := by
        unfold Hid sqO
        rw [List.getD_eq_getElem?_getD, hv, e3, HT.out, e2, e1, HM.out]; rfl
      have hji : (j : Int) < n := by omega
      clear hc hv e1 e2 e3 HT
      go_wp2
      go_roundw
      case rel => exact ⟨j + 1, _, r, by omega, by go_num, rfl, HE, rfl⟩
      case measure => simp [intOf]; omega
    · obtain rfl : j = n := by omega
      have hji : ¬ (j : Int) < j := by omega
      obtain ⟨r, n1, m1, e1⟩ := run_float_any (P := Try.prog) (w.drewN q) .quo rfl 25 T (floatOfInt .f64 ((j : Int) - 1))
      have HE : Hid (absF r = spreadA x j) := by
        unfold Hid spreadA
        rw [if_neg h0, e1, HT.out, absF_int]
      clear e1 HT
      go_wp2
      go_ret
      exact ⟨r, rfl, HE, _, rfl⟩

set_option maxHeartbeats 1000000 in
theorem refSpread_a (A : Option Addr) (n c : Nat) (x : List Nat) (w : World) (hR : Rd w 1 A n (x.map flV)) (hn : n ≤ 17592186044416) :
    Calls Try.prog 17 #[.slice A n c] w fun e w' => ∃ r q, e = .returned (.float .f64 r) ∧ Hid (absF r = spreadA x n) ∧ w' = w.drewN q := by
  have hl : x.length = n := by simpa using hR.1
  have HL := Lib.hid hl
  clear hl
  go_enter Try.func17, Try.ntmps17
  by_cases h0 : n < 2
  · have hn2 : decide ((n : Int) < 2) = true := by simp; omega
    go_wp2
    go_ret
    exact ⟨0, 0, rfl, by unfold Hid spreadA; rw [if_pos h0]; exact absF_zero9, rfl⟩
  have hn2 : decide ((n : Int) < 2) = false := by simp; omega
  go_wp2_with fail
  refine (refMean_a A n c x w hR hn).mono ?_
  rintro e w1 ⟨mm, q0, rfl, HM, rfl⟩
  have w1 : IntKind.i64.wrap ((n : Int) - 1) = (n : Int) - 1 := IntWalk.i64_in _ (by omega)
  go_wp2
  go_loopw [4, 5] (fun s i wr => ∃ j q T : Nat, j ≤ n ∧ i = .int .i64 (j : Int) ∧ s = .float .f64 T ∧ Hid (absF T = sqO x (meanA x n) j) ∧ wr = w.drewN q) (fun _ i _ => n - (intOf i).toNat)
  case atStart => exact ⟨0, q0, 0, Nat.zero_le _, rfl, rfl, absF_zero9, rfl⟩
  case round =>
    obtain ⟨j, q, T, hj, rfl, rfl, HT, rfl⟩ := hrel
    by_cases hlt : j < n
    · obtain ⟨v, hv⟩ : ∃ v, x[j]? = some v := ⟨_, List.getElem?_eq_getElem (by rw [HL.out]; exact hlt)⟩
      obtain ⟨g, o, rfl, -, hc⟩ := hR.flat (by omega) (by omega)
      have c1 := hc j (flV v) (by rw [List.getElem?_map, hv]; rfl)
      obtain ⟨d, n1, m1, e1⟩ := run_float_any (P := Try.prog) (w.drewN q) .sub rfl 25 v mm
      obtain ⟨s, n2, m2, e2⟩ := run_float_any (P := Try.prog) (w.drewN (q + n1)) .mul rfl 25 d d
      obtain ⟨r, n3, m3, e3⟩ := run_float_any (P := Try.prog) (w.drewN (q + n1 + n2)) .add rfl 25 T s
      have HE : Hid (absF r = sqO x (meanA x n) (j + 1)) := by
        unfold Hid sqO
        rw [List.getD_eq_getElem?_getD, hv, e3, HT.out, e2, e1, HM.out]; rfl
      have hji : (j : Int) < n := by omega
      clear hc hv e1 e2 e3 HT
      go_wp2
      go_roundw
      case rel => exact ⟨j + 1, _, r, by omega, by go_num, rfl, HE, rfl⟩
      case measure => simp [intOf]; omega
    · obtain rfl : j = n := by omega
      have hji : ¬ (j : Int) < j := by omega
      obtain ⟨r, n1, m1, e1⟩ := run_float_any (P := Try.prog) (w.drewN q) .quo rfl 25 T (floatOfInt .f64 ((j : Int) - 1))
      have HE : Hid (absF r = spreadA x j) := by
        unfold Hid spreadA
        rw [if_neg h0, e1, HT.out, absF_int]
      clear e1 HT
      go_wp2
      go_ret
      exact ⟨r, rfl, HE, _, rfl⟩

set_option maxHeartbeats 2000000 in
theorem t_a (A B : Option Addr) (n m c d : Nat) (x y : List Nat) (w : World) (hA : Rd w 1 A n (x.map flV)) (hB : Rd w 1 B m (y.map flV)) (hn : n ≤ 17592186044416) (hm : m ≤ 17592186044416) :
    Calls Try.prog 11 #[.slice A n c, .slice B m d] w fun e w' => ∃ r q, e = .returned (.tuple #[.float .f64 r, .int .i64 (tE n m)]) ∧ Hid (absF r = tA x n y m) ∧ w' = w.drewN q := by
  by_cases h1 : n < 2
  · have hn2 : decide ((n : Int) < 2) = true := by simp; omega
    rw [show tE n m = 2 from if_pos (.inl h1)]
    go_enter Try.func11, Try.ntmps11
    go_wp2
    go_ret2
    exact ⟨0, 0, rfl, by unfold Hid tA; rw [if_pos (.inl h1)]; exact absF_zero9, rfl⟩
  have hn2 : decide ((n : Int) < 2) = false := by simp; omega
  by_cases h2 : m < 2
  · have hm2 : decide ((m : Int) < 2) = true := by simp; omega
    rw [show tE n m = 2 from if_pos (.inr h2)]
    go_enter Try.func11, Try.ntmps11
    go_wp2
    go_ret2
    exact ⟨0, 0, rfl, by unfold Hid tA; rw [if_pos (.inr h2)]; exact absF_zero9, rfl⟩
  have hm2 : decide ((m : Int) < 2) = false := by simp; omega
  rw [show tE n m = 0 from if_neg (by omega)]
  have HTA : Hid (tA x n y m = tRes (dA x n y m) (sA x n y m)) := if_neg (by omega)
  rw [HTA.out]
  obtain ⟨D, HDD⟩ : ∃ D, Hid (dA x n y m = D) := ⟨_, rfl⟩
  obtain ⟨S, HSS⟩ : ∃ S, Hid (sA x n y m = S) := ⟨_, rfl⟩
  rw [HDD.out, HSS.out]
  go_enter Try.func11, Try.ntmps11
  go_wp2_with fail
  refine (mean_a A n c x w hA hn).mono ?_
  rintro e w1 ⟨ma, q1, rfl, H1, rfl⟩
  go_wp2_with fail
  refine (mean_a B m d y _ (hB.drewN _) hm).mono ?_
  rintro e w1 ⟨mb, q2, rfl, H2, rfl⟩
  obtain ⟨dd, n1, m1, e1⟩ := run_float_any (P := Try.prog) (w.drewN (q1 + q2)) .sub rfl 25 ma mb
  go_wp2_with fail
  refine (spread_a A n c x _ (hA.drewN _) hn).mono ?_
  rintro e w1 ⟨sa, q3, rfl, H3, rfl⟩
  obtain ⟨p, n2, m2, e2⟩ := run_float_any (P := Try.prog) (w.drewN (q1 + q2 + n1 + q3)) .quo rfl 25 sa (floatOfInt .f64 (n : Int))
  go_wp2_with fail
  refine (spread_a B m d y _ (hB.drewN _) hm).mono ?_
  rintro e w1 ⟨sb, q4, rfl, H4, rfl⟩
  obtain ⟨q, n3, m3, e3⟩ := run_float_any (P := Try.prog) (w.drewN (q1 + q2 + n1 + q3 + n2 + q4)) .quo rfl 25 sb (floatOfInt .f64 (m : Int))
  obtain ⟨s, n4, m4, e4⟩ := run_float_any (P := Try.prog) (w.drewN (q1 + q2 + n1 + q3 + n2 + q4 + n3)) .add rfl 25 p q
  have hD : absF dd = dA x n y m := by rw [e1, H1.out, H2.out]; rfl
  have hS : absF s = sA x n y m := by rw [e4, e2, e3, H3.out, H4.out, absF_int, absF_int]; rfl
  clear e1 e2 e3 e4 H1 H2 H3 H4
  rw [HDD.out] at hD
  rw [HSS.out] at hS
  have o1 := ordA_eq s 0
  have o2 := ordA_eq dd 0
  rw [absF_zero9] at o1 o2
  rw [hS] at o1
  rw [hD] at o2
  have HD := Lib.hid hD
  have HS := Lib.hid hS
  clear hD hS
  rcases hs : ordA S (some 0) with _ | (_ | _ | _)
  · rw [hs] at o1
    have HR : Hid (tRes D S = opA .quo D (rootA S)) := by unfold Hid tRes; rw [hs]; rfl
    clear o2 hs
    go_wp2_with fail
    refine (sqrt_a s _).mono ?_
    rintro e w1 ⟨rt, q5, rfl, H5, rfl⟩
    obtain ⟨r, n5, m5, e5⟩ := run_float_any (P := Try.prog) (w.drewN (q1 + q2 + n1 + q3 + n2 + q4 + n3 + n4 + q5)) .quo rfl 25 dd rt
    have HE := Lib.hid (show absF r = tRes D S by rw [e5, HR.out, HD.out, H5.out, HS.out])
    clear e5
    go_wp2
    go_ret2
    exact ⟨r, _, rfl, HE, rfl⟩
  · rw [hs] at o1
    have HR : Hid (tRes D S = opA .quo D (rootA S)) := by unfold Hid tRes; rw [hs]; rfl
    clear o2 hs
    go_wp2_with fail
    refine (sqrt_a s _).mono ?_
    rintro e w1 ⟨rt, q5, rfl, H5, rfl⟩
    obtain ⟨r, n5, m5, e5⟩ := run_float_any (P := Try.prog) (w.drewN (q1 + q2 + n1 + q3 + n2 + q4 + n3 + n4 + q5)) .quo rfl 25 dd rt
    have HE := Lib.hid (show absF r = tRes D S by rw [e5, HR.out, HD.out, H5.out, HS.out])
    clear e5
    go_wp2
    go_ret2
    exact ⟨r, _, rfl, HE, rfl⟩
  · rw [hs] at o1
    rcases hd : ordA D (some 0) with _ | (_ | _ | _)
    · rw [hd] at o2
      have HR : Hid (tRes D S = some 18442240474082181120) := by unfold Hid tRes; rw [hs, hd]; rfl
      clear hs hd
      go_wp2_with fail
      refine (inf_neg _).mono ?_
      rintro e w1 ⟨rfl, rfl⟩
      go_wp2
      go_ret2
      exact ⟨_, _, rfl, by unfold Hid; rw [HR.out]; decide +kernel, rfl⟩
    · rw [hd] at o2
      have HR : Hid (tRes D S = some 18442240474082181120) := by unfold Hid tRes; rw [hs, hd]; rfl
      clear hs hd
      go_wp2_with fail
      refine (inf_neg _).mono ?_
      rintro e w1 ⟨rfl, rfl⟩
      go_wp2
      go_ret2
      exact ⟨_, _, rfl, by unfold Hid; rw [HR.out]; decide +kernel, rfl⟩
    · rw [hd] at o2
      have HR : Hid (tRes D S = some 0) := by unfold Hid tRes; rw [hs, hd]; rfl
      clear hs hd
      go_wp2
      go_ret2
      exact ⟨_, _, rfl, by unfold Hid; rw [HR.out]; decide +kernel, rfl⟩
    · rw [hd] at o2
      have HR : Hid (tRes D S = some 9218868437227405312) := by unfold Hid tRes; rw [hs, hd]; rfl
      clear hs hd
      go_wp2_with fail
      refine (inf_pos _).mono ?_
      rintro e w1 ⟨rfl, rfl⟩
      go_wp2
      go_ret2
      exact ⟨_, _, rfl, by unfold Hid; rw [HR.out]; decide +kernel, rfl⟩
  · rw [hs] at o1
    have HR : Hid (tRes D S = opA .quo D (rootA S)) := by unfold Hid tRes; rw [hs]; rfl
    clear o2 hs
    go_wp2_with fail
    refine (sqrt_a s _).mono ?_
    rintro e w1 ⟨rt, q5, rfl, H5, rfl⟩
    obtain ⟨r, n5, m5, e5⟩ := run_float_any (P := Try.prog) (w.drewN (q1 + q2 + n1 + q3 + n2 + q4 + n3 + n4 + q5)) .quo rfl 25 dd rt
    have HE := Lib.hid (show absF r = tRes D S by rw [e5, HR.out, HD.out, H5.out, HS.out])
    clear e5
    go_wp2
    go_ret2
    exact ⟨r, _, rfl, HE, rfl⟩

set_option maxHeartbeats 2000000 in
theorem refT_a (A B : Option Addr) (n m c d : Nat) (x y : List Nat) (w : World) (hA : Rd w 1 A n (x.map flV)) (hB : Rd w 1 B m (y.map flV)) (hn : n ≤ 17592186044416) (hm : m ≤ 17592186044416) :
    Calls Try.prog 12 #[.slice A n c, .slice B m d] w fun e w' => ∃ r q, e = .returned (.tuple #[.float .f64 r, .int .i64 (tE n m)]) ∧ Hid (absF r = tA x n y m) ∧ w' = w.drewN q := by
  by_cases h1 : n < 2
  · have hn2 : decide ((n : Int) < 2) = true := by simp; omega
    rw [show tE n m = 2 from if_pos (.inl h1)]
    go_enter Try.func12, Try.ntmps12
    go_wp2
    go_ret2
    exact ⟨0, 0, rfl, by unfold Hid tA; rw [if_pos (.inl h1)]; exact absF_zero9, rfl⟩
  have hn2 : decide ((n : Int) < 2) = false := by simp; omega
  by_cases h2 : m < 2
  · have hm2 : decide ((m : Int) < 2) = true := by simp; omega
    rw [show tE n m = 2 from if_pos (.inr h2)]
    go_enter Try.func12, Try.ntmps12
    go_wp2
    go_ret2
    exact ⟨0, 0, rfl, by unfold Hid tA; rw [if_pos (.inr h2)]; exact absF_zero9, rfl⟩
  have hm2 : decide ((m : Int) < 2) = false := by simp; omega
  rw [show tE n m = 0 from if_neg (by omega)]
  have HTA : Hid (tA x n y m = tRes (dA x n y m) (sA x n y m)) := if_neg (by omega)
  rw [HTA.out]
  obtain ⟨D, HDD⟩ : ∃ D, Hid (dA x n y m = D) := ⟨_, rfl⟩
  obtain ⟨S, HSS⟩ : ∃ S, Hid (sA x n y m = S) := ⟨_, rfl⟩
  rw [HDD.out, HSS.out]
  go_enter Try.func12, Try.ntmps12
  go_wp2_with fail
  refine (refMean_a A n c x w hA hn).mono ?_
  rintro e w1 ⟨ma, q1, rfl, H1, rfl⟩
  go_wp2_with fail
  refine (refMean_a B m d y _ (hB.drewN _) hm).mono ?_
  rintro e w1 ⟨mb, q2, rfl, H2, rfl⟩
  obtain ⟨dd, n1, m1, e1⟩ := run_float_any (P := Try.prog) (w.drewN (q1 + q2)) .sub rfl 25 ma mb
  go_wp2_with fail
  refine (refSpread_a A n c x _ (hA.drewN _) hn).mono ?_
  rintro e w1 ⟨sa, q3, rfl, H3, rfl⟩
  obtain ⟨p, n2, m2, e2⟩ := run_float_any (P := Try.prog) (w.drewN (q1 + q2 + n1 + q3)) .quo rfl 25 sa (floatOfInt .f64 (n : Int))
  go_wp2_with fail
  refine (refSpread_a B m d y _ (hB.drewN _) hm).mono ?_
  rintro e w1 ⟨sb, q4, rfl, H4, rfl⟩
  obtain ⟨q, n3, m3, e3⟩ := run_float_any (P := Try.prog) (w.drewN (q1 + q2 + n1 + q3 + n2 + q4)) .quo rfl 25 sb (floatOfInt .f64 (m : Int))
  obtain ⟨s, n4, m4, e4⟩ := run_float_any (P := Try.prog) (w.drewN (q1 + q2 + n1 + q3 + n2 + q4 + n3)) .add rfl 25 p q
  have hD : absF dd = dA x n y m := by rw [e1, H1.out, H2.out]; rfl
  have hS : absF s = sA x n y m := by rw [e4, e2, e3, H3.out, H4.out, absF_int, absF_int]; rfl
  clear e1 e2 e3 e4 H1 H2 H3 H4
  rw [HDD.out] at hD
  rw [HSS.out] at hS
  have o1 := ordA_eq s 0
  have o2 := ordA_eq dd 0
  rw [absF_zero9] at o1 o2
  rw [hS] at o1
  rw [hD] at o2
  have HD := Lib.hid hD
  have HS := Lib.hid hS
  clear hD hS
  rcases hs : ordA S (some 0) with _ | (_ | _ | _)
  · rw [hs] at o1
    have HR : Hid (tRes D S = opA .quo D (rootA S)) := by unfold Hid tRes; rw [hs]; rfl
    clear o2 hs
    go_wp2_with fail
    refine (sqrt_a s _).mono ?_
    rintro e w1 ⟨rt, q5, rfl, H5, rfl⟩
    obtain ⟨r, n5, m5, e5⟩ := run_float_any (P := Try.prog) (w.drewN (q1 + q2 + n1 + q3 + n2 + q4 + n3 + n4 + q5)) .quo rfl 25 dd rt
    have HE := Lib.hid (show absF r = tRes D S by rw [e5, HR.out, HD.out, H5.out, HS.out])
    clear e5
    go_wp2
    go_ret2
    exact ⟨r, _, rfl, HE, rfl⟩
  · rw [hs] at o1
    have HR : Hid (tRes D S = opA .quo D (rootA S)) := by unfold Hid tRes; rw [hs]; rfl
    clear o2 hs
    go_wp2_with fail
    refine (sqrt_a s _).mono ?_
    rintro e w1 ⟨rt, q5, rfl, H5, rfl⟩
    obtain ⟨r, n5, m5, e5⟩ := run_float_any (P := Try.prog) (w.drewN (q1 + q2 + n1 + q3 + n2 + q4 + n3 + n4 + q5)) .quo rfl 25 dd rt
    have HE := Lib.hid (show absF r = tRes D S by rw [e5, HR.out, HD.out, H5.out, HS.out])
    clear e5
    go_wp2
    go_ret2
    exact ⟨r, _, rfl, HE, rfl⟩
  · rw [hs] at o1
    rcases hd : ordA D (some 0) with _ | (_ | _ | _)
    · rw [hd] at o2
      have HR : Hid (tRes D S = some 18442240474082181120) := by unfold Hid tRes; rw [hs, hd]; rfl
      clear hs hd
      go_wp2_with fail
      refine (inf_neg _).mono ?_
      rintro e w1 ⟨rfl, rfl⟩
      go_wp2
      go_ret2
      exact ⟨_, _, rfl, by unfold Hid; rw [HR.out]; decide +kernel, rfl⟩
    · rw [hd] at o2
      have HR : Hid (tRes D S = some 18442240474082181120) := by unfold Hid tRes; rw [hs, hd]; rfl
      clear hs hd
      go_wp2_with fail
      refine (inf_neg _).mono ?_
      rintro e w1 ⟨rfl, rfl⟩
      go_wp2
      go_ret2
      exact ⟨_, _, rfl, by unfold Hid; rw [HR.out]; decide +kernel, rfl⟩
    · rw [hd] at o2
      have HR : Hid (tRes D S = some 0) := by unfold Hid tRes; rw [hs, hd]; rfl
      clear hs hd
      go_wp2
      go_ret2
      exact ⟨_, _, rfl, by unfold Hid; rw [HR.out]; decide +kernel, rfl⟩
    · rw [hd] at o2
      have HR : Hid (tRes D S = some 9218868437227405312) := by unfold Hid tRes; rw [hs, hd]; rfl
      clear hs hd
      go_wp2_with fail
      refine (inf_pos _).mono ?_
      rintro e w1 ⟨rfl, rfl⟩
      go_wp2
      go_ret2
      exact ⟨_, _, rfl, by unfold Hid; rw [HR.out]; decide +kernel, rfl⟩
  · rw [hs] at o1
    have HR : Hid (tRes D S = opA .quo D (rootA S)) := by unfold Hid tRes; rw [hs]; rfl
    clear o2 hs
    go_wp2_with fail
    refine (sqrt_a s _).mono ?_
    rintro e w1 ⟨rt, q5, rfl, H5, rfl⟩
    obtain ⟨r, n5, m5, e5⟩ := run_float_any (P := Try.prog) (w.drewN (q1 + q2 + n1 + q3 + n2 + q4 + n3 + n4 + q5)) .quo rfl 25 dd rt
    have HE := Lib.hid (show absF r = tRes D S by rw [e5, HR.out, HD.out, H5.out, HS.out])
    clear e5
    go_wp2
    go_ret2
    exact ⟨r, _, rfl, HE, rfl⟩

end Go.Proofs.Ytpmgklmgaienhaa
