/- Mean, spread and t of rows of one whole number. Nothing here walks. -/
import Derived.Test.YtpmgklmgaienhaaMeB
import Derived.Test.YtpmgklmgaienhaaFly
namespace Go.Proofs.Ytpmgklmgaienhaa
open Go Ieee
set_option linter.unusedVariables false

theorem small53 {n : Nat} (h : n ≤ 100000) : n < 2 ^ 53 := Nat.lt_of_le_of_lt h (by decide)
theorem rep_get (k j w : Nat) (h : j < k) : (List.replicate k w).getD j 0 = w := by
  rw [List.getD_eq_getElem?_getD, List.getElem?_replicate, if_pos h]; rfl
theorem sum_rep {w : Nat} {X : Int} (hw : Is w (X * 2 ^ uE)) (hX : X.natAbs ≤ 2 ^ 31) (k : Nat) (hk : k ≤ 300) : ∀ j, j ≤ k → ∃ s, sumO (List.replicate k w) j = some s ∧ Is s ((j : Int) * X * 2 ^ uE) := by
  intro j
  induction j with
  | zero => intro _; exact ⟨0, rfl, by simpa using zeroW⟩
  | succ j ih =>
    intro hj
    obtain ⟨s, e, i⟩ := ih (by omega)
    have hb : ((j : Int) * X + X).natAbs < 2 ^ 53 := by
      have e : (j : Int) * X + X = ((j + 1 : Nat) : Int) * X := by rw [show ((j + 1 : Nat) : Int) = (j : Int) + 1 by omega, Int.add_mul, Int.one_mul]
      rw [e, Int.natAbs_mul]
      refine Nat.lt_of_le_of_lt (Nat.mul_le_mul (show Int.natAbs ((j + 1 : Nat) : Int) ≤ 300 by omega) hX) (by decide)
    obtain ⟨r, e2, i2⟩ := addW i hw hb
    refine ⟨r, ?_, ?_⟩
    · unfold sumO
      rw [e, rep_get k j w (by omega), hw.abs, e2]
    · rw [show ((j + 1 : Nat) : Int) * X = (j : Int) * X + X by rw [show ((j + 1 : Nat) : Int) = (j : Int) + 1 by omega, Int.add_mul, Int.one_mul]]
      exact i2
theorem mean_rep {w : Nat} {X : Int} (hw : Is w (X * 2 ^ uE)) (hX : X.natAbs ≤ 2 ^ 31) (k : Nat) (h0 : 0 < k) (hk : k ≤ 300) : ∃ r, meanA (List.replicate k w) k = some r ∧ Is r (X * 2 ^ uE) := by
  obtain ⟨s, e, i⟩ := sum_rep hw hX k hk k (Nat.le_refl _)
  obtain ⟨r, e2, i2⟩ := divW i (intW (n := (k : Int)) (small53 (by omega))) (by omega) (Nat.lt_of_le_of_lt hX (by decide))
  exact ⟨r, by unfold meanA; rw [if_neg (by omega), e, e2], i2⟩
theorem sq_rep {w : Nat} {X : Int} (hw : Is w (X * 2 ^ uE)) (m : Nat) (hm : Is m (X * 2 ^ uE)) (k : Nat) : ∀ j, j ≤ k → ∃ s, sqO (List.replicate k w) (some m) j = some s ∧ Is s (0 * 2 ^ uE) := by
  intro j
  induction j with
  | zero => intro _; exact ⟨0, rfl, zeroW⟩
  | succ j ih =>
    intro hj
    obtain ⟨s, e, i⟩ := ih (by omega)
    obtain ⟨d, e1, i1⟩ := subW hw hm (by rw [Int.sub_self]; decide)
    rw [Int.sub_self] at i1
    obtain ⟨q, e2, i2⟩ := mulW i1 i1 (by decide)
    rw [Int.zero_mul] at i2
    obtain ⟨r, e3, i3⟩ := addW i i2 (by decide)
    exact ⟨r, by unfold sqO; rw [e, rep_get k j w (by omega), hw.abs, e1, e2, e3], i3⟩
theorem spread_rep {w : Nat} {X : Int} (hw : Is w (X * 2 ^ uE)) (hX : X.natAbs ≤ 2 ^ 31) (k : Nat) (h0 : 0 < k) (hk : k ≤ 300) : ∃ r, spreadA (List.replicate k w) k = some r ∧ Is r (0 * 2 ^ uE) := by
  by_cases h2 : k < 2
  · exact ⟨0, by unfold spreadA; rw [if_pos h2], zeroW⟩
  · obtain ⟨m, em, im⟩ := mean_rep hw hX k h0 hk
    obtain ⟨s, e, i⟩ := sq_rep hw m im k k (Nat.le_refl _)
    obtain ⟨r, e2, i2⟩ := divW (N := (k : Int) - 1) (a := 0) (by rw [Int.mul_zero]; exact i) (intW (n := (k : Int) - 1) (small53 (by omega))) (by omega) (by decide)
    exact ⟨r, by unfold spreadA; rw [if_neg h2, em, e, e2], i2⟩
/-- Welch's t of two rows, each of one whole number -/
theorem t_rep {v w : Nat} {X Y : Int} (hv : Is v (X * 2 ^ uE)) (hw : Is w (Y * 2 ^ uE)) (hX : X.natAbs ≤ 2 ^ 31) (hY : Y.natAbs ≤ 2 ^ 31) (k m : Nat) (hk : 2 ≤ k) (hk3 : k ≤ 300) (hm : 2 ≤ m) (hm3 : m ≤ 300) :
    tA (List.replicate k v) k (List.replicate m w) m = some (if X = Y then 0 else if Y < X then 9218868437227405312 else 18442240474082181120) := by
  obtain ⟨a, ea, ia⟩ := mean_rep hv hX k (by omega) hk3
  obtain ⟨b, eb, ib⟩ := mean_rep hw hY m (by omega) hm3
  obtain ⟨p, ep, ip⟩ := spread_rep hv hX k (by omega) hk3
  obtain ⟨q, eq, iq⟩ := spread_rep hw hY m (by omega) hm3
  have h3 : (300 : Nat) < 2 ^ 53 := by decide
  have hXY : (X - Y).natAbs < 2 ^ 53 := by
    have : (2 : Nat) ^ 31 + 2 ^ 31 < 2 ^ 53 := by decide
    omega
  obtain ⟨d, ed, id⟩ := subW ia ib hXY
  obtain ⟨p2, ep2, ip2⟩ := divW (N := (k : Int)) (a := 0) (by rw [Int.mul_zero]; exact ip) (intW (n := (k : Int)) (by omega)) (by omega) (by decide)
  obtain ⟨q2, eq2, iq2⟩ := divW (N := (m : Int)) (a := 0) (by rw [Int.mul_zero]; exact iq) (intW (n := (m : Int)) (by omega)) (by omega) (by decide)
  obtain ⟨s, es, is⟩ := addW ip2 iq2 (by decide)
  have hD : dA (List.replicate k v) k (List.replicate m w) m = some d := by unfold dA; rw [ea, eb, ed]
  have hS : sA (List.replicate k v) k (List.replicate m w) m = some s := by unfold sA; rw [ep, eq, ep2, eq2, es]
  have o1 : ordA (some s) (some 0) = some Ordering.eq := by
    show FloatKind.f64.format.order s 0 = _
    rw [orderW is zeroW]; rfl
  have o2 : ordA (some d) (some 0) = some (compare (X - Y) 0) := orderW id zeroW
  unfold tA
  rw [if_neg (by omega), hD, hS]
  unfold tRes
  rw [o1, o2]
  by_cases h1 : X = Y
  · rw [if_pos h1, show X - Y = 0 by omega, cmp_eq]; rfl
  · rw [if_neg h1]
    by_cases h2 : Y < X
    · rw [if_pos h2, cmp_gt (show 0 < X - Y by omega)]; rfl
    · rw [if_neg h2, cmp_lt (show X - Y < 0 by omega)]; rfl
end Go.Proofs.Ytpmgklmgaienhaa
