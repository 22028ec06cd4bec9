/- Sums of whole numbers that are turned by eighths: what they stand for. Nothing here walks. -/
import Derived.Test.YtgaghggnjemgoaaEiAny
import Derived.Test.YtgaghggnjemgoaaFlx
namespace Go.Proofs.Ytgaghggnjemgoaa
open Go Ieee
set_option linter.unusedVariables false
set_option linter.unusedSimpArgs false

def vof (x : Nat) : Int := sg (x / 2 ^ 63 % 2 == 1) (mag (x % 2 ^ 63))
theorem vof_is {x : Nat} (h1 : x < 2 ^ 64) (h2 : x % 2 ^ 63 < infR) : Is x (vof x) := by
  refine ⟨_, _, ?_, h2, rfl⟩
  unfold Format.word
  rw [sw_eq]
  have hd : x / 2 ^ 63 = 0 ∨ x / 2 ^ 63 = 1 := by
    have : x / 2 ^ 63 < 2 := by omega
    omega
  rcases hd with h | h <;> rw [h]
  · simp; omega
  · simp; omega
def cre (c : Nat) : Int := vof (rootRe c)
def cim (c : Nat) : Int := vof (rootIm c)
theorem root_is {c : Nat} (h : c < 8) : Is (rootRe c) (cre c) ∧ Is (rootIm c) (cim c) := by
  have hh : ∀ c ∈ List.range 8, (rootRe c < 2 ^ 64 ∧ rootRe c % 2 ^ 63 < infR) ∧ (rootIm c < 2 ^ 64 ∧ rootIm c % 2 ^ 63 < infR) := by decide +kernel
  obtain ⟨⟨a1, a2⟩, b1, b2⟩ := hh c (List.mem_range.2 h)
  exact ⟨vof_is a1 a2, vof_is b1 b2⟩
theorem root_in {c : Nat} (h : c < 8) : (cre c).natAbs ≤ 2 ^ uE ∧ (cim c).natAbs ≤ 2 ^ uE := by
  have hh : ∀ c ∈ List.range 8, (cre c).natAbs ≤ 2 ^ uE ∧ (cim c).natAbs ≤ 2 ^ uE := by decide +kernel
  exact hh c (List.mem_range.2 h)
theorem root_mirror {c : Nat} (h : c < 8) : cre ((8 - c) % 8) = cre c ∧ cim ((8 - c) % 8) = -cim c := by
  have hh : ∀ c ∈ List.range 8, cre ((8 - c) % 8) = cre c ∧ cim ((8 - c) % 8) = -cim c := by decide +kernel
  exact hh c (List.mem_range.2 h)
/-- of quarters: whole -/
def qre (c : Nat) : Int := [1, 0, 0, 0, -1, 0, 0, 0].getD c 0
def qim (c : Nat) : Int := [0, 0, 1, 0, 0, 0, -1, 0].getD c 0
theorem root_quarter {c : Nat} (h : c < 8) (h2 : c % 2 = 0) : cre c = qre c * 2 ^ uE ∧ cim c = qim c * 2 ^ uE := by
  have hh : ∀ c ∈ List.range 8, c % 2 = 0 → cre c = qre c * 2 ^ uE ∧ cim c = qim c * 2 ^ uE := by decide +kernel
  exact hh c (List.mem_range.2 h) h2

/-- the sum, rounded at each step -/
def vsum (C X : Nat → Int) : Nat → Int
  | 0 => 0
  | n + 1 => rd (vsum C X n + rd (X n * C n))
theorem vsum_congr {C D X Y : Nat → Int} (hC : ∀ j, C j = D j) (n : Nat) (hX : ∀ j, j < n → X j = Y j) : vsum C X n = vsum D Y n := by
  induction n with
  | zero => rfl
  | succ n ih => unfold vsum; rw [ih (fun j hj => hX j (by omega)), hC, hX n (by omega)]
theorem vsum_neg {C D X : Nat → Int} (hC : ∀ j, D j = -C j) (n : Nat) : vsum D X n = -vsum C X n := by
  induction n with
  | zero => rfl
  | succ n ih =>
    unfold vsum
    rw [ih, hC, Int.mul_neg, rd_neg, show -vsum C X n + -rd (X n * C n) = -(vsum C X n + rd (X n * C n)) by omega, rd_neg]
theorem vsum_two {C X Y : Nat → Int} (n : Nat) (hX : ∀ j, j < n → Y j = 2 * X j) : vsum C Y n = 2 * vsum C X n := by
  induction n with
  | zero => rfl
  | succ n ih =>
    unfold vsum
    rw [ih (fun j hj => hX j (by omega)), hX n (by omega), Int.mul_assoc, rd_two, ← Int.mul_add, rd_two]
def isum (c X : Nat → Int) : Nat → Int
  | 0 => 0
  | n + 1 => isum c X n + X n * c n
theorem isum_in {c X : Nat → Int} {M : Nat} (hc : ∀ j, (c j).natAbs ≤ 1) : ∀ n, (∀ j, j < n → (X j).natAbs ≤ M) → (isum c X n).natAbs ≤ n * M := by
  intro n
  induction n with
  | zero => intro _; simp [isum]
  | succ n ih =>
    intro hX
    have h1 := ih fun j hj => hX j (by omega)
    have h2 : (X n * c n).natAbs ≤ M := by
      rw [Int.natAbs_mul]
      exact Nat.le_trans (Nat.mul_le_mul (hX n (by omega)) (hc n)) (by omega)
    unfold isum
    rw [Nat.add_mul, Nat.one_mul]
    exact Nat.le_trans (Int.natAbs_add_le _ _) (Nat.add_le_add h1 h2)
theorem vsum_exact {C c X : Nat → Int} {M : Nat} (hC : ∀ j, C j = c j * 2 ^ uE) (hc : ∀ j, (c j).natAbs ≤ 1) : ∀ n, (∀ j, j < n → (X j).natAbs ≤ M) → n * M < 2 ^ 53 → vsum C X n = isum c X n * 2 ^ uE := by
  intro n
  induction n with
  | zero => intro _ _; simp [isum, vsum]
  | succ n ih =>
    intro hX hM
    have hM2 : n * M < 2 ^ 53 := Nat.lt_of_le_of_lt (Nat.mul_le_mul_right _ (by omega)) hM
    unfold vsum isum
    rw [ih (fun j hj => hX j (by omega)) hM2, hC, ← Int.mul_assoc]
    have h2 : (X n * c n).natAbs ≤ M := by
      rw [Int.natAbs_mul]
      exact Nat.le_trans (Nat.mul_le_mul (hX n (by omega)) (hc n)) (by omega)
    have hMs : M < 2 ^ 53 := Nat.lt_of_le_of_lt (Nat.le_mul_of_pos_left M (by omega)) hM
    rw [rd_exact _ (Nat.lt_of_le_of_lt h2 hMs), ← Int.add_mul]
    have h3 := isum_in (M := M) hc (n + 1) hX
    unfold isum at h3
    exact rd_exact _ (Nat.lt_of_le_of_lt h3 hM)
theorem pow_1074 : (2 ^ uE : Int).natAbs = 2 ^ uE := by rw [Int.natAbs_pow]; rfl
theorem big_le {a : Nat} (h : a < 2 ^ 53) : a * 2 ^ uE ≤ 2 ^ (uT + uE) := by
  rw [Nat.pow_add]
  exact Nat.mul_le_mul_right _ (uT_53 h)
theorem opA_some {op : BinOp} {x y r : Nat} (h : floatBits op .f64 x y = some r) : opA op (some x) (some y) = some r := by simp [opA, h]
theorem one_term {x c s : Nat} {X C S : Int} {M a : Nat} (hx : Is x (X * 2 ^ uE)) (hX : X.natAbs ≤ M) (hc : Is c C) (hC : C.natAbs ≤ 2 ^ uE) (hs : Is s S) (hS : S.natAbs ≤ a * 2 ^ uE) (ha : a + M < 2 ^ 53) :
    ∃ r, opA .add (some s) (opA .mul (absF x) (some c)) = some r ∧ Is r (rd (S + rd (X * C))) ∧ (rd (S + rd (X * C))).natAbs ≤ (a + M) * 2 ^ uE := by
  have hq : (X * C).natAbs ≤ M * 2 ^ uE := by rw [Int.natAbs_mul]; exact Nat.mul_le_mul hX hC
  obtain ⟨p, e1, i1⟩ := mul_is hx hc (q := X * C) (by rw [Int.mul_assoc, Int.mul_comm (2 ^ uE) C, ← Int.mul_assoc]) (Nat.le_trans hq (big_le (by omega)))
  have hp : (rd (X * C)).natAbs ≤ M * 2 ^ uE := rd_le (by omega) hq
  have hsum : (S + rd (X * C)).natAbs ≤ (a + M) * 2 ^ uE := by
    rw [Nat.add_mul]
    exact Nat.le_trans (Int.natAbs_add_le _ _) (Nat.add_le_add hS hp)
  obtain ⟨r, e2, i2⟩ := add_is hs i1 (Nat.le_trans hsum (big_le ha))
  refine ⟨r, ?_, i2, rd_le ha hsum⟩
  rw [hx.abs, opA_some e1, opA_some e2]
theorem is_zero : Is 0 0 := ⟨false, 0, rfl, by decide +kernel, by simp [mag_zero, sg]⟩
theorem sumA_is (k : Nat) (x : List Nat) (X : Nat → Int) (M : Nat) : ∀ n, (∀ j, j < n → Is (x.getD j 0) (X j * 2 ^ uE) ∧ (X j).natAbs ≤ M) → n * M < 2 ^ 53 →
    ∃ r i, sumA k x n = (some r, some i) ∧ (Is r (vsum (fun j => cre (cix k j)) X n) ∧ (vsum (fun j => cre (cix k j)) X n).natAbs ≤ n * M * 2 ^ uE) ∧ (Is i (vsum (fun j => cim (cix k j)) X n) ∧ (vsum (fun j => cim (cix k j)) X n).natAbs ≤ n * M * 2 ^ uE) := by
  intro n
  induction n with
  | zero => intro _ _; exact ⟨0, 0, rfl, ⟨is_zero, by simp [vsum]⟩, is_zero, by simp [vsum]⟩
  | succ n ih =>
    intro hx hM
    rw [Nat.add_mul, Nat.one_mul] at hM ⊢
    obtain ⟨r, i, e, ⟨h1, h2⟩, h3, h4⟩ := ih (fun j hj => hx j (by omega)) (by omega)
    obtain ⟨hxn, hXn⟩ := hx n (by omega)
    have hc := cix_lt k n
    obtain ⟨r', e1, j1, j2⟩ := one_term hxn hXn (root_is hc).1 (root_in hc).1 h1 h2 hM
    obtain ⟨i', e2, j3, j4⟩ := one_term hxn hXn (root_is hc).2 (root_in hc).2 h3 h4 hM
    refine ⟨r', i', ?_, ⟨j1, j2⟩, j3, j4⟩
    show (opA .add (sumA k x n).1 _, opA .add (sumA k x n).2 _) = _
    rw [e, e1, e2]
theorem cix_mirror {k : Nat} (h : 0 < k) (h8 : k < 8) (j : Nat) : cix (8 - k) j = (8 - cix k j) % 8 := by
  unfold cix
  have e : ((8 - k : Nat) : Int) = 8 - (k : Int) := by omega
  rw [e, Int.mul_sub]
  generalize (j : Int) % 8 = z
  have e2 : -z * (k : Int) = -(z * k) := by rw [Int.neg_mul]
  rw [e2, Int.neg_mul]
  generalize z * (k : Int) = y
  omega
theorem cix_zero (j : Nat) : cix 0 j = 0 := by unfold cix; simp
theorem cix_four (j : Nat) : cix 4 j = if j % 2 = 0 then 0 else 4 := by
  unfold cix
  split <;> omega
/-- what the law of the mirror says of four sums -/
theorem mirror_facts (x y : List Nat) (X : Nat → Int) (n : Nat) (hn : n ≤ 1024) (hx : ∀ j, j < n → Is (x.getD j 0) (X j * 2 ^ uE) ∧ (X j).natAbs ≤ 2 ^ 20) (hy : ∀ j, j < n → Is (y.getD j 0) (2 * X j * 2 ^ uE)) (S T : Nat → Nat × Nat) (hS : ∀ k, k < 8 → SumIs k x n (S k)) (hT : ∀ k, k < 8 → SumIs k y n (T k)) :
    ∃ A B : Nat → Int, (∀ k, k < 8 → Is (S k).1 (A k) ∧ Is (S k).2 (B k) ∧ Is (T k).1 (2 * A k) ∧ Is (T k).2 (2 * B k) ∧ (A k).natAbs ≤ 2 ^ 30 * 2 ^ uE ∧ (B k).natAbs ≤ 2 ^ 30 * 2 ^ uE) ∧ A 0 = isum (fun _ => 1) X n * 2 ^ uE ∧ B 0 = 0 ∧
      A 4 = isum (fun j => if j % 2 = 0 then 1 else -1) X n * 2 ^ uE ∧ B 4 = 0 ∧ ∀ k, 0 < k → k < 8 → A k = A (8 - k) ∧ B k = -B (8 - k) := by
  have hnM : n * 2 ^ 20 ≤ 2 ^ 30 := Nat.le_trans (Nat.mul_le_mul_right _ hn) (by decide)
  have hX := fun j hj => (hx j hj).2
  have eq0 : ∀ (c : Nat → Int) (C : Nat → Int), (∀ j, C j = c j * 2 ^ uE) → (∀ j, (c j).natAbs ≤ 1) → vsum C X n = isum c X n * 2 ^ uE := fun c C h1 h2 => vsum_exact (M := 2 ^ 20) h1 h2 n hX (by omega)
  have z0 : ∀ n, isum (fun _ => 0) X n = 0 := fun n => by
    induction n with
    | zero => rfl
    | succ n ih => unfold isum; rw [ih]; simp
  refine ⟨fun k => vsum (fun j => cre (cix k j)) X n, fun k => vsum (fun j => cim (cix k j)) X n, fun k hk => ?_, ?_, ?_, ?_, ?_, fun k h0 hk => ⟨?_, ?_⟩⟩
  · obtain ⟨r, i, e, ⟨h1, h2⟩, h3, h4⟩ := sumA_is k x X (2 ^ 20) n hx (by omega)
    obtain ⟨r', i', e', ⟨h1', h2'⟩, h3', h4'⟩ := sumA_is k y (fun j => 2 * X j) (2 ^ 21) n (fun j hj => ⟨hy j hj, by have := hX j hj; rw [Int.natAbs_mul]; show 2 * _ ≤ _; omega⟩) (by omega)
    obtain ⟨s1, s2⟩ := hS k hk
    obtain ⟨t1, t2⟩ := hT k hk
    rw [e] at s1 s2
    rw [e'] at t1 t2
    rw [abs_eq s1, abs_eq s2, abs_eq t1, abs_eq t2]
    rw [vsum_two (X := X) n (fun j hj => rfl)] at h1' h3'
    exact ⟨h1, h3, h1', h3', Nat.le_trans h2 (Nat.mul_le_mul_right _ hnM), Nat.le_trans h4 (Nat.mul_le_mul_right _ hnM)⟩
  · exact eq0 _ _ (fun j => by rw [cix_zero]; exact (root_quarter (c := 0) (by omega) rfl).1) (fun j => by decide)
  · show vsum (fun j => cim (cix 0 j)) X n = 0
    rw [eq0 (fun _ => 0) (fun j => cim (cix 0 j)) (fun j => by rw [cix_zero]; exact (root_quarter (c := 0) (by omega) rfl).2) (fun j => by decide), z0, Int.zero_mul]
  · exact eq0 _ _ (fun j => by
      rw [cix_four]
      split
      · exact (root_quarter (c := 0) (by omega) rfl).1
      · exact (root_quarter (c := 4) (by omega) rfl).1) (fun j => by split <;> decide)
  · show vsum (fun j => cim (cix 4 j)) X n = 0
    rw [eq0 (fun _ => 0) (fun j => cim (cix 4 j)) (fun j => by
      rw [cix_four]
      split
      · exact (root_quarter (c := 0) (by omega) rfl).2
      · exact (root_quarter (c := 4) (by omega) rfl).2) (fun j => by decide), z0, Int.zero_mul]
  · refine vsum_congr (fun j => ?_) n (fun _ _ => rfl)
    rw [cix_mirror h0 hk]
    exact (root_mirror (cix_lt k j)).1.symm
  · have h := vsum_neg (C := fun j => cim (cix k j)) (D := fun j => cim (cix (8 - k) j)) (X := X) (fun j => by
      show cim (cix (8 - k) j) = _
      rw [cix_mirror h0 hk]; exact (root_mirror (cix_lt k j)).2) n
    show vsum _ X n = -vsum _ X n
    rw [h]; omega
end Go.Proofs.Ytgaghggnjemgoaa
