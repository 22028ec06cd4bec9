/- There and back at even places: what the sums and what Back of them stand for. Nothing here walks. -/
import Derived.Test.YtgaghggnjemgoaaEiBack
import Derived.Test.YtgaghggnjemgoaaEiExact
namespace Go.Proofs.Ytgaghggnjemgoaa
open Go Ieee
set_option linter.unusedVariables false
set_option linter.unusedSimpArgs false
set_option maxRecDepth 100000

def ccc (k j : Nat) : Int := if j % 2 = 0 then qre (cix k j) else 0
def sss (k j : Nat) : Int := if j % 2 = 0 then qim (cix k j) else 0
theorem q_in {c : Nat} (h : c < 8) : (qre c).natAbs ≤ 1 ∧ (qim c).natAbs ≤ 1 := by
  have hh : ∀ c ∈ List.range 8, (qre c).natAbs ≤ 1 ∧ (qim c).natAbs ≤ 1 := by decide +kernel
  exact hh c (List.mem_range.2 h)
theorem ccc_in (k j : Nat) : (ccc k j).natAbs ≤ 1 ∧ (sss k j).natAbs ≤ 1 := by
  unfold ccc sss
  split
  · exact q_in (cix_lt k j)
  · decide
theorem cix_even {k j : Nat} (h : j % 2 = 0) : cix k j % 2 = 0 := by
  unfold cix
  obtain ⟨i, rfl⟩ : ∃ i, j = 2 * i := ⟨j / 2, by omega⟩
  have e : -(((2 * i : Nat) : Int) % 8) * (k : Int) = 2 * (-((i : Int) % 4) * (k : Int)) := by
    rw [← Int.mul_assoc]; congr 1; omega
  rw [e]
  generalize -((i : Int) % 4) * (k : Int) = y
  omega
theorem bix_even {j k : Nat} (h : j % 2 = 0) : bix j k % 2 = 0 := by
  unfold bix
  obtain ⟨i, rfl⟩ : ∃ i, j = 2 * i := ⟨j / 2, by omega⟩
  have e : ((2 * i : Nat) : Int) * (k : Int) = 2 * ((i : Int) * (k : Int)) := by
    rw [← Int.mul_assoc]; congr 1
  rw [e]
  generalize (i : Int) * (k : Int) = y
  omega
theorem vsum_terms {C D X : Nat → Int} : ∀ n, (∀ j, j < n → X j * C j = X j * D j) → vsum C X n = vsum D X n := by
  intro n
  induction n with
  | zero => intro _; rfl
  | succ n ih => intro h; unfold vsum; rw [ih (fun j hj => h j (by omega)), h n (by omega)]
/-- of whole numbers at even places the sums are whole -/
theorem even_sums (x : List Nat) (X : Nat → Int) (hx : ∀ j, j < 8 → Is (x.getD j 0) (X j * 2 ^ uE) ∧ (X j).natAbs ≤ 2 ^ 20) (ho : ∀ j, j % 2 = 1 → X j = 0) (S : Nat → Nat × Nat) (hS : ∀ k, k < 8 → SumIs k x 8 (S k)) :
    ∀ k, k < 8 → Is (S k).1 (isum (ccc k) X 8 * 2 ^ uE) ∧ Is (S k).2 (isum (sss k) X 8 * 2 ^ uE) ∧ (isum (ccc k) X 8).natAbs ≤ 2 ^ 23 ∧ (isum (sss k) X 8).natAbs ≤ 2 ^ 23 := by
  intro k hk
  obtain ⟨r, i, e, ⟨h1, -⟩, h3, -⟩ := sumA_is k x X (2 ^ 20) 8 hx (by decide)
  obtain ⟨s1, s2⟩ := hS k hk
  rw [e] at s1 s2
  have hX := fun j hj => (hx j hj).2
  have t1 : ∀ (C : Nat → Int) (c : Nat → Int), (∀ j, j % 2 = 0 → C j = c j * 2 ^ uE) → (∀ j, (c j).natAbs ≤ 1) → vsum C X 8 = isum c X 8 * 2 ^ uE := fun C c hC hc => by
    rw [vsum_terms (D := fun j => c j * 2 ^ uE) 8 (fun j hj => by
      by_cases h2 : j % 2 = 0
      · rw [hC j h2]
      · rw [ho j (by omega), Int.zero_mul, Int.zero_mul])]
    exact vsum_exact (M := 2 ^ 20) (fun j => rfl) hc 8 hX (by decide)
  rw [t1 _ (ccc k) (fun j h2 => by show cre (cix k j) = _; unfold ccc; rw [if_pos h2]; exact (root_quarter (cix_lt k j) (cix_even h2)).1) (fun j => (ccc_in k j).1)] at h1
  rw [t1 _ (sss k) (fun j h2 => by show cim (cix k j) = _; unfold sss; rw [if_pos h2]; exact (root_quarter (cix_lt k j) (cix_even h2)).2) (fun j => (ccc_in k j).2)] at h3
  rw [abs_eq s1, abs_eq s2]
  exact ⟨h1, h3, isum_in (M := 2 ^ 20) (fun j => (ccc_in k j).1) 8 hX, isum_in (M := 2 ^ 20) (fun j => (ccc_in k j).2) 8 hX⟩
def bsum (a b : Nat → Int) (j : Nat) : Nat → Int
  | 0 => 0
  | n + 1 => bsum a b j n + (a n * qre (bix j n) - b n * qim (bix j n))
theorem whole_mul {x c : Nat} {a q : Int} (hx : Is x (a * 2 ^ uE)) (hc : Is c (q * 2 ^ uE)) (h : (a * q).natAbs < 2 ^ 53) : ∃ r, opA .mul (absF x) (some c) = some r ∧ Is r (a * q * 2 ^ uE) := by
  obtain ⟨r, e, i⟩ := mul_is hx hc (q := a * q * 2 ^ uE) (by simp [Int.mul_comm, Int.mul_left_comm, Int.mul_assoc]) (by rw [Int.natAbs_mul, pow_1074]; exact big_le h)
  rw [rd_exact _ h] at i
  exact ⟨r, by rw [hx.abs, opA_some e], i⟩
theorem backR_is (R I : Nat → Nat) (a b : Nat → Int) (j : Nat) (hj : j % 2 = 0) (h : ∀ k, k < 8 → Is (R k) (a k * 2 ^ uE) ∧ Is (I k) (b k * 2 ^ uE) ∧ (a k).natAbs ≤ 2 ^ 23 ∧ (b k).natAbs ≤ 2 ^ 23) :
    ∀ n, n ≤ 8 → ∃ r, backR R I j n = some r ∧ Is r (bsum a b j n * 2 ^ uE) ∧ (bsum a b j n).natAbs ≤ n * 2 ^ 24 := by
  intro n
  induction n with
  | zero => intro _; exact ⟨0, rfl, by rw [show bsum a b j 0 = 0 from rfl, Int.zero_mul]; exact is_zero, by simp [bsum]⟩
  | succ n ih =>
    intro hn
    obtain ⟨s, e, i, hb⟩ := ih (by omega)
    obtain ⟨h1, h2, h3, h4⟩ := h n (by omega)
    obtain ⟨q1, q2⟩ := root_quarter (bix_lt j n) (bix_even hj (k := n))
    obtain ⟨r1, r2⟩ := root_is (bix_lt j n)
    rw [q1] at r1
    rw [q2] at r2
    obtain ⟨u1, u2⟩ := q_in (bix_lt j n)
    have m1 : (a n * qre (bix j n)).natAbs ≤ 2 ^ 23 := by rw [Int.natAbs_mul]; exact Nat.le_trans (Nat.mul_le_mul h3 u1) (by decide)
    have m2 : (b n * qim (bix j n)).natAbs ≤ 2 ^ 23 := by rw [Int.natAbs_mul]; exact Nat.le_trans (Nat.mul_le_mul h4 u2) (by decide)
    obtain ⟨p, e1, i1⟩ := whole_mul h1 r1 (Nat.lt_of_le_of_lt m1 (by decide))
    obtain ⟨q, e2, i2⟩ := whole_mul h2 r2 (Nat.lt_of_le_of_lt m2 (by decide))
    unfold backR bsum
    generalize a n * qre (bix j n) = P at m1 i1 ⊢
    generalize b n * qim (bix j n) = Q at m2 i2 ⊢
    have hPQ : (P - Q).natAbs ≤ 2 ^ 24 := by omega
    obtain ⟨d, e3, i3⟩ := sub_is i1 i2 (by rw [← Int.sub_mul, Int.natAbs_mul, pow_1074]; exact big_le (Nat.lt_of_le_of_lt hPQ (by decide)))
    rw [← Int.sub_mul, rd_exact _ (Nat.lt_of_le_of_lt hPQ (by decide))] at i3
    have hT : (bsum a b j n + (P - Q)).natAbs ≤ (n + 1) * 2 ^ 24 := by omega
    have hT2 : (bsum a b j n + (P - Q)).natAbs < 2 ^ 53 := Nat.lt_of_le_of_lt (Nat.le_trans hT (Nat.mul_le_mul_right _ hn)) (by decide)
    obtain ⟨r, e4, i4⟩ := add_is i i3 (by rw [← Int.add_mul, Int.natAbs_mul, pow_1074]; exact big_le hT2)
    rw [← Int.add_mul, rd_exact _ hT2] at i4
    exact ⟨r, by rw [e, e1, e2, opA_some e3, opA_some e4], i4, hT⟩
theorem eight_is : Is 4620693217682128896 (8 * 2 ^ uE) := by
  have h := int_is (n := 8) (by decide)
  rwa [show floatOfInt .f64 8 = 4620693217682128896 by decide +kernel] at h

theorem lin_c0 (X : Nat → Int) : isum (ccc 0) X 8 = (1) * X 0 + (1) * X 2 + (1) * X 4 + (1) * X 6 := by
  simp only [isum, show ccc 0 0 = 1 by decide +kernel, show ccc 0 1 = 0 by decide +kernel, show ccc 0 2 = 1 by decide +kernel, show ccc 0 3 = 0 by decide +kernel, show ccc 0 4 = 1 by decide +kernel, show ccc 0 5 = 0 by decide +kernel, show ccc 0 6 = 1 by decide +kernel, show ccc 0 7 = 0 by decide +kernel]
  omega
theorem lin_s0 (X : Nat → Int) : isum (sss 0) X 8 = (0) * X 0 + (0) * X 2 + (0) * X 4 + (0) * X 6 := by
  simp only [isum, show sss 0 0 = 0 by decide +kernel, show sss 0 1 = 0 by decide +kernel, show sss 0 2 = 0 by decide +kernel, show sss 0 3 = 0 by decide +kernel, show sss 0 4 = 0 by decide +kernel, show sss 0 5 = 0 by decide +kernel, show sss 0 6 = 0 by decide +kernel, show sss 0 7 = 0 by decide +kernel]
  omega
theorem lin_c1 (X : Nat → Int) : isum (ccc 1) X 8 = (1) * X 0 + (0) * X 2 + (-1) * X 4 + (0) * X 6 := by
  simp only [isum, show ccc 1 0 = 1 by decide +kernel, show ccc 1 1 = 0 by decide +kernel, show ccc 1 2 = 0 by decide +kernel, show ccc 1 3 = 0 by decide +kernel, show ccc 1 4 = -1 by decide +kernel, show ccc 1 5 = 0 by decide +kernel, show ccc 1 6 = 0 by decide +kernel, show ccc 1 7 = 0 by decide +kernel]
  omega
theorem lin_s1 (X : Nat → Int) : isum (sss 1) X 8 = (0) * X 0 + (-1) * X 2 + (0) * X 4 + (1) * X 6 := by
  simp only [isum, show sss 1 0 = 0 by decide +kernel, show sss 1 1 = 0 by decide +kernel, show sss 1 2 = -1 by decide +kernel, show sss 1 3 = 0 by decide +kernel, show sss 1 4 = 0 by decide +kernel, show sss 1 5 = 0 by decide +kernel, show sss 1 6 = 1 by decide +kernel, show sss 1 7 = 0 by decide +kernel]
  omega
theorem lin_c2 (X : Nat → Int) : isum (ccc 2) X 8 = (1) * X 0 + (-1) * X 2 + (1) * X 4 + (-1) * X 6 := by
  simp only [isum, show ccc 2 0 = 1 by decide +kernel, show ccc 2 1 = 0 by decide +kernel, show ccc 2 2 = -1 by decide +kernel, show ccc 2 3 = 0 by decide +kernel, show ccc 2 4 = 1 by decide +kernel, show ccc 2 5 = 0 by decide +kernel, show ccc 2 6 = -1 by decide +kernel, show ccc 2 7 = 0 by decide +kernel]
  omega
theorem lin_s2 (X : Nat → Int) : isum (sss 2) X 8 = (0) * X 0 + (0) * X 2 + (0) * X 4 + (0) * X 6 := by
  simp only [isum, show sss 2 0 = 0 by decide +kernel, show sss 2 1 = 0 by decide +kernel, show sss 2 2 = 0 by decide +kernel, show sss 2 3 = 0 by decide +kernel, show sss 2 4 = 0 by decide +kernel, show sss 2 5 = 0 by decide +kernel, show sss 2 6 = 0 by decide +kernel, show sss 2 7 = 0 by decide +kernel]
  omega
theorem lin_c3 (X : Nat → Int) : isum (ccc 3) X 8 = (1) * X 0 + (0) * X 2 + (-1) * X 4 + (0) * X 6 := by
  simp only [isum, show ccc 3 0 = 1 by decide +kernel, show ccc 3 1 = 0 by decide +kernel, show ccc 3 2 = 0 by decide +kernel, show ccc 3 3 = 0 by decide +kernel, show ccc 3 4 = -1 by decide +kernel, show ccc 3 5 = 0 by decide +kernel, show ccc 3 6 = 0 by decide +kernel, show ccc 3 7 = 0 by decide +kernel]
  omega
theorem lin_s3 (X : Nat → Int) : isum (sss 3) X 8 = (0) * X 0 + (1) * X 2 + (0) * X 4 + (-1) * X 6 := by
  simp only [isum, show sss 3 0 = 0 by decide +kernel, show sss 3 1 = 0 by decide +kernel, show sss 3 2 = 1 by decide +kernel, show sss 3 3 = 0 by decide +kernel, show sss 3 4 = 0 by decide +kernel, show sss 3 5 = 0 by decide +kernel, show sss 3 6 = -1 by decide +kernel, show sss 3 7 = 0 by decide +kernel]
  omega
theorem lin_c4 (X : Nat → Int) : isum (ccc 4) X 8 = (1) * X 0 + (1) * X 2 + (1) * X 4 + (1) * X 6 := by
  simp only [isum, show ccc 4 0 = 1 by decide +kernel, show ccc 4 1 = 0 by decide +kernel, show ccc 4 2 = 1 by decide +kernel, show ccc 4 3 = 0 by decide +kernel, show ccc 4 4 = 1 by decide +kernel, show ccc 4 5 = 0 by decide +kernel, show ccc 4 6 = 1 by decide +kernel, show ccc 4 7 = 0 by decide +kernel]
  omega
theorem lin_s4 (X : Nat → Int) : isum (sss 4) X 8 = (0) * X 0 + (0) * X 2 + (0) * X 4 + (0) * X 6 := by
  simp only [isum, show sss 4 0 = 0 by decide +kernel, show sss 4 1 = 0 by decide +kernel, show sss 4 2 = 0 by decide +kernel, show sss 4 3 = 0 by decide +kernel, show sss 4 4 = 0 by decide +kernel, show sss 4 5 = 0 by decide +kernel, show sss 4 6 = 0 by decide +kernel, show sss 4 7 = 0 by decide +kernel]
  omega
theorem lin_c5 (X : Nat → Int) : isum (ccc 5) X 8 = (1) * X 0 + (0) * X 2 + (-1) * X 4 + (0) * X 6 := by
  simp only [isum, show ccc 5 0 = 1 by decide +kernel, show ccc 5 1 = 0 by decide +kernel, show ccc 5 2 = 0 by decide +kernel, show ccc 5 3 = 0 by decide +kernel, show ccc 5 4 = -1 by decide +kernel, show ccc 5 5 = 0 by decide +kernel, show ccc 5 6 = 0 by decide +kernel, show ccc 5 7 = 0 by decide +kernel]
  omega
theorem lin_s5 (X : Nat → Int) : isum (sss 5) X 8 = (0) * X 0 + (-1) * X 2 + (0) * X 4 + (1) * X 6 := by
  simp only [isum, show sss 5 0 = 0 by decide +kernel, show sss 5 1 = 0 by decide +kernel, show sss 5 2 = -1 by decide +kernel, show sss 5 3 = 0 by decide +kernel, show sss 5 4 = 0 by decide +kernel, show sss 5 5 = 0 by decide +kernel, show sss 5 6 = 1 by decide +kernel, show sss 5 7 = 0 by decide +kernel]
  omega
theorem lin_c6 (X : Nat → Int) : isum (ccc 6) X 8 = (1) * X 0 + (-1) * X 2 + (1) * X 4 + (-1) * X 6 := by
  simp only [isum, show ccc 6 0 = 1 by decide +kernel, show ccc 6 1 = 0 by decide +kernel, show ccc 6 2 = -1 by decide +kernel, show ccc 6 3 = 0 by decide +kernel, show ccc 6 4 = 1 by decide +kernel, show ccc 6 5 = 0 by decide +kernel, show ccc 6 6 = -1 by decide +kernel, show ccc 6 7 = 0 by decide +kernel]
  omega
theorem lin_s6 (X : Nat → Int) : isum (sss 6) X 8 = (0) * X 0 + (0) * X 2 + (0) * X 4 + (0) * X 6 := by
  simp only [isum, show sss 6 0 = 0 by decide +kernel, show sss 6 1 = 0 by decide +kernel, show sss 6 2 = 0 by decide +kernel, show sss 6 3 = 0 by decide +kernel, show sss 6 4 = 0 by decide +kernel, show sss 6 5 = 0 by decide +kernel, show sss 6 6 = 0 by decide +kernel, show sss 6 7 = 0 by decide +kernel]
  omega
theorem lin_c7 (X : Nat → Int) : isum (ccc 7) X 8 = (1) * X 0 + (0) * X 2 + (-1) * X 4 + (0) * X 6 := by
  simp only [isum, show ccc 7 0 = 1 by decide +kernel, show ccc 7 1 = 0 by decide +kernel, show ccc 7 2 = 0 by decide +kernel, show ccc 7 3 = 0 by decide +kernel, show ccc 7 4 = -1 by decide +kernel, show ccc 7 5 = 0 by decide +kernel, show ccc 7 6 = 0 by decide +kernel, show ccc 7 7 = 0 by decide +kernel]
  omega
theorem lin_s7 (X : Nat → Int) : isum (sss 7) X 8 = (0) * X 0 + (1) * X 2 + (0) * X 4 + (-1) * X 6 := by
  simp only [isum, show sss 7 0 = 0 by decide +kernel, show sss 7 1 = 0 by decide +kernel, show sss 7 2 = 1 by decide +kernel, show sss 7 3 = 0 by decide +kernel, show sss 7 4 = 0 by decide +kernel, show sss 7 5 = 0 by decide +kernel, show sss 7 6 = -1 by decide +kernel, show sss 7 7 = 0 by decide +kernel]
  omega
theorem there_0 (X : Nat → Int) : bsum (fun k => isum (ccc k) X 8) (fun k => isum (sss k) X 8) 0 8 = 8 * X 0 := by
  simp only [bsum, show qre (bix 0 0) = 1 by decide +kernel, show qim (bix 0 0) = 0 by decide +kernel, show qre (bix 0 1) = 1 by decide +kernel, show qim (bix 0 1) = 0 by decide +kernel, show qre (bix 0 2) = 1 by decide +kernel, show qim (bix 0 2) = 0 by decide +kernel, show qre (bix 0 3) = 1 by decide +kernel, show qim (bix 0 3) = 0 by decide +kernel, show qre (bix 0 4) = 1 by decide +kernel, show qim (bix 0 4) = 0 by decide +kernel, show qre (bix 0 5) = 1 by decide +kernel, show qim (bix 0 5) = 0 by decide +kernel, show qre (bix 0 6) = 1 by decide +kernel, show qim (bix 0 6) = 0 by decide +kernel, show qre (bix 0 7) = 1 by decide +kernel, show qim (bix 0 7) = 0 by decide +kernel, lin_c0 X, lin_s0 X, lin_c1 X, lin_s1 X, lin_c2 X, lin_s2 X, lin_c3 X, lin_s3 X, lin_c4 X, lin_s4 X, lin_c5 X, lin_s5 X, lin_c6 X, lin_s6 X, lin_c7 X, lin_s7 X]
  omega
theorem there_2 (X : Nat → Int) : bsum (fun k => isum (ccc k) X 8) (fun k => isum (sss k) X 8) 2 8 = 8 * X 2 := by
  simp only [bsum, show qre (bix 2 0) = 1 by decide +kernel, show qim (bix 2 0) = 0 by decide +kernel, show qre (bix 2 1) = 0 by decide +kernel, show qim (bix 2 1) = 1 by decide +kernel, show qre (bix 2 2) = -1 by decide +kernel, show qim (bix 2 2) = 0 by decide +kernel, show qre (bix 2 3) = 0 by decide +kernel, show qim (bix 2 3) = -1 by decide +kernel, show qre (bix 2 4) = 1 by decide +kernel, show qim (bix 2 4) = 0 by decide +kernel, show qre (bix 2 5) = 0 by decide +kernel, show qim (bix 2 5) = 1 by decide +kernel, show qre (bix 2 6) = -1 by decide +kernel, show qim (bix 2 6) = 0 by decide +kernel, show qre (bix 2 7) = 0 by decide +kernel, show qim (bix 2 7) = -1 by decide +kernel, lin_c0 X, lin_s0 X, lin_c1 X, lin_s1 X, lin_c2 X, lin_s2 X, lin_c3 X, lin_s3 X, lin_c4 X, lin_s4 X, lin_c5 X, lin_s5 X, lin_c6 X, lin_s6 X, lin_c7 X, lin_s7 X]
  omega
theorem there_4 (X : Nat → Int) : bsum (fun k => isum (ccc k) X 8) (fun k => isum (sss k) X 8) 4 8 = 8 * X 4 := by
  simp only [bsum, show qre (bix 4 0) = 1 by decide +kernel, show qim (bix 4 0) = 0 by decide +kernel, show qre (bix 4 1) = -1 by decide +kernel, show qim (bix 4 1) = 0 by decide +kernel, show qre (bix 4 2) = 1 by decide +kernel, show qim (bix 4 2) = 0 by decide +kernel, show qre (bix 4 3) = -1 by decide +kernel, show qim (bix 4 3) = 0 by decide +kernel, show qre (bix 4 4) = 1 by decide +kernel, show qim (bix 4 4) = 0 by decide +kernel, show qre (bix 4 5) = -1 by decide +kernel, show qim (bix 4 5) = 0 by decide +kernel, show qre (bix 4 6) = 1 by decide +kernel, show qim (bix 4 6) = 0 by decide +kernel, show qre (bix 4 7) = -1 by decide +kernel, show qim (bix 4 7) = 0 by decide +kernel, lin_c0 X, lin_s0 X, lin_c1 X, lin_s1 X, lin_c2 X, lin_s2 X, lin_c3 X, lin_s3 X, lin_c4 X, lin_s4 X, lin_c5 X, lin_s5 X, lin_c6 X, lin_s6 X, lin_c7 X, lin_s7 X]
  omega
theorem there_6 (X : Nat → Int) : bsum (fun k => isum (ccc k) X 8) (fun k => isum (sss k) X 8) 6 8 = 8 * X 6 := by
  simp only [bsum, show qre (bix 6 0) = 1 by decide +kernel, show qim (bix 6 0) = 0 by decide +kernel, show qre (bix 6 1) = 0 by decide +kernel, show qim (bix 6 1) = -1 by decide +kernel, show qre (bix 6 2) = -1 by decide +kernel, show qim (bix 6 2) = 0 by decide +kernel, show qre (bix 6 3) = 0 by decide +kernel, show qim (bix 6 3) = 1 by decide +kernel, show qre (bix 6 4) = 1 by decide +kernel, show qim (bix 6 4) = 0 by decide +kernel, show qre (bix 6 5) = 0 by decide +kernel, show qim (bix 6 5) = -1 by decide +kernel, show qre (bix 6 6) = -1 by decide +kernel, show qim (bix 6 6) = 0 by decide +kernel, show qre (bix 6 7) = 0 by decide +kernel, show qim (bix 6 7) = 1 by decide +kernel, lin_c0 X, lin_s0 X, lin_c1 X, lin_s1 X, lin_c2 X, lin_s2 X, lin_c3 X, lin_s3 X, lin_c4 X, lin_s4 X, lin_c5 X, lin_s5 X, lin_c6 X, lin_s6 X, lin_c7 X, lin_s7 X]
  omega
theorem there_all (X : Nat → Int) (j : Nat) (hj : j < 8) (h2 : j % 2 = 0) : bsum (fun k => isum (ccc k) X 8) (fun k => isum (sss k) X 8) j 8 = 8 * X j := by
  have hc : j = 0 ∨ j = 2 ∨ j = 4 ∨ j = 6 := by omega
  rcases hc with rfl | rfl | rfl | rfl
  · exact there_0 X
  · exact there_2 X
  · exact there_4 X
  · exact there_6 X
/-- there and back -/
theorem returns_facts (x : List Nat) (X : Nat → Int) (hx : ∀ j, j < 8 → Is (x.getD j 0) (X j * 2 ^ uE) ∧ (X j).natAbs ≤ 2 ^ 20) (ho : ∀ j, j % 2 = 1 → X j = 0) (S : Nat → Nat × Nat) (hS : ∀ k, k < 8 → SumIs k x 8 (S k)) (T : Nat → Nat) (hT : ∀ j, j < 8 → absF (T j) = backA (fun k => (S k).1) (fun k => (S k).2) j) :
    ∀ j, j < 8 → j % 2 = 0 → Is (T j) (X j * 2 ^ uE) := by
  intro j hj h2
  have hs := even_sums x X hx ho S hS
  obtain ⟨r, e, i, -⟩ := backR_is (fun k => (S k).1) (fun k => (S k).2) (fun k => isum (ccc k) X 8) (fun k => isum (sss k) X 8) j h2 hs 8 (by omega)
  rw [there_all X j hj h2] at i
  have hb := (hx j hj).2
  obtain ⟨q, e2, i2⟩ := div_is i eight_is (q := X j * 2 ^ uE) (by have := two_pow_int_pos uE; omega) (by simp [Int.mul_comm, Int.mul_left_comm, Int.mul_assoc]) ⟨(X j).natAbs, uE, Nat.lt_of_le_of_lt hb (by decide), by rw [Int.natAbs_mul, pow_1074]⟩ (by rw [Int.natAbs_mul, pow_1074]; exact big_le (Nat.lt_of_le_of_lt hb (by decide)))
  have h3 := hT j hj
  unfold backA at h3
  rw [e, opA_some e2] at h3
  rw [abs_eq h3]
  exact i2
end Go.Proofs.Ytgaghggnjemgoaa
