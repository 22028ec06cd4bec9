/- Finite words: compared, turned about, divided, added up; whole numbers exactly. Nothing here speaks of the program. -/
import Derived.Test.YtpmgklmgaienhaaFlv
import Derived.Test.YtpmgklmgaienhaaFlo
namespace Go.Proofs.Ytpmgklmgaienhaa
open Go Ieee
set_option linter.unusedVariables false
set_option linter.unusedSimpArgs false

theorem Is.abs {x : Nat} {v : Int} (h : Is x v) : absF x = some x := by
  obtain ⟨s, m, e, h1, -, -, -⟩ := h.read
  unfold absF isN
  rw [show FloatKind.f64.format.read x = Datum.number s m e from h1]
  rfl
theorem abs_eq {x y : Nat} (h : absF y = some x) : y = x := by
  unfold absF at h
  split at h
  · cases h
  · exact Option.some.inj h
theorem mag_small (r : Nat) : ∃ b d, b < 2 ^ 53 ∧ mag r = b * 2 ^ d := by
  unfold mag
  split
  · exact ⟨r, 0, by omega, by simp⟩
  · exact ⟨_, _, by have := Nat.mod_lt r (show 0 < 2 ^ 52 by decide); omega, rfl⟩
/-- what a word stands for is its own rounding -/
theorem Is.rd_self {x : Nat} {v : Int} (h : Is x v) : rd v = v := by
  obtain ⟨s, r, -, -, rfl⟩ := h
  obtain ⟨b, d, hb, e⟩ := mag_small r
  rw [rd_sg, e, mag_rg hb]
theorem two_pow_int_pos (n : Nat) : (0 : Int) < 2 ^ n := Int.pow_pos (by decide)
theorem cmp_mul (a b p : Int) (hp : 0 < p) : compare (a * p) (b * p) = compare a b := by
  have h1 : a * p < b * p ↔ a < b := ⟨fun h => Int.lt_of_mul_lt_mul_right h (by omega), fun h => Int.mul_lt_mul_of_pos_right h hp⟩
  have h2 : a * p = b * p ↔ a = b := ⟨fun h => Int.eq_of_mul_eq_mul_right (by omega) h, fun h => by rw [h]⟩
  show (if a * p < b * p then Ordering.lt else if a * p = b * p then Ordering.eq else Ordering.gt) = (if a < b then Ordering.lt else if a = b then Ordering.eq else Ordering.gt)
  simp only [h1, h2]
theorem order_is {x y : Nat} {u v : Int} (hx : Is x u) (hy : Is y v) : FloatKind.f64.format.order x y = some (compare u v) := by
  obtain ⟨s, m, i, h1, h2, h3, -⟩ := hx.read
  obtain ⟨t, n, j, k1, k2, k3, -⟩ := hy.read
  show (double.read x).order (double.read y) = _
  rw [h1, k1]
  show some (compare (signed s m (i - min i j).toNat) (signed t n (j - min i j).toNat)) = _
  generalize hbase : min i j = base
  have e : ∀ (s : Bool) (m : Nat) (i : Int), base ≤ i → sg s (m * 2 ^ (i + 1074).toNat) = signed s m (i - base).toNat * 2 ^ (base + 1074).toNat := fun s m i hi => by
    rw [signed_eq, show (i + 1074).toNat = (i - base).toNat + (base + 1074).toNat by omega, Nat.pow_add, ← Nat.mul_assoc, sg_mul]
    simp
  rw [h3, k3, e s m i (by omega), e t n j (by omega), cmp_mul _ _ _ (two_pow_int_pos _)]
theorem order_eq {x y : Nat} {u v : Int} (hx : Is x u) (hy : Is y v) (h : u = v) : FloatKind.f64.format.order x y = some Ordering.eq := by
  rw [order_is hx hy, h]
  show some (if v < v then Ordering.lt else if v = v then Ordering.eq else Ordering.gt) = _
  simp
theorem order_lt {x y : Nat} {u v : Int} (hx : Is x u) (hy : Is y v) (h : u < v) : FloatKind.f64.format.order x y = some Ordering.lt := by
  rw [order_is hx hy]
  show some (if u < v then Ordering.lt else if u = v then Ordering.eq else Ordering.gt) = _
  simp [h]
theorem order_gt {x y : Nat} {u v : Int} (hx : Is x u) (hy : Is y v) (h : v < u) : FloatKind.f64.format.order x y = some Ordering.gt := by
  rw [order_is hx hy]
  show some (if u < v then Ordering.lt else if u = v then Ordering.eq else Ordering.gt) = _
  rw [if_neg (by omega), if_neg (by omega)]
/-- turned about -/
theorem neg_is {x : Nat} {v : Int} (h : Is x v) : Is (Op.negFloat .f64 x) (-v) := by
  obtain ⟨s, r, rfl, hr, rfl⟩ := h
  have hi : infR < 2 ^ 63 := by decide +kernel
  refine ⟨!s, r, ?_, hr, by cases s <;> simp [sg]⟩
  show (double.word s r) ^^^ 2 ^ 63 = double.word (!s) r
  unfold Format.word
  rw [sw_eq]
  have hrr : r % 2 ^ 63 = r := Nat.mod_eq_of_lt (by omega)
  have key : r ^^^ 2 ^ 63 = 2 ^ 63 + r := by
    apply Nat.eq_of_testBit_eq
    intro i
    rw [Nat.testBit_xor, Nat.testBit_two_pow]
    rcases Nat.lt_or_ge i 63 with hi' | hi'
    · rw [Nat.testBit_two_pow_add_gt hi']
      simp [show 63 ≠ i by omega]
    · by_cases h63 : i = 63
      · subst h63
        rw [Nat.testBit_two_pow_add_eq, Nat.testBit_lt_two_pow (by omega)]
        rfl
      · have h1 : r < 2 ^ i := Nat.lt_of_lt_of_le (by omega) (Nat.pow_le_pow_right (by decide) (show 63 ≤ i by omega))
        have h2 : 2 ^ 63 + r < 2 ^ i := Nat.lt_of_lt_of_le (show 2 ^ 63 + r < 2 ^ 64 by omega) (Nat.pow_le_pow_right (by decide) (by omega))
        rw [Nat.testBit_lt_two_pow h1, Nat.testBit_lt_two_pow h2]
        simp [show 63 ≠ i by omega]
  cases s with
  | false => simpa using key
  | true =>
    show (2 ^ 63 + r) ^^^ 2 ^ 63 = r
    rw [← key, Nat.xor_assoc, Nat.xor_self, Nat.xor_zero]
theorem posq {N q : Int} (h : 0 < N * q) (hN : 0 < N) : 0 < q := by
  rcases Int.lt_or_le 0 q with h1 | h1
  · exact h1
  · have := Int.mul_le_mul_of_nonneg_left h1 (show 0 ≤ N by omega)
    omega
/-- a quotient that is a word's number -/
theorem div_is {x y : Nat} {u v q : Int} (hx : Is x u) (hy : Is y v) (hv : v ≠ 0) (hq : u * 2 ^ uE = v * q) (hs : ∃ b d : Nat, b < 2 ^ 53 ∧ q.natAbs = b * 2 ^ d) (hb : q.natAbs ≤ 2 ^ (uT + uE)) : ∃ r, floatBits .quo .f64 x y = some r ∧ Is r q := by
  obtain ⟨s, m, i, h1, h2, h3, h4⟩ := hx.read
  obtain ⟨t, n, j, k1, k2, k3, k4⟩ := hy.read
  show ∃ r, (((double.read x).quotient (double.fractionBits + 2) (double.read y)).map double.write) = some r ∧ _
  rw [h1, k1, show double.fractionBits + 2 = 54 by decide +kernel]
  have hn : n ≠ 0 := by
    intro e
    rw [e] at k3
    rw [k3] at hv
    cases t <;> simp [sg] at hv
  have hu : u.natAbs = m * 2 ^ (i + 1074).toNat := by rw [h3, sg_abs]
  have hvn : v.natAbs = n * 2 ^ (j + 1074).toNat := by rw [k3, sg_abs]
  obtain ⟨b, d, hbb, hqd⟩ := hs
  have hqn : m * 2 ^ (i + 1074).toNat * 2 ^ uE = n * 2 ^ (j + 1074).toNat * (b * 2 ^ d) := by
    have h := congrArg Int.natAbs hq
    rw [Int.natAbs_mul, Int.natAbs_mul, hu, hvn, hqd] at h
    have e2 : (2 ^ uE : Int).natAbs = 2 ^ uE := by rw [Int.natAbs_pow]; rfl
    rw [e2] at h
    exact h
  have hsgn : q = sg (s ^^ t) q.natAbs := by
    have hpu : u * 2 ^ uE * v = v * v * q := by rw [hq]; simp [Int.mul_comm, Int.mul_left_comm, Int.mul_assoc]
    by_cases hm : m = 0
    · have hb0 : b * 2 ^ d = 0 := by
        rw [hm, Nat.zero_mul, Nat.zero_mul] at hqn
        have := Nat.mul_eq_zero.1 hqn.symm
        rcases this with h | h
        · have := Nat.mul_eq_zero.1 h
          have h2 := Nat.two_pow_pos (j + 1074).toNat
          omega
        · exact h
      rw [hb0] at hqd
      have : q = 0 := by omega
      rw [this]; cases (s ^^ t) <;> rfl
    · have p1 : (0 : Int) < ((m * 2 ^ (i + 1074).toNat : Nat) : Int) := by have := Nat.mul_pos (Nat.pos_of_ne_zero hm) (Nat.two_pow_pos (i + 1074).toNat); omega
      have p2 : (0 : Int) < ((n * 2 ^ (j + 1074).toNat : Nat) : Int) := by have := Nat.mul_pos (Nat.pos_of_ne_zero hn) (Nat.two_pow_pos (j + 1074).toNat); omega
      have p3 := two_pow_int_pos uE
      rw [h3, k3] at hq
      generalize ((m * 2 ^ (i + 1074).toNat : Nat)) = M at hq p1
      generalize ((n * 2 ^ (j + 1074).toNat : Nat)) = N at hq p2
      have pm : 0 < (M : Int) * 2 ^ uE := Int.mul_pos p1 p3
      cases s <;> cases t <;> simp only [sg, Bool.false_xor, Bool.true_xor, Bool.not_false, Bool.not_true, if_true, Bool.false_eq_true, if_false, Int.neg_mul] at hq ⊢
      · have : 0 < q := posq (N := (N : Int)) (by rw [← hq]; exact pm) p2
        omega
      · have : 0 < -q := posq (N := (N : Int)) (by rw [Int.mul_neg, ← hq]; exact pm) p2
        omega
      · have : 0 < -q := posq (N := (N : Int)) (by rw [Int.mul_neg, ← hq, Int.neg_neg]; exact pm) p2
        omega
      · have : 0 < q := posq (N := (N : Int)) (by rw [← Int.neg_neg ((N : Int) * q), ← hq, Int.neg_neg]; exact pm) p2
        omega
  obtain ⟨C, hC⟩ : ∃ C : Nat, C = uE := ⟨_, rfl⟩
  rw [← hC] at hqn
  rw [uE_eq] at hC
  refine ⟨double.write (.number (s ^^ t) (2 * ((m <<< (54 + n.log2 - m.log2)) / n) + ((m <<< (54 + n.log2 - m.log2)) % n != 0).toNat) (i - j - ((54 + n.log2 - m.log2 : Nat) : Int) - 1)), ?_, ?_⟩
  · unfold Datum.quotient
    simp only [if_neg hn, Option.map_some]
  generalize hmore : 54 + n.log2 - m.log2 = more
  rw [Nat.shiftLeft_eq]
  show Is (double.nearest _ _ _) q
  have hq0 : sg (s ^^ t) (mag (rg q.natAbs)) = q := by rw [hqd, mag_rg hbb, ← hqd]; exact hsgn.symm
  rw [← hq0]
  by_cases hm : m = 0
  · have hb0 : q.natAbs = 0 := by
      rw [hm, Nat.zero_mul, Nat.zero_mul, ← hqd] at hqn
      rcases Nat.mul_eq_zero.1 hqn.symm with h | h
      · have := Nat.mul_eq_zero.1 h
        have h2 := Nat.two_pow_pos (j + 1074).toNat
        omega
      · exact h
    rw [hm, hb0]
    simp only [Nat.zero_mul, Nat.zero_div, Nat.zero_mod]
    have := write_is (s ^^ t) (n := 0) (by omega)
    rw [near_same (s ^^ t) (m := 2 * 0 + ((0 : Nat) != 0).toNat) (n := 0) (p := i - j - (more : Int) - 1) (q := -1074) (min (i - j - (more : Int) - 1) (-1074)) (by omega) (by omega) (by simp)]
    exact this
  have lm := log_spec hm
  have ln := log_spec hn
  have hml : m.log2 ≤ 52 := by have := (Nat.log2_lt hm).2 h4; omega
  have hmore' : more + m.log2 = 54 + n.log2 := by omega
  -- the dividend is a multiple
  have hbig : 2 ^ (54 + n.log2) ≤ m * 2 ^ more := by
    rw [← hmore', Nat.pow_add, Nat.mul_comm]
    exact Nat.mul_le_mul_right _ lm.1
  have hdvd : ∃ Q, m * 2 ^ more = n * Q ∧ Q * 2 ^ ((i + 1074).toNat + C) = b * 2 ^ ((j + 1074).toNat + d + more) := by
    have e1 : m * 2 ^ ((i + 1074).toNat + C) = n * b * 2 ^ ((j + 1074).toNat + d) := by
      rw [Nat.pow_add, ← Nat.mul_assoc, hqn, Nat.pow_add]
      simp [Nat.mul_comm, Nat.mul_left_comm, Nat.mul_assoc]
    generalize hF : (i + 1074).toNat + C = F at e1
    generalize hE : (j + 1074).toNat + d = E at e1
    rcases Nat.lt_or_ge (E + more) F with hlt | hge
    · exfalso
      have e2 : m * 2 ^ more * 2 ^ (F - E - more) = n * b := by
        have h5 : m * 2 ^ more * 2 ^ (F - E - more) * 2 ^ E = n * b * 2 ^ E := by
          rw [← e1, Nat.mul_assoc, Nat.mul_assoc, ← Nat.pow_add, ← Nat.pow_add]
          congr 2; omega
        exact Nat.eq_of_mul_eq_mul_right (Nat.two_pow_pos E) h5
      have e3 : 2 ^ (54 + n.log2) * 2 ≤ n * b := by
        rw [← e2]
        refine Nat.mul_le_mul hbig ?_
        have : 2 ^ 1 ≤ 2 ^ (F - E - more) := Nat.pow_le_pow_right (by decide) (by omega)
        simpa using this
      have e4 : n * b < 2 ^ (n.log2 + 1) * 2 ^ 53 := by
        rcases Nat.eq_zero_or_pos b with h | h
        · subst h; rw [Nat.mul_zero]; exact Nat.mul_pos (Nat.two_pow_pos _) (Nat.two_pow_pos _)
        · exact Nat.lt_of_le_of_lt (Nat.mul_le_mul_left n (Nat.le_of_lt hbb)) (Nat.mul_lt_mul_of_pos_right ln.2 (Nat.two_pow_pos _))
      rw [← Nat.pow_add] at e4
      have e5 : 2 ^ (n.log2 + 1 + 53) = 2 ^ (54 + n.log2) := by congr 1; omega
      rw [e5] at e4
      have := Nat.two_pow_pos (54 + n.log2)
      omega
    · refine ⟨b * 2 ^ (E + more - F), ?_, ?_⟩
      · have h5 : m * 2 ^ more * 2 ^ F = n * (b * 2 ^ (E + more - F)) * 2 ^ F := by
          rw [Nat.mul_assoc, Nat.mul_comm (2 ^ more), ← Nat.mul_assoc, e1, Nat.mul_assoc, ← Nat.pow_add, Nat.mul_assoc n, Nat.mul_assoc n, Nat.mul_assoc b, ← Nat.pow_add]
          congr 3; omega
        exact Nat.eq_of_mul_eq_mul_right (Nat.two_pow_pos F) h5
      · rw [Nat.mul_assoc, ← Nat.pow_add]; congr 2; omega
  obtain ⟨Q, hQ, hQv⟩ := hdvd
  rw [hQ, Nat.mul_div_cancel_left _ (Nat.pos_of_ne_zero hn), Nat.mul_mod_right]
  have hQ2 : 2 * Q + ((0 : Nat) != 0).toNat = 2 * Q := by simp
  rw [hQ2, show i - j - (more : Int) - 1 = (i - j - (more : Int)) - 1 by omega, near_two]
  -- the same number
  have hbase : ∃ K : Nat, (K : Int) = j + 2148 + more ∧ -(K : Int) ≤ i - j - more ∧ -(K : Int) ≤ -1074 := ⟨(j + 2148 + more).toNat, by omega, by omega, by omega⟩
  obtain ⟨K, hK, hK1, hK2⟩ := hbase
  rw [near_same (s ^^ t) (m := Q) (n := q.natAbs) (p := i - j - more) (q := -1074) (-(K : Int)) hK1 hK2 (by
    rw [hqd, show (i - j - more - -(K : Int)).toNat = (i + 1074).toNat + C by omega, hQv, Nat.mul_assoc, ← Nat.pow_add]
    congr 2
    omega)]
  exact write_is _ hb
end Go.Proofs.Ytpmgklmgaienhaa
