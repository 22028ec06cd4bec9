/- What finite floating-point words stand for, as whole numbers of units of the least place; rounding. Nothing here speaks of the program. -/
import Derived.Laws.FloatArith
namespace Go.Proofs.Ytpmgklmgaienhaa
open Go Ieee
set_option linter.unusedVariables false
set_option linter.unusedSimpArgs false

/-- one stands for 2 ^ uE units of the least place -/
def uE : Nat := 1074
theorem uE_eq : uE = 1074 := rfl
def uT : Nat := 1023
theorem uT_eq : uT = 1023 := rfl
attribute [irreducible] uE uT
theorem uT_53 {n : Nat} (h : n < 2 ^ 53) : n ≤ 2 ^ uT := Nat.le_trans (Nat.le_of_lt h) (Nat.pow_le_pow_right (by decide) (by rw [uT_eq]; decide))
/-- n / g, to the nearest, ties to even -/
def rhe (n g : Nat) : Nat := n / g + (decide (g < 2 * (n % g)) || (decide (g = 2 * (n % g)) && decide (n / g % 2 = 1))).toNat

theorem cut_eq (s : Bool) (n d : Nat) : Toward.even.cut s n d = rhe n (2 ^ d) := by
  by_cases h : d ≤ n.log2 + 2
  · unfold Toward.cut rhe
    simp only [Nat.min_eq_left h, Nat.one_shiftLeft]
    congr 2
  · have hn : n < 2 ^ (n.log2 + 1) := Nat.lt_log2_self
    have h1 : n < 2 ^ (n.log2 + 2) := Nat.lt_of_lt_of_le hn (Nat.pow_le_pow_right (by decide) (by omega))
    have h2 : n < 2 ^ d := Nat.lt_of_lt_of_le h1 (Nat.pow_le_pow_right (by decide) (by omega))
    have h3 : 2 * n < 2 ^ (n.log2 + 2) := by rw [Nat.pow_succ]; omega
    have h4 : 2 * n < 2 ^ d := Nat.lt_of_lt_of_le h3 (Nat.pow_le_pow_right (by decide) (by omega))
    unfold Toward.cut rhe
    simp only [Nat.min_eq_right (Nat.le_of_lt (Nat.lt_of_not_le h)), Nat.one_shiftLeft]
    rw [Nat.div_eq_of_lt h1, Nat.mod_eq_of_lt h1, Nat.div_eq_of_lt h2, Nat.mod_eq_of_lt h2]
    have e1 : decide (2 ^ (n.log2 + 2) < 2 * n) = false := by simp; omega
    have e2 : decide (2 ^ d < 2 * n) = false := by simp; omega
    simp [e1, e2]
theorem rhe_two (n g : Nat) : rhe (2 * n) (2 * g) = rhe n g := by
  unfold rhe
  rw [Nat.mul_div_mul_left _ _ (by decide), Nat.mul_mod_mul_left]
  have e1 : decide (2 * g < 2 * (2 * (n % g))) = decide (g < 2 * (n % g)) := by congr 1; exact propext (by omega)
  have e2 : decide (2 * g = 2 * (2 * (n % g))) = decide (g = 2 * (n % g)) := by congr 1; exact propext (by omega)
  rw [e1, e2]
theorem rhe_one (n : Nat) : rhe n 1 = n := by
  unfold rhe
  simp [Nat.mod_one]
theorem rhe_mul (a g : Nat) (hg : 0 < g) : rhe (a * g) g = a := by
  unfold rhe
  rw [Nat.mul_div_cancel _ hg, Nat.mul_mod_left]
  have e1 : decide (g < 2 * 0) = false := by simp
  have e2 : decide (g = 2 * 0) = false := by simp; omega
  rw [e1, e2]
  rfl
theorem rhe_mono {m n g : Nat} (hg : 0 < g) (h : m ≤ n) : rhe m g ≤ rhe n g := by
  unfold rhe
  have hd : m / g ≤ n / g := Nat.div_le_div_right h
  rcases Nat.lt_or_ge (m / g) (n / g) with hl | hl
  · have : ∀ b : Bool, b.toNat ≤ 1 := fun b => by cases b <;> decide
    have := this (decide (g < 2 * (m % g)) || (decide (g = 2 * (m % g)) && decide (m / g % 2 = 1)))
    omega
  · have he : m / g = n / g := by omega
    have hm := Nat.div_add_mod m g
    have hn := Nat.div_add_mod n g
    rw [he] at hm ⊢
    have hr : m % g ≤ n % g := by omega
    generalize m % g = a at *
    generalize n % g = b at *
    refine Nat.add_le_add_left ?_ _
    by_cases h1 : g < 2 * a
    · have h2 : g < 2 * b := by omega
      simp [h1, h2]
    · by_cases h3 : g < 2 * b
      · simp [h3]; exact Bool.toNat_le _
      · by_cases h4 : g = 2 * a
        · have h5 : b = a := by omega
          subst h5; exact Nat.le_refl _
        · simp [h1, h4]
theorem rhe_le {n g : Nat} (hg : 0 < g) : n / g ≤ rhe n g ∧ rhe n g ≤ n / g + 1 := by
  unfold rhe
  have := Bool.toNat_le (decide (g < 2 * (n % g)) || (decide (g = 2 * (n % g)) && decide (n / g % 2 = 1)))
  omega

/-- the rung nearest to m units of the least place -/
def rg (m : Nat) : Nat := (m.log2 - 52) * 2 ^ 52 + rhe m (2 ^ (m.log2 - 52))
def infR : Nat := 2047 * 2 ^ 52
theorem infR_eq : double.infRung = infR := by decide +kernel
theorem least_eq : double.leastPlace = -1074 := by decide +kernel
theorem bin_eq : double.binade = 2 ^ 52 := by decide +kernel
theorem sw_eq : double.signWeight = 2 ^ 63 := by decide +kernel
theorem rg_zero : rg 0 = 0 := by decide +kernel

theorem near_two (s : Bool) (m : Nat) (p : Int) : double.nearest s (2 * m) (p - 1) = double.nearest s m p := by
  by_cases hm : m = 0
  · subst hm; simp [Format.nearest]
  · unfold Format.nearest
    rw [if_neg (by omega), if_neg hm, least_eq, bin_eq, infR_eq, Nat.log2_two_mul hm]
    have e0 : (p - 1 + ((m.log2 + 1 : Nat) : Int) - (double.fractionBits : Int)) = p + (m.log2 : Int) - (double.fractionBits : Int) := by omega
    simp only [e0]
    generalize max (p + (m.log2 : Int) - (double.fractionBits : Int)) (-1074) = last
    have e : Toward.even.cut s ((2 * m) <<< (p - 1 - last).toNat) (last - (p - 1)).toNat = Toward.even.cut s (m <<< (p - last).toNat) (last - p).toNat := by
      rw [cut_eq, cut_eq, Nat.shiftLeft_eq, Nat.shiftLeft_eq]
      rcases Int.lt_or_le last p with h | h
      · rw [show (p - last).toNat = (p - 1 - last).toNat + 1 by omega, show (last - (p - 1)).toNat = 0 by omega, show (last - p).toNat = 0 by omega, Nat.pow_succ]
        congr 1
        rw [Nat.mul_comm 2 m, Nat.mul_assoc, Nat.mul_comm 2]
      · rw [show (p - last).toNat = 0 by omega, show (p - 1 - last).toNat = 0 by omega, show (last - (p - 1)).toNat = (last - p).toNat + 1 by omega, Nat.pow_succ, Nat.pow_zero, Nat.mul_one, Nat.mul_one, Nat.mul_comm (2 ^ _) 2]
        exact rhe_two _ _
    rw [e]
theorem near_shift (s : Bool) (m : Nat) (p : Int) : ∀ k : Nat, double.nearest s (m * 2 ^ k) (p - k) = double.nearest s m p := by
  intro k
  induction k with
  | zero => simp
  | succ k ih =>
    rw [← ih, ← near_two s (m * 2 ^ k) (p - k)]
    rw [show m * 2 ^ (k + 1) = 2 * (m * 2 ^ k) by rw [Nat.pow_succ]; simp [Nat.mul_comm, Nat.mul_left_comm], show p - ((k + 1 : Nat) : Int) = p - (k : Int) - 1 by omega]
/-- only what is named counts -/
theorem near_same (s : Bool) {m n : Nat} {p q : Int} (b : Int) (hp : b ≤ p) (hq : b ≤ q) (h : m * 2 ^ (p - b).toNat = n * 2 ^ (q - b).toNat) : double.nearest s m p = double.nearest s n q := by
  rw [← near_shift s m p (p - b).toNat, ← near_shift s n q (q - b).toNat, h, show p - ((p - b).toNat : Int) = b by omega, show q - ((q - b).toNat : Int) = b by omega]
theorem near_rg (s : Bool) (m : Nat) : double.nearest s m (-1074) = double.word s (min (rg m) infR) := by
  by_cases hm : m = 0
  · subst hm; simp [Format.nearest, rg_zero]
  · unfold Format.nearest
    rw [if_neg hm, least_eq, bin_eq, infR_eq]
    simp only [cut_eq, Nat.shiftLeft_eq]
    have hf : (double.fractionBits : Int) = 52 := by decide +kernel
    rw [hf]
    have e1 : (max (-1074 + (m.log2 : Int) - 52) (-1074) - -1074).toNat = m.log2 - 52 := by omega
    have e2 : (-1074 - max (-1074 + (m.log2 : Int) - 52) (-1074)).toNat = 0 := by omega
    rw [e1, e2]
    simp [rg]

/-- what a rung stands for, in units of the least place -/
def mag (r : Nat) : Nat := if r < 2 ^ 52 then r else (2 ^ 52 + r % 2 ^ 52) * 2 ^ (r / 2 ^ 52 - 1)
theorem mag_zero : mag 0 = 0 := by decide +kernel
theorem mag_add (r : Nat) (h : 2 ^ 52 ≤ r) : mag (r + 2 ^ 52) = 2 * mag r := by
  unfold mag
  rw [if_neg (by omega), if_neg (by omega), Nat.add_mod_right, Nat.add_div_right _ (by decide)]
  have : 1 ≤ r / 2 ^ 52 := (Nat.le_div_iff_mul_le (by decide)).2 (by omega)
  rw [show r / 2 ^ 52 + 1 - 1 = (r / 2 ^ 52 - 1) + 1 by omega, Nat.pow_succ 2 (r / 2 ^ 52 - 1)]
  simp [Nat.mul_comm, Nat.mul_left_comm]
theorem mag_lo {r : Nat} (h : r < 2 ^ 53) : mag r = r := by
  unfold mag
  by_cases h0 : r < 2 ^ 52
  · rw [if_pos h0]
  · rw [if_neg h0]
    have e1 : r / 2 ^ 52 = 1 := by omega
    rw [e1]
    omega
theorem mag_at (d b : Nat) (h1 : 2 ^ 52 ≤ b) (h2 : b ≤ 2 ^ 53) : mag (d * 2 ^ 52 + b) = b * 2 ^ d := by
  induction d with
  | zero =>
    rcases Nat.lt_or_ge b (2 ^ 53) with h | h
    · simp [mag_lo h]
    · obtain rfl : b = 2 ^ 53 := by omega
      decide +kernel
  | succ d ih =>
    rw [show (d + 1) * 2 ^ 52 + b = (d * 2 ^ 52 + b) + 2 ^ 52 by omega, mag_add _ (by omega), ih, Nat.pow_succ]
    simp [Nat.mul_comm, Nat.mul_left_comm]
theorem mag_step (r : Nat) : mag r ≤ mag (r + 1) := by
  by_cases h : r + 1 < 2 ^ 52
  · unfold mag; rw [if_pos (by omega), if_pos h]; omega
  · by_cases h2 : r < 2 ^ 52
    · obtain rfl : r = 2 ^ 52 - 1 := by omega
      decide +kernel
    · have h3 := Nat.div_add_mod r (2 ^ 52)
      have h4 : 1 ≤ r / 2 ^ 52 := (Nat.le_div_iff_mul_le (by decide)).2 (by omega)
      have h5 : r % 2 ^ 52 < 2 ^ 52 := Nat.mod_lt _ (by decide)
      have e1 : r = (r / 2 ^ 52 - 1) * 2 ^ 52 + (2 ^ 52 + r % 2 ^ 52) := by omega
      rw [e1, Nat.add_assoc ((r / 2 ^ 52 - 1) * 2 ^ 52), mag_at _ _ (by omega) (by omega), mag_at _ _ (by omega) (by omega)]
      exact Nat.mul_le_mul_right _ (by omega)
theorem mag_mono {r s : Nat} (h : r ≤ s) : mag r ≤ mag s := by
  induction s with
  | zero => obtain rfl : r = 0 := by omega
            exact Nat.le_refl _
  | succ s ih =>
    rcases Nat.lt_or_ge s r with h1 | h1
    · obtain rfl : r = s + 1 := by omega
      exact Nat.le_refl _
    · exact Nat.le_trans (ih h1) (mag_step s)
theorem log_spec {m : Nat} (h : m ≠ 0) : 2 ^ m.log2 ≤ m ∧ m < 2 ^ (m.log2 + 1) := ⟨Nat.log2_self_le h, Nat.lt_log2_self⟩
/-- the digits that are kept -/
theorem kept_in {m : Nat} (h : 2 ^ 52 ≤ m) : 2 ^ 52 ≤ rhe m (2 ^ (m.log2 - 52)) ∧ rhe m (2 ^ (m.log2 - 52)) ≤ 2 ^ 53 := by
  have hm : m ≠ 0 := by omega
  obtain ⟨h1, h2⟩ := log_spec hm
  have hl : 52 ≤ m.log2 := (Nat.le_log2 hm).2 h
  obtain ⟨a, b⟩ := rhe_le (n := m) (g := 2 ^ (m.log2 - 52)) (Nat.two_pow_pos _)
  have e : 2 ^ m.log2 = 2 ^ 52 * 2 ^ (m.log2 - 52) := by rw [← Nat.pow_add]; congr 1; omega
  have e2 : 2 ^ (m.log2 + 1) = 2 ^ 53 * 2 ^ (m.log2 - 52) := by rw [← Nat.pow_add]; congr 1; omega
  have h3 : 2 ^ 52 ≤ m / 2 ^ (m.log2 - 52) := (Nat.le_div_iff_mul_le (Nat.two_pow_pos _)).2 (by omega)
  have h4 : m / 2 ^ (m.log2 - 52) < 2 ^ 53 := (Nat.div_lt_iff_lt_mul (Nat.two_pow_pos _)).2 (by omega)
  omega
theorem log_lt {m : Nat} (h : m < 2 ^ 53) : m.log2 - 52 = 0 := by
  by_cases hm : m = 0
  · subst hm; decide +kernel
  · have := (Nat.log2_lt hm).2 h
    omega
theorem rg_lo {m : Nat} (h : m < 2 ^ 53) : rg m = m := by
  unfold rg
  rw [log_lt h, Nat.pow_zero, rhe_one]
  omega
theorem jump {X Y a b : Nat} (e : X + 1 * 2 ^ 52 ≤ Y) (ha : a ≤ 2 ^ 53) (hb : 2 ^ 52 ≤ b) : X + a ≤ Y + b := by
  have h1 : (2 : Nat) ^ 52 = 4503599627370496 := by decide
  have h2 : (2 : Nat) ^ 53 = 9007199254740992 := by decide
  rw [h1] at e hb
  rw [h2] at ha
  omega
theorem rg_mono {m n : Nat} (h : m ≤ n) : rg m ≤ rg n := by
  by_cases hm : m = 0
  · subst hm; rw [rg_zero]; omega
  have hn : n ≠ 0 := by omega
  have hl : m.log2 ≤ n.log2 := (Nat.le_log2 hn).2 (Nat.le_trans (Nat.log2_self_le hm) h)
  rcases Nat.lt_or_ge m (2 ^ 52) with h1 | h1
  · rw [rg_lo (by omega)]
    rcases Nat.lt_or_ge n (2 ^ 53) with h2 | h2
    · rw [rg_lo h2]; exact h
    · unfold rg
      have := (kept_in (m := n) (by omega)).1
      omega
  · rcases Nat.lt_or_ge m.log2 n.log2 with h2 | h2
    · have a := (kept_in h1).2
      have b := (kept_in (m := n) (by omega)).1
      have h52 : 52 ≤ m.log2 := (Nat.le_log2 hm).2 h1
      unfold rg
      have e : (m.log2 - 52) + 1 ≤ n.log2 - 52 := by omega
      have e2 := Nat.mul_le_mul_right (2 ^ 52) e
      rw [Nat.add_mul] at e2
      exact jump e2 a b
    · have e : m.log2 = n.log2 := by omega
      unfold rg
      rw [e]
      exact Nat.add_le_add_left (rhe_mono (Nat.two_pow_pos _) h) _
/-- what fits is kept whole -/
theorem mag_rg {a k : Nat} (ha : a < 2 ^ 53) : mag (rg (a * 2 ^ k)) = a * 2 ^ k := by
  generalize hm : a * 2 ^ k = m
  rcases Nat.lt_or_ge m (2 ^ 53) with h | h
  · rw [rg_lo h, mag_lo h]
  · have h0 : m ≠ 0 := by omega
    have hl : 53 ≤ m.log2 := (Nat.le_log2 h0).2 h
    obtain ⟨l1, l2⟩ := log_spec h0
    generalize hd : m.log2 - 52 = d at *
    have hk : d ≤ k := by
      rcases Nat.lt_or_ge k d with hkd | hkd
      · exfalso
        have : a * 2 ^ k < 2 ^ m.log2 := by
          calc a * 2 ^ k < 2 ^ 53 * 2 ^ k := Nat.mul_lt_mul_of_pos_right ha (Nat.two_pow_pos _)
            _ = 2 ^ (53 + k) := by rw [Nat.pow_add]
            _ ≤ 2 ^ m.log2 := Nat.pow_le_pow_right (by decide) (by omega)
        omega
      · exact hkd
    have e : m = (a * 2 ^ (k - d)) * 2 ^ d := by rw [Nat.mul_assoc, ← Nat.pow_add, ← hm]; congr 2; omega
    have hr : rhe m (2 ^ d) = a * 2 ^ (k - d) := by
      conv => lhs; rw [e]
      exact rhe_mul _ _ (Nat.two_pow_pos _)
    have hb := kept_in (m := m) (by omega)
    rw [hd, hr] at hb
    unfold rg
    rw [hd, hr, mag_at _ _ hb.1 hb.2, ← e]
theorem rg_two (m : Nat) : mag (rg (2 * m)) = 2 * mag (rg m) := by
  rcases Nat.lt_or_ge m (2 ^ 52) with h | h
  · rw [rg_lo (show 2 * m < 2 ^ 53 by omega), rg_lo (show m < 2 ^ 53 by omega), mag_lo (by omega), mag_lo (by omega)]
  · have h0 : m ≠ 0 := by omega
    have hl : 52 ≤ m.log2 := (Nat.le_log2 h0).2 h
    obtain ⟨b1, b2⟩ := kept_in h
    unfold rg
    rw [Nat.log2_two_mul h0, show m.log2 + 1 - 52 = (m.log2 - 52) + 1 by omega, Nat.pow_succ 2 (m.log2 - 52), Nat.mul_comm (2 ^ (m.log2 - 52)) 2, rhe_two, mag_at _ _ b1 b2, mag_at _ _ b1 b2, Nat.pow_succ 2 (m.log2 - 52)]
    generalize rhe m (2 ^ (m.log2 - 52)) = A
    generalize 2 ^ (m.log2 - 52) = B
    rw [Nat.mul_comm B 2, ← Nat.mul_assoc, ← Nat.mul_assoc, Nat.mul_comm A 2]
theorem rg_fin {m : Nat} (h : m ≤ 2 ^ (uT + uE)) : rg m < infR := Nat.lt_of_le_of_lt (rg_mono h) (by decide +kernel)

def sg (s : Bool) (n : Nat) : Int := if s then -(n : Int) else n
/-- a word stands for so many units of the least place -/
def Is (x : Nat) (v : Int) : Prop := ∃ s r, x = double.word s r ∧ r < infR ∧ v = sg s (mag r)
/-- rounded -/
def rd (v : Int) : Int := sg (decide (v < 0)) (mag (rg v.natAbs))

theorem read_word (s : Bool) {r : Nat} (h : r < infR) : ∃ m e, double.read (double.word s r) = .number s m e ∧ -1074 ≤ e ∧ m * 2 ^ (e + 1074).toNat = mag r ∧ m < 2 ^ 53 := by
  have hr : infR < 2 ^ 63 := by decide +kernel
  have e1 : double.word s r % 2 ^ 63 = r := by unfold Format.word; rw [sw_eq]; cases s <;> simp <;> omega
  have e2 : (double.word s r / 2 ^ 63 % 2 == 1) = s := by
    unfold Format.word; rw [sw_eq]
    cases s
    · simp; rw [Nat.div_eq_of_lt (by omega)]
    · simp
      have : (9223372036854775808 + r) / 9223372036854775808 = 1 := by omega
      omega
  unfold Format.read
  rw [sw_eq, bin_eq, infR_eq, least_eq]
  simp only [e1, e2]
  by_cases hlt : r < 2 ^ 52
  · refine ⟨r, -1074, by rw [if_pos hlt], by omega, ?_, by omega⟩
    unfold mag
    rw [if_pos hlt]; simp
  · refine ⟨2 ^ 52 + r % 2 ^ 52, -1074 + ((r / 2 ^ 52 - 1 : Nat) : Int), by rw [if_neg hlt, if_pos h], by omega, ?_, by have := Nat.mod_lt r (show 0 < 2 ^ 52 by decide); omega⟩
    unfold mag
    rw [if_neg hlt]
    congr 2
    omega
theorem Is.read {x : Nat} {v : Int} (h : Is x v) : ∃ s m e, double.read x = .number s m e ∧ -1074 ≤ e ∧ v = sg s (m * 2 ^ (e + 1074).toNat) ∧ m < 2 ^ 53 := by
  obtain ⟨s, r, rfl, hr, rfl⟩ := h
  obtain ⟨m, e, h1, h2, h3, h4⟩ := read_word s hr
  exact ⟨s, m, e, h1, h2, by rw [h3], h4⟩
theorem sg_abs (s : Bool) (n : Nat) : (sg s n).natAbs = n := by cases s <;> simp [sg]
theorem write_is (s : Bool) {n : Nat} (h : n ≤ 2 ^ (uT + uE)) : Is (double.nearest s n (-1074)) (sg s (mag (rg n))) := by
  rw [near_rg, Nat.min_eq_left (Nat.le_of_lt (rg_fin h))]
  exact ⟨s, _, rfl, rg_fin h, rfl⟩
theorem signed_eq (s : Bool) (m k : Nat) : signed s m k = sg s (m * 2 ^ k) := by unfold signed sg; rw [Nat.shiftLeft_eq]
theorem sg_mul (s : Bool) (a b : Nat) : sg s (a * b) = sg s a * (b : Int) := by cases s <;> simp [sg, Int.neg_mul]
theorem rd_pos (n : Nat) : rd (n : Int) = mag (rg n) := by
  unfold rd
  have : ¬ ((n : Int) < 0) := by omega
  simp [sg, this]
theorem rd_sg (s : Bool) (n : Nat) : rd (sg s n) = sg s (mag (rg n)) := by
  cases s
  · exact rd_pos n
  · unfold rd
    rw [sg_abs]
    by_cases h : n = 0
    · subst h; rw [rg_zero, mag_zero]; rfl
    · have : sg true n < 0 := by simp [sg]; omega
      rw [decide_eq_true this]
theorem rd_zero : rd 0 = 0 := by
  unfold rd
  rw [show Int.natAbs 0 = 0 from rfl, rg_zero, mag_zero]
  rfl
theorem rd_neg (v : Int) : rd (-v) = -rd v := by
  have : ∀ n : Nat, rd (-(n : Int)) = -rd (n : Int) := fun n => by
    have h := rd_sg true n
    simp only [sg, if_true] at h
    rw [rd_pos, h]
  rcases Int.eq_nat_or_neg v with ⟨n, rfl | rfl⟩
  · exact this n
  · rw [this, Int.neg_neg, Int.neg_neg]
theorem rd_two (v : Int) : rd (2 * v) = 2 * rd v := by
  have : ∀ n : Nat, rd (2 * (n : Int)) = 2 * rd (n : Int) := fun n => by
    have h := rd_pos (2 * n)
    rw [rd_pos, show (2 * (n : Int)) = ((2 * n : Nat) : Int) by omega, h, rg_two]
    omega
  rcases Int.eq_nat_or_neg v with ⟨n, rfl | rfl⟩
  · exact this n
  · rw [show 2 * -(n : Int) = -(2 * (n : Int)) by omega, rd_neg, rd_neg, this]; omega
theorem rd_exact (s : Int) {k : Nat} (ha : s.natAbs < 2 ^ 53) : rd (s * 2 ^ k) = s * 2 ^ k := by
  have key : ∀ n : Nat, n < 2 ^ 53 → rd ((n : Int) * 2 ^ k) = (n : Int) * 2 ^ k := fun n hn => by
    have h := rd_pos (n * 2 ^ k)
    rw [mag_rg hn] at h
    have e : ((n * 2 ^ k : Nat) : Int) = (n : Int) * 2 ^ k := by simp
    rw [e] at h
    exact h
  rcases Int.eq_nat_or_neg s with ⟨n, rfl | rfl⟩
  · exact key n (by simpa using ha)
  · rw [show -(n : Int) * 2 ^ k = -((n : Int) * 2 ^ k) by rw [Int.neg_mul], rd_neg, key n (by simpa using ha)]
theorem rd_abs (v : Int) : (rd v).natAbs = mag (rg v.natAbs) := by unfold rd; rw [sg_abs]
/-- what is no more than a number that fits is rounded to no more than it -/
theorem rd_le {v : Int} {a k : Nat} (ha : a < 2 ^ 53) (h : v.natAbs ≤ a * 2 ^ k) : (rd v).natAbs ≤ a * 2 ^ k := by
  rw [rd_abs]
  have := mag_mono (rg_mono h)
  rw [mag_rg ha] at this
  exact this

theorem total_is {s : Bool} {n m : Nat} {b : Int} (hb : -1074 ≤ b) (h : m * 2 ^ (b + 1074).toNat = n) (hn : n ≤ 2 ^ (uT + uE)) : Is (double.nearest s m b) (rd (sg s n)) := by
  rw [near_same s (-1074) hb (by omega) (show m * 2 ^ (b - -1074).toNat = n * 2 ^ ((-1074 : Int) - -1074).toNat by rw [show b - -1074 = b + 1074 by omega, h]; simp), rd_sg]
  exact write_is s hn
theorem Is.opposite {x : Nat} {v : Int} (h : Is x v) : ∃ s m e, (double.read x).opposite = .number s m e ∧ -1074 ≤ e ∧ -v = sg s (m * 2 ^ (e + 1074).toNat) ∧ m < 2 ^ 53 := by
  obtain ⟨s, m, e, h1, h2, h3, h4⟩ := h.read
  refine ⟨!s, m, e, by rw [h1]; rfl, h2, ?_, h4⟩
  rw [h3]
  cases s <;> simp [sg]
theorem sum_is {s t : Bool} {m n : Nat} {i j u v : Int} (hi : -1074 ≤ i) (hj : -1074 ≤ j) (hu : u = sg s (m * 2 ^ (i + 1074).toNat)) (hv : v = sg t (n * 2 ^ (j + 1074).toNat)) (hb : (u + v).natAbs ≤ 2 ^ (uT + uE)) :
    ∃ r, (((Datum.number s m i).sum (.number t n j)).map double.write) = some r ∧ Is r (rd (u + v)) := by
  refine ⟨_, rfl, ?_⟩
  show Is (double.nearest _ _ _) _
  generalize hbase : min i j = base
  have hb0 : -1074 ≤ base := by omega
  have e : ∀ (s : Bool) (m : Nat) (i : Int), base ≤ i → sg s (m * 2 ^ (i + 1074).toNat) = signed s m (i - base).toNat * 2 ^ (base + 1074).toNat := fun s m i hi => by
    rw [signed_eq, show (i + 1074).toNat = (i - base).toNat + (base + 1074).toNat by omega, Nat.pow_add, ← Nat.mul_assoc, sg_mul]
    simp
  have hs : u + v = (signed s m (i - base).toNat + signed t n (j - base).toNat) * 2 ^ (base + 1074).toNat := by
    rw [hu, hv, e s m i (by omega), e t n j (by omega), Int.add_mul]
  generalize signed s m (i - base).toNat + signed t n (j - base).toNat = tot at hs
  have hn : tot.natAbs * 2 ^ (base + 1074).toNat = (u + v).natAbs := by
    rw [hs, Int.natAbs_mul]; congr 1
  by_cases h0 : tot = 0
  · rw [if_pos h0]
    have := total_is (s := (s && t)) hb0 hn hb
    have hz : u + v = 0 := by rw [hs, h0, Int.zero_mul]
    rw [hz] at this ⊢
    have e0 : sg (s && t) (Int.natAbs 0) = 0 := by cases (s && t) <;> rfl
    rw [e0] at this
    exact this
  · rw [if_neg h0]
    have := total_is (s := decide (tot < 0)) hb0 hn hb
    have hp : (0 : Int) < 2 ^ (base + 1074).toNat := by
      have h1 : (0 : Int) < ((2 ^ (base + 1074).toNat : Nat) : Int) := by have := Nat.two_pow_pos (base + 1074).toNat; omega
      simpa using h1
    have e0 : sg (decide (tot < 0)) (u + v).natAbs = u + v := by
      unfold sg
      rcases Int.lt_or_le tot 0 with h | h
      · have h2 : u + v < 0 := by rw [hs]; exact Int.mul_neg_of_neg_of_pos h hp
        simp [h]; omega
      · have h2 : 0 ≤ u + v := by rw [hs]; exact Int.mul_nonneg h (by omega)
        have h3 : ¬ tot < 0 := by omega
        simp [h3]; omega
    rw [e0] at this
    exact this
theorem add_is {x y : Nat} {u v : Int} (hx : Is x u) (hy : Is y v) (hb : (u + v).natAbs ≤ 2 ^ (uT + uE)) : ∃ r, floatBits .add .f64 x y = some r ∧ Is r (rd (u + v)) := by
  obtain ⟨s, m, i, h1, h2, h3, -⟩ := hx.read
  obtain ⟨t, n, j, k1, k2, k3, -⟩ := hy.read
  show ∃ r, (((double.read x).sum (double.read y)).map double.write) = some r ∧ _
  rw [h1, k1]
  exact sum_is h2 k2 h3 k3 hb
theorem sub_is {x y : Nat} {u v : Int} (hx : Is x u) (hy : Is y v) (hb : (u - v).natAbs ≤ 2 ^ (uT + uE)) : ∃ r, floatBits .sub .f64 x y = some r ∧ Is r (rd (u - v)) := by
  obtain ⟨s, m, i, h1, h2, h3, -⟩ := hx.read
  obtain ⟨t, n, j, k1, k2, k3, -⟩ := hy.opposite
  show ∃ r, (((double.read x).sum (double.read y).opposite).map double.write) = some r ∧ _
  rw [h1, k1, show u - v = u + -v by omega]
  exact sum_is h2 k2 h3 k3 (by rw [show u + -v = u - v by omega]; exact hb)
theorem sg_sg (s t : Bool) (m n : Nat) : sg s m * sg t n = sg (s ^^ t) (m * n) := by
  cases s <;> cases t <;> simp [sg, Int.neg_mul, Int.mul_neg]
theorem sg_eq_abs {s : Bool} {a b : Nat} {v : Int} (h : v = sg s a) (hb : v.natAbs = b) : v = sg s b := by
  rw [h, sg_abs] at hb; rw [h, hb]
/-- a product whose value is a number of units -/
theorem mul_is {x y : Nat} {u v q : Int} (hx : Is x u) (hy : Is y v) (hq : u * v = q * 2 ^ uE) (hb : q.natAbs ≤ 2 ^ (uT + uE)) : ∃ r, floatBits .mul .f64 x y = some r ∧ Is r (rd q) := by
  obtain ⟨s, m, i, h1, h2, h3, -⟩ := hx.read
  obtain ⟨t, n, j, k1, k2, k3, -⟩ := hy.read
  show ∃ r, (((double.read x).product (double.read y)).map double.write) = some r ∧ _
  rw [h1, k1]
  refine ⟨_, rfl, ?_⟩
  show Is (double.nearest _ _ _) _
  have hp : (0 : Int) < 2 ^ uE := Int.pow_pos (by decide)
  have e1 : u * v = sg (s ^^ t) (m * n * 2 ^ (i + j + 2148).toNat) := by
    rw [h3, k3, sg_sg]
    congr 1
    rw [show (i + j + 2148).toNat = (i + 1074).toNat + (j + 1074).toNat by omega, Nat.pow_add]
    simp [Nat.mul_comm, Nat.mul_left_comm, Nat.mul_assoc]
  have e2 : m * n * 2 ^ (i + j + 2148).toNat = q.natAbs * 2 ^ uE := by
    have h := congrArg Int.natAbs hq
    rw [e1, sg_abs, Int.natAbs_mul] at h
    rw [h]
    congr 1
  have e3 : q = sg (s ^^ t) q.natAbs := by
    rw [e1] at hq
    rw [e2, sg_mul] at hq
    have : (((2 ^ uE : Nat)) : Int) = 2 ^ uE := by simp
    rw [this] at hq
    exact (Int.eq_of_mul_eq_mul_right (by omega) hq).symm
  rw [near_same (s ^^ t) (-2148) (show -2148 ≤ i + j by omega) (show -2148 ≤ (-1074 : Int) by omega) (show m * n * 2 ^ (i + j - -2148).toNat = q.natAbs * 2 ^ ((-1074 : Int) - -2148).toNat by rw [show i + j - -2148 = i + j + 2148 by omega, e2, show ((-1074 : Int) - -2148).toNat = uE by have := uE_eq; omega])]
  have e4 : rd q = sg (s ^^ t) (mag (rg q.natAbs)) := by
    have h := rd_sg (s ^^ t) q.natAbs
    rw [← e3] at h
    exact h
  rw [e4]
  exact write_is _ hb
/-- a whole number, as a word -/
theorem int_is {n : Int} (h : n.natAbs < 2 ^ 53) : Is (floatOfInt .f64 n) (n * 2 ^ uE) := by
  show Is (double.nearest (n < 0) n.natAbs 0) _
  have hb : n.natAbs * 2 ^ uE ≤ 2 ^ (uT + uE) := by
    rw [Nat.pow_add]
    exact Nat.mul_le_mul_right _ (uT_53 h)
  have hu := uE_eq
  have h1 := total_is (s := decide (n < 0)) (m := n.natAbs) (b := 0) (n := n.natAbs * 2 ^ uE) (by omega) (by rw [show (0 + 1074 : Int).toNat = uE by omega]) hb
  have e1 : sg (decide (n < 0)) (n.natAbs * 2 ^ uE) = n * 2 ^ uE := by
    rw [sg_mul]
    have e2 : sg (decide (n < 0)) n.natAbs = n := by
      unfold sg
      rcases Int.lt_or_le n 0 with h | h
      · simp [h]; omega
      · have h3 : ¬ n < 0 := by omega
        simp [h3]; omega
    rw [e2]
    simp
  rw [e1, rd_exact n h] at h1
  exact h1
end Go.Proofs.Ytpmgklmgaienhaa
