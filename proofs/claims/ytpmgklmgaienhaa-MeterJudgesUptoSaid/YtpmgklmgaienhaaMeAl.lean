/- Heaps of rows that are all alike: what the verdict of two of them is. Nothing here walks. -/
import Derived.Test.YtpmgklmgaienhaaMeN
import Derived.Test.YtpmgklmgaienhaaMeW
namespace Go.Proofs.Ytpmgklmgaienhaa
open Go Ieee
set_option linter.unusedVariables false
set_option linter.unusedSimpArgs false
set_option maxRecDepth 100000

/-- a whole number's rounding is whole -/
theorem rd_whole (a : Int) : ∃ c : Int, rd (a * 2 ^ uE) = c * 2 ^ uE := by
  have key : ∀ n : Nat, ∃ c : Nat, mag (rg (n * 2 ^ uE)) = c * 2 ^ uE := fun n => by
    generalize hN : n * 2 ^ uE = N
    rcases Nat.lt_or_ge N (2 ^ 53) with h | h
    · exact ⟨n, by rw [rg_lo h, mag_lo h, hN]⟩
    · have h0 : N ≠ 0 := by omega
      have hl : 53 ≤ N.log2 := (Nat.le_log2 h0).2 h
      obtain ⟨k1, k2⟩ := kept_in (m := N) (by omega)
      generalize hd : N.log2 - 52 = d at k1 k2
      have hr : mag (rg N) = rhe N (2 ^ d) * 2 ^ d := by
        unfold rg; rw [hd, mag_at _ _ k1 k2]
      rcases Nat.lt_or_ge uE d with hu | hu
      · refine ⟨rhe N (2 ^ d) * 2 ^ (d - uE), ?_⟩
        rw [hr, Nat.mul_assoc, ← Nat.pow_add]; congr 2; omega
      · refine ⟨n, ?_⟩
        have e : N = (n * 2 ^ (uE - d)) * 2 ^ d := by rw [Nat.mul_assoc, ← Nat.pow_add, ← hN]; congr 2; omega
        have hq : rhe N (2 ^ d) = n * 2 ^ (uE - d) := by
          conv => lhs; rw [e]
          exact rhe_mul _ _ (Nat.two_pow_pos _)
        rw [hr, hq, ← e, hN]
  rcases Int.eq_nat_or_neg a with ⟨n, rfl | rfl⟩
  · obtain ⟨c, hc⟩ := key n
    refine ⟨c, ?_⟩
    have h := rd_pos (n * 2 ^ uE)
    rw [hc] at h
    have e1 : ((n * 2 ^ uE : Nat) : Int) = (n : Int) * 2 ^ uE := by simp
    have e2 : ((c * 2 ^ uE : Nat) : Int) = (c : Int) * 2 ^ uE := by simp
    rw [e1, e2] at h
    exact h
  · obtain ⟨c, hc⟩ := key n
    refine ⟨-(c : Int), ?_⟩
    have h := rd_pos (n * 2 ^ uE)
    rw [hc] at h
    have e1 : ((n * 2 ^ uE : Nat) : Int) = (n : Int) * 2 ^ uE := by simp
    have e2 : ((c * 2 ^ uE : Nat) : Int) = (c : Int) * 2 ^ uE := by simp
    rw [e1, e2] at h
    rw [Int.neg_mul, rd_neg, h, Int.neg_mul]
/-- any whole number of 64 bits, as a word -/
theorem int_any {n : Int} (h : n.natAbs ≤ 2 ^ 63) : ∃ c : Int, Is (floatOfInt .f64 n) (c * 2 ^ uE) ∧ c.natAbs * 2 ^ uE ≤ 1 * 2 ^ (63 + uE) ∧ (0 ≤ n → 0 ≤ c) := by
  have hu := uE_eq
  have hb : n.natAbs * 2 ^ uE ≤ 1 * 2 ^ (63 + uE) := by rw [Nat.one_mul, Nat.pow_add]; exact Nat.mul_le_mul_right _ h
  have hb2 : 1 * 2 ^ (63 + uE) ≤ 2 ^ (uT + uE) := by
    rw [Nat.one_mul]; exact Nat.pow_le_pow_right (by decide) (by rw [uT_eq]; omega)
  have h1 : Is (double.nearest (decide (n < 0)) n.natAbs 0) (rd (sg (decide (n < 0)) (n.natAbs * 2 ^ uE))) := total_is (by omega) (by rw [show (0 + 1074 : Int).toNat = uE by omega]) (Nat.le_trans hb hb2)
  have e2 : sg (decide (n < 0)) (n.natAbs * 2 ^ uE) = n * 2 ^ uE := by
    rw [sg_mul]
    have e3 : sg (decide (n < 0)) n.natAbs = n := by
      unfold sg
      rcases Int.lt_or_le n 0 with h | h
      · simp [h]; omega
      · have h3 : ¬ n < 0 := by omega
        simp [h3]; omega
    rw [e3]; simp
  rw [e2] at h1
  obtain ⟨c, hc⟩ := rd_whole n
  rw [hc] at h1
  have hpos : 0 ≤ n → 0 ≤ c := fun hn => by
    obtain ⟨m, rfl⟩ := Int.eq_ofNat_of_zero_le hn
    have h6 := rd_pos (m * 2 ^ uE)
    have e1 : ((m * 2 ^ uE : Nat) : Int) = (m : Int) * 2 ^ uE := by simp
    rw [e1, hc] at h6
    have hp := two_pow_int_pos uE
    rcases Int.lt_or_le c 0 with h7 | h7
    · have := Int.mul_neg_of_neg_of_pos h7 hp
      omega
    · exact h7
  refine ⟨c, h1, ?_, hpos⟩
  have h5 := rd_le (v := n * 2 ^ uE) (a := 1) (k := 63 + uE) (by decide) (by rw [Int.natAbs_mul, powW]; exact hb)
  rw [hc, Int.natAbs_mul, powW] at h5
  exact h5
theorem pow_split (k : Nat) (c : Nat) : c * 2 ^ uE ≤ 1 * 2 ^ (k + uE) ↔ c ≤ 2 ^ k := by
  rw [Nat.one_mul, Nat.pow_add]
  exact ⟨fun h => Nat.le_of_mul_le_mul_right h (Nat.two_pow_pos _), fun h => Nat.mul_le_mul_right _ h⟩
/-- a kind's size is a whole number -/
theorem sizeO_is {l : List RunT} (hok : ∀ r ∈ l, RunOk r) (kk : Int) : ∀ j, j ≤ 2 ^ 50 → ∃ w c, sizeO l kk j = some w ∧ Is w (c * 2 ^ uE) ∧ c.natAbs * 2 ^ uE ≤ j * 2 ^ (126 + uE) := by
  intro j
  induction j with
  | zero => intro _; exact ⟨0, 0, rfl, zeroW, by simp⟩
  | succ j ih =>
    intro hj
    obtain ⟨w, c, e, i, hb⟩ := ih (by omega)
    have hmono : c.natAbs * 2 ^ uE ≤ (j + 1) * 2 ^ (126 + uE) := Nat.le_trans hb (Nat.mul_le_mul_right _ (by omega))
    by_cases hk : ((l[j]?).getD (0, 0, 0)).1 = kk
    · have hz : ∀ r : RunT, RunOk r → r.2.1.natAbs ≤ 2 ^ 63 ∧ r.2.2.natAbs ≤ 2 ^ 63 := fun r h => by
        obtain ⟨-, h1, h2⟩ := h
        have : (2 : Nat) ^ 63 = 9223372036854775808 := by decide
        omega
      have hr : ((l[j]?).getD (0, 0, 0)).2.1.natAbs ≤ 2 ^ 63 ∧ ((l[j]?).getD (0, 0, 0)).2.2.natAbs ≤ 2 ^ 63 := by
        cases h : l[j]? with
        | none => exact ⟨Nat.zero_le _, Nat.zero_le _⟩
        | some r => exact hz r (hok r (List.mem_of_getElem? h))
      obtain ⟨c1, i1, b1, -⟩ := int_any hr.2
      obtain ⟨c2, i2, b2, -⟩ := int_any hr.1
      have b1' := (pow_split 63 _).1 b1
      have b2' := (pow_split 63 _).1 b2
      have hq : (c1 * c2 * 2 ^ uE).natAbs ≤ 1 * 2 ^ (126 + uE) := by
        rw [Int.natAbs_mul, powW, pow_split, Int.natAbs_mul, show (2 : Nat) ^ 126 = 2 ^ 63 * 2 ^ 63 by decide]
        exact Nat.mul_le_mul b1' b2'
      have hbig : ∀ a : Nat, a ≤ 2 ^ 51 → a * 2 ^ (126 + uE) ≤ 2 ^ (uT + uE) := fun a ha => by
        refine Nat.le_trans (Nat.mul_le_mul_right _ ha) ?_
        rw [← Nat.pow_add]
        exact Nat.pow_le_pow_right (by decide) (by rw [uT_eq]; omega)
      obtain ⟨p, e1, j1⟩ := mul_is i1 i2 (q := c1 * c2 * 2 ^ uE) (by simp [Int.mul_comm, Int.mul_left_comm, Int.mul_assoc]) (Nat.le_trans hq (hbig 1 (by decide)))
      have hp := rd_le (by decide) hq
      obtain ⟨c3, h3⟩ := rd_whole (c1 * c2)
      rw [h3] at j1 hp
      have hs : (c * 2 ^ uE + c3 * 2 ^ uE).natAbs ≤ (j + 1) * 2 ^ (126 + uE) := by
        rw [Nat.add_mul]
        refine Nat.le_trans (Int.natAbs_add_le _ _) (Nat.add_le_add ?_ hp)
        rw [Int.natAbs_mul, powW]; exact hb
      obtain ⟨r, e2, j2⟩ := add_is i j1 (Nat.le_trans hs (hbig _ (by omega)))
      rw [← Int.add_mul] at j2 hs
      have hr2 := rd_le (show j + 1 < 2 ^ 53 by have : (2 : Nat) ^ 50 < 2 ^ 53 := by decide
                                                omega) hs
      obtain ⟨c4, h4⟩ := rd_whole (c + c3)
      rw [h4] at j2 hr2
      refine ⟨r, c4, ?_, j2, ?_⟩
      · show (if _ then _ else _) = _
        rw [if_pos hk, e, opW e1, opW e2]
      · rw [Int.natAbs_mul, powW] at hr2; exact hr2
    · refine ⟨w, c, ?_, i, hmono⟩
      show (if _ then _ else _) = _
      rw [if_neg hk, e]
/-- what is asked of a row is a whole number of 32 bits -/
def AskIs (r : RowM) (kk : Int) (s : Bool) (w : Nat) (c : Int) : Prop := askO kk s r = some w ∧ Is w (c * 2 ^ uE) ∧ c.natAbs ≤ 2 ^ 31
theorem colW_rep {r : RowM} {kk : Int} {s : Bool} {w : Nat} {c : Int} (h : AskIs r kk s w c) (n : Nat) : colW (List.replicate n r) kk s = List.replicate n w := by
  unfold colW colO
  rw [List.length_replicate, List.take_replicate, Nat.min_self, List.map_replicate, List.map_replicate, h.1]
  rfl
def tVal (a b : Int) : Nat := if a = b then 0 else if b < a then 9218868437227405312 else 18442240474082181120
theorem tJ_rep {ra rb : RowM} {kk : Int} {s : Bool} {wa wb : Nat} {a b : Int} (ha : AskIs ra kk s wa a) (hb : AskIs rb kk s wb b) (n m : Nat) (hn : 2 ≤ n) (hn3 : n ≤ 300) (hm : 2 ≤ m) (hm3 : m ≤ 300) :
    tJ (List.replicate n ra) (List.replicate m rb) kk s = some (tVal a b) := by
  unfold tJ
  rw [colW_rep ha, colW_rep hb, List.length_replicate, List.length_replicate]
  exact t_rep ha.2.1 hb.2.1 ha.2.2 hb.2.2 n m hn hn3 hm hm3
theorem gt_a : gtW (wtO (some 0)) (0 % 2 ^ 63) = false := by decide +kernel
theorem gt_b : gtW (wtO (some 9218868437227405312)) (0 % 2 ^ 63) = true ∧ gtW (wtO (some 18442240474082181120)) (0 % 2 ^ 63) = true := by decide +kernel
theorem gt_c {x y : Nat} (hx : x = 0 ∨ x = 9218868437227405312 ∨ x = 18442240474082181120) (hy : y = 9218868437227405312 ∨ y = 18442240474082181120) : gtW (wtO (some x)) (y % 2 ^ 63) = false := by
  rcases hx with rfl | rfl | rfl <;> rcases hy with rfl | rfl <;> decide +kernel
theorem tVal_in (a b : Int) : tVal a b = 0 ∨ tVal a b = 9218868437227405312 ∨ tVal a b = 18442240474082181120 := by
  unfold tVal; split
  · exact .inl rfl
  · split
    · exact .inr (.inl rfl)
    · exact .inr (.inr rfl)
/-- the verdict of rows that are all alike: nothing, or an infinite T where some number is unlike -/
theorem stJ_rep {as_ bs : List RowM} (F G : Nat → Int) (h : ∀ i, i < 24 → tJ as_ bs ((i / 2 : Nat) + 1) (i % 2 == 1) = some (tVal (F i) (G i))) : ∀ j, j ≤ 24 →
    (stJ as_ bs j = (0, false, 0) ∧ ∀ i, i < j → F i = G i) ∨ (∃ k s T, stJ as_ bs j = (k, s, T) ∧ k ≠ 0 ∧ (T = 9218868437227405312 ∨ T = 18442240474082181120) ∧ ∃ i, i < j ∧ F i ≠ G i) := by
  intro j
  induction j with
  | zero => intro _; left; exact ⟨rfl, fun i hi => by omega⟩
  | succ j ih =>
    intro hj
    have ht := h j (by omega)
    have hst : stJ as_ bs (j + 1) = stepJ (tJ as_ bs ((j / 2 : Nat) + 1) (j % 2 == 1)) ((j / 2 : Nat) + 1) (j % 2 == 1) (stJ as_ bs j) := rfl
    rw [hst, ht]
    rcases ih (by omega) with ⟨h1, h2⟩ | ⟨k, s, T, h1, h2, h3, i, hi, hne⟩
    · rw [h1]
      by_cases hFG : F j = G j
      · left
        refine ⟨?_, fun i hi => ?_⟩
        · unfold stepJ
          rw [show tVal (F j) (G j) = 0 from if_pos hFG]
          rw [if_neg (by rw [gt_a]; decide)]
        · by_cases e : i = j
          · subst e; exact hFG
          · exact h2 i (by omega)
      · right
        have hv : tVal (F j) (G j) = 9218868437227405312 ∨ tVal (F j) (G j) = 18442240474082181120 := by
          unfold tVal; rw [if_neg hFG]; split
          · exact .inl rfl
          · exact .inr rfl
        refine ⟨((j / 2 : Nat) : Int) + 1, (j % 2 == 1), tVal (F j) (G j), ?_, by omega, hv, j, by omega, hFG⟩
        unfold stepJ
        have hg : gtW (wtO (some (tVal (F j) (G j)))) (0 % 2 ^ 63) = true := by
          rcases hv with e | e <;> rw [e]
          · exact gt_b.1
          · exact gt_b.2
        rw [if_pos hg]; rfl
    · right
      refine ⟨k, s, T, ?_, h2, h3, i, by omega, hne⟩
      rw [h1]
      unfold stepJ
      rw [if_neg (by rw [gt_c (tVal_in _ _) h3]; decide)]
end Go.Proofs.Ytpmgklmgaienhaa
