/- Numbers as bytes: number, Left, Right, String, Pad, in shake and in the document. -/
import Derived.Test.YthdfbnababmanaaBSt
namespace Go.Proofs.Ythdfbnababmanaa
open Go.RowKit
set_option linter.unusedVariables false

/-- a number's bytes, as few as it takes, the highest first -/
def numB (n : Nat) : List UInt8 := if n < 256 then [UInt8.ofNat (n % 256)] else numB (n / 256) ++ [UInt8.ofNat (n % 256)]
termination_by n
decreasing_by omega
theorem numB_small {n : Nat} (h : n / 256 = 0) : numB n = [UInt8.ofNat (n % 256)] := by rw [numB, if_pos (by omega)]
theorem numB_big {n : Nat} (h : n / 256 ≠ 0) : numB n = numB (n / 256) ++ [UInt8.ofNat (n % 256)] := by rw [numB, if_neg (by omega)]
theorem numB_len (k : Nat) : ∀ n, n < 256 ^ (k + 1) → (numB n).length ≤ k + 1 := by
  induction k with
  | zero => intro n h; rw [numB_small (by omega)]; simp
  | succ k ih =>
    intro n h
    by_cases h0 : n / 256 = 0
    · rw [numB_small h0]; simp
    · rw [numB_big h0, List.length_append]
      have := ih (n / 256) (by rw [Nat.pow_succ] at h; omega)
      simp; omega
theorem numB_le {n : Nat} (h : n ≤ 9223372036854775807) : (numB n).length ≤ 8 := numB_len 7 n (by omega)
theorem numB_pos (n : Nat) : 0 < (numB n).length := by
  by_cases h0 : n / 256 = 0
  · rw [numB_small h0]; simp
  · rw [numB_big h0]; simp
def numT (n m : Nat) (b : List UInt8) : Prop := numB n = if m = 0 then b else numB m ++ b
theorem numM {m m' : Nat} (h : m / 256 = m') (h0 : ¬ m = 0) : m' < m := by omega
/-- Left, Right, String, Pad -/
def leftB (n : Nat) : List UInt8 := UInt8.ofNat (numB n).length :: numB n
def rightB (n : Nat) : List UInt8 := numB n ++ [UInt8.ofNat (numB n).length]
def leftI (n : Int) : List UInt8 := if n < 0 then [] else leftB n.toNat
def rightI (n : Int) : List UInt8 := if n < 0 then [] else rightB n.toNat
def errI (n : Int) : Int := if n < 0 then 2 else 0
def strB (b : List UInt8) : List UInt8 := leftB (8 * b.length) ++ b
def padN (b : List UInt8) (w : Nat) : Nat := (w - (leftB w ++ b).length % w) % w
def padB (b : List UInt8) (w : Nat) : List UInt8 := leftB w ++ b ++ List.replicate (padN b w) 0
def padOk (w : Int) : Prop := 1 ≤ w ∧ w ≤ 256
instance (w : Int) : Decidable (padOk w) := inferInstanceAs (Decidable (_ ∧ _))
def padI (b : List UInt8) (w : Int) : List UInt8 := if padOk w then padB b w.toNat else []
def padE (w : Int) : Int := if padOk w then 0 else 2

set_option maxRecDepth 100000 in
set_option maxHeartbeats 1000000 in
theorem number_s (n : Nat) (w : World) (hn : n ≤ 9223372036854775807) {a : Int} (ha : a = (n : Int)) :
    Calls Try.prog 53 #[.int .i64 a] w fun e w' => ∃ v, e = .returned v ∧ OwnB w' w.heap.size v (numB n) ∧ Below w.heap.size w w' := by
  obtain ⟨i0, hi0, hz0, hz1, hz2⟩ := info_parts u8_info
  subst ha
  have hle := numB_le hn
  have H0 := (St.start_lay w []).nilRow 0 rfl 5 1 |>.push_mk rfl
  go_enter Try.func53, Try.ntmps53
  go_wp2
  go_loopw [0, 3] (fun i v wr => ∃ (m j : Nat) (b : List UInt8), m ≤ 9223372036854775807 ∧ j ≤ 7 ∧ i = .int .i64 m ∧ Hid (numB n = numB m ++ b) ∧ Hid (b.length = j) ∧ St w [] wr (lay [.row 5 1 v j (b.map vb)])) (fun i _ _ => (intOf i).toNat)
  case atStart => exact ⟨n, 0, [], hn, by omega, rfl, by unfold Hid; simp, rfl, H0⟩
  case round =>
    clear H0
    obtain ⟨m, j, b, hm, hj, rfl, HE, HJ, H⟩ := hrel
    obtain ⟨A, c, rfl, -⟩ := row_form (H.row 0 rfl)
    have hbe := u8_wrap m
    have HY : Hid (UInt8.ofNat (m % 256) = UInt8.ofNat (m % 256)) := rfl
    revert HY hbe
    generalize hy : UInt8.ofNat (m % 256) = y
    intro hbe HY
    have HY1 := Lib.hid hy
    clear hy HY
    have H1 := (H.lit 1 rfl 5 #[vb y] 1 rfl (by omega) wr.heap.size rfl).push_mk rfl
    have hr1 := H1.row 1 rfl
    have hd := H.rd 0 rfl
    obtain ⟨m', HM'⟩ : ∃ m', Hid (m / 256 = m') := ⟨_, rfl⟩
    have hdiv : (m : Int) / 256 = (m' : Int) := by have := HM'.out; omega
    have hlm : m' ≤ m ∧ (m' ≠ 0 → m' < m) := by have := HM'.out; omega
    go_wp2_with (at_builtin; refine hold_here ?_)
    refine Held.go ?_
    refine wpList_append_any _ rfl (.tmp 6) (.tmp 7) _ rfl 0 5 i0 (.int .u8 0) 1 1 Try.underlying22 hi0 hz0 hz1 hz2 rfl (by omega) (.slice (some ⟨wr.heap.size, 0, none⟩) 1 1) 1 [vb y] rfl hr1 A j c (b.map vb) rfl (hd.below ((Below.refl _ _).alloc (Nat.le_refl _) _)) (vb_one _) (by simp only [maxLen]; omega) (by omega) (by omega) ?_
    intro v3 w3 hown3 hg3 hat3
    have H3 := ((H1.grow 1 rfl hown3 hg3 hat3).upd_mk (by simp)).only 1 rfl
    have HB : Hid ((y :: b).length = j + 1) := by unfold Hid; rw [List.length_cons, HJ.out]
    replace H3 : St w [] w3 (lay [.row 5 1 v3 (1 + j) ((y :: b).map vb)]) := H3
    rw [Nat.add_comm 1 j] at H3
    clear hd hr1 H1 H hown3 hg3 hat3 hbe
    by_cases hz : m' = 0
    · subst hz
      go_wp2
      go_ret
      refine ⟨_, rfl, own_enc rfl (H3.ownRow 0 rfl) HB.out.symm |> fun h => ?_, H3.below⟩
      rw [HE.out, numB_small HM'.out, HY1.out]
      exact h
    · have hz' : ¬ (m' : Int) = 0 := by omega
      have hz2 : ((m' : Int) == 0) = false := by simpa using hz'
      have HP := numB_pos m'
      have HE2 : Hid (numB n = numB m' ++ (y :: b)) := by
        unfold Hid
        rw [HE.out, numB_big (by rw [HM'.out]; exact hz), HM'.out, HY1.out]
        simp
      have HJ2 : j + 1 ≤ 7 := by
        have h1 := congrArg List.length HE2.out
        rw [List.length_append, HB.out] at h1
        omega
      go_wp2
      go_roundw
      case rel => exact ⟨m', j + 1, y :: b, by omega, HJ2, rfl, HE2, HB, H3⟩
      case measure => simp [intOf]; omega

set_option maxRecDepth 100000 in
set_option maxHeartbeats 1000000 in
theorem refNumber_s (n : Nat) (w : World) (hn : n ≤ 9223372036854775807) {a : Int} (ha : a = (n : Int)) :
    Calls Try.prog 54 #[.int .i64 a] w fun e w' => ∃ v, e = .returned v ∧ OwnB w' w.heap.size v (numB n) ∧ Below w.heap.size w w' := by
  obtain ⟨i0, hi0, hz0, hz1, hz2⟩ := info_parts u8_info
  subst ha
  have hle := numB_le hn
  have hbn := u8_wrap (n % 256)
  rw [Nat.mod_mod] at hbn
  have hmn : Int.tmod (n : Int) 256 = ((n % 256 : Nat) : Int) := by rw [Int.tmod_eq_emod_of_nonneg (by omega)]; omega
  have hqn : Int.tdiv (n : Int) 256 = ((n / 256 : Nat) : Int) := by rw [Int.tdiv_eq_ediv_of_nonneg (by omega)]; omega
  obtain ⟨m0, HM0⟩ : ∃ m', Hid (n / 256 = m') := ⟨_, rfl⟩
  obtain ⟨r0, HR0⟩ : ∃ r', Hid (n % 256 = r') := ⟨_, rfl⟩
  obtain ⟨y0, HY0⟩ : ∃ y, Hid (UInt8.ofNat (n % 256) = y) := ⟨_, rfl⟩
  rw [HY0.out] at hbn
  rw [HR0.out] at hbn hmn
  rw [HM0.out] at hqn
  go_enter Try.func54, Try.ntmps54
  have H0 := ((St.start_lay w []).lit 0 rfl 5 #[vb y0] 1 rfl (by omega) w.heap.size rfl).push_mk rfl
  have hw0 : wrap64 (m0 : Int) = m0 := IntWalk.wrap64_in _ (by have := HM0.out; omega)
  go_wp2
  clear hbn hmn hqn hw0
  go_loopw [0, 3] (fun i v wr => ∃ (m j : Nat) (b : List UInt8), m ≤ 9223372036854775807 ∧ j ≤ 8 ∧ i = .int .i64 m ∧ Hid (numT n m b) ∧ Hid (b.length = j) ∧ St w [] wr (lay [.row 5 1 v j (b.map vb)])) (fun i _ _ => (intOf i).toNat)
  case atStart =>
    refine ⟨m0, 1, [y0], by have := HM0.out; omega, by omega, rfl, ?_, rfl, H0⟩
    unfold Hid numT
    split
    · rename_i h; subst h; rw [numB_small HM0.out, HY0.out]
    · rename_i h; rw [numB_big (by rw [HM0.out]; exact h), HM0.out, HY0.out]
  case round =>
    clear H0
    obtain ⟨m, j, b, hm, hj, rfl, HE, HJ, H⟩ := hrel
    by_cases h0 : m = 0
    · subst h0
      go_wp2
      go_ret
      refine ⟨_, rfl, own_enc rfl (H.ownRow 0 rfl) HJ.out.symm |> fun h => ?_, H.below⟩
      have h1 := HE.out
      unfold numT at h1
      rw [if_pos rfl] at h1
      rw [h1]
      exact h
    · have hpos : (0 : Int) < m := by omega
      obtain ⟨A, c, rfl, -⟩ := row_form (H.row 0 rfl)
      have hbm := u8_wrap (m % 256)
      rw [Nat.mod_mod] at hbm
      have hmm : Int.tmod (m : Int) 256 = ((m % 256 : Nat) : Int) := by rw [Int.tmod_eq_emod_of_nonneg (by omega)]; omega
      have hqm : Int.tdiv (m : Int) 256 = ((m / 256 : Nat) : Int) := by rw [Int.tdiv_eq_ediv_of_nonneg (by omega)]; omega
      obtain ⟨m', HM⟩ : ∃ m', Hid (m / 256 = m') := ⟨_, rfl⟩
      obtain ⟨r', HR⟩ : ∃ r', Hid (m % 256 = r') := ⟨_, rfl⟩
      obtain ⟨y, HY⟩ : ∃ y, Hid (UInt8.ofNat (m % 256) = y) := ⟨_, rfl⟩
      rw [HY.out] at hbm
      rw [HR.out] at hbm hmm
      rw [HM.out] at hqm
      have hw0 : wrap64 (m' : Int) = m' := IntWalk.wrap64_in _ (by have := HM.out; omega)
      have hlm : m' < m := numM HM.out h0
      have HE2 : Hid (numT n m' (y :: b)) := by
        have h1 := HE.out
        unfold numT at h1
        unfold Hid numT
        rw [h1, if_neg h0]
        split
        · rename_i h; subst h; rw [numB_small HM.out, HY.out]; rfl
        · rename_i h; rw [numB_big (by rw [HM.out]; exact h), HM.out, HY.out]; simp
      have HB : Hid ((y :: b).length = j + 1) := by unfold Hid; rw [List.length_cons, HJ.out]
      have HJ2 : j + 1 ≤ 8 := by
        have h1 := HE2.out
        unfold numT at h1
        replace h1 := congrArg List.length h1
        split at h1
        · rw [HB.out] at h1; omega
        · rw [List.length_append, HB.out] at h1; have := numB_pos m'; omega
      have H1 := (H.lit 1 rfl 5 #[vb y] 1 rfl (by omega) wr.heap.size rfl).push_mk rfl
      have hr1 := H1.row 1 rfl
      have hd := H.rd 0 rfl
      go_wp2_with (at_builtin; refine hold_here ?_)
      refine Held.go ?_
      refine wpList_append_any _ rfl (.tmp 17) (.tmp 18) _ rfl 0 5 i0 (.int .u8 0) 1 1 Try.underlying22 hi0 hz0 hz1 hz2 rfl (by omega) (.slice (some ⟨wr.heap.size, 0, none⟩) 1 1) 1 [vb y] rfl hr1 A j c (b.map vb) rfl (hd.below ((Below.refl _ _).alloc (Nat.le_refl _) _)) (vb_one _) (by simp only [maxLen]; omega) (by omega) (by omega) ?_
      intro v3 w3 hown3 hg3 hat3
      have H3 := ((H1.grow 1 rfl hown3 hg3 hat3).upd_mk (by simp)).only 1 rfl
      replace H3 : St w [] w3 (lay [.row 5 1 v3 (1 + j) ((y :: b).map vb)]) := H3
      rw [Nat.add_comm 1 j] at H3
      clear hd hr1 H1 H hown3 hg3 hat3 hbm hmm
      go_wp2
      go_roundw
      case rel => exact ⟨m', j + 1, y :: b, by omega, HJ2, rfl, HE2, HB, H3⟩
      case measure => simp [intOf]; omega

set_option maxRecDepth 100000 in
set_option maxHeartbeats 1000000 in
theorem left_s (n : Int) (w : World) (hn : n ≤ 9223372036854775807) :
    Calls Try.prog 10 #[.int .i64 n] w fun e w' => ∃ v, e = .returned (.tuple #[v, .int .i64 (errI n)]) ∧ OwnB w' w.heap.size v (leftI n) ∧ Below w.heap.size w w' := by
  obtain ⟨i0, hi0, hz0, hz1, hz2⟩ := info_parts u8_info
  unfold errI leftI
  by_cases h : n < 0
  · rw [if_pos h, if_pos h]
    go_enter Try.func10, Try.ntmps10
    go_wp2
    go_ret2
    exact ⟨_, rfl, World.ownsRow_nil _ _ _ _, Below.refl _ _⟩
  · rw [if_neg h, if_neg h]
    obtain ⟨m, rfl⟩ := Int.eq_ofNat_of_zero_le (by omega : 0 ≤ n)
    rw [Int.toNat_natCast]
    obtain ⟨T, HT⟩ : ∃ T, Hid (T = leftB m) := ⟨_, rfl⟩
    rw [← HT.out]
    go_enter Try.func10, Try.ntmps10
    go_wp2_with fail
    refine (number_s m w (by omega) rfl).mono ?_
    rintro e w1 ⟨v1, rfl, ho, hb⟩
    have H := ((St.start_lay w []).pushOwnB 0 rfl ho hb).push_mk rfl
    unfold leftB at HT
    have hle := numB_le (n := m) (by omega)
    generalize numB m = nb at ho H hle HT
    obtain ⟨A, k, c, rfl, hk, hd⟩ := ho.shape
    replace H := H.shape_row 0 rfl (n' := k) hk.out.symm rfl
    have hkl : k ≤ 8 := by rw [hk.out]; exact hle
    have hbk := u8_wrap k
    obtain ⟨y, HY⟩ : ∃ y, Hid (UInt8.ofNat (k % 256) = y) := ⟨_, rfl⟩
    rw [HY.out] at hbk
    have H1 := (H.lit 1 rfl 5 #[vb y] 1 rfl (by omega) w1.heap.size rfl).push_mk rfl
    have hr1 := H1.row 1 rfl
    clear ho hb hle
    go_wp2_with (at_builtin; refine hold_here ?_)
    refine Held.go ?_
    refine wpList_append_any _ rfl (.tmp 12) (.tmp 13) _ rfl 0 5 i0 (.int .u8 0) 1 1 Try.underlying22 hi0 hz0 hz1 hz2 rfl (by omega) (.slice (some ⟨w1.heap.size, 0, none⟩) 1 1) 1 [vb y] rfl hr1 A k c (nb.map vb) rfl (hd.below ((Below.refl _ _).alloc (Nat.le_refl _) _)) (vb_one _) (by simp only [maxLen]; omega) (by omega) (by omega) ?_
    intro v3 w3 hown3 hg3 hat3
    have H3 := ((H1.grow 1 rfl hown3 hg3 hat3).upd_mk (by simp)).only 1 rfl
    clear hbk
    go_wp2
    go_ret2
    refine ⟨_, rfl, own_enc ?_ (H3.ownRow 0 rfl) (by rw [HT.out]; have := hk.out; simp; omega), H3.below⟩
    rw [HT.out]
    have h1 : UInt8.ofNat nb.length = y := by rw [← HY.out, ← hk.out, Nat.mod_eq_of_lt (by omega)]
    rw [h1]
    rfl

set_option maxRecDepth 100000 in
set_option maxHeartbeats 1000000 in
theorem refLeft_s (n : Int) (w : World) (hn : n ≤ 9223372036854775807) :
    Calls Try.prog 14 #[.int .i64 n] w fun e w' => ∃ v, e = .returned (.tuple #[v, .int .i64 (errI n)]) ∧ OwnB w' w.heap.size v (leftI n) ∧ Below w.heap.size w w' := by
  obtain ⟨i0, hi0, hz0, hz1, hz2⟩ := info_parts u8_info
  unfold errI leftI
  by_cases h : n < 0
  · rw [if_pos h, if_pos h]
    go_enter Try.func14, Try.ntmps14
    go_wp2
    go_ret2
    exact ⟨_, rfl, World.ownsRow_nil _ _ _ _, Below.refl _ _⟩
  · rw [if_neg h, if_neg h]
    obtain ⟨m, rfl⟩ := Int.eq_ofNat_of_zero_le (by omega : 0 ≤ n)
    rw [Int.toNat_natCast]
    obtain ⟨T, HT⟩ : ∃ T, Hid (T = leftB m) := ⟨_, rfl⟩
    rw [← HT.out]
    go_enter Try.func14, Try.ntmps14
    go_wp2_with fail
    refine (refNumber_s m w (by omega) rfl).mono ?_
    rintro e w1 ⟨v1, rfl, ho, hb⟩
    have H := ((St.start_lay w []).pushOwnB 0 rfl ho hb).push_mk rfl
    unfold leftB at HT
    have hle := numB_le (n := m) (by omega)
    generalize numB m = nb at ho H hle HT
    obtain ⟨A, k, c, rfl, hk, hd⟩ := ho.shape
    replace H := H.shape_row 0 rfl (n' := k) hk.out.symm rfl
    have hkl : k ≤ 8 := by rw [hk.out]; exact hle
    have hbk := u8_wrap k
    obtain ⟨y, HY⟩ : ∃ y, Hid (UInt8.ofNat (k % 256) = y) := ⟨_, rfl⟩
    rw [HY.out] at hbk
    have H1 := (H.lit 1 rfl 5 #[vb y] 1 rfl (by omega) w1.heap.size rfl).push_mk rfl
    have hr1 := H1.row 1 rfl
    clear ho hb hle
    go_wp2_with (at_builtin; refine hold_here ?_)
    refine Held.go ?_
    refine wpList_append_any _ rfl (.tmp 14) (.tmp 15) _ rfl 0 5 i0 (.int .u8 0) 1 1 Try.underlying22 hi0 hz0 hz1 hz2 rfl (by omega) (.slice (some ⟨w1.heap.size, 0, none⟩) 1 1) 1 [vb y] rfl hr1 A k c (nb.map vb) rfl (hd.below ((Below.refl _ _).alloc (Nat.le_refl _) _)) (vb_one _) (by simp only [maxLen]; omega) (by omega) (by omega) ?_
    intro v3 w3 hown3 hg3 hat3
    have H3 := ((H1.grow 1 rfl hown3 hg3 hat3).upd_mk (by simp)).only 1 rfl
    clear hbk
    go_wp2
    go_ret2
    refine ⟨_, rfl, own_enc ?_ (H3.ownRow 0 rfl) (by rw [HT.out]; have := hk.out; simp; omega), H3.below⟩
    rw [HT.out]
    have h1 : UInt8.ofNat nb.length = y := by rw [← HY.out, ← hk.out, Nat.mod_eq_of_lt (by omega)]
    rw [h1]
    rfl

set_option maxRecDepth 100000 in
set_option maxHeartbeats 1000000 in
theorem right_s (n : Int) (w : World) (hn : n ≤ 9223372036854775807) :
    Calls Try.prog 11 #[.int .i64 n] w fun e w' => ∃ v, e = .returned (.tuple #[v, .int .i64 (errI n)]) ∧ OwnB w' w.heap.size v (rightI n) ∧ Below w.heap.size w w' := by
  obtain ⟨i0, hi0, hz0, hz1, hz2⟩ := info_parts u8_info
  unfold errI rightI
  by_cases h : n < 0
  · rw [if_pos h, if_pos h]
    go_enter Try.func11, Try.ntmps11
    go_wp2
    go_ret2
    exact ⟨_, rfl, World.ownsRow_nil _ _ _ _, Below.refl _ _⟩
  · rw [if_neg h, if_neg h]
    obtain ⟨m, rfl⟩ := Int.eq_ofNat_of_zero_le (by omega : 0 ≤ n)
    rw [Int.toNat_natCast]
    obtain ⟨T, HT⟩ : ∃ T, Hid (T = rightB m) := ⟨_, rfl⟩
    rw [← HT.out]
    go_enter Try.func11, Try.ntmps11
    go_wp2_with fail
    refine (number_s m w (by omega) rfl).mono ?_
    rintro e w1 ⟨v1, rfl, ho, hb⟩
    have H := ((St.start_lay w []).pushOwnB 0 rfl ho hb).push_mk rfl
    unfold rightB at HT
    have hle := numB_le (n := m) (by omega)
    generalize numB m = nb at ho H hle HT
    obtain ⟨A, k, c, rfl, hk, hd⟩ := ho.shape
    replace H := H.shape_row 0 rfl (n' := k) hk.out.symm rfl
    have hkl : k ≤ 8 := by rw [hk.out]; exact hle
    have hbk := u8_wrap k
    obtain ⟨y, HY⟩ : ∃ y, Hid (UInt8.ofNat (k % 256) = y) := ⟨_, rfl⟩
    rw [HY.out] at hbk
    have hr0 := H.row 0 rfl
    clear ho hb hle hd
    go_wp2_with (at_builtin; refine hold_here ?_)
    refine Held.go ?_
    refine wpList_append_any _ rfl (.tmp 9) (.tmp 13) _ rfl 0 5 i0 (.int .u8 0) 1 1 Try.underlying22 hi0 hz0 hz1 hz2 rfl (by omega) (.slice A k c) k (nb.map vb) rfl (hr0.alloc _) (some ⟨w1.heap.size, 0, none⟩) 1 1 [vb y] rfl (rd_new0 w1 [vb y] _ 1 rfl) (by simp [Value.oneCell']) (by simp only [maxLen]; omega) (by omega) (by omega) ?_
    intro v3 w3 hown3 hg3 hat3
    have H3 := (((H.alloc 1 rfl #[vb y] 5).push_mk rfl).grow 0 rfl hown3 hg3 hat3).upd_mk (by simp)
    clear hbk
    go_wp2
    go_ret2
    refine ⟨_, rfl, own_enc ?_ (H3.ownRow 0 rfl) (by rw [HT.out]; have := hk.out; simp; omega), H3.below⟩
    rw [HT.out]
    have h1 : UInt8.ofNat nb.length = y := by rw [← HY.out, ← hk.out, Nat.mod_eq_of_lt (by omega)]
    rw [h1]
    simp

set_option maxRecDepth 100000 in
set_option maxHeartbeats 1000000 in
theorem refRight_s (n : Int) (w : World) (hn : n ≤ 9223372036854775807) :
    Calls Try.prog 15 #[.int .i64 n] w fun e w' => ∃ v, e = .returned (.tuple #[v, .int .i64 (errI n)]) ∧ OwnB w' w.heap.size v (rightI n) ∧ Below w.heap.size w w' := by
  obtain ⟨i0, hi0, hz0, hz1, hz2⟩ := info_parts u8_info
  unfold errI rightI
  by_cases h : n < 0
  · rw [if_pos h, if_pos h]
    go_enter Try.func15, Try.ntmps15
    go_wp2
    go_ret2
    exact ⟨_, rfl, World.ownsRow_nil _ _ _ _, Below.refl _ _⟩
  · rw [if_neg h, if_neg h]
    obtain ⟨m, rfl⟩ := Int.eq_ofNat_of_zero_le (by omega : 0 ≤ n)
    rw [Int.toNat_natCast]
    obtain ⟨T, HT⟩ : ∃ T, Hid (T = rightB m) := ⟨_, rfl⟩
    rw [← HT.out]
    go_enter Try.func15, Try.ntmps15
    go_wp2_with fail
    refine (refNumber_s m w (by omega) rfl).mono ?_
    rintro e w1 ⟨v1, rfl, ho, hb⟩
    have H := ((St.start_lay w []).pushOwnB 0 rfl ho hb).push_mk rfl
    unfold rightB at HT
    have hle := numB_le (n := m) (by omega)
    generalize numB m = nb at ho H hle HT
    obtain ⟨A, k, c, rfl, hk, hd⟩ := ho.shape
    replace H := H.shape_row 0 rfl (n' := k) hk.out.symm rfl
    have hkl : k ≤ 8 := by rw [hk.out]; exact hle
    have hbk := u8_wrap k
    obtain ⟨y, HY⟩ : ∃ y, Hid (UInt8.ofNat (k % 256) = y) := ⟨_, rfl⟩
    rw [HY.out] at hbk
    have hr0 := H.row 0 rfl
    clear ho hb hle hd
    go_wp2_with (at_builtin; refine hold_here ?_)
    refine Held.go ?_
    refine wpList_append_any _ rfl (.tmp 9) (.tmp 13) _ rfl 0 5 i0 (.int .u8 0) 1 1 Try.underlying22 hi0 hz0 hz1 hz2 rfl (by omega) (.slice A k c) k (nb.map vb) rfl (hr0.alloc _) (some ⟨w1.heap.size, 0, none⟩) 1 1 [vb y] rfl (rd_new0 w1 [vb y] _ 1 rfl) (by simp [Value.oneCell']) (by simp only [maxLen]; omega) (by omega) (by omega) ?_
    intro v3 w3 hown3 hg3 hat3
    have H3 := (((H.alloc 1 rfl #[vb y] 5).push_mk rfl).grow 0 rfl hown3 hg3 hat3).upd_mk (by simp)
    clear hbk
    go_wp2
    go_ret2
    refine ⟨_, rfl, own_enc ?_ (H3.ownRow 0 rfl) (by rw [HT.out]; have := hk.out; simp; omega), H3.below⟩
    rw [HT.out]
    have h1 : UInt8.ofNat nb.length = y := by rw [← HY.out, ← hk.out, Nat.mod_eq_of_lt (by omega)]
    rw [h1]
    simp

set_option maxRecDepth 100000 in
set_option maxHeartbeats 1000000 in
theorem string_s (A : Option Addr) (n c : Nat) (l : List UInt8) (w : World) (hd : Rd w 1 A n (l.map vb)) (hn : n ≤ 140737488351232) :
    Calls Try.prog 12 #[.slice A n c] w fun e w' => ∃ v, e = .returned v ∧ OwnB w' w.heap.size v (strB l) ∧ Below w.heap.size w w' := by
  obtain ⟨i0, hi0, hz0, hz1, hz2⟩ := info_parts u8_info
  have hl : l.length = n := by simpa using hd.1
  have HL := Lib.hid hl
  clear hl
  have hw8 : IntKind.i64.wrap (8 * (n : Int)) = ((8 * n : Nat) : Int) := by rw [IntWalk.i64_in _ (by omega)]; omega
  have hw8' : wrap64 (8 * (n : Int)) = ((8 * n : Nat) : Int) := by rw [IntWalk.wrap64_in _ (by omega)]; omega
  obtain ⟨N, HN⟩ : ∃ N, Hid (8 * n = N) := ⟨_, rfl⟩
  rw [HN.out] at hw8 hw8'
  have hNb : N ≤ 1125899906809856 := by have := HN.out; omega
  go_enter Try.func12, Try.ntmps12
  go_wp2_with fail
  refine (left_s (N : Int) w (by omega)).mono ?_
  rintro e w1 ⟨v1, rfl, ho, hb⟩
  have hpos : ¬ ((N : Int) < 0) := by omega
  unfold leftI at ho
  rw [if_neg hpos, Int.toNat_natCast] at ho
  have hle := numB_le (n := N) (by omega)
  have HT : Hid (strB l = leftB N ++ l) := by unfold Hid strB; rw [HL.out, HN.out]
  have hlt : (leftB N).length ≤ 9 := by unfold leftB; simp; omega
  have H := ((St.start_lay w []).pushOwnB 0 rfl ho hb).push_mk rfl
  generalize leftB N = nb at ho H hlt HT
  obtain ⟨B, k, d, rfl, hk, -⟩ := ho.shape
  replace H := H.shape_row 0 rfl (n' := k) hk.out.symm rfl
  have hkl : k ≤ 9 := by rw [hk.out]; exact hlt
  have hr0 := H.row 0 rfl
  have hdd := H.arg0 hd
  clear ho hb hle hlt hw8 hw8' hpos
  go_wp2_with (at_builtin; refine hold_here ?_)
  refine Held.go ?_
  refine wpList_append_any _ rfl (.tmp 12) (.tmp 13) _ rfl 0 5 i0 (.int .u8 0) 1 1 Try.underlying22 hi0 hz0 hz1 hz2 rfl (by omega) (.slice B k d) k (nb.map vb) rfl hr0 A n c (l.map vb) rfl hdd (vb_one _) (by simp only [maxLen]; omega) (by omega) (by omega) ?_
  intro v3 w3 hown3 hg3 hat3
  have H3 := (H.grow 0 rfl hown3 hg3 hat3).upd_mk (by simp)
  go_wp2
  go_ret
  refine ⟨_, rfl, own_enc ?_ (H3.ownRow 0 rfl) (by rw [HT.out, List.length_append, HL.out, hk.out]), H3.below⟩
  rw [HT.out]
  simp

set_option maxRecDepth 100000 in
set_option maxHeartbeats 1000000 in
theorem refString_s (A : Option Addr) (n c : Nat) (l : List UInt8) (w : World) (hd : Rd w 1 A n (l.map vb)) (hn : n ≤ 140737488351232) :
    Calls Try.prog 20 #[.slice A n c] w fun e w' => ∃ v, e = .returned v ∧ OwnB w' w.heap.size v (strB l) ∧ Below w.heap.size w w' := by
  obtain ⟨i0, hi0, hz0, hz1, hz2⟩ := info_parts u8_info
  have hl : l.length = n := by simpa using hd.1
  have HL := Lib.hid hl
  clear hl
  have hw8 : IntKind.i64.wrap (8 * (n : Int)) = ((8 * n : Nat) : Int) := by rw [IntWalk.i64_in _ (by omega)]; omega
  have hw8' : wrap64 (8 * (n : Int)) = ((8 * n : Nat) : Int) := by rw [IntWalk.wrap64_in _ (by omega)]; omega
  obtain ⟨N, HN⟩ : ∃ N, Hid (8 * n = N) := ⟨_, rfl⟩
  rw [HN.out] at hw8 hw8'
  have hNb : N ≤ 1125899906809856 := by have := HN.out; omega
  go_enter Try.func20, Try.ntmps20
  go_wp2_with fail
  refine (refLeft_s (N : Int) w (by omega)).mono ?_
  rintro e w1 ⟨v1, rfl, ho, hb⟩
  have hpos : ¬ ((N : Int) < 0) := by omega
  unfold leftI at ho
  rw [if_neg hpos, Int.toNat_natCast] at ho
  have hle := numB_le (n := N) (by omega)
  have HT : Hid (strB l = leftB N ++ l) := by unfold Hid strB; rw [HL.out, HN.out]
  have hlt : (leftB N).length ≤ 9 := by unfold leftB; simp; omega
  have H := ((St.start_lay w []).pushOwnB 0 rfl ho hb).push_mk rfl
  generalize leftB N = nb at ho H hlt HT
  obtain ⟨B, k, d, rfl, hk, -⟩ := ho.shape
  replace H := H.shape_row 0 rfl (n' := k) hk.out.symm rfl
  have hkl : k ≤ 9 := by rw [hk.out]; exact hlt
  have hr0 := H.row 0 rfl
  have hdd := H.arg0 hd
  clear ho hb hle hlt hw8 hw8' hpos
  go_wp2_with (at_builtin; refine hold_here ?_)
  refine Held.go ?_
  refine wpList_append_any _ rfl (.tmp 12) (.tmp 13) _ rfl 0 5 i0 (.int .u8 0) 1 1 Try.underlying22 hi0 hz0 hz1 hz2 rfl (by omega) (.slice B k d) k (nb.map vb) rfl hr0 A n c (l.map vb) rfl hdd (vb_one _) (by simp only [maxLen]; omega) (by omega) (by omega) ?_
  intro v3 w3 hown3 hg3 hat3
  have H3 := (H.grow 0 rfl hown3 hg3 hat3).upd_mk (by simp)
  go_wp2
  go_ret
  refine ⟨_, rfl, own_enc ?_ (H3.ownRow 0 rfl) (by rw [HT.out, List.length_append, HL.out, hk.out]), H3.below⟩
  rw [HT.out]
  simp
end Go.Proofs.Ythdfbnababmanaa
