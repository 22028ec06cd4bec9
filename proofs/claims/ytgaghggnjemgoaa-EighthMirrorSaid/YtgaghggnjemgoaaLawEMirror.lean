/- The law EighthMirror, walked. -/
import Derived.Test.YtgaghggnjemgoaaEiWhole
namespace Go.Proofs.Ytgaghggnjemgoaa
open Go.RowKit
set_option linter.unusedVariables false
set_option maxRecDepth 100000

theorem add_whole {x y : Nat} {a b : Int} (hx : Is x (a * 2 ^ uE)) (hy : Is y (b * 2 ^ uE)) (h : (a + b).natAbs < 2 ^ 53) : ∃ r, floatBits .add .f64 x y = some r ∧ Is r ((a + b) * 2 ^ uE) := by
  obtain ⟨r, e, i⟩ := add_is hx hy (by rw [← Int.add_mul, Int.natAbs_mul, pow_1074]; exact big_le h)
  rw [← Int.add_mul, rd_exact _ h] at i
  exact ⟨r, e, i⟩
theorem sub_whole {x y : Nat} {a b : Int} (hx : Is x (a * 2 ^ uE)) (hy : Is y (b * 2 ^ uE)) (h : (a - b).natAbs < 2 ^ 53) : ∃ r, floatBits .sub .f64 x y = some r ∧ Is r ((a - b) * 2 ^ uE) := by
  obtain ⟨r, e, i⟩ := sub_is hx hy (by rw [← Int.sub_mul, Int.natAbs_mul, pow_1074]; exact big_le h)
  rw [← Int.sub_mul, rd_exact _ h] at i
  exact ⟨r, e, i⟩
theorem two_is : Is 4611686018427387904 (2 * 2 ^ uE) := by
  have h := int_is (n := 2) (by decide)
  rwa [show floatOfInt .f64 2 = 4611686018427387904 by decide +kernel] at h
theorem twice_whole {y : Nat} {b : Int} (hy : Is y (b * 2 ^ uE)) (h : (2 * b).natAbs < 2 ^ 53) : ∃ r, floatBits .mul .f64 4611686018427387904 y = some r ∧ Is r (2 * b * 2 ^ uE) := by
  obtain ⟨r, e, i⟩ := mul_is two_is hy (q := 2 * b * 2 ^ uE) (by simp [Int.mul_comm, Int.mul_left_comm, Int.mul_assoc]) (by rw [Int.natAbs_mul, pow_1074]; exact big_le h)
  rw [rd_exact _ h] at i
  exact ⟨r, e, i⟩
theorem twice_any {y : Nat} {v : Int} (hy : Is y v) (h : v.natAbs ≤ 2 ^ 30 * 2 ^ uE) : ∃ r, floatBits .mul .f64 4611686018427387904 y = some r ∧ Is r (2 * v) := by
  have hb : (2 * v).natAbs ≤ 2 ^ 31 * 2 ^ uE := by
    rw [Int.natAbs_mul, show (2 : Nat) ^ 31 = 2 * 2 ^ 30 by decide, Nat.mul_assoc]
    exact Nat.mul_le_mul_left 2 h
  obtain ⟨r, e, i⟩ := mul_is two_is hy (q := 2 * v) (by simp [Int.mul_comm, Int.mul_left_comm, Int.mul_assoc]) (Nat.le_trans hb (big_le (by decide)))
  rw [rd_two, hy.rd_self] at i
  exact ⟨r, e, i⟩
/-- the numbers doubled -/
def Twos (X : Nat → Int) (T : List Nat) (j : Nat) : Prop := T.length = j ∧ ∀ i, i < j → Is (T.getD i 0) (2 * X i * 2 ^ uE)
theorem Twos.step {X : Nat → Int} {T : List Nat} {j r : Nat} (h : Twos X T j) (hr : Is r (2 * X j * 2 ^ uE)) : Twos X (T ++ [r]) (j + 1) := by
  refine ⟨by simp [h.1], fun i hi => ?_⟩
  by_cases hij : i = j
  · subst hij
    rw [List.getD_eq_getElem?_getD, List.getElem?_append_right (by rw [h.1]; omega), h.1, Nat.sub_self]
    exact hr
  · have h2 := h.2 i (by omega)
    rw [List.getD_eq_getElem?_getD, List.getElem?_append_left (by rw [h.1]; omega), ← List.getD_eq_getElem?_getD]
    exact h2
def evens (j : Nat) : Int := if j % 2 = 0 then 1 else -1
theorem evens_in (j : Nat) : (evens j).natAbs ≤ 1 := by unfold evens; split <;> decide

set_option maxHeartbeats 4000000 in
theorem eighthMirror_walk (A : Option Addr) (n c : Nat) (l : List I64) (w : World) (hR : Rd w 1 A n (l.map fun x => iv8 x.1)) (hn : n * 8 ≤ 140737488351232) (hnc : n ≤ c) :
    Calls Try.prog 6 #[.slice A n c] w fun e w' => e = .returned (.bool true) ∧ Below w.heap.size w w' := by
  obtain ⟨i0, hi0, hz0, hz1, hz2⟩ := info_parts real_info
  have INF := Lib.hid (And.intro hi0 (And.intro hz0 (And.intro hz1 hz2)))
  clear hi0 hz0 hz1 hz2
  have H := St.start_lay w []
  have hl : l.length = n := by simpa using hR.1
  obtain ⟨n1, hn1⟩ : ∃ n1, min n 1024 = n1 := ⟨_, rfl⟩
  have hn1le : n1 ≤ l.length := by omega
  have hn1k : n1 ≤ 1024 := by omega
  obtain ⟨Y, hY⟩ : ∃ Y, wlF l (min n 1024) = Y := ⟨_, rfl⟩
  obtain ⟨X, hX⟩ : ∃ X : Nat → Int, X = fun j => (wlTo l n1).getD j 0 := ⟨_, rfl⟩
  have hYX : Hid (∀ j, j < n1 → Y[j]? = some (floatOfInt .f64 (X j)) ∧ (X j).natAbs ≤ 2 ^ 20) := fun j hj => by
    obtain ⟨h1, h2, h3⟩ := wl_is hn1le hj
    rw [← hY, hn1, hX]
    have h4 : ((wlTo l n1).getD j 0).natAbs ≤ 1048576 := by omega
    exact ⟨h1, h4⟩
  have hYI : Hid (∀ j, j < n1 → Is (Y.getD j 0) (X j * 2 ^ uE)) := fun j hj => by
    obtain ⟨h1, h2⟩ := hYX j hj
    rw [List.getD_eq_getElem?_getD, h1]
    exact int_is (Nat.lt_of_le_of_lt h2 (by decide))
  have hYL : Hid (Y.length = n1) := by rw [← hY, hn1]; exact wlF_length hn1le
  clear hn1le hX hnc hl
  go_enter Try.func6, Try.ntmps6
  go_wp2_with fail
  refine (eiAwake_s w).mono ?_
  rintro e w1 ⟨rfl, hb⟩
  have HR := Lib.hid (hR.below hb)
  replace H := H.call hb
  clear hb hR
  go_wp2_with fail
  refine (whole_s A n c l w1 HR.out hn).mono ?_
  rintro e w2 ⟨v1, rfl, ho, hb⟩
  rw [hY] at ho
  unfold OwnR at ho
  rw [hYL.out] at ho
  replace H := (H.pushRow 0 rfl hb ho).push_mk rfl
  clear hb ho hY hn1 HR
  obtain ⟨A1, c1, rfl, -, -⟩ := row_form (H.row 0 rfl)
  replace H := (H.nilRow 1 rfl 22 1).push_mk rfl
  replace H : St w [] w2 (lay [.row 22 1 (.slice A1 n1 c1) n1 (Y.map rv), .row 22 1 (.slice none 0 0) 0 []]) := H
  go_wp2
  go_loopw [5, 6, 7, 8] (fun v s e i wr => ∃ (j s0 e0 : Nat) (TW : List Nat), j ≤ n1 ∧ i = .int .i64 (j : Int) ∧ s = .float .f64 s0 ∧ e = .float .f64 e0 ∧ Hid (Twos X TW j) ∧ Hid (Is s0 (isum (fun _ => 1) X j * 2 ^ uE)) ∧ Hid (Is e0 (isum evens X j * 2 ^ uE)) ∧ St w [] wr (lay [.row 22 1 (.slice A1 n1 c1) n1 (Y.map rv), .row 22 1 v j (TW.map rv)])) (fun _ _ _ i _ => n1 - (intOf i).toNat)
  case atStart => exact ⟨0, 0, 0, [], Nat.zero_le _, rfl, rfl, rfl, ⟨rfl, fun i h => by omega⟩, by rw [show isum (fun _ => 1) X 0 = 0 from rfl, Int.zero_mul]; exact is_zero, by rw [show isum evens X 0 = 0 from rfl, Int.zero_mul]; exact is_zero, H⟩
  case round =>
    clear H
    obtain ⟨j, s0, e0, TW, hj, rfl, rfl, rfl, HTW, HS, HE, H⟩ := hrel
    by_cases hlt : j < n1
    · obtain ⟨yj, hyj⟩ : ∃ yj, Y[j]? = some yj := ⟨_, List.getElem?_eq_getElem (by rw [hYL.out]; exact hlt)⟩
      obtain ⟨gx, ox, rfl, -, hc⟩ := (H.rd 0 rfl).flat (by omega) (by omega)
      have cx := hc j (rv yj) (by rw [List.getElem?_map, hyj]; rfl)
      have HYJ := Lib.hid hyj
      have hi : Is yj (X j * 2 ^ uE) := by
        have h := hYI.out j hlt
        rwa [List.getD_eq_getElem?_getD, hyj] at h
      have hXj := (hYX.out j hlt).2
      have hX0 := fun i (hi : i < j) => (hYX.out i (by omega)).2
      have hin : j * 2 ^ 20 ≤ 2 ^ 30 := Nat.le_trans (Nat.mul_le_mul_right _ (show j ≤ 1024 by omega)) (by decide)
      have hsb := isum_in (c := fun _ => 1) (X := X) (M := 2 ^ 20) (fun _ => by decide) j hX0
      have heb := isum_in (c := evens) (X := X) (M := 2 ^ 20) evens_in j hX0
      obtain ⟨t, f1, it⟩ := twice_whole hi (by omega)
      obtain ⟨s1, f2, is1⟩ := add_whole HS.out hi (by omega)
      have HT2 := Lib.hid (HTW.out.step it)
      have HS2 : Hid (Is s1 (isum (fun _ => 1) X (j + 1) * 2 ^ uE)) := by
        unfold Hid isum; rw [Int.mul_one]; exact is1
      have m1 := fun (t : TypeId) (w : World) => run_float_arith (P := Try.prog) w .mul t .f64 _ _ _ f1
      have m2 := fun (t : TypeId) (w : World) => run_float_arith (P := Try.prog) w .add t .f64 _ _ _ f2
      have hji : (j : Int) < n1 := by omega
      have h1n : TW.length = j := HTW.out.1
      have HN := Lib.hid h1n
      clear hc hyj hX0 f1 f2 it is1 h1n
      have HA := H.alloc 2 rfl #[rv t] 22
      have hr := H.row 1 rfl
      obtain ⟨hi0, hz0, hz1, hz2⟩ := INF.out
      by_cases hev : j % 2 = 0
      · have b1 : Int.tmod (j : Int) 2 = 0 := by rw [Int.tmod_eq_emod_of_nonneg (by omega)]; omega
        obtain ⟨e1, f3, ie1⟩ := add_whole HE.out hi (by omega)
        have HE2 : Hid (Is e1 (isum evens X (j + 1) * 2 ^ uE)) := by
          unfold Hid isum; rw [show evens j = 1 from if_pos hev, Int.mul_one]; exact ie1
        have m3 := fun (t : TypeId) (w : World) => run_float_arith (P := Try.prog) w .add t .f64 _ _ _ f3
        clear f3 ie1 hi hev hXj hin hsb heb
        go_upto_region 9 with (at_builtin; refine wpList_append_any _ rfl (.tmp 21) (.tmp 27) _ rfl 0 22 i0 _ 1 8 Try.underlying30 hi0 hz0 hz1 hz2 rfl (by omega) u5 j (TW.map rv) rfl (hr.alloc _) (some ⟨wr.heap.size, 0, none⟩) 1 1 [rv t] rfl (rd_new0 wr [rv t] _ 1 rfl) (by simpa using rv_one [t]) (by simp only [maxLen]; omega) (by omega) (by omega) ?_; intro v3 w3 hown3 hg3 hat3)
        have H3 := ((HA.grow 1 rfl hown3 hg3 hat3)).sub (E' := lay [.row 22 1 (.slice (some ⟨gx, ox, none⟩) n1 c1) n1 (Y.map rv), .row 22 1 v3 (j + 1) (TW.map rv ++ [rv t])]) (fun i A hA => by match i with | 0 => exact hA | 1 => exact hA | i + 2 => simp [lay] at hA)
        clear HA hr H
        refine absorb_wp H3 ?_
        clear H3 hown3 hg3 hat3
        intro w4 H
        have cx2 := rd_cell (H.rd 0 rfl) HYJ.out
        clear cx
        go_wp2
        go_roundw
        case rel => exact ⟨j + 1, s1, e1, TW ++ [t], by omega, by go_num, rfl, rfl, HT2, HS2, HE2, by simpa using H⟩
        case measure => simp [intOf]; omega
      · have b1 : Int.tmod (j : Int) 2 = 1 := by rw [Int.tmod_eq_emod_of_nonneg (by omega)]; omega
        obtain ⟨e1, f3, ie1⟩ := sub_whole HE.out hi (by omega)
        have HE2 : Hid (Is e1 (isum evens X (j + 1) * 2 ^ uE)) := by
          unfold Hid isum; rw [show evens j = -1 from if_neg hev, Int.mul_neg, Int.mul_one]; exact ie1
        have m3 := fun (t : TypeId) (w : World) => run_float_arith (P := Try.prog) w .sub t .f64 _ _ _ f3
        clear f3 ie1 hi hev hXj hin hsb heb
        go_upto_region 9 with (at_builtin; refine wpList_append_any _ rfl (.tmp 21) (.tmp 27) _ rfl 0 22 i0 _ 1 8 Try.underlying30 hi0 hz0 hz1 hz2 rfl (by omega) u5 j (TW.map rv) rfl (hr.alloc _) (some ⟨wr.heap.size, 0, none⟩) 1 1 [rv t] rfl (rd_new0 wr [rv t] _ 1 rfl) (by simpa using rv_one [t]) (by simp only [maxLen]; omega) (by omega) (by omega) ?_; intro v3 w3 hown3 hg3 hat3)
        have H3 := ((HA.grow 1 rfl hown3 hg3 hat3)).sub (E' := lay [.row 22 1 (.slice (some ⟨gx, ox, none⟩) n1 c1) n1 (Y.map rv), .row 22 1 v3 (j + 1) (TW.map rv ++ [rv t])]) (fun i A hA => by match i with | 0 => exact hA | 1 => exact hA | i + 2 => simp [lay] at hA)
        clear HA hr H
        refine absorb_wp H3 ?_
        clear H3 hown3 hg3 hat3
        intro w4 H
        have cx2 := rd_cell (H.rd 0 rfl) HYJ.out
        clear cx
        go_wp2
        go_roundw
        case rel => exact ⟨j + 1, s1, e1, TW ++ [t], by omega, by go_num, rfl, rfl, HT2, HS2, HE2, by simpa using H⟩
        case measure => simp [intOf]; omega
    · obtain rfl : j = n1 := by omega
      have hji : ¬ (j : Int) < j := by omega
      have HTL : Hid (TW.length = j) := HTW.out.1
      obtain ⟨A2, c2, rfl, -, -⟩ := row_form (H.row 1 rfl)
      go_wp2_with fail
      refine (sums_a A1 j c1 Y wr (H.rd 0 rfl) (by omega)).mono ?_
      rintro e w4 ⟨S, hS, he, hb⟩
      rw [cells8] at he
      subst he
      have HSS := Lib.hid hS
      replace H := ((H.call hb).allocAt 2 rfl w4.heap.size rfl (c8 S).toArray 32).push_mk rfl
      have hst := fun (a : Addr) (re im : Nat) (m : Mode) (w : World) => run_store Try.prog w a (.complex .f64 re im) m rfl
      clear hb hS
      unfold c8
      go_wp2_with fail
      refine absorb_calls H ?_
      clear H
      intro w5 H
      generalize w4.heap.size = g9 at H ⊢
      replace H : St w [] w5 (lay [.row 22 1 (.slice A1 j c1) j (Y.map rv), .row 22 1 (.slice A2 j c2) j (TW.map rv), .blk g9 32 (c8 S)]) := H
      refine (sums_a A2 j c2 TW w5 (H.rd 1 rfl) (by omega)).mono ?_
      rintro e w6 ⟨T, hT, he, hb⟩
      rw [cells8] at he
      subst he
      obtain ⟨AA, BB, hAB, h0, h1, h4, h5, hmir⟩ := mirror_facts Y TW X j (by omega) (fun i hi => ⟨hYI.out i hi, (hYX.out i hi).2⟩) HTW.out.2 S T HSS.out hT
      have HAB := Lib.hid hAB
      have HMIR := Lib.hid hmir
      have o1 := order_eq (HAB.out 0 (by omega)).1 HS.out h0
      have o2 := order_eq (HAB.out 0 (by omega)).2.1 is_zero h1
      have o3 := order_eq (HAB.out 4 (by omega)).1 HE.out h4
      have o4 := order_eq (HAB.out 4 (by omega)).2.1 is_zero h5
      replace H := ((H.call hb).allocAt 3 rfl w6.heap.size rfl (c8 T).toArray 32).push_mk rfl
      clear hb hT hAB hmir h0 h1 h4 h5 HSS
      unfold c8
      go_upto_region 15 with (fail)
      refine absorb_wp H ?_
      clear H hst
      intro w7 H
      generalize w6.heap.size = g10 at H ⊢
      replace H : St w [] w7 (lay [.row 22 1 (.slice A1 j c1) j (Y.map rv), .row 22 1 (.slice A2 j c2) j (TW.map rv), .blk g9 32 (c8 S), .blk g10 32 (c8 T)]) := H
      have k0 := H.cell 2 rfl (c8_get S (k := 0) (by omega))
      have k4 := H.cell 2 rfl (c8_get S (k := 4) (by omega))
      go_wp2
      clear k0 k4 o1 o2 o3 o4 hj hlt hji HTL HTW HS HE hYX hYI hYL
      go_loopw [11] (fun i wr => ∃ k : Nat, k ≤ 8 ∧ i = .int .i64 (k : Int) ∧ St w [] wr (lay [.row 22 1 (.slice A1 j c1) j (Y.map rv), .row 22 1 (.slice A2 j c2) j (TW.map rv), .blk g9 32 (c8 S), .blk g10 32 (c8 T)])) (fun i _ => 8 - (intOf i).toNat)
      case atStart => exact ⟨0, by omega, rfl, H⟩
      case round =>
        clear H
        obtain ⟨k, hk, rfl, H⟩ := hrel
        by_cases hk8 : k < 8
        · have hk1 : (k : Int) < 8 := by omega
          obtain ⟨a1, a2, a3, a4, a5, a6⟩ := HAB.out k hk8
          obtain ⟨r1, f1, i1⟩ := twice_any a1 a5
          obtain ⟨r2, f2, i2⟩ := twice_any a2 a6
          have o1 := order_eq a3 i1 rfl
          have o2 := order_eq a4 i2 rfl
          have m1 := fun (t : TypeId) (w : World) => run_float_arith (P := Try.prog) w .mul t .f64 _ _ _ f1
          have m2 := fun (t : TypeId) (w : World) => run_float_arith (P := Try.prog) w .mul t .f64 _ _ _ f2
          clear a1 a2 a3 a4 a5 a6 i1 i2 f1 f2
          go_wp2
          have HW := H
          replace H := H.drew
          refine wp_region_held_drew (S := fun w' : World => w'.cell? ⟨g9, k, none⟩ = some (.complex .f64 (S k).1 (S k).2) ∧ w'.cell? ⟨g10, k, none⟩ = some (.complex .f64 (T k).1 (T k).2)) (by kernel_rfl) ?_ (fun hHeld => ?_)
          · exact ⟨H.cell 2 rfl (c8_get S (k := k) hk8), H.cell 3 rfl (c8_get T (k := k) hk8)⟩
          refine takeV 0 rfl (by intro w h; clear h; go_simp; try with_reducible rfl) (by kernel_rfl) (by kernel_rfl) (by kernel_rfl) (by exact fun _ _ _ h => h) (by rfl) (by assumption) ?_
          try simp only [Act.put, List.setIfInBounds_toArray, List.set_cons_zero, List.set_cons_succ]
          refine takeV 1 rfl (by intro w h; clear h; go_simp; try with_reducible rfl) (by kernel_rfl) (by kernel_rfl) (by kernel_rfl) (by exact fun _ _ _ h => h) (by rfl) (by assumption) ?_
          try simp only [Act.put, List.setIfInBounds_toArray, List.set_cons_zero, List.set_cons_succ]
          refine takeV 2 rfl (by intro w h; have hc := h.2; clear h; go_simp; try with_reducible rfl) (by kernel_rfl) (by kernel_rfl) (by kernel_rfl) (by exact fun _ _ _ h => h) (by rfl) (by assumption) ?_
          try simp only [Act.put, List.setIfInBounds_toArray, List.set_cons_zero, List.set_cons_succ]
          refine takeV 3 rfl (by intro w h; clear h; go_simp; try with_reducible rfl) (by kernel_rfl) (by kernel_rfl) (by kernel_rfl) (by exact fun _ _ _ h => h) (by rfl) (by assumption) ?_
          try simp only [Act.put, List.setIfInBounds_toArray, List.set_cons_zero, List.set_cons_succ]
          refine takeV 4 rfl (by intro w h; clear h; go_simp; try with_reducible rfl) (by kernel_rfl) (by kernel_rfl) (by kernel_rfl) (by exact fun _ _ _ h => h) (by rfl) (by assumption) ?_
          try simp only [Act.put, List.setIfInBounds_toArray, List.set_cons_zero, List.set_cons_succ]
          refine takeV 5 rfl (by intro w h; clear h; go_simp; try with_reducible rfl) (by kernel_rfl) (by kernel_rfl) (by kernel_rfl) (by exact fun _ _ _ h => h) (by rfl) (by assumption) ?_
          try simp only [Act.put, List.setIfInBounds_toArray, List.set_cons_zero, List.set_cons_succ]
          refine takeV 6 rfl (by intro w h; have hc := h.1; clear h; go_simp; try with_reducible rfl) (by kernel_rfl) (by kernel_rfl) (by kernel_rfl) (by exact fun _ _ _ h => h) (by rfl) (by assumption) ?_
          try simp only [Act.put, List.setIfInBounds_toArray, List.set_cons_zero, List.set_cons_succ]
          refine takeV 7 rfl (by intro w h; clear h; go_simp; try with_reducible rfl) (by kernel_rfl) (by kernel_rfl) (by kernel_rfl) (by exact fun _ _ _ h => h) (by rfl) (by assumption) ?_
          try simp only [Act.put, List.setIfInBounds_toArray, List.set_cons_zero, List.set_cons_succ]
          refine takeV 8 rfl (by intro w h; clear h; go_simp; try with_reducible rfl) (by kernel_rfl) (by kernel_rfl) (by kernel_rfl) (by exact fun _ _ _ h => h) (by rfl) (by assumption) ?_
          try simp only [Act.put, List.setIfInBounds_toArray, List.set_cons_zero, List.set_cons_succ]
          refine takeV 9 rfl (by intro w h; clear h; go_simp; try with_reducible rfl) (by kernel_rfl) (by kernel_rfl) (by kernel_rfl) (by exact fun _ _ _ h => h) (by rfl) (by assumption) ?_
          try simp only [Act.put, List.setIfInBounds_toArray, List.set_cons_zero, List.set_cons_succ]
          refine takeV 10 rfl (by intro w h; clear h; go_simp; try with_reducible rfl) (by kernel_rfl) (by kernel_rfl) (by kernel_rfl) (by exact fun _ _ _ h => h) (by rfl) (by assumption) ?_
          try simp only [Act.put, List.setIfInBounds_toArray, List.set_cons_zero, List.set_cons_succ]
          refine takeV 11 rfl (by intro w h; clear h; go_simp; try with_reducible rfl) (by kernel_rfl) (by kernel_rfl) (by kernel_rfl) (by exact fun _ _ _ h => h) (by rfl) (by assumption) ?_
          try simp only [Act.put, List.setIfInBounds_toArray, List.set_cons_zero, List.set_cons_succ]
          refine takeV 12 rfl (by intro w h; clear h; go_simp; try with_reducible rfl) (by kernel_rfl) (by kernel_rfl) (by kernel_rfl) (by exact fun _ _ _ h => h) (by rfl) (by assumption) ?_
          try simp only [Act.put, List.setIfInBounds_toArray, List.set_cons_zero, List.set_cons_succ]
          refine takeV 13 rfl (by intro w h; have hc := h.2; clear h; go_simp; try with_reducible rfl) (by kernel_rfl) (by kernel_rfl) (by kernel_rfl) (by exact fun _ _ _ h => h) (by rfl) (by assumption) ?_
          try simp only [Act.put, List.setIfInBounds_toArray, List.set_cons_zero, List.set_cons_succ]
          refine takeV 14 rfl (by intro w h; clear h; go_simp; try with_reducible rfl) (by kernel_rfl) (by kernel_rfl) (by kernel_rfl) (by exact fun _ _ _ h => h) (by rfl) (by assumption) ?_
          try simp only [Act.put, List.setIfInBounds_toArray, List.set_cons_zero, List.set_cons_succ]
          refine takeV 15 rfl (by intro w h; clear h; go_simp; try with_reducible rfl) (by kernel_rfl) (by kernel_rfl) (by kernel_rfl) (by exact fun _ _ _ h => h) (by rfl) (by assumption) ?_
          try simp only [Act.put, List.setIfInBounds_toArray, List.set_cons_zero, List.set_cons_succ]
          refine takeV 16 rfl (by intro w h; clear h; go_simp; try with_reducible rfl) (by kernel_rfl) (by kernel_rfl) (by kernel_rfl) (by exact fun _ _ _ h => h) (by rfl) (by assumption) ?_
          try simp only [Act.put, List.setIfInBounds_toArray, List.set_cons_zero, List.set_cons_succ]
          refine takeV 17 rfl (by intro w h; have hc := h.1; clear h; go_simp; try with_reducible rfl) (by kernel_rfl) (by kernel_rfl) (by kernel_rfl) (by exact fun _ _ _ h => h) (by rfl) (by assumption) ?_
          try simp only [Act.put, List.setIfInBounds_toArray, List.set_cons_zero, List.set_cons_succ]
          refine takeV 18 rfl (by intro w h; clear h; go_simp; try with_reducible rfl) (by kernel_rfl) (by kernel_rfl) (by kernel_rfl) (by exact fun _ _ _ h => h) (by rfl) (by assumption) ?_
          try simp only [Act.put, List.setIfInBounds_toArray, List.set_cons_zero, List.set_cons_succ]
          refine takeV 19 rfl (by intro w h; clear h; go_simp; try with_reducible rfl) (by kernel_rfl) (by kernel_rfl) (by kernel_rfl) (by exact fun _ _ _ h => h) (by rfl) (by assumption) ?_
          try simp only [Act.put, List.setIfInBounds_toArray, List.set_cons_zero, List.set_cons_succ]
          refine takeV 20 rfl (by intro w h; clear h; go_simp; try with_reducible rfl) (by kernel_rfl) (by kernel_rfl) (by kernel_rfl) (by exact fun _ _ _ h => h) (by rfl) (by assumption) ?_
          try simp only [Act.put, List.setIfInBounds_toArray, List.set_cons_zero, List.set_cons_succ]
          refine takeV 21 rfl (by intro w h; clear h; go_simp; try with_reducible rfl) (by kernel_rfl) (by kernel_rfl) (by kernel_rfl) (by exact fun _ _ _ h => h) (by rfl) (by assumption) ?_
          try simp only [Act.put, List.setIfInBounds_toArray, List.set_cons_zero, List.set_cons_succ]
          refine wpAnyH_done (by kernel_rfl) ?_ _
          clear hHeld m1 m2 o1 o2 H
          replace H := HW.drew
          clear HW
          go_wp2
          refine absorb_wp H ?_
          clear H
          intro w8 H
          by_cases hk0 : k = 0
          · subst hk0
            have HW := H
            replace H := H.drew
            refine wp_region_held_drew (S := fun w' : World => True) (by kernel_rfl) ?_ (fun hHeld => ?_)
            · exact trivial
            refine takeV 0 rfl (by intro w h; clear h; go_simp; try with_reducible rfl) (by kernel_rfl) (by kernel_rfl) (by kernel_rfl) (by exact fun _ _ _ h => h) (by rfl) (by assumption) ?_
            try simp only [Act.put, List.setIfInBounds_toArray, List.set_cons_zero, List.set_cons_succ]
            refine takeV 1 rfl (by intro w h; clear h; go_simp; try with_reducible rfl) (by kernel_rfl) (by kernel_rfl) (by kernel_rfl) (by exact fun _ _ _ h => h) (by rfl) (by assumption) ?_
            try simp only [Act.put, List.setIfInBounds_toArray, List.set_cons_zero, List.set_cons_succ]
            refine takeV 2 rfl (by intro w h; clear h; go_simp; try with_reducible rfl) (by kernel_rfl) (by kernel_rfl) (by kernel_rfl) (by exact fun _ _ _ h => h) (by rfl) (by assumption) ?_
            try simp only [Act.put, List.setIfInBounds_toArray, List.set_cons_zero, List.set_cons_succ]
            refine takeSkip 3 rfl (by kernel_rfl) (by kernel_rfl) (by kernel_rfl) (fun _ _ _ h => h) rfl (by assumption) ?_
            try simp only [Act.put, List.setIfInBounds_toArray, List.set_cons_zero, List.set_cons_succ]
            refine takeSkip 4 rfl (by kernel_rfl) (by kernel_rfl) (by kernel_rfl) (fun _ _ _ h => h) rfl (by assumption) ?_
            try simp only [Act.put, List.setIfInBounds_toArray, List.set_cons_zero, List.set_cons_succ]
            refine takeSkip 5 rfl (by kernel_rfl) (by kernel_rfl) (by kernel_rfl) (fun _ _ _ h => h) rfl (by assumption) ?_
            try simp only [Act.put, List.setIfInBounds_toArray, List.set_cons_zero, List.set_cons_succ]
            refine takeSkip 6 rfl (by kernel_rfl) (by kernel_rfl) (by kernel_rfl) (fun _ _ _ h => h) rfl (by assumption) ?_
            try simp only [Act.put, List.setIfInBounds_toArray, List.set_cons_zero, List.set_cons_succ]
            refine takeSkip 7 rfl (by kernel_rfl) (by kernel_rfl) (by kernel_rfl) (fun _ _ _ h => h) rfl (by assumption) ?_
            try simp only [Act.put, List.setIfInBounds_toArray, List.set_cons_zero, List.set_cons_succ]
            refine takeSkip 8 rfl (by kernel_rfl) (by kernel_rfl) (by kernel_rfl) (fun _ _ _ h => h) rfl (by assumption) ?_
            try simp only [Act.put, List.setIfInBounds_toArray, List.set_cons_zero, List.set_cons_succ]
            refine takeSkip 9 rfl (by kernel_rfl) (by kernel_rfl) (by kernel_rfl) (fun _ _ _ h => h) rfl (by assumption) ?_
            try simp only [Act.put, List.setIfInBounds_toArray, List.set_cons_zero, List.set_cons_succ]
            refine takeSkip 10 rfl (by kernel_rfl) (by kernel_rfl) (by kernel_rfl) (fun _ _ _ h => h) rfl (by assumption) ?_
            try simp only [Act.put, List.setIfInBounds_toArray, List.set_cons_zero, List.set_cons_succ]
            refine takeSkip 11 rfl (by kernel_rfl) (by kernel_rfl) (by kernel_rfl) (fun _ _ _ h => h) rfl (by assumption) ?_
            try simp only [Act.put, List.setIfInBounds_toArray, List.set_cons_zero, List.set_cons_succ]
            refine takeSkip 12 rfl (by kernel_rfl) (by kernel_rfl) (by kernel_rfl) (fun _ _ _ h => h) rfl (by assumption) ?_
            try simp only [Act.put, List.setIfInBounds_toArray, List.set_cons_zero, List.set_cons_succ]
            refine takeSkip 13 rfl (by kernel_rfl) (by kernel_rfl) (by kernel_rfl) (fun _ _ _ h => h) rfl (by assumption) ?_
            try simp only [Act.put, List.setIfInBounds_toArray, List.set_cons_zero, List.set_cons_succ]
            refine takeSkip 14 rfl (by kernel_rfl) (by kernel_rfl) (by kernel_rfl) (fun _ _ _ h => h) rfl (by assumption) ?_
            try simp only [Act.put, List.setIfInBounds_toArray, List.set_cons_zero, List.set_cons_succ]
            refine takeSkip 15 rfl (by kernel_rfl) (by kernel_rfl) (by kernel_rfl) (fun _ _ _ h => h) rfl (by assumption) ?_
            try simp only [Act.put, List.setIfInBounds_toArray, List.set_cons_zero, List.set_cons_succ]
            refine takeSkip 16 rfl (by kernel_rfl) (by kernel_rfl) (by kernel_rfl) (fun _ _ _ h => h) rfl (by assumption) ?_
            try simp only [Act.put, List.setIfInBounds_toArray, List.set_cons_zero, List.set_cons_succ]
            refine takeSkip 17 rfl (by kernel_rfl) (by kernel_rfl) (by kernel_rfl) (fun _ _ _ h => h) rfl (by assumption) ?_
            try simp only [Act.put, List.setIfInBounds_toArray, List.set_cons_zero, List.set_cons_succ]
            refine takeSkip 18 rfl (by kernel_rfl) (by kernel_rfl) (by kernel_rfl) (fun _ _ _ h => h) rfl (by assumption) ?_
            try simp only [Act.put, List.setIfInBounds_toArray, List.set_cons_zero, List.set_cons_succ]
            refine takeSkip 19 rfl (by kernel_rfl) (by kernel_rfl) (by kernel_rfl) (fun _ _ _ h => h) rfl (by assumption) ?_
            try simp only [Act.put, List.setIfInBounds_toArray, List.set_cons_zero, List.set_cons_succ]
            refine takeSkip 20 rfl (by kernel_rfl) (by kernel_rfl) (by kernel_rfl) (fun _ _ _ h => h) rfl (by assumption) ?_
            try simp only [Act.put, List.setIfInBounds_toArray, List.set_cons_zero, List.set_cons_succ]
            refine takeSkip 21 rfl (by kernel_rfl) (by kernel_rfl) (by kernel_rfl) (fun _ _ _ h => h) rfl (by assumption) ?_
            try simp only [Act.put, List.setIfInBounds_toArray, List.set_cons_zero, List.set_cons_succ]
            refine takeSkip 22 rfl (by kernel_rfl) (by kernel_rfl) (by kernel_rfl) (fun _ _ _ h => h) rfl (by assumption) ?_
            try simp only [Act.put, List.setIfInBounds_toArray, List.set_cons_zero, List.set_cons_succ]
            refine takeSkip 23 rfl (by kernel_rfl) (by kernel_rfl) (by kernel_rfl) (fun _ _ _ h => h) rfl (by assumption) ?_
            try simp only [Act.put, List.setIfInBounds_toArray, List.set_cons_zero, List.set_cons_succ]
            refine takeSkip 24 rfl (by kernel_rfl) (by kernel_rfl) (by kernel_rfl) (fun _ _ _ h => h) rfl (by assumption) ?_
            try simp only [Act.put, List.setIfInBounds_toArray, List.set_cons_zero, List.set_cons_succ]
            refine takeSkip 25 rfl (by kernel_rfl) (by kernel_rfl) (by kernel_rfl) (fun _ _ _ h => h) rfl (by assumption) ?_
            try simp only [Act.put, List.setIfInBounds_toArray, List.set_cons_zero, List.set_cons_succ]
            refine takeV 26 rfl (by intro w h; clear h; go_simp; try with_reducible rfl) (by kernel_rfl) (by kernel_rfl) (by kernel_rfl) (by exact fun _ _ _ h => h) (by rfl) (by assumption) ?_
            try simp only [Act.put, List.setIfInBounds_toArray, List.set_cons_zero, List.set_cons_succ]
            refine wpAnyH_done (by kernel_rfl) ?_ _
            clear hHeld
            go_wp2
            go_roundw
            case rel => exact ⟨0 + 1, by omega, by go_num, HW.drewN _⟩
            case measure => first | (simp [intOf]; done) | (simp [intOf]; omega)
          · obtain ⟨m, hm⟩ : ∃ m, k + m = 8 := ⟨8 - k, by omega⟩
            have hm8 : m < 8 := by omega
            have hm8i : (m : Int) < 8 := by omega
            have w1 : IntKind.i64.wrap (8 - (k : Int)) = (m : Int) := by rw [show (8 : Int) - k = m by omega]; exact IntWalk.i64_in _ (by omega)
            obtain ⟨q1, q2⟩ := HMIR.out k (by omega) hk8
            have e8 : 8 - k = m := by omega
            rw [e8] at q1 q2
            have o3 := order_eq (HAB.out k hk8).1 (HAB.out m hm8).1 q1
            have o4 := order_eq (HAB.out k hk8).2.1 (neg_is (HAB.out m hm8).2.1) q2
            have hng := fun w : World => (show (Op.unary UnOp.neg (.float .f64 (S m).2)).run Try.prog w = .ok (.float .f64 (Op.negFloat .f64 (S m).2)) w from rfl)
            clear q1 q2 e8 hm
            generalize Op.negFloat .f64 (S m).2 = ng at o4 hng
            have hk0i : decide ((k : Int) > 0) = true := by simp; omega
            have hkp : 0 < k := by omega
            have HW := H
            replace H := H.drew
            refine wp_region_held_drew (S := fun w' : World => w'.cell? ⟨g9, k, none⟩ = some (.complex .f64 (S k).1 (S k).2) ∧ w'.cell? ⟨g9, m, none⟩ = some (.complex .f64 (S m).1 (S m).2)) (by kernel_rfl) ?_ (fun hHeld => ?_)
            · exact ⟨H.cell 2 rfl (c8_get S (k := k) hk8), H.cell 2 rfl (c8_get S (k := m) hm8)⟩
            refine takeV 0 rfl (by intro w h; clear h; go_simp; try with_reducible rfl) (by kernel_rfl) (by kernel_rfl) (by kernel_rfl) (by exact fun _ _ _ h => h) (by rfl) (by assumption) ?_
            try simp only [Act.put, List.setIfInBounds_toArray, List.set_cons_zero, List.set_cons_succ]
            refine take_pure 1 (.bool true) rfl (by kernel_rfl) (by kernel_rfl) (by kernel_rfl) (fun _ _ _ h => h) rfl (by intro w hSw; go_simp; try with_reducible rfl) (by assumption) ?_
            try simp only [Act.put, List.setIfInBounds_toArray, List.set_cons_zero, List.set_cons_succ]
            refine takeV 2 rfl (by intro w h; clear h; go_simp; try with_reducible rfl) (by kernel_rfl) (by kernel_rfl) (by kernel_rfl) (by exact fun _ _ _ h => h) (by rfl) (by assumption) ?_
            try simp only [Act.put, List.setIfInBounds_toArray, List.set_cons_zero, List.set_cons_succ]
            refine takeV 3 rfl (by intro w h; clear h; go_simp; try with_reducible rfl) (by kernel_rfl) (by kernel_rfl) (by kernel_rfl) (by exact fun _ _ _ h => h) (by rfl) (by assumption) ?_
            try simp only [Act.put, List.setIfInBounds_toArray, List.set_cons_zero, List.set_cons_succ]
            refine takeV 4 rfl (by intro w h; clear h; go_simp; try with_reducible rfl) (by kernel_rfl) (by kernel_rfl) (by kernel_rfl) (by exact fun _ _ _ h => h) (by rfl) (by assumption) ?_
            try simp only [Act.put, List.setIfInBounds_toArray, List.set_cons_zero, List.set_cons_succ]
            refine takeV 5 rfl (by intro w h; have hc := h.1; clear h; go_simp; try with_reducible rfl) (by kernel_rfl) (by kernel_rfl) (by kernel_rfl) (by exact fun _ _ _ h => h) (by rfl) (by assumption) ?_
            try simp only [Act.put, List.setIfInBounds_toArray, List.set_cons_zero, List.set_cons_succ]
            refine takeV 6 rfl (by intro w h; clear h; go_simp; try with_reducible rfl) (by kernel_rfl) (by kernel_rfl) (by kernel_rfl) (by exact fun _ _ _ h => h) (by rfl) (by assumption) ?_
            try simp only [Act.put, List.setIfInBounds_toArray, List.set_cons_zero, List.set_cons_succ]
            refine takeV 7 rfl (by intro w h; clear h; go_simp; try with_reducible rfl) (by kernel_rfl) (by kernel_rfl) (by kernel_rfl) (by exact fun _ _ _ h => h) (by rfl) (by assumption) ?_
            try simp only [Act.put, List.setIfInBounds_toArray, List.set_cons_zero, List.set_cons_succ]
            refine takeV 8 rfl (by intro w h; clear h; go_simp; try with_reducible rfl) (by kernel_rfl) (by kernel_rfl) (by kernel_rfl) (by exact fun _ _ _ h => h) (by rfl) (by assumption) ?_
            try simp only [Act.put, List.setIfInBounds_toArray, List.set_cons_zero, List.set_cons_succ]
            refine takeV 9 rfl (by intro w h; clear h; go_simp; try with_reducible rfl) (by kernel_rfl) (by kernel_rfl) (by kernel_rfl) (by exact fun _ _ _ h => h) (by rfl) (by assumption) ?_
            try simp only [Act.put, List.setIfInBounds_toArray, List.set_cons_zero, List.set_cons_succ]
            refine takeV 10 rfl (by intro w h; have hc := h.2; clear h; go_simp; try with_reducible rfl) (by kernel_rfl) (by kernel_rfl) (by kernel_rfl) (by exact fun _ _ _ h => h) (by rfl) (by assumption) ?_
            try simp only [Act.put, List.setIfInBounds_toArray, List.set_cons_zero, List.set_cons_succ]
            refine takeV 11 rfl (by intro w h; clear h; go_simp; try with_reducible rfl) (by kernel_rfl) (by kernel_rfl) (by kernel_rfl) (by exact fun _ _ _ h => h) (by rfl) (by assumption) ?_
            try simp only [Act.put, List.setIfInBounds_toArray, List.set_cons_zero, List.set_cons_succ]
            refine takeV 12 rfl (by intro w h; clear h; go_simp; try with_reducible rfl) (by kernel_rfl) (by kernel_rfl) (by kernel_rfl) (by exact fun _ _ _ h => h) (by rfl) (by assumption) ?_
            try simp only [Act.put, List.setIfInBounds_toArray, List.set_cons_zero, List.set_cons_succ]
            refine takeV 13 rfl (by intro w h; clear h; go_simp; try with_reducible rfl) (by kernel_rfl) (by kernel_rfl) (by kernel_rfl) (by exact fun _ _ _ h => h) (by rfl) (by assumption) ?_
            try simp only [Act.put, List.setIfInBounds_toArray, List.set_cons_zero, List.set_cons_succ]
            refine takeV 14 rfl (by intro w h; clear h; go_simp; try with_reducible rfl) (by kernel_rfl) (by kernel_rfl) (by kernel_rfl) (by exact fun _ _ _ h => h) (by rfl) (by assumption) ?_
            try simp only [Act.put, List.setIfInBounds_toArray, List.set_cons_zero, List.set_cons_succ]
            refine takeV 15 rfl (by intro w h; clear h; go_simp; try with_reducible rfl) (by kernel_rfl) (by kernel_rfl) (by kernel_rfl) (by exact fun _ _ _ h => h) (by rfl) (by assumption) ?_
            try simp only [Act.put, List.setIfInBounds_toArray, List.set_cons_zero, List.set_cons_succ]
            refine takeV 16 rfl (by intro w h; have hc := h.1; clear h; go_simp; try with_reducible rfl) (by kernel_rfl) (by kernel_rfl) (by kernel_rfl) (by exact fun _ _ _ h => h) (by rfl) (by assumption) ?_
            try simp only [Act.put, List.setIfInBounds_toArray, List.set_cons_zero, List.set_cons_succ]
            refine takeV 17 rfl (by intro w h; clear h; go_simp; try with_reducible rfl) (by kernel_rfl) (by kernel_rfl) (by kernel_rfl) (by exact fun _ _ _ h => h) (by rfl) (by assumption) ?_
            try simp only [Act.put, List.setIfInBounds_toArray, List.set_cons_zero, List.set_cons_succ]
            refine takeV 18 rfl (by intro w h; clear h; go_simp; try with_reducible rfl) (by kernel_rfl) (by kernel_rfl) (by kernel_rfl) (by exact fun _ _ _ h => h) (by rfl) (by assumption) ?_
            try simp only [Act.put, List.setIfInBounds_toArray, List.set_cons_zero, List.set_cons_succ]
            refine takeV 19 rfl (by intro w h; clear h; go_simp; try with_reducible rfl) (by kernel_rfl) (by kernel_rfl) (by kernel_rfl) (by exact fun _ _ _ h => h) (by rfl) (by assumption) ?_
            try simp only [Act.put, List.setIfInBounds_toArray, List.set_cons_zero, List.set_cons_succ]
            refine takeV 20 rfl (by intro w h; clear h; go_simp; try with_reducible rfl) (by kernel_rfl) (by kernel_rfl) (by kernel_rfl) (by exact fun _ _ _ h => h) (by rfl) (by assumption) ?_
            try simp only [Act.put, List.setIfInBounds_toArray, List.set_cons_zero, List.set_cons_succ]
            refine takeV 21 rfl (by intro w h; have hc := h.2; clear h; go_simp; try with_reducible rfl) (by kernel_rfl) (by kernel_rfl) (by kernel_rfl) (by exact fun _ _ _ h => h) (by rfl) (by assumption) ?_
            try simp only [Act.put, List.setIfInBounds_toArray, List.set_cons_zero, List.set_cons_succ]
            refine takeV 22 rfl (by intro w h; clear h; go_simp; try with_reducible rfl) (by kernel_rfl) (by kernel_rfl) (by kernel_rfl) (by exact fun _ _ _ h => h) (by rfl) (by assumption) ?_
            try simp only [Act.put, List.setIfInBounds_toArray, List.set_cons_zero, List.set_cons_succ]
            refine takeV 23 rfl (by intro w h; clear h; go_simp; try with_reducible rfl) (by kernel_rfl) (by kernel_rfl) (by kernel_rfl) (by exact fun _ _ _ h => h) (by rfl) (by assumption) ?_
            try simp only [Act.put, List.setIfInBounds_toArray, List.set_cons_zero, List.set_cons_succ]
            refine takeV 24 rfl (by intro w h; clear h; go_simp; try with_reducible rfl) (by kernel_rfl) (by kernel_rfl) (by kernel_rfl) (by exact fun _ _ _ h => h) (by rfl) (by assumption) ?_
            try simp only [Act.put, List.setIfInBounds_toArray, List.set_cons_zero, List.set_cons_succ]
            refine takeV 25 rfl (by intro w h; clear h; go_simp; try with_reducible rfl) (by kernel_rfl) (by kernel_rfl) (by kernel_rfl) (by exact fun _ _ _ h => h) (by rfl) (by assumption) ?_
            try simp only [Act.put, List.setIfInBounds_toArray, List.set_cons_zero, List.set_cons_succ]
            refine takeV 26 rfl (by intro w h; clear h; go_simp; try with_reducible rfl) (by kernel_rfl) (by kernel_rfl) (by kernel_rfl) (by exact fun _ _ _ h => h) (by rfl) (by assumption) ?_
            try simp only [Act.put, List.setIfInBounds_toArray, List.set_cons_zero, List.set_cons_succ]
            refine wpAnyH_done (by kernel_rfl) ?_ _
            clear hHeld
            go_wp2
            go_roundw
            case rel => exact ⟨k + 1, by omega, by go_num, HW.drewN _⟩
            case measure => first | (simp [intOf]; done) | (simp [intOf]; omega)
        · obtain rfl : k = 8 := by omega
          go_wp2
          go_ret
          exact ⟨rfl, H.below⟩

end Go.Proofs.Ytgaghggnjemgoaa
