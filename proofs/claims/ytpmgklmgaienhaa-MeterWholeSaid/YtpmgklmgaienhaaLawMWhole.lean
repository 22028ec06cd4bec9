/- The law MeterWhole, walked. -/
import Derived.Test.YtpmgklmgaienhaaMeW
import Derived.Test.YtpmgklmgaienhaaRealK
namespace Go.Proofs.Ytpmgklmgaienhaa
open Go.RowKit
set_option linter.unusedVariables false
set_option maxRecDepth 100000

theorem absF_rep {r z : Nat} {o : Option Nat} (h : absF r = o) (h2 : o = some z) : r = z := by
  rw [h2] at h; exact (absF_s h).1
set_option maxHeartbeats 4000000 in
theorem meterWhole_walk (x y n : Int) (w : World) (hx1 : -2147483648 ≤ x) (hx2 : x ≤ 2147483647) (hy1 : -2147483648 ≤ y) (hy2 : y ≤ 2147483647) (hn1 : 0 ≤ n) (hn2 : n ≤ 65535) :
    Calls Try.prog 4 #[.int .i32 x, .int .i32 y, .int .u16 n] w fun e w' => e = .returned (.bool true) ∧ Below w.heap.size w w' := by
  obtain ⟨i0, hi0, hz0, hz1, hz2⟩ := info_parts real_info
  have H0 := St.start_lay w []
  obtain ⟨m, hm⟩ : ∃ m : Nat, 1 + n % 300 = (m : Int) := ⟨(1 + n % 300).toNat, by omega⟩
  have hm1 : 1 ≤ m := by omega
  have hm3 : m ≤ 300 := by omega
  have t1 : n.tmod 300 = (m : Int) - 1 := by rw [Int.tmod_eq_emod_of_nonneg hn1]; omega
  have t2 : wrap64 n = n := IntWalk.wrap64_in _ (by omega)
  have w1 : IntKind.i64.wrap (1 + ((m : Int) - 1)) = (m : Int) := by rw [IntWalk.i64_in _ (by omega)]; omega
  have hXb : x.natAbs ≤ 2 ^ 31 := by have : (2 : Nat) ^ 31 = 2147483648 := by decide
                                     omega
  have hYb : y.natAbs ≤ 2 ^ 31 := by have : (2 : Nat) ^ 31 = 2147483648 := by decide
                                     omega
  obtain ⟨v, hv⟩ : ∃ v, floatOfInt .f64 x = v := ⟨_, rfl⟩
  obtain ⟨u, hu⟩ : ∃ u, floatOfInt .f64 y = u := ⟨_, rfl⟩
  have iv : Is v (x * 2 ^ uE) := by rw [← hv]; exact intW (Nat.lt_of_le_of_lt hXb (by decide))
  have iu : Is u (y * 2 ^ uE) := by rw [← hu]; exact intW (Nat.lt_of_le_of_lt hYb (by decide))
  have cv : ∀ w : World, (convert 21 25 (.int .i32 x)).run Try.prog w = .ok (.float .f64 v) w := by intro w; rw [← hv]; rfl
  have cu : ∀ w : World, (convert 21 25 (.int .i32 y)).run Try.prog w = .ok (.float .f64 u) w := by intro w; rw [← hu]; rfl
  have IV := Lib.hid iv
  have IU := Lib.hid iu
  clear iv iu hv hu hm
  go_enter Try.func4, Try.ntmps4
  go_wp2
  have H := ((H0.nilRow 0 rfl 25 1).push_mk rfl |>.nilRow 1 rfl 25 1).push_mk rfl
  clear H0
  replace H : St w [] w (lay [.row 25 1 (.slice none 0 0) 0 ((List.replicate 0 v).map rv), .row 25 1 (.slice none 0 0) 0 ((List.replicate 0 u).map rv)]) := H
  go_loopw [8, 9, 10] (fun a b i wr => ∃ k : Nat, k ≤ m ∧ i = .int .i64 (k : Int) ∧ St w [] wr (lay [.row 25 1 a k ((List.replicate k v).map rv), .row 25 1 b k ((List.replicate k u).map rv)])) (fun _ _ i _ => m - (intOf i).toNat)
  case atStart => exact ⟨0, Nat.zero_le _, rfl, H⟩
  case round =>
    clear H
    obtain ⟨k, hk, rfl, H⟩ := hrel
    by_cases hlt : k < m
    · have hki : (k : Int) < m := by omega
      have hrv := Lib.hid (show (List.replicate k v).map rv ++ [rv v] = (List.replicate (k + 1) v).map rv by rw [List.replicate_succ', List.map_append]; rfl)
      have hru := Lib.hid (show (List.replicate k u).map rv ++ [rv u] = (List.replicate (k + 1) u).map rv by rw [List.replicate_succ', List.map_append]; rfl)
      have hr := H.row 0 rfl
      have HA := H.alloc 2 rfl #[rv v] 25
      go_upto_region 7 with (at_builtin; refine wpList_append_any _ rfl (.tmp 22) (.tmp 25) _ rfl 0 25 i0 _ 1 8 Try.underlying22 hi0 hz0 hz1 hz2 rfl (by omega) u8 k ((List.replicate k v).map rv) rfl (hr.alloc _) (some ⟨wr.heap.size, 0, none⟩) 1 1 [rv v] rfl (rd_new0 wr [rv v] _ 1 rfl) (by simpa using rv_one [v]) (by simp only [maxLen]; omega) (by omega) (by omega) ?_; intro v3 w3 hown3 hg3 hat3)
      have H3 := ((HA.grow 0 rfl hown3 hg3 hat3)).sub (E' := lay [.row 25 1 v3 (k + 1) ((List.replicate k v).map rv ++ [rv v]), .row 25 1 u9 k ((List.replicate k u).map rv)]) (fun i A hA => by match i with | 0 => exact hA | 1 => exact hA | i + 2 => simp [lay] at hA)
      rw [hrv.out] at H3
      clear hr HA H
      refine absorb_wp H3 ?_
      clear H3 hown3 hg3 hat3 w3
      intro w4 H
      have hr := H.row 1 rfl
      have HA := H.alloc 2 rfl #[rv u] 25
      go_wp2_with (at_builtin; refine wpList_append_any _ rfl (.tmp 27) (.tmp 30) _ rfl 0 25 i0 _ 1 8 Try.underlying22 hi0 hz0 hz1 hz2 rfl (by omega) u9 k ((List.replicate k u).map rv) rfl (hr.alloc _) (some ⟨w4.heap.size, 0, none⟩) 1 1 [rv u] rfl (rd_new0 w4 [rv u] _ 1 rfl) (by simpa using rv_one [u]) (by simp only [maxLen]; omega) (by omega) (by omega) ?_; intro v4 w3 hown3 hg3 hat3)
      have H3 := ((HA.grow 1 rfl hown3 hg3 hat3)).sub (E' := lay [.row 25 1 v3 (k + 1) ((List.replicate (k + 1) v).map rv), .row 25 1 v4 (k + 1) ((List.replicate k u).map rv ++ [rv u])]) (fun i A hA => by match i with | 0 => exact hA | 1 => exact hA | i + 2 => simp [lay] at hA)
      rw [hru.out] at H3
      go_roundw
      case rel => exact ⟨k + 1, by omega, by go_num, H3⟩
      case measure => simp [intOf]; omega
    · obtain rfl : k = m := by omega
      have hki : ¬ (k : Int) < k := by omega
      obtain ⟨A, c, rfl, -, -⟩ := row_form (H.row 0 rfl)
      obtain ⟨B, d, rfl, -, -⟩ := row_form (H.row 1 rfl)
      obtain ⟨ma, em, im⟩ := mean_rep IV.out hXb k (by omega) hm3
      obtain ⟨sa, es, is⟩ := spread_rep IV.out hXb k (by omega) hm3
      go_wp2_with fail
      refine (lives29_s wr).mono ?_
      rintro e w1' ⟨rfl, hb⟩
      replace H := H.call hb
      clear hb
      have R1 := Lib.hid (H.rd 0 rfl)
      have R2 := Lib.hid (H.rd 1 rfl)
      go_wp2_with fail
      refine (mean_a A k c (List.replicate k v) w1' R1.out (by omega)).mono ?_
      rintro e w2 ⟨r1, q1, rfl, T1, rfl⟩
      obtain rfl := absF_rep T1.out em
      have o1 : FloatKind.f64.format.order r1 v = some Ordering.eq := by rw [orderW im IV.out, cmp_eq]
      go_wp2_with fail
      refine (spread_a A k c (List.replicate k v) _ (R1.out.drewN _) (by omega)).mono ?_
      rintro e w2 ⟨r2, q2, rfl, T2, rfl⟩
      obtain rfl := absF_rep T2.out es
      have o2 : FloatKind.f64.format.order r2 0 = some Ordering.eq := by rw [orderW is zeroW, cmp_eq]
      go_wp2_with fail
      refine (t_a A B k k c d (List.replicate k v) (List.replicate k u) _ (R1.out.drewN _) (R2.out.drewN _) (by omega) (by omega)).mono ?_
      rintro e w2 ⟨r3, q3, rfl, T3, rfl⟩
      have H5 := H.drewN (q1 + q2 + q3)
      have q0 : FloatKind.f64.format.order 0 0 = some Ordering.eq := by decide +kernel
      clear em es im is T1 T2 R1 R2 H
      by_cases h2 : k < 2
      · have hk2 : decide ((k : Int) < 2) = true := by simp; omega
        have e3 : r3 = 0 := absF_rep T3.out (by unfold tA; rw [if_pos (.inl h2)])
        subst e3
        rw [show tE k k = 2 from if_pos (.inl h2)]
        go_wp2
        go_ret
        exact ⟨rfl, H5.below⟩
      have hk2 : decide ((k : Int) < 2) = false := by simp; omega
      have hT := t_rep IV.out IU.out hXb hYb k k (by omega) hm3 (by omega) hm3
      rw [show tE k k = 0 from if_neg (by omega)]
      by_cases hgt : y < x
      · have g1 : x > y := hgt
        have e3 : r3 = 9218868437227405312 := absF_rep T3.out (by rw [hT, if_neg (by omega), if_pos hgt])
        subst e3
        have qi : FloatKind.f64.format.order 9218868437227405312 9218868437227405312 = some Ordering.eq := by decide +kernel
        clear hT T3
        go_wp2_with fail
        refine (inf_pos _).mono ?_
        rintro e w3 ⟨rfl, rfl⟩
        go_wp2
        go_ret
        exact ⟨rfl, H5.below⟩
      · have g1 : ¬ x > y := hgt
        by_cases hl : x < y
        · have e3 : r3 = 18442240474082181120 := absF_rep T3.out (by rw [hT, if_neg (by omega), if_neg hgt])
          subst e3
          have qi : FloatKind.f64.format.order 18442240474082181120 18442240474082181120 = some Ordering.eq := by decide +kernel
          clear hT T3
          go_wp2_with fail
          refine (inf_neg _).mono ?_
          rintro e w3 ⟨rfl, rfl⟩
          go_wp2
          go_ret
          exact ⟨rfl, H5.below⟩
        · have e3 : r3 = 0 := absF_rep T3.out (by rw [hT, if_pos (by omega)])
          subst e3
          clear hT T3
          go_wp2
          go_ret
          exact ⟨rfl, H5.below⟩
end Go.Proofs.Ytpmgklmgaienhaa
