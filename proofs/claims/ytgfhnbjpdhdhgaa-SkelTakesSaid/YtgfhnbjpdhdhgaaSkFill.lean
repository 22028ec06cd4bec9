/- Parts of Fill and Bound, in skel and in the document. -/
import Derived.Test.YtgfhnbjpdhdhgaaSkPlain
import Derived.Test.YtgfhnbjpdhdhgaaOpD
namespace Go.Proofs.Ytgfhnbjpdhdhgaa
open Go.RowKit
set_option linter.unusedVariables false

/-- brought into 0 to 2^24 -/
def cutI (x : Int) : Int := if x < 0 then 0 else if 16777216 < x then 16777216 else x
theorem cutI_in (x : Int) : 0 ≤ cutI x ∧ cutI x ≤ 16777216 := by unfold cutI; split <;> (try split) <;> omega
theorem bound1_s (x : Int) (w : World) : Calls Try.prog 64 #[.int .i64 x] w fun e w' => e = .returned (.int .i64 (cutI x)) ∧ w = w' := by
  unfold cutI
  by_cases h1 : x < 0
  · rw [if_pos h1]
    go_enter Try.func64, Try.ntmps64
    go_wp2
    go_ret
    exact ⟨rfl, rfl⟩
  · rw [if_neg h1]
    by_cases h2 : 16777216 < x
    · rw [if_pos h2]
      go_enter Try.func64, Try.ntmps64
      go_wp2
      go_ret
      exact ⟨rfl, rfl⟩
    · rw [if_neg h2]
      go_enter Try.func64, Try.ntmps64
      go_wp2
      go_ret
      exact ⟨rfl, rfl⟩
theorem cut_s (x : Int) (w : World) : Calls Try.prog 65 #[.int .i64 x] w fun e w' => e = .returned (.int .i64 (cutI x)) ∧ w = w' := by
  unfold cutI
  by_cases h1 : x < 0
  · rw [if_pos h1]
    go_enter Try.func65, Try.ntmps65
    go_wp2
    go_ret
    exact ⟨rfl, rfl⟩
  · rw [if_neg h1]
    by_cases h2 : 16777216 < x
    · rw [if_pos h2]
      go_enter Try.func65, Try.ntmps65
      go_wp2
      go_ret
      exact ⟨rfl, rfl⟩
    · rw [if_neg h2]
      go_enter Try.func65, Try.ntmps65
      go_wp2
      go_ret
      exact ⟨rfl, rfl⟩

set_option maxHeartbeats 1000000 in
theorem many_s (n : Nat) (b : UInt8) (w : World) {x : Int} (hx : x = (n : Int)) (hn : n ≤ 16777215) : Calls Try.prog 67 #[.int .i64 x, .int .u8 (b.toNat : Int)] w fun e w' => ∃ v, e = .returned v ∧ OwnB w' w.heap.size v (List.replicate n b) ∧ Below w.heap.size w w' := by
  subst hx
  obtain ⟨i0, hi0, hz0, hz1, hz2⟩ := info_parts u8_info
  have H0 := (St.start_lay w []).nilRow 0 rfl 5 1 |>.push_mk rfl
  go_enter Try.func67, Try.ntmps67
  go_wp2
  go_loopw [5, 6] (fun v i wr => ∃ k : Nat, k ≤ n ∧ i = .int .i64 k ∧ St w [] wr (lay [.row 5 1 v k ((List.replicate k b).map vb)])) (fun _ i _ => n - (intOf i).toNat)
  case atStart => exact ⟨0, Nat.zero_le _, rfl, by simpa using H0⟩
  case round =>
    clear H0
    obtain ⟨k, hk, rfl, Hk⟩ := hrel
    by_cases hlt : k < n
    · have hr := Hk.row 0 rfl
      have hT : (List.replicate (k + 1) b).map vb = (List.replicate k b).map vb ++ [vb b] := by rw [List.replicate_succ', List.map_append]; rfl
      have HT := Lib.hid hT
      clear hT
      go_wp2_with (at_builtin; refine wpList_append_any _ rfl (.tmp 12) (.tmp 14) _ rfl 0 5 i0 _ 1 1 Try.underlying25 hi0 hz0 hz1 hz2 rfl (by omega) u5 k _ rfl (hr.alloc _) (some ⟨wr.heap.size, 0, none⟩) 1 1 [vb b] rfl (rd_new0 wr [vb b] _ 1 rfl) (by simp [Value.oneCell']) (by simp only [maxLen]; omega) (by omega) (by omega) ?_; intro v3 w3 hown3 hg3 hat3)
      have H3 := ((Hk.alloc 1 rfl #[vb b] 5).grow 0 rfl hown3 hg3 hat3).sub (E' := lay [.row 5 1 v3 (k + 1) ((List.replicate k b).map vb ++ [vb b])]) (fun i A hA => by cases i with | zero => exact hA | succ i => simp [lay] at hA)
      go_roundw
      case rel => exact ⟨k + 1, by omega, by go_num, by rw [HT.out]; exact H3⟩
      case measure => first | (simp [intOf]; omega) | simp [intOf]
    · have hkN : k = n := by omega
      go_wp2
      go_ret
      subst hkN
      have h := Hk.ownRow 0 rfl
      exact ⟨_, rfl, by unfold OwnB; rw [List.length_replicate]; exact h, Hk.below⟩

theorem fillSet (n k : Nat) (b : UInt8) (h : k < n) : (List.replicate k b ++ List.replicate (n - k) 0).set k b = List.replicate (k + 1) b ++ List.replicate (n - (k + 1)) 0 := by
  have e : n - k = (n - (k + 1)) + 1 := by omega
  rw [List.set_append_right _ _ (by simp), List.length_replicate, Nat.sub_self, e, List.replicate_succ, List.set_cons_zero, List.replicate_succ', List.append_assoc]
  rfl
theorem madeZ {w : World} {base g n : Nat} (h : w.ownsRow base 5 1 (.slice (some ⟨g, 0, none⟩) n n) n (madeCells (Value.int .u8 0).cells (n * 1)).toList) : w.ownsRow base 5 1 (.slice (some ⟨g, 0, none⟩) n n) n ((List.replicate n (0 : UInt8)).map vb) := by
  rw [List.map_replicate]
  rw [show (Value.int .u8 0).cells = #[.int .u8 0] from rfl, toList_madeCells_one, Nat.mul_one] at h
  exact h

set_option maxHeartbeats 1000000 in
theorem fill_s (n : Nat) (b : UInt8) (w : World) {x : Int} (hx : x = (n : Int)) (hn : n ≤ 16777215) : Calls Try.prog 66 #[.int .i64 x, .int .u8 (b.toNat : Int)] w fun e w' => ∃ v, e = .returned v ∧ OwnB w' w.heap.size v (List.replicate n b) ∧ Below w.heap.size w w' := by
  subst hx
  obtain ⟨i0, hi0, hz0, hz1, hz2⟩ := info_parts u8_info
  by_cases h0 : n = 0
  · subst h0
    go_enter Try.func66, Try.ntmps66
    go_wp2
    go_ret
    exact ⟨_, rfl, World.ownsRow_nil _ _ _ _, Below.refl _ _⟩
  · have hne : ((n : Int) == 0) = false := by simpa using h0
    have H := St.start_lay w []
    go_enter Try.func66, Try.ntmps66
    go_wp2_with (at_make; refine wpList_make_full _ rfl (.tmp 9) (.tmp 9) 25 rfl w.heap.size 5 i0 (.int .u8 0) 1 Try.underlying25 hi0 hz0 hz1 .i64 .i64 _ _ n rfl rfl rfl rfl (by rw [hz2]; omega) (by simp only [maxLen]; omega) (Nat.le_refl _) ?_; intro w1 ho1 hg1; refine absorb_list ((H.pushRow 0 rfl ((Below.refl _ _).grown hg1 (Nat.le_refl _) (fun _ h => by cases h)) (madeZ ho1)).push_mk rfl) ?_; clear H ho1 hg1; generalize w.heap.size = g0; intro w1 H)
    go_loopw [6, 13] (fun _ i wr => ∃ k : Nat, k ≤ n ∧ i = .int .i64 k ∧ St w [] wr (lay [.row 5 1 (.slice (some ⟨g0, 0, none⟩) n n) n ((List.replicate k b ++ List.replicate (n - k) 0).map vb)])) (fun _ i _ => n - (intOf i).toNat)
    case atStart => exact ⟨0, Nat.zero_le _, rfl, by simpa using H⟩
    case round =>
      clear H
      obtain ⟨k, hk, rfl, H⟩ := hrel
      by_cases hlt : k < n
      · have HT := Lib.hid (fillSet n k b hlt)
        obtain ⟨u, hu⟩ : ∃ u, ((List.replicate k b ++ List.replicate (n - k) 0).map vb)[k]? = some u := ⟨_, List.getElem?_eq_getElem (by simp; omega)⟩
        have hc := World.ownsRow.cellAt (H.row 0 rfl) k (by omega)
        rw [hu] at hc
        have hf := World.ownsRow.frozenAt (H.row 0 rfl) k
        have hk1 : (k : Int) < n := by omega
        clear hu
        go_wp2
        go_roundw
        case rel => exact ⟨k + 1, by omega, by go_num, by rw [← HT.out, List.map_set]; exact (H.rowStore 0 rfl (o := k) (u := vb b)).upd_mk (by simp)⟩
        case measure => first | (simp [intOf]; omega) | simp [intOf]
      · have hkn : k = n := by omega
        subst hkn
        go_wp2
        go_ret
        have h := H.ownRow 0 rfl
        rw [Nat.sub_self, List.replicate_zero, List.append_nil] at h
        exact ⟨_, rfl, by unfold OwnB; rw [List.length_replicate]; exact h, H.below⟩

/-- the bound, of numbers brought into 0 to 2^24 -/
def bdI (data more out count : Int) : Int := 64 + data + out + (more + 512) * (out / 32 + 1) / 16 + 4 * count * (out / 32 + 1)
theorem mul_in {x y a b : Int} (hx : 0 ≤ x) (hy : 0 ≤ y) (ha : x ≤ a) (hb : y ≤ b) : 0 ≤ x * y ∧ x * y ≤ a * b := ⟨Int.mul_nonneg hx hy, Int.mul_le_mul ha hb hy (Int.le_trans hx ha)⟩

theorem bd_eq (x4 x5 x6 x7 : Int) (c4 : 0 ≤ x4 ∧ x4 ≤ 16777216) (c5 : 0 ≤ x5 ∧ x5 ≤ 16777216) (c6 : 0 ≤ x6 ∧ x6 ≤ 16777216) (c7 : 0 ≤ x7 ∧ x7 ≤ 16777216) :
    wrap64 (wrap64 (64 + x6 + x5 + wrap64 ((wrap64 ((x7 + 512) * (x5 / 32 + 1))).tdiv 16)) + wrap64 (4 * x4 * (x5 / 32 + 1))) = bdI x6 x7 x5 x4 := by
  unfold bdI
  have hq : 0 ≤ x5 / 32 + 1 ∧ x5 / 32 + 1 ≤ 524289 := by omega
  generalize x5 / 32 + 1 = q at hq ⊢
  have h1 := mul_in (x := x7 + 512) (y := q) (a := 16777728) (b := 524289) (by omega) hq.1 (by omega) hq.2
  have h2 := mul_in (x := 4 * x4) (y := q) (a := 67108864) (b := 524289) (by omega) hq.1 (by omega) hq.2
  generalize (x7 + 512) * q = p1 at h1 ⊢
  generalize 4 * x4 * q = p2 at h2 ⊢
  rw [IntWalk.wrap64_in p1 (by omega), Int.tdiv_eq_ediv_of_nonneg (by omega), IntWalk.wrap64_in (p1 / 16) (by omega), IntWalk.wrap64_in (64 + x6 + x5 + p1 / 16) (by omega), IntWalk.wrap64_in p2 (by omega), IntWalk.wrap64_in _ (by omega)]

set_option maxHeartbeats 2000000 in
theorem refBound_s (s1 s2 s3 s4 s5 s6 s7 : Int) (w : World) : Calls Try.prog 42 #[.agg #[.int .u8 s1, .int .i64 s2, .int .u8 s3, .int .i64 s4, .int .i64 s5, .int .i64 s6, .int .i64 s7]] w fun e w' => e = .returned (.int .i64 (bdI (cutI s6) (cutI s7) (cutI s5) (cutI s4))) ∧ Below w.heap.size w w' := by
  have H0 := St.start_lay w []
  have c4 := cutI_in s4
  have c5 := cutI_in s5
  have c6 := cutI_in s6
  have c7 := cutI_in s7
  obtain ⟨x4, X4⟩ : ∃ x, Hid (cutI s4 = x) := ⟨_, rfl⟩
  obtain ⟨x5, X5⟩ : ∃ x, Hid (cutI s5 = x) := ⟨_, rfl⟩
  obtain ⟨x6, X6⟩ : ∃ x, Hid (cutI s6 = x) := ⟨_, rfl⟩
  obtain ⟨x7, X7⟩ : ∃ x, Hid (cutI s7 = x) := ⟨_, rfl⟩
  rw [X4.out] at c4
  rw [X5.out] at c5
  rw [X6.out] at c6
  rw [X7.out] at c7
  go_enter Try.func42, Try.ntmps42
  go_wp2_with fail
  refine absorb_calls (H0.allocAt 0 rfl w.heap.size rfl _ _ |>.push_mk rfl) ?_
  intro w1 H
  generalize hga : w.heap.size = ga at H ⊢
  clear hga H0
  have k3 := H.cell 0 rfl (o := 3) rfl
  have k4 := H.cell 0 rfl (o := 4) rfl
  have k6 := H.cell 0 rfl (o := 6) rfl
  refine (cut_s s6 w1).mono ?_
  rintro e wx ⟨rfl, rfl⟩
  rw [X6.out]
  go_wp2_with fail
  refine (cut_s s7 w1).mono ?_
  rintro e wx ⟨rfl, rfl⟩
  rw [X7.out]
  go_wp2_with fail
  refine (cut_s s5 w1).mono ?_
  rintro e wx ⟨rfl, rfl⟩
  rw [X5.out]
  go_wp2_with fail
  refine (cut_s s4 w1).mono ?_
  rintro e wx ⟨rfl, rfl⟩
  rw [X4.out]
  go_wp2
  go_ret
  refine ⟨ret_int ?_, H.below⟩
  rw [X4.out, X5.out, X6.out, X7.out]
  exact bd_eq x4 x5 x6 x7 c4 c5 c6 c7

set_option maxHeartbeats 2000000 in
theorem skBound_s (s1 s2 s3 s4 s5 s6 s7 : Int) (w : World) : Calls Try.prog 41 #[.agg #[.int .u8 s1, .int .i64 s2, .int .u8 s3, .int .i64 s4, .int .i64 s5, .int .i64 s6, .int .i64 s7]] w fun e w' => e = .returned (.int .i64 (bdI (cutI s6) (cutI s7) (cutI s5) (cutI s4))) ∧ Below w.heap.size w w' := by
  have H0 := St.start_lay w []
  have c4 := cutI_in s4
  have c5 := cutI_in s5
  have c6 := cutI_in s6
  have c7 := cutI_in s7
  obtain ⟨x4, X4⟩ : ∃ x, Hid (cutI s4 = x) := ⟨_, rfl⟩
  obtain ⟨x5, X5⟩ : ∃ x, Hid (cutI s5 = x) := ⟨_, rfl⟩
  obtain ⟨x6, X6⟩ : ∃ x, Hid (cutI s6 = x) := ⟨_, rfl⟩
  obtain ⟨x7, X7⟩ : ∃ x, Hid (cutI s7 = x) := ⟨_, rfl⟩
  rw [X4.out] at c4
  rw [X5.out] at c5
  rw [X6.out] at c6
  rw [X7.out] at c7
  go_enter Try.func41, Try.ntmps41
  go_wp2_with fail
  refine absorb_wp (H0.allocAt 0 rfl w.heap.size rfl _ _ |>.push_mk rfl) ?_
  intro w1 H
  generalize hga : w.heap.size = ga at H ⊢
  clear hga H0
  have k3 := H.cell 0 rfl (o := 3) rfl
  have k4 := H.cell 0 rfl (o := 4) rfl
  have k5 := H.cell 0 rfl (o := 5) rfl
  have k6 := H.cell 0 rfl (o := 6) rfl
  go_quiet ((go_at_call 64; exact quiet_left (bound1_s _ _)))
  rw [X4.out, X5.out, X6.out, X7.out]
  go_wp2
  go_ret
  refine ⟨ret_int ?_, (H.drewN _).below⟩
  rw [X4.out, X5.out, X6.out, X7.out]
  exact bd_eq x4 x5 x6 x7 c4 c5 c6 c7
end Go.Proofs.Ytgfhnbjpdhdhgaa
