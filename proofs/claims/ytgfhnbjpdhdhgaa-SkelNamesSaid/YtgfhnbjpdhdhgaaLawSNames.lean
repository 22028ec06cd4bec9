/- The law SkelNames, walked: closed. -/
import Derived.Test.YtgfhnbjpdhdhgaaLawSFills
namespace Go.Proofs.Ytgfhnbjpdhdhgaa
open Go.RowKit
set_option linter.unusedVariables false

theorem of_a (A : Option Addr) (c : Nat) (w : World) : Calls Try.prog 32 #[.agg #[.int .u8 7, .int .i64 2, .int .u8 1, .int .i64 9, .int .i64 40, .slice A 5 c, .slice none 0 0]] w fun e w' => e = .returned (.agg #[.int .u8 7, .int .i64 2, .int .u8 1, .int .i64 0, .int .i64 40, .int .i64 5, .int .i64 0]) ∧ Below w.heap.size w w' :=
  skOf_s 7 2 1 9 40 A none 5 c 0 0 w
theorem of_b (A : Option Addr) (c : Nat) (w : World) : Calls Try.prog 32 #[.agg #[.int .u8 77, .int .i64 3, .int .u8 0, .int .i64 0, .int .i64 0, .slice A 1 c, .slice none 0 0]] w fun e w' => e = .returned (.agg #[.int .u8 77, .int .i64 0, .int .u8 0, .int .i64 0, .int .i64 0, .int .i64 0, .int .i64 0]) ∧ Below w.heap.size w w' :=
  skOf_s 77 3 0 0 0 A none 1 c 0 0 w
theorem fill_a (w : World) : Calls Try.prog 44 #[.agg #[.int .u8 3, .int .i64 0, .int .u8 0, .int .i64 0, .int .i64 0, .int .i64 (-1), .int .i64 0], .int .u8 0] w fun e w' => e = .returned (.tuple #[opV 0 0 0 0 0 (.slice none 0 0) (.slice none 0 0), .int .i64 2]) ∧ Below w.heap.size w w' :=
  (skFill_q 3 0 0 0 0 (-1) 0 0 w).mono fun e w' h => h.2 (by decide)
theorem fill_b (w : World) : Calls Try.prog 44 #[.agg #[.int .u8 3, .int .i64 0, .int .u8 0, .int .i64 0, .int .i64 0, .int .i64 16777216, .int .i64 0], .int .u8 0] w fun e w' => e = .returned (.tuple #[opV 0 0 0 0 0 (.slice none 0 0) (.slice none 0 0), .int .i64 2]) ∧ Below w.heap.size w w' :=
  (skFill_q 3 0 0 0 0 (16777216) 0 0 w).mono fun e w' h => h.2 (by decide)
theorem bd_c (w : World) : Calls Try.prog 41 #[.agg #[.int .u8 1, .int .i64 0, .int .u8 0, .int .i64 0, .int .i64 0, .int .i64 3, .int .i64 0]] w fun e w' => e = .returned (.int .i64 99) ∧ Below w.heap.size w w' :=
  (skBound_s 1 0 0 0 0 3 0 w).mono fun e w' h => ⟨by rw [h.1]; exact congrArg (fun x => Ending.returned (.int .i64 x)) (by decide), h.2⟩
theorem bd_d (w : World) : Calls Try.prog 41 #[.agg #[.int .u8 4, .int .i64 0, .int .u8 0, .int .i64 0, .int .i64 0, .int .i64 0, .int .i64 0]] w fun e w' => e = .returned (.int .i64 96) ∧ Below w.heap.size w w' :=
  (skBound_s 4 0 0 0 0 0 0 w).mono fun e w' h => ⟨by rw [h.1]; exact congrArg (fun x => Ending.returned (.int .i64 x)) (by decide), h.2⟩
theorem bd_e (w : World) : Calls Try.prog 41 #[.agg #[.int .u8 0, .int .i64 0, .int .u8 0, .int .i64 0, .int .i64 0, .int .i64 0, .int .i64 0]] w fun e w' => e = .returned (.int .i64 96) ∧ Below w.heap.size w w' :=
  (skBound_s 0 0 0 0 0 0 0 w).mono fun e w' h => ⟨by rw [h.1]; exact congrArg (fun x => Ending.returned (.int .i64 x)) (by decide), h.2⟩
theorem bd_f (w : World) : Calls Try.prog 41 #[.agg #[.int .u8 8, .int .i64 0, .int .u8 0, .int .i64 1000, .int .i64 64, .int .i64 8, .int .i64 0]] w fun e w' => e = .returned (.int .i64 12232) ∧ Below w.heap.size w w' :=
  (skBound_s 8 0 0 1000 64 8 0 w).mono fun e w' h => ⟨by rw [h.1]; exact congrArg (fun x => Ending.returned (.int .i64 x)) (by decide), h.2⟩
theorem bd_g (w : World) : Calls Try.prog 41 #[.agg #[.int .u8 2, .int .i64 0, .int .u8 0, .int .i64 0, .int .i64 4611686018427387904, .int .i64 0, .int .i64 0]] w fun e w' => e = .returned (.int .i64 33554528) ∧ Below w.heap.size w w' :=
  (skBound_s 2 0 0 0 4611686018427387904 0 0 w).mono fun e w' h => ⟨by rw [h.1]; exact congrArg (fun x => Ending.returned (.int .i64 x)) (by decide), h.2⟩
theorem bd_h (w : World) : Calls Try.prog 41 #[.agg #[.int .u8 2, .int .i64 0, .int .u8 0, .int .i64 0, .int .i64 16777216, .int .i64 0, .int .i64 0]] w fun e w' => e = .returned (.int .i64 33554528) ∧ Below w.heap.size w w' :=
  (skBound_s 2 0 0 0 16777216 0 0 w).mono fun e w' h => ⟨by rw [h.1]; exact congrArg (fun x => Ending.returned (.int .i64 x)) (by decide), h.2⟩

set_option maxRecDepth 100000 in
set_option maxHeartbeats 4000000 in
theorem skelNames_walk (w : World) : Calls Try.prog 9 #[] w fun e w' => e = .returned (.bool true) ∧ Below w.heap.size w w' := by
  have H := St.start_lay w []
  obtain ⟨i0, hi0, hz0, hz1, hz2⟩ := info_parts u8_info
  go_enter Try.func9, Try.ntmps9
  go_wp2_with (at_make; refine wpList_make_full _ rfl (.const (.int .i64 5)) (.const (.int .i64 5)) 25 rfl w.heap.size 5 i0 (.int .u8 0) 1 Try.underlying25 hi0 hz0 hz1 .i64 .i64 _ _ 5 rfl rfl (by omega) (by omega) (by rw [hz2]; omega) (by simp only [maxLen]; omega) (Nat.le_refl _) ?_; intro w1 ho1 hg1; refine absorb_list (H.call ((Below.refl _ _).grown hg1 (Nat.le_refl _) (fun _ h => by cases h))) ?_; clear H ho1 hg1 hi0 hz0 hz1 hz2; intro w1 H)
  refine (of_a _ _ w1).mono ?_
  rintro e w2 ⟨rfl, hb⟩
  replace H := H.call hb
  clear hb
  go_wp2_with fail
  refine absorb_calls (H.allocAt 0 rfl w2.heap.size rfl #[.int .u8 7, .int .i64 2, .int .u8 1, .int .i64 0, .int .i64 40, .int .i64 5, .int .i64 0] 51 |>.push_mk rfl |>.lit 1 rfl 5 _ 1 rfl (by omega) (w2.heap.size + 1) (by simp) |>.push_mk rfl) ?_
  clear H
  intro w3 H
  generalize w2.heap.size + 1 = q1 at H ⊢
  generalize w2.heap.size = g1 at H ⊢
  refine (of_b _ _ w3).mono ?_
  rintro e w4 ⟨rfl, hb⟩
  replace H := H.call hb
  clear hb
  go_wp2_with fail
  refine absorb_calls (H.allocAt 2 rfl w4.heap.size rfl #[.int .u8 77, .int .i64 0, .int .u8 0, .int .i64 0, .int .i64 0, .int .i64 0, .int .i64 0] 51 |>.push_mk rfl) ?_
  clear H
  intro w5 H
  generalize w4.heap.size = g2 at H ⊢
  refine (fill_a w5).mono ?_
  rintro e w6 ⟨rfl, hb⟩
  replace H := H.call hb
  clear hb
  go_wp2_with fail
  refine absorb_calls (H.call ((Below.refl _ _).alloc (Nat.le_refl _) _)) ?_
  clear H
  intro w7 H
  refine (fill_b w7).mono ?_
  rintro e w8 ⟨rfl, hb⟩
  replace H := H.call hb
  clear hb
  go_wp2_with fail
  refine absorb_calls (H.call ((Below.refl _ _).alloc (Nat.le_refl _) _)) ?_
  clear H
  intro w9 H
  refine (bd_c _).mono ?_
  rintro e w10 ⟨rfl, hb⟩
  replace H := H.call hb
  clear hb
  go_wp2_with fail
  refine (bd_d _).mono ?_
  rintro e w11 ⟨rfl, hb⟩
  replace H := H.call hb
  clear hb
  go_wp2_with fail
  refine (bd_e _).mono ?_
  rintro e w12 ⟨rfl, hb⟩
  replace H := H.call hb
  clear hb
  go_wp2_with fail
  refine (bd_f _).mono ?_
  rintro e w13 ⟨rfl, hb⟩
  replace H := H.call hb
  clear hb
  go_wp2_with fail
  refine (bd_g _).mono ?_
  rintro e w14 ⟨rfl, hb⟩
  replace H := H.call hb
  clear hb
  go_wp2_with fail
  refine (bd_h _).mono ?_
  rintro e w15 ⟨rfl, hb⟩
  replace H := H.call hb
  clear hb
  go_wp2_with fail
  refine (skAwake_s _).mono ?_
  rintro e wx ⟨rfl, hb⟩
  replace H := H.call hb
  clear hb
  go_wp2_with (first | (refine load_guard (by rfl) 51 (.tmp 2) rfl g1 rfl _ _ _ _ (H.blk 0 rfl) Try.underlying51 rfl sk_size ?_) | (refine wpList_load_row rfl 51 (.tmp 2) rfl g1 rfl _ _ _ _ (H.blk 0 rfl) Try.underlying51 rfl sk_size ?_) | (refine load_guard (by rfl) 51 (.tmp 3) rfl g2 rfl _ _ _ _ (H.blk 2 rfl) Try.underlying51 rfl sk_size ?_) | (refine wpList_load_row rfl 51 (.tmp 3) rfl g2 rfl _ _ _ _ (H.blk 2 rfl) Try.underlying51 rfl sk_size ?_))
  go_ret
  exact ⟨rfl, H.below⟩
end Go.Proofs.Ytgfhnbjpdhdhgaa
