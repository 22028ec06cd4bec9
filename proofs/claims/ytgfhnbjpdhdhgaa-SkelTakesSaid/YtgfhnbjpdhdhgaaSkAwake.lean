/- Two examples of layer 21: 'awake'. -/
import Derived.Test.YtgfhnbjpdhdhgaaSkOf
import Derived.Test.YtgfhnbjpdhdhgaaKitO
namespace Go.Proofs.Ytgfhnbjpdhdhgaa
open Go.RowKit
set_option linter.unusedVariables false

theorem fill_ex (w : World) : Calls Try.prog 44 #[.agg #[.int .u8 3, .int .i64 3, .int .u8 0, .int .i64 0, .int .i64 0, .int .i64 2, .int .i64 0], .int .u8 255] w fun e w' => ∃ v5 v6, e = .returned (.tuple #[.agg #[.int .u8 3, .int .i64 3, .int .u8 0, .int .i64 0, .int .i64 0, v5, v6], .int .i64 0]) ∧
    St w [] w' (lay [.row 5 1 v5 2 ([(255 : UInt8), 255].map vb), .row 5 1 v6 0 (([] : List UInt8).map vb)]) :=
  (skFill_q 3 3 0 0 0 2 0 255 w).mono fun e w' h => h.1 (by decide)
theorem of_ex (A : Option Addr) (c : Nat) (w : World) : Calls Try.prog 32 #[.agg #[.int .u8 1, .int .i64 5, .int .u8 0, .int .i64 0, .int .i64 0, .slice A 3 c, .slice none 0 0]] w fun e w' => e = .returned (.agg #[.int .u8 1, .int .i64 0, .int .u8 0, .int .i64 0, .int .i64 0, .int .i64 3, .int .i64 0]) ∧ Below w.heap.size w w' :=
  skOf_s 1 5 0 0 0 A none 3 c 0 0 w
theorem same_ex (A B A' : Option Addr) (c d c' : Nat) (w : World) (hA : Rd w 1 A 2 ([(255 : UInt8), 255].map vb)) (hB : Rd w 1 B 0 (([] : List UInt8).map vb)) (hA' : Rd w 1 A' 2 ([(255 : UInt8), 255].map vb)) :
    Calls Try.prog 25 #[.agg #[.int .u8 3, .int .i64 3, .int .u8 0, .int .i64 0, .int .i64 0, .slice A 2 c, .slice B 0 d], .agg #[.int .u8 3, .int .i64 3, .int .u8 0, .int .i64 0, .int .i64 0, .slice A' 2 c', .slice none 0 0]] w fun e w' => e = .returned (.bool true) ∧ Below w.heap.size w w' :=
  sameOp_yes 3 3 0 0 0 A B A' none 2 0 c d 2 0 c' 0 [255, 255] [] w hA hB hA' Rd.none_ (by omega) (by omega)

set_option maxHeartbeats 1000000 in
theorem skAwake_s (w : World) : Calls Try.prog 43 #[] w fun e w' => e = .returned (.bool true) ∧ Below w.heap.size w w' := by
  have H := St.start_lay w []
  go_enter Try.func43, Try.ntmps43
  go_wp2_with fail
  refine (fill_ex w).mono ?_
  rintro e w1 ⟨v5, v6, rfl, HN⟩
  replace H := H.also HN
  clear HN
  obtain ⟨A5, d5, rfl, -⟩ := row_form (H.row 0 rfl)
  obtain ⟨A6, d6, rfl, -⟩ := row_form (H.row 1 rfl)
  go_wp2_with fail
  refine absorb_calls (H.allocAt 2 rfl w1.heap.size rfl _ _ |>.push_mk rfl |>.lit 3 rfl 5 _ 3 rfl (by omega) (w1.heap.size + 1) (by simp) |>.push_mk rfl) ?_
  clear H
  intro w2 H
  generalize w1.heap.size + 1 = g3 at H ⊢
  generalize w1.heap.size = g2 at H ⊢
  refine (of_ex _ _ w2).mono ?_
  rintro e w3 ⟨rfl, hb⟩
  replace H := H.call hb
  clear hb
  have hblk := H.blk 2 rfl
  have l2 := H.lt 2 rfl
  have x0 := H.cell 2 rfl (o := 0) rfl
  have x1 := H.cell 2 rfl (o := 1) rfl
  have x2 := H.cell 2 rfl (o := 2) rfl
  have x3 := H.cell 2 rfl (o := 3) rfl
  have x4 := H.cell 2 rfl (o := 4) rfl
  have x5 := H.cell 2 rfl (o := 5) rfl
  have x6 := H.cell 2 rfl (o := 6) rfl
  go_wp2_with fail
  refine absorb_calls (H.lit 4 rfl 5 _ 2 rfl (by omega) w3.heap.size rfl |>.push_mk rfl) ?_
  clear H
  intro w4 H
  generalize w3.heap.size = g4 at H ⊢
  refine (same_ex _ _ _ _ _ _ w4 (H.rd 0 rfl) (H.rd 1 rfl) (H.rd 4 rfl)).mono ?_
  rintro e w5 ⟨rfl, hb⟩
  replace H := H.call hb
  go_wp2_with fail
  go_ret
  exact ⟨rfl, H.below⟩
end Go.Proofs.Ytgfhnbjpdhdhgaa
