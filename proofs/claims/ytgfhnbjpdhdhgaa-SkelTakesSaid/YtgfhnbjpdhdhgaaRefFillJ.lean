/- The document's Fill (layer 21), for any kind. -/
import Derived.Test.YtgfhnbjpdhdhgaaRefFill
namespace Go.Proofs.Ytgfhnbjpdhdhgaa
open Go.RowKit
set_option linter.unusedVariables false

def qA (k : UInt8) (a : UInt8) : UInt8 := if 2 ∈ sku k then a else 0
theorem refFill_s (k : UInt8) (h : Int) (a : UInt8) (c o d m : Int) (b : UInt8) (w : World) :
    Calls Try.prog 45 #[.agg #[.int .u8 (k.toNat : Int), .int .i64 h, .int .u8 (a.toNat : Int), .int .i64 c, .int .i64 o, .int .i64 d, .int .i64 m], .int .u8 (b.toNat : Int)] w (FillP k (qI 1 k h) (qA k a) (qI 3 k c) (qI 4 k o) (qI 5 k d) (qI 6 k m) b w) := by
  by_cases h1 : k = 1
  · subst h1; exact refFill_1 h a c o d m b w
  by_cases h2 : k = 2
  · subst h2; exact refFill_2 h a c o d m b w
  by_cases h3 : k = 3
  · subst h3; exact refFill_3 h a c o d m b w
  by_cases h4 : k = 4
  · subst h4; exact refFill_4 h a c o d m b w
  by_cases h5 : k = 5
  · subst h5; exact refFill_5 h a c o d m b w
  by_cases h6 : k = 6
  · subst h6; exact refFill_6 h a c o d m b w
  by_cases h7 : k = 7
  · subst h7; exact refFill_7 h a c o d m b w
  by_cases h8 : k = 8
  · subst h8; exact refFill_8 h a c o d m b w
  by_cases h9 : k = 9
  · subst h9; exact refFill_9 h a c o d m b w
  by_cases h10 : k = 10
  · subst h10; exact refFill_10 h a c o d m b w
  unfold qI qA
  rw [sku_no h1 h2 h3 h4 h5 h6 h7 h8 h9 h10]
  simp only [List.not_mem_nil, if_false]
  exact refFill_no k h a c o d m b w h1 h2 h3 h4 h5 h6 h7 h8 h9 h10
theorem skFill_q (k : UInt8) (h : Int) (a : UInt8) (c o d m : Int) (b : UInt8) (w : World) :
    Calls Try.prog 44 #[.agg #[.int .u8 (k.toNat : Int), .int .i64 h, .int .u8 (a.toNat : Int), .int .i64 c, .int .i64 o, .int .i64 d, .int .i64 m], .int .u8 (b.toNat : Int)] w (FillP k (qI 1 k h) (qA k a) (qI 3 k c) (qI 4 k o) (qI 5 k d) (qI 6 k m) b w) := by
  refine skFill_s k h a c o d m b w _ _ _ _ _ _ ?_
  rw [plainS_eq]
  have e : qI 2 k (a.toNat : Int) = ((qA k a).toNat : Int) := by unfold qI qA; split <;> rfl
  rw [e]
end Go.Proofs.Ytgfhnbjpdhdhgaa
