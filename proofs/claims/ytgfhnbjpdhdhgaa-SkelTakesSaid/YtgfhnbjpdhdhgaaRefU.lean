/- The document's table of what each kind uses (layer 21). -/
import Derived.Test.YtgfhnbjpdhdhgaaSkFillP
namespace Go.Proofs.Ytgfhnbjpdhdhgaa
open Go.RowKit
set_option linter.unusedVariables false

theorem use_size : (Try.prog.info? 81).map (·.size) = some 6 := by kernel_rfl
/-- a field that the kind uses, or 0 -/
def qI (i : Nat) (k : UInt8) (x : Int) : Int := if i ∈ sku k then x else 0
theorem plainS_eq (k : UInt8) (h a c o d m : Int) : plainS k ((k.toNat : Int), h, a, c, o, d, m) = ((k.toNat : Int), qI 1 k h, qI 2 k a, qI 3 k c, qI 4 k o, qI 5 k d, qI 6 k m) := by
  unfold plainS qI
  by_cases h1 : k = 1
  · subst h1; rfl
  by_cases h2 : k = 2
  · subst h2; rfl
  by_cases h3 : k = 3
  · subst h3; rfl
  by_cases h4 : k = 4
  · subst h4; rfl
  by_cases h5 : k = 5
  · subst h5; rfl
  by_cases h6 : k = 6
  · subst h6; rfl
  by_cases h7 : k = 7
  · subst h7; rfl
  by_cases h8 : k = 8
  · subst h8; rfl
  by_cases h9 : k = 9
  · subst h9; rfl
  by_cases h10 : k = 10
  · subst h10; rfl
  rw [sku_no h1 h2 h3 h4 h5 h6 h7 h8 h9 h10]
  simp
def useV (k : UInt8) : Value := .agg #[.bool (decide (1 ∈ sku k)), .bool (decide (2 ∈ sku k)), .bool (decide (3 ∈ sku k)), .bool (decide (4 ∈ sku k)), .bool (decide (5 ∈ sku k)), .bool (decide (6 ∈ sku k))]
theorem refU_1 (w : World) : Calls Try.prog 62 #[.int .u8 1] w fun e w' => e = .returned (.agg #[.bool false, .bool false, .bool false, .bool false, .bool true, .bool false]) ∧ Below w.heap.size w w' := by
  go_enter Try.func62, Try.ntmps62
  go_wp2
  exact bodyPost_ret (results_cell_row rfl _ _ w.heap.size 81 #[.bool false, .bool false, .bool false, .bool false, .bool true, .bool false] _ _ rfl (heap_alloc_new _ _) Try.underlying81 rfl use_size) rfl ⟨rfl, (Below.refl _ _).alloc (Nat.le_refl _) _⟩
theorem refU_2 (w : World) : Calls Try.prog 62 #[.int .u8 2] w fun e w' => e = .returned (.agg #[.bool true, .bool true, .bool false, .bool true, .bool true, .bool false]) ∧ Below w.heap.size w w' := by
  go_enter Try.func62, Try.ntmps62
  go_wp2
  exact bodyPost_ret (results_cell_row rfl _ _ w.heap.size 81 #[.bool true, .bool true, .bool false, .bool true, .bool true, .bool false] _ _ rfl (heap_alloc_new _ _) Try.underlying81 rfl use_size) rfl ⟨rfl, (Below.refl _ _).alloc (Nat.le_refl _) _⟩
theorem refU_3 (w : World) : Calls Try.prog 62 #[.int .u8 3] w fun e w' => e = .returned (.agg #[.bool true, .bool false, .bool false, .bool false, .bool true, .bool false]) ∧ Below w.heap.size w w' := by
  go_enter Try.func62, Try.ntmps62
  go_wp2
  exact bodyPost_ret (results_cell_row rfl _ _ w.heap.size 81 #[.bool true, .bool false, .bool false, .bool false, .bool true, .bool false] _ _ rfl (heap_alloc_new _ _) Try.underlying81 rfl use_size) rfl ⟨rfl, (Below.refl _ _).alloc (Nat.le_refl _) _⟩
theorem refU_4 (w : World) : Calls Try.prog 62 #[.int .u8 4] w fun e w' => e = .returned (.agg #[.bool true, .bool false, .bool false, .bool false, .bool false, .bool false]) ∧ Below w.heap.size w w' := by
  go_enter Try.func62, Try.ntmps62
  go_wp2
  exact bodyPost_ret (results_cell_row rfl _ _ w.heap.size 81 #[.bool true, .bool false, .bool false, .bool false, .bool false, .bool false] _ _ rfl (heap_alloc_new _ _) Try.underlying81 rfl use_size) rfl ⟨rfl, (Below.refl _ _).alloc (Nat.le_refl _) _⟩
theorem refU_5 (w : World) : Calls Try.prog 62 #[.int .u8 5] w fun e w' => e = .returned (.agg #[.bool true, .bool false, .bool false, .bool false, .bool true, .bool false]) ∧ Below w.heap.size w w' := by
  go_enter Try.func62, Try.ntmps62
  go_wp2
  exact bodyPost_ret (results_cell_row rfl _ _ w.heap.size 81 #[.bool true, .bool false, .bool false, .bool false, .bool true, .bool false] _ _ rfl (heap_alloc_new _ _) Try.underlying81 rfl use_size) rfl ⟨rfl, (Below.refl _ _).alloc (Nat.le_refl _) _⟩
theorem refU_6 (w : World) : Calls Try.prog 62 #[.int .u8 6] w fun e w' => e = .returned (.agg #[.bool true, .bool false, .bool false, .bool false, .bool false, .bool false]) ∧ Below w.heap.size w w' := by
  go_enter Try.func62, Try.ntmps62
  go_wp2
  exact bodyPost_ret (results_cell_row rfl _ _ w.heap.size 81 #[.bool true, .bool false, .bool false, .bool false, .bool false, .bool false] _ _ rfl (heap_alloc_new _ _) Try.underlying81 rfl use_size) rfl ⟨rfl, (Below.refl _ _).alloc (Nat.le_refl _) _⟩
theorem refU_7 (w : World) : Calls Try.prog 62 #[.int .u8 7] w fun e w' => e = .returned (.agg #[.bool true, .bool true, .bool false, .bool true, .bool true, .bool true]) ∧ Below w.heap.size w w' := by
  go_enter Try.func62, Try.ntmps62
  go_wp2
  exact bodyPost_ret (results_cell_row rfl _ _ w.heap.size 81 #[.bool true, .bool true, .bool false, .bool true, .bool true, .bool true] _ _ rfl (heap_alloc_new _ _) Try.underlying81 rfl use_size) rfl ⟨rfl, (Below.refl _ _).alloc (Nat.le_refl _) _⟩
theorem refU_8 (w : World) : Calls Try.prog 62 #[.int .u8 8] w fun e w' => e = .returned (.agg #[.bool true, .bool true, .bool true, .bool true, .bool true, .bool false]) ∧ Below w.heap.size w w' := by
  go_enter Try.func62, Try.ntmps62
  go_wp2
  exact bodyPost_ret (results_cell_row rfl _ _ w.heap.size 81 #[.bool true, .bool true, .bool true, .bool true, .bool true, .bool false] _ _ rfl (heap_alloc_new _ _) Try.underlying81 rfl use_size) rfl ⟨rfl, (Below.refl _ _).alloc (Nat.le_refl _) _⟩
theorem refU_9 (w : World) : Calls Try.prog 62 #[.int .u8 9] w fun e w' => e = .returned (.agg #[.bool true, .bool false, .bool false, .bool false, .bool false, .bool false]) ∧ Below w.heap.size w w' := by
  go_enter Try.func62, Try.ntmps62
  go_wp2
  exact bodyPost_ret (results_cell_row rfl _ _ w.heap.size 81 #[.bool true, .bool false, .bool false, .bool false, .bool false, .bool false] _ _ rfl (heap_alloc_new _ _) Try.underlying81 rfl use_size) rfl ⟨rfl, (Below.refl _ _).alloc (Nat.le_refl _) _⟩
theorem refU_10 (w : World) : Calls Try.prog 62 #[.int .u8 10] w fun e w' => e = .returned (.agg #[.bool true, .bool false, .bool false, .bool false, .bool false, .bool false]) ∧ Below w.heap.size w w' := by
  go_enter Try.func62, Try.ntmps62
  go_wp2
  exact bodyPost_ret (results_cell_row rfl _ _ w.heap.size 81 #[.bool true, .bool false, .bool false, .bool false, .bool false, .bool false] _ _ rfl (heap_alloc_new _ _) Try.underlying81 rfl use_size) rfl ⟨rfl, (Below.refl _ _).alloc (Nat.le_refl _) _⟩
theorem refU_no (k : UInt8) (w : World) (h1 : k ≠ 1) (h2 : k ≠ 2) (h3 : k ≠ 3) (h4 : k ≠ 4) (h5 : k ≠ 5) (h6 : k ≠ 6) (h7 : k ≠ 7) (h8 : k ≠ 8) (h9 : k ≠ 9) (h10 : k ≠ 10) : Calls Try.prog 62 #[.int .u8 (k.toNat : Int)] w fun e w' => e = .returned (.agg #[.bool false, .bool false, .bool false, .bool false, .bool false, .bool false]) ∧ Below w.heap.size w w' := by
  have e1 := u8_is' k 1 h1 1 rfl
  have e2 := u8_is' k 2 h2 2 rfl
  have e3 := u8_is' k 3 h3 3 rfl
  have e4 := u8_is' k 4 h4 4 rfl
  have e5 := u8_is' k 5 h5 5 rfl
  have e6 := u8_is' k 6 h6 6 rfl
  have e7 := u8_is' k 7 h7 7 rfl
  have e8 := u8_is' k 8 h8 8 rfl
  have e9 := u8_is' k 9 h9 9 rfl
  have e10 := u8_is' k 10 h10 10 rfl
  clear h1 h2 h3 h4 h5 h6 h7 h8 h9 h10
  go_enter Try.func62, Try.ntmps62
  go_wp2
  exact bodyPost_ret (results_cell_row rfl _ _ w.heap.size 81 #[.bool false, .bool false, .bool false, .bool false, .bool false, .bool false] _ _ rfl (heap_alloc_new _ _) Try.underlying81 rfl use_size) rfl ⟨rfl, (Below.refl _ _).alloc (Nat.le_refl _) _⟩
theorem refU_s (k : UInt8) (w : World) : Calls Try.prog 62 #[.int .u8 (k.toNat : Int)] w fun e w' => e = .returned (useV k) ∧ Below w.heap.size w w' := by
  by_cases h1 : k = 1
  · subst h1; exact refU_1 w
  by_cases h2 : k = 2
  · subst h2; exact refU_2 w
  by_cases h3 : k = 3
  · subst h3; exact refU_3 w
  by_cases h4 : k = 4
  · subst h4; exact refU_4 w
  by_cases h5 : k = 5
  · subst h5; exact refU_5 w
  by_cases h6 : k = 6
  · subst h6; exact refU_6 w
  by_cases h7 : k = 7
  · subst h7; exact refU_7 w
  by_cases h8 : k = 8
  · subst h8; exact refU_8 w
  by_cases h9 : k = 9
  · subst h9; exact refU_9 w
  by_cases h10 : k = 10
  · subst h10; exact refU_10 w
  unfold useV
  rw [sku_no h1 h2 h3 h4 h5 h6 h7 h8 h9 h10]
  exact refU_no k w h1 h2 h3 h4 h5 h6 h7 h8 h9 h10
end Go.Proofs.Ytgfhnbjpdhdhgaa
