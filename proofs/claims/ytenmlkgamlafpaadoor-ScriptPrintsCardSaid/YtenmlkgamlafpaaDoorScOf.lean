/- The document's Of: an operation's skeleton. -/
import Derived.Test.YtenmlkgamlafpaaDoorRowOs
import Derived.Test.YtenmlkgamlafpaaDoorUses
import Derived.Test.YtenmlkgamlafpaaDoorLentO
import Derived.Test.YtenmlkgamlafpaaDoorSkel
namespace Go.Proofs.YtenmlkgamlafpaaDoor
open Go.RowKit
set_option linter.unusedVariables false
set_option maxRecDepth 100000

def sku (k : UInt8) : List Nat :=
  if k = 1 then [5] else
  if k = 2 then [1, 2, 5, 4] else
  if k = 3 then [1, 5] else
  if k = 4 then [1] else
  if k = 5 then [1, 5] else
  if k = 6 then [1] else
  if k = 7 then [1, 2, 5, 6, 4] else
  if k = 8 then [1, 2, 5, 3, 4] else
  if k = 9 then [1] else
  if k = 10 then [1] else
  []

theorem sku_1 : sku 1 = [5] := rfl

theorem sku_2 : sku 2 = [1, 2, 5, 4] := rfl

theorem sku_3 : sku 3 = [1, 5] := rfl

theorem sku_4 : sku 4 = [1] := rfl

theorem sku_5 : sku 5 = [1, 5] := rfl

theorem sku_6 : sku 6 = [1] := rfl

theorem sku_7 : sku 7 = [1, 2, 5, 6, 4] := rfl

theorem sku_8 : sku 8 = [1, 2, 5, 3, 4] := rfl

theorem sku_9 : sku 9 = [1] := rfl

theorem sku_10 : sku 10 = [1] := rfl

theorem sku_no {k : UInt8} (h1 : k ≠ 1) (h2 : k ≠ 2) (h3 : k ≠ 3) (h4 : k ≠ 4) (h5 : k ≠ 5) (h6 : k ≠ 6) (h7 : k ≠ 7) (h8 : k ≠ 8) (h9 : k ≠ 9) (h10 : k ≠ 10) : sku k = [] := by unfold sku; simp [h1, h2, h3, h4, h5, h6, h7, h8, h9, h10]

theorem uses_le (k : UInt8) : ∀ u ∈ usesOf k, u ≤ 5 := by
  intro u hu
  unfold usesOf at hu
  repeat' split at hu
  all_goals simp at hu; try omega

theorem uses_len (k : UInt8) : (usesOf k).length ≤ 5 := by
  unfold usesOf
  repeat' split
  all_goals simp

theorem sk_size : (Tryd.prog.info? 60).map (·.size) = some 7 := by kernel_rfl

theorem use_size : (Tryd.prog.info? 74).map (·.size) = some 6 := by kernel_rfl

/-- a field that the kind uses, or 0 -/
def qI (i : Nat) (k : UInt8) (x : Int) : Int := if i ∈ sku k then x else 0

def useV (k : UInt8) : Value := .agg #[.bool (decide (1 ∈ sku k)), .bool (decide (2 ∈ sku k)), .bool (decide (3 ∈ sku k)), .bool (decide (4 ∈ sku k)), .bool (decide (5 ∈ sku k)), .bool (decide (6 ∈ sku k))]

theorem refU_1 (w : World) : Calls Tryd.prog 33 #[.int .u8 1] w fun e w' => e = .returned (.agg #[.bool false, .bool false, .bool false, .bool false, .bool true, .bool false]) ∧ Below w.heap.size w w' := by
  go_enter Tryd.func33, Tryd.ntmps33
  go_wp2
  exact bodyPost_ret (results_cell_row rfl _ _ w.heap.size 74 #[.bool false, .bool false, .bool false, .bool false, .bool true, .bool false] _ _ rfl (heap_alloc_new _ _) Tryd.underlying74 rfl use_size) rfl ⟨rfl, (Below.refl _ _).alloc (Nat.le_refl _) _⟩

theorem refU_2 (w : World) : Calls Tryd.prog 33 #[.int .u8 2] w fun e w' => e = .returned (.agg #[.bool true, .bool true, .bool false, .bool true, .bool true, .bool false]) ∧ Below w.heap.size w w' := by
  go_enter Tryd.func33, Tryd.ntmps33
  go_wp2
  exact bodyPost_ret (results_cell_row rfl _ _ w.heap.size 74 #[.bool true, .bool true, .bool false, .bool true, .bool true, .bool false] _ _ rfl (heap_alloc_new _ _) Tryd.underlying74 rfl use_size) rfl ⟨rfl, (Below.refl _ _).alloc (Nat.le_refl _) _⟩

theorem refU_3 (w : World) : Calls Tryd.prog 33 #[.int .u8 3] w fun e w' => e = .returned (.agg #[.bool true, .bool false, .bool false, .bool false, .bool true, .bool false]) ∧ Below w.heap.size w w' := by
  go_enter Tryd.func33, Tryd.ntmps33
  go_wp2
  exact bodyPost_ret (results_cell_row rfl _ _ w.heap.size 74 #[.bool true, .bool false, .bool false, .bool false, .bool true, .bool false] _ _ rfl (heap_alloc_new _ _) Tryd.underlying74 rfl use_size) rfl ⟨rfl, (Below.refl _ _).alloc (Nat.le_refl _) _⟩

theorem refU_4 (w : World) : Calls Tryd.prog 33 #[.int .u8 4] w fun e w' => e = .returned (.agg #[.bool true, .bool false, .bool false, .bool false, .bool false, .bool false]) ∧ Below w.heap.size w w' := by
  go_enter Tryd.func33, Tryd.ntmps33
  go_wp2
  exact bodyPost_ret (results_cell_row rfl _ _ w.heap.size 74 #[.bool true, .bool false, .bool false, .bool false, .bool false, .bool false] _ _ rfl (heap_alloc_new _ _) Tryd.underlying74 rfl use_size) rfl ⟨rfl, (Below.refl _ _).alloc (Nat.le_refl _) _⟩

theorem refU_5 (w : World) : Calls Tryd.prog 33 #[.int .u8 5] w fun e w' => e = .returned (.agg #[.bool true, .bool false, .bool false, .bool false, .bool true, .bool false]) ∧ Below w.heap.size w w' := by
  go_enter Tryd.func33, Tryd.ntmps33
  go_wp2
  exact bodyPost_ret (results_cell_row rfl _ _ w.heap.size 74 #[.bool true, .bool false, .bool false, .bool false, .bool true, .bool false] _ _ rfl (heap_alloc_new _ _) Tryd.underlying74 rfl use_size) rfl ⟨rfl, (Below.refl _ _).alloc (Nat.le_refl _) _⟩

theorem refU_6 (w : World) : Calls Tryd.prog 33 #[.int .u8 6] w fun e w' => e = .returned (.agg #[.bool true, .bool false, .bool false, .bool false, .bool false, .bool false]) ∧ Below w.heap.size w w' := by
  go_enter Tryd.func33, Tryd.ntmps33
  go_wp2
  exact bodyPost_ret (results_cell_row rfl _ _ w.heap.size 74 #[.bool true, .bool false, .bool false, .bool false, .bool false, .bool false] _ _ rfl (heap_alloc_new _ _) Tryd.underlying74 rfl use_size) rfl ⟨rfl, (Below.refl _ _).alloc (Nat.le_refl _) _⟩

theorem refU_7 (w : World) : Calls Tryd.prog 33 #[.int .u8 7] w fun e w' => e = .returned (.agg #[.bool true, .bool true, .bool false, .bool true, .bool true, .bool true]) ∧ Below w.heap.size w w' := by
  go_enter Tryd.func33, Tryd.ntmps33
  go_wp2
  exact bodyPost_ret (results_cell_row rfl _ _ w.heap.size 74 #[.bool true, .bool true, .bool false, .bool true, .bool true, .bool true] _ _ rfl (heap_alloc_new _ _) Tryd.underlying74 rfl use_size) rfl ⟨rfl, (Below.refl _ _).alloc (Nat.le_refl _) _⟩

theorem refU_8 (w : World) : Calls Tryd.prog 33 #[.int .u8 8] w fun e w' => e = .returned (.agg #[.bool true, .bool true, .bool true, .bool true, .bool true, .bool false]) ∧ Below w.heap.size w w' := by
  go_enter Tryd.func33, Tryd.ntmps33
  go_wp2
  exact bodyPost_ret (results_cell_row rfl _ _ w.heap.size 74 #[.bool true, .bool true, .bool true, .bool true, .bool true, .bool false] _ _ rfl (heap_alloc_new _ _) Tryd.underlying74 rfl use_size) rfl ⟨rfl, (Below.refl _ _).alloc (Nat.le_refl _) _⟩

theorem refU_9 (w : World) : Calls Tryd.prog 33 #[.int .u8 9] w fun e w' => e = .returned (.agg #[.bool true, .bool false, .bool false, .bool false, .bool false, .bool false]) ∧ Below w.heap.size w w' := by
  go_enter Tryd.func33, Tryd.ntmps33
  go_wp2
  exact bodyPost_ret (results_cell_row rfl _ _ w.heap.size 74 #[.bool true, .bool false, .bool false, .bool false, .bool false, .bool false] _ _ rfl (heap_alloc_new _ _) Tryd.underlying74 rfl use_size) rfl ⟨rfl, (Below.refl _ _).alloc (Nat.le_refl _) _⟩

theorem refU_10 (w : World) : Calls Tryd.prog 33 #[.int .u8 10] w fun e w' => e = .returned (.agg #[.bool true, .bool false, .bool false, .bool false, .bool false, .bool false]) ∧ Below w.heap.size w w' := by
  go_enter Tryd.func33, Tryd.ntmps33
  go_wp2
  exact bodyPost_ret (results_cell_row rfl _ _ w.heap.size 74 #[.bool true, .bool false, .bool false, .bool false, .bool false, .bool false] _ _ rfl (heap_alloc_new _ _) Tryd.underlying74 rfl use_size) rfl ⟨rfl, (Below.refl _ _).alloc (Nat.le_refl _) _⟩

theorem refU_no (k : UInt8) (w : World) (h1 : k ≠ 1) (h2 : k ≠ 2) (h3 : k ≠ 3) (h4 : k ≠ 4) (h5 : k ≠ 5) (h6 : k ≠ 6) (h7 : k ≠ 7) (h8 : k ≠ 8) (h9 : k ≠ 9) (h10 : k ≠ 10) : Calls Tryd.prog 33 #[.int .u8 (k.toNat : Int)] w fun e w' => e = .returned (.agg #[.bool false, .bool false, .bool false, .bool false, .bool false, .bool false]) ∧ Below w.heap.size w w' := by
  have e1 := u8_is k 1 h1 1 rfl
  have e2 := u8_is k 2 h2 2 rfl
  have e3 := u8_is k 3 h3 3 rfl
  have e4 := u8_is k 4 h4 4 rfl
  have e5 := u8_is k 5 h5 5 rfl
  have e6 := u8_is k 6 h6 6 rfl
  have e7 := u8_is k 7 h7 7 rfl
  have e8 := u8_is k 8 h8 8 rfl
  have e9 := u8_is k 9 h9 9 rfl
  have e10 := u8_is k 10 h10 10 rfl
  clear h1 h2 h3 h4 h5 h6 h7 h8 h9 h10
  go_enter Tryd.func33, Tryd.ntmps33
  go_wp2
  exact bodyPost_ret (results_cell_row rfl _ _ w.heap.size 74 #[.bool false, .bool false, .bool false, .bool false, .bool false, .bool false] _ _ rfl (heap_alloc_new _ _) Tryd.underlying74 rfl use_size) rfl ⟨rfl, (Below.refl _ _).alloc (Nat.le_refl _) _⟩

theorem refU_s (k : UInt8) (w : World) : Calls Tryd.prog 33 #[.int .u8 (k.toNat : Int)] w fun e w' => e = .returned (useV k) ∧ Below w.heap.size w w' := by
  by_cases h1 : k = 1
  · subst h1; exact refU_1 w
  by_cases h2 : k = 2
  · subst h2; exact refU_2 w
  by_cases h3 : k = 3
  · subst h3; exact refU_3 w
  by_cases h4 : k = 4
  · subst h4; exact refU_4 w
  by_cases h5 : k = 5
  · subst h5; exact refU_5 w
  by_cases h6 : k = 6
  · subst h6; exact refU_6 w
  by_cases h7 : k = 7
  · subst h7; exact refU_7 w
  by_cases h8 : k = 8
  · subst h8; exact refU_8 w
  by_cases h9 : k = 9
  · subst h9; exact refU_9 w
  by_cases h10 : k = 10
  · subst h10; exact refU_10 w
  unfold useV
  rw [sku_no h1 h2 h3 h4 h5 h6 h7 h8 h9 h10]
  exact refU_no k w h1 h2 h3 h4 h5 h6 h7 h8 h9 h10

set_option maxRecDepth 100000 in
set_option maxHeartbeats 2000000 in
theorem refOf_1 (h : Int) (a : UInt8) (c o : Int) (A B : Option Addr) (n cA m cB : Nat) (w : World) :
    Calls Tryd.prog 15 #[.agg #[.int .u8 1, .int .i64 h, .int .u8 (a.toNat : Int), .int .i64 c, .int .i64 o, .slice A n cA, .slice B m cB]] w fun e w' => e = .returned (.agg #[.int .u8 1, .int .i64 0, .int .u8 0, .int .i64 0, .int .i64 0, .int .i64 (n : Int), .int .i64 0]) ∧ Below w.heap.size w w' := by
  have H0 := St.start_lay w []
  go_enter Tryd.func15, Tryd.ntmps15
  go_wp2_with fail
  refine absorb_calls (H0.allocAt 0 rfl w.heap.size rfl _ _ |>.push_mk rfl |>.allocAt 1 rfl (w.heap.size + 1) (by simp) _ _ |>.push_mk rfl) ?_
  intro w1 H
  generalize w.heap.size + 1 = gR at H ⊢
  generalize hga : w.heap.size = gA at H ⊢
  clear hga H0
  refine (refU_1 w1).mono ?_
  rintro e w2 ⟨rfl, hb2⟩
  replace H := H.call hb2
  clear hb2
  have a0 := H.cell 0 rfl (o := 0) rfl
  have a5 := H.cell 0 rfl (o := 5) rfl
  have lA := H.lt 0 rfl
  have HA := H.allocAt 2 rfl w2.heap.size rfl #[.bool false, .bool false, .bool false, .bool false, .bool true, .bool false] 74 |>.push_mk rfl |>.allocAt 3 rfl (w2.heap.size + 1) (by simp) #[.int .u8 1, .int .i64 0, .int .u8 0, .int .i64 0, .int .i64 0, .int .i64 (n : Int), .int .i64 0] 60 |>.push_mk rfl
  have HX := HA
  have hb := HX.blk 3 rfl
  have ht := HX.there 1 rfl
  go_wp2_with (first | (refine wpList_load_row rfl 60 (.tmp 4) rfl (w2.heap.size + 1) rfl _ _ _ _ hb Tryd.underlying60 rfl sk_size ?_) | (refine wpList_store_mid rfl 60 (.tmp 2) (.tmp 43) rfl gR 0 (List.toArray [.int .u8 1, .int .i64 0, .int .u8 0, .int .i64 0, .int .i64 0, .int .i64 (n : Int), .int .i64 0]) rfl rfl ht sk_size (all_oneCell_toArray (by simp [Value.oneCell'])) ?_))
  have HZ := (HX.storeAll 1 rfl (vs := [.int .u8 1, .int .i64 0, .int .u8 0, .int .i64 0, .int .i64 0, .int .i64 (n : Int), .int .i64 0]) rfl).upd_mk (by simp)
  exact bodyPost_ret (results_cell_row rfl _ _ gR 60 _ _ _ rfl (HZ.blk 1 rfl) Tryd.underlying60 rfl sk_size) rfl ⟨rfl, HZ.below⟩

set_option maxRecDepth 100000 in
set_option maxHeartbeats 2000000 in
theorem refOf_2 (h : Int) (a : UInt8) (c o : Int) (A B : Option Addr) (n cA m cB : Nat) (w : World) :
    Calls Tryd.prog 15 #[.agg #[.int .u8 2, .int .i64 h, .int .u8 (a.toNat : Int), .int .i64 c, .int .i64 o, .slice A n cA, .slice B m cB]] w fun e w' => e = .returned (.agg #[.int .u8 2, .int .i64 h, .int .u8 (a.toNat : Int), .int .i64 0, .int .i64 o, .int .i64 (n : Int), .int .i64 0]) ∧ Below w.heap.size w w' := by
  have H0 := St.start_lay w []
  go_enter Tryd.func15, Tryd.ntmps15
  go_wp2_with fail
  refine absorb_calls (H0.allocAt 0 rfl w.heap.size rfl _ _ |>.push_mk rfl |>.allocAt 1 rfl (w.heap.size + 1) (by simp) _ _ |>.push_mk rfl) ?_
  intro w1 H
  generalize w.heap.size + 1 = gR at H ⊢
  generalize hga : w.heap.size = gA at H ⊢
  clear hga H0
  refine (refU_2 w1).mono ?_
  rintro e w2 ⟨rfl, hb2⟩
  replace H := H.call hb2
  clear hb2
  have a0 := H.cell 0 rfl (o := 0) rfl
  have a1 := H.cell 0 rfl (o := 1) rfl
  have a2 := H.cell 0 rfl (o := 2) rfl
  have a4 := H.cell 0 rfl (o := 4) rfl
  have a5 := H.cell 0 rfl (o := 5) rfl
  have lA := H.lt 0 rfl
  have HA := H.allocAt 2 rfl w2.heap.size rfl #[.bool true, .bool true, .bool false, .bool true, .bool true, .bool false] 74 |>.push_mk rfl |>.allocAt 3 rfl (w2.heap.size + 1) (by simp) #[.int .u8 2, .int .i64 h, .int .u8 (a.toNat : Int), .int .i64 0, .int .i64 o, .int .i64 (n : Int), .int .i64 0] 60 |>.push_mk rfl
  have HX := HA
  have hb := HX.blk 3 rfl
  have ht := HX.there 1 rfl
  go_wp2_with (first | (refine wpList_load_row rfl 60 (.tmp 4) rfl (w2.heap.size + 1) rfl _ _ _ _ hb Tryd.underlying60 rfl sk_size ?_) | (refine wpList_store_mid rfl 60 (.tmp 2) (.tmp 43) rfl gR 0 (List.toArray [.int .u8 2, .int .i64 h, .int .u8 (a.toNat : Int), .int .i64 0, .int .i64 o, .int .i64 (n : Int), .int .i64 0]) rfl rfl ht sk_size (all_oneCell_toArray (by simp [Value.oneCell'])) ?_))
  have HZ := (HX.storeAll 1 rfl (vs := [.int .u8 2, .int .i64 h, .int .u8 (a.toNat : Int), .int .i64 0, .int .i64 o, .int .i64 (n : Int), .int .i64 0]) rfl).upd_mk (by simp)
  exact bodyPost_ret (results_cell_row rfl _ _ gR 60 _ _ _ rfl (HZ.blk 1 rfl) Tryd.underlying60 rfl sk_size) rfl ⟨rfl, HZ.below⟩

set_option maxRecDepth 100000 in
set_option maxHeartbeats 2000000 in
theorem refOf_3 (h : Int) (a : UInt8) (c o : Int) (A B : Option Addr) (n cA m cB : Nat) (w : World) :
    Calls Tryd.prog 15 #[.agg #[.int .u8 3, .int .i64 h, .int .u8 (a.toNat : Int), .int .i64 c, .int .i64 o, .slice A n cA, .slice B m cB]] w fun e w' => e = .returned (.agg #[.int .u8 3, .int .i64 h, .int .u8 0, .int .i64 0, .int .i64 0, .int .i64 (n : Int), .int .i64 0]) ∧ Below w.heap.size w w' := by
  have H0 := St.start_lay w []
  go_enter Tryd.func15, Tryd.ntmps15
  go_wp2_with fail
  refine absorb_calls (H0.allocAt 0 rfl w.heap.size rfl _ _ |>.push_mk rfl |>.allocAt 1 rfl (w.heap.size + 1) (by simp) _ _ |>.push_mk rfl) ?_
  intro w1 H
  generalize w.heap.size + 1 = gR at H ⊢
  generalize hga : w.heap.size = gA at H ⊢
  clear hga H0
  refine (refU_3 w1).mono ?_
  rintro e w2 ⟨rfl, hb2⟩
  replace H := H.call hb2
  clear hb2
  have a0 := H.cell 0 rfl (o := 0) rfl
  have a1 := H.cell 0 rfl (o := 1) rfl
  have a5 := H.cell 0 rfl (o := 5) rfl
  have lA := H.lt 0 rfl
  have HA := H.allocAt 2 rfl w2.heap.size rfl #[.bool true, .bool false, .bool false, .bool false, .bool true, .bool false] 74 |>.push_mk rfl |>.allocAt 3 rfl (w2.heap.size + 1) (by simp) #[.int .u8 3, .int .i64 h, .int .u8 0, .int .i64 0, .int .i64 0, .int .i64 (n : Int), .int .i64 0] 60 |>.push_mk rfl
  have HX := HA
  have hb := HX.blk 3 rfl
  have ht := HX.there 1 rfl
  go_wp2_with (first | (refine wpList_load_row rfl 60 (.tmp 4) rfl (w2.heap.size + 1) rfl _ _ _ _ hb Tryd.underlying60 rfl sk_size ?_) | (refine wpList_store_mid rfl 60 (.tmp 2) (.tmp 43) rfl gR 0 (List.toArray [.int .u8 3, .int .i64 h, .int .u8 0, .int .i64 0, .int .i64 0, .int .i64 (n : Int), .int .i64 0]) rfl rfl ht sk_size (all_oneCell_toArray (by simp [Value.oneCell'])) ?_))
  have HZ := (HX.storeAll 1 rfl (vs := [.int .u8 3, .int .i64 h, .int .u8 0, .int .i64 0, .int .i64 0, .int .i64 (n : Int), .int .i64 0]) rfl).upd_mk (by simp)
  exact bodyPost_ret (results_cell_row rfl _ _ gR 60 _ _ _ rfl (HZ.blk 1 rfl) Tryd.underlying60 rfl sk_size) rfl ⟨rfl, HZ.below⟩

set_option maxRecDepth 100000 in
set_option maxHeartbeats 2000000 in
theorem refOf_4 (h : Int) (a : UInt8) (c o : Int) (A B : Option Addr) (n cA m cB : Nat) (w : World) :
    Calls Tryd.prog 15 #[.agg #[.int .u8 4, .int .i64 h, .int .u8 (a.toNat : Int), .int .i64 c, .int .i64 o, .slice A n cA, .slice B m cB]] w fun e w' => e = .returned (.agg #[.int .u8 4, .int .i64 h, .int .u8 0, .int .i64 0, .int .i64 0, .int .i64 0, .int .i64 0]) ∧ Below w.heap.size w w' := by
  have H0 := St.start_lay w []
  go_enter Tryd.func15, Tryd.ntmps15
  go_wp2_with fail
  refine absorb_calls (H0.allocAt 0 rfl w.heap.size rfl _ _ |>.push_mk rfl |>.allocAt 1 rfl (w.heap.size + 1) (by simp) _ _ |>.push_mk rfl) ?_
  intro w1 H
  generalize w.heap.size + 1 = gR at H ⊢
  generalize hga : w.heap.size = gA at H ⊢
  clear hga H0
  refine (refU_4 w1).mono ?_
  rintro e w2 ⟨rfl, hb2⟩
  replace H := H.call hb2
  clear hb2
  have a0 := H.cell 0 rfl (o := 0) rfl
  have a1 := H.cell 0 rfl (o := 1) rfl
  have lA := H.lt 0 rfl
  have HA := H.allocAt 2 rfl w2.heap.size rfl #[.bool true, .bool false, .bool false, .bool false, .bool false, .bool false] 74 |>.push_mk rfl |>.allocAt 3 rfl (w2.heap.size + 1) (by simp) #[.int .u8 4, .int .i64 h, .int .u8 0, .int .i64 0, .int .i64 0, .int .i64 0, .int .i64 0] 60 |>.push_mk rfl
  have HX := HA
  have hb := HX.blk 3 rfl
  have ht := HX.there 1 rfl
  go_wp2_with (first | (refine wpList_load_row rfl 60 (.tmp 4) rfl (w2.heap.size + 1) rfl _ _ _ _ hb Tryd.underlying60 rfl sk_size ?_) | (refine wpList_store_mid rfl 60 (.tmp 2) (.tmp 43) rfl gR 0 (List.toArray [.int .u8 4, .int .i64 h, .int .u8 0, .int .i64 0, .int .i64 0, .int .i64 0, .int .i64 0]) rfl rfl ht sk_size (all_oneCell_toArray (by simp [Value.oneCell'])) ?_))
  have HZ := (HX.storeAll 1 rfl (vs := [.int .u8 4, .int .i64 h, .int .u8 0, .int .i64 0, .int .i64 0, .int .i64 0, .int .i64 0]) rfl).upd_mk (by simp)
  exact bodyPost_ret (results_cell_row rfl _ _ gR 60 _ _ _ rfl (HZ.blk 1 rfl) Tryd.underlying60 rfl sk_size) rfl ⟨rfl, HZ.below⟩

set_option maxRecDepth 100000 in
set_option maxHeartbeats 2000000 in
theorem refOf_5 (h : Int) (a : UInt8) (c o : Int) (A B : Option Addr) (n cA m cB : Nat) (w : World) :
    Calls Tryd.prog 15 #[.agg #[.int .u8 5, .int .i64 h, .int .u8 (a.toNat : Int), .int .i64 c, .int .i64 o, .slice A n cA, .slice B m cB]] w fun e w' => e = .returned (.agg #[.int .u8 5, .int .i64 h, .int .u8 0, .int .i64 0, .int .i64 0, .int .i64 (n : Int), .int .i64 0]) ∧ Below w.heap.size w w' := by
  have H0 := St.start_lay w []
  go_enter Tryd.func15, Tryd.ntmps15
  go_wp2_with fail
  refine absorb_calls (H0.allocAt 0 rfl w.heap.size rfl _ _ |>.push_mk rfl |>.allocAt 1 rfl (w.heap.size + 1) (by simp) _ _ |>.push_mk rfl) ?_
  intro w1 H
  generalize w.heap.size + 1 = gR at H ⊢
  generalize hga : w.heap.size = gA at H ⊢
  clear hga H0
  refine (refU_5 w1).mono ?_
  rintro e w2 ⟨rfl, hb2⟩
  replace H := H.call hb2
  clear hb2
  have a0 := H.cell 0 rfl (o := 0) rfl
  have a1 := H.cell 0 rfl (o := 1) rfl
  have a5 := H.cell 0 rfl (o := 5) rfl
  have lA := H.lt 0 rfl
  have HA := H.allocAt 2 rfl w2.heap.size rfl #[.bool true, .bool false, .bool false, .bool false, .bool true, .bool false] 74 |>.push_mk rfl |>.allocAt 3 rfl (w2.heap.size + 1) (by simp) #[.int .u8 5, .int .i64 h, .int .u8 0, .int .i64 0, .int .i64 0, .int .i64 (n : Int), .int .i64 0] 60 |>.push_mk rfl
  have HX := HA
  have hb := HX.blk 3 rfl
  have ht := HX.there 1 rfl
  go_wp2_with (first | (refine wpList_load_row rfl 60 (.tmp 4) rfl (w2.heap.size + 1) rfl _ _ _ _ hb Tryd.underlying60 rfl sk_size ?_) | (refine wpList_store_mid rfl 60 (.tmp 2) (.tmp 43) rfl gR 0 (List.toArray [.int .u8 5, .int .i64 h, .int .u8 0, .int .i64 0, .int .i64 0, .int .i64 (n : Int), .int .i64 0]) rfl rfl ht sk_size (all_oneCell_toArray (by simp [Value.oneCell'])) ?_))
  have HZ := (HX.storeAll 1 rfl (vs := [.int .u8 5, .int .i64 h, .int .u8 0, .int .i64 0, .int .i64 0, .int .i64 (n : Int), .int .i64 0]) rfl).upd_mk (by simp)
  exact bodyPost_ret (results_cell_row rfl _ _ gR 60 _ _ _ rfl (HZ.blk 1 rfl) Tryd.underlying60 rfl sk_size) rfl ⟨rfl, HZ.below⟩

set_option maxRecDepth 100000 in
set_option maxHeartbeats 2000000 in
theorem refOf_6 (h : Int) (a : UInt8) (c o : Int) (A B : Option Addr) (n cA m cB : Nat) (w : World) :
    Calls Tryd.prog 15 #[.agg #[.int .u8 6, .int .i64 h, .int .u8 (a.toNat : Int), .int .i64 c, .int .i64 o, .slice A n cA, .slice B m cB]] w fun e w' => e = .returned (.agg #[.int .u8 6, .int .i64 h, .int .u8 0, .int .i64 0, .int .i64 0, .int .i64 0, .int .i64 0]) ∧ Below w.heap.size w w' := by
  have H0 := St.start_lay w []
  go_enter Tryd.func15, Tryd.ntmps15
  go_wp2_with fail
  refine absorb_calls (H0.allocAt 0 rfl w.heap.size rfl _ _ |>.push_mk rfl |>.allocAt 1 rfl (w.heap.size + 1) (by simp) _ _ |>.push_mk rfl) ?_
  intro w1 H
  generalize w.heap.size + 1 = gR at H ⊢
  generalize hga : w.heap.size = gA at H ⊢
  clear hga H0
  refine (refU_6 w1).mono ?_
  rintro e w2 ⟨rfl, hb2⟩
  replace H := H.call hb2
  clear hb2
  have a0 := H.cell 0 rfl (o := 0) rfl
  have a1 := H.cell 0 rfl (o := 1) rfl
  have lA := H.lt 0 rfl
  have HA := H.allocAt 2 rfl w2.heap.size rfl #[.bool true, .bool false, .bool false, .bool false, .bool false, .bool false] 74 |>.push_mk rfl |>.allocAt 3 rfl (w2.heap.size + 1) (by simp) #[.int .u8 6, .int .i64 h, .int .u8 0, .int .i64 0, .int .i64 0, .int .i64 0, .int .i64 0] 60 |>.push_mk rfl
  have HX := HA
  have hb := HX.blk 3 rfl
  have ht := HX.there 1 rfl
  go_wp2_with (first | (refine wpList_load_row rfl 60 (.tmp 4) rfl (w2.heap.size + 1) rfl _ _ _ _ hb Tryd.underlying60 rfl sk_size ?_) | (refine wpList_store_mid rfl 60 (.tmp 2) (.tmp 43) rfl gR 0 (List.toArray [.int .u8 6, .int .i64 h, .int .u8 0, .int .i64 0, .int .i64 0, .int .i64 0, .int .i64 0]) rfl rfl ht sk_size (all_oneCell_toArray (by simp [Value.oneCell'])) ?_))
  have HZ := (HX.storeAll 1 rfl (vs := [.int .u8 6, .int .i64 h, .int .u8 0, .int .i64 0, .int .i64 0, .int .i64 0, .int .i64 0]) rfl).upd_mk (by simp)
  exact bodyPost_ret (results_cell_row rfl _ _ gR 60 _ _ _ rfl (HZ.blk 1 rfl) Tryd.underlying60 rfl sk_size) rfl ⟨rfl, HZ.below⟩

set_option maxRecDepth 100000 in
set_option maxHeartbeats 2000000 in
theorem refOf_7 (h : Int) (a : UInt8) (c o : Int) (A B : Option Addr) (n cA m cB : Nat) (w : World) :
    Calls Tryd.prog 15 #[.agg #[.int .u8 7, .int .i64 h, .int .u8 (a.toNat : Int), .int .i64 c, .int .i64 o, .slice A n cA, .slice B m cB]] w fun e w' => e = .returned (.agg #[.int .u8 7, .int .i64 h, .int .u8 (a.toNat : Int), .int .i64 0, .int .i64 o, .int .i64 (n : Int), .int .i64 (m : Int)]) ∧ Below w.heap.size w w' := by
  have H0 := St.start_lay w []
  go_enter Tryd.func15, Tryd.ntmps15
  go_wp2_with fail
  refine absorb_calls (H0.allocAt 0 rfl w.heap.size rfl _ _ |>.push_mk rfl |>.allocAt 1 rfl (w.heap.size + 1) (by simp) _ _ |>.push_mk rfl) ?_
  intro w1 H
  generalize w.heap.size + 1 = gR at H ⊢
  generalize hga : w.heap.size = gA at H ⊢
  clear hga H0
  refine (refU_7 w1).mono ?_
  rintro e w2 ⟨rfl, hb2⟩
  replace H := H.call hb2
  clear hb2
  have a0 := H.cell 0 rfl (o := 0) rfl
  have a1 := H.cell 0 rfl (o := 1) rfl
  have a2 := H.cell 0 rfl (o := 2) rfl
  have a4 := H.cell 0 rfl (o := 4) rfl
  have a5 := H.cell 0 rfl (o := 5) rfl
  have a6 := H.cell 0 rfl (o := 6) rfl
  have lA := H.lt 0 rfl
  have HA := H.allocAt 2 rfl w2.heap.size rfl #[.bool true, .bool true, .bool false, .bool true, .bool true, .bool true] 74 |>.push_mk rfl |>.allocAt 3 rfl (w2.heap.size + 1) (by simp) #[.int .u8 7, .int .i64 h, .int .u8 (a.toNat : Int), .int .i64 0, .int .i64 o, .int .i64 (n : Int), .int .i64 (m : Int)] 60 |>.push_mk rfl
  have HX := HA
  have hb := HX.blk 3 rfl
  have ht := HX.there 1 rfl
  go_wp2_with (first | (refine wpList_load_row rfl 60 (.tmp 4) rfl (w2.heap.size + 1) rfl _ _ _ _ hb Tryd.underlying60 rfl sk_size ?_) | (refine wpList_store_mid rfl 60 (.tmp 2) (.tmp 43) rfl gR 0 (List.toArray [.int .u8 7, .int .i64 h, .int .u8 (a.toNat : Int), .int .i64 0, .int .i64 o, .int .i64 (n : Int), .int .i64 (m : Int)]) rfl rfl ht sk_size (all_oneCell_toArray (by simp [Value.oneCell'])) ?_))
  have HZ := (HX.storeAll 1 rfl (vs := [.int .u8 7, .int .i64 h, .int .u8 (a.toNat : Int), .int .i64 0, .int .i64 o, .int .i64 (n : Int), .int .i64 (m : Int)]) rfl).upd_mk (by simp)
  exact bodyPost_ret (results_cell_row rfl _ _ gR 60 _ _ _ rfl (HZ.blk 1 rfl) Tryd.underlying60 rfl sk_size) rfl ⟨rfl, HZ.below⟩

set_option maxRecDepth 100000 in
set_option maxHeartbeats 2000000 in
theorem refOf_8 (h : Int) (a : UInt8) (c o : Int) (A B : Option Addr) (n cA m cB : Nat) (w : World) :
    Calls Tryd.prog 15 #[.agg #[.int .u8 8, .int .i64 h, .int .u8 (a.toNat : Int), .int .i64 c, .int .i64 o, .slice A n cA, .slice B m cB]] w fun e w' => e = .returned (.agg #[.int .u8 8, .int .i64 h, .int .u8 (a.toNat : Int), .int .i64 c, .int .i64 o, .int .i64 (n : Int), .int .i64 0]) ∧ Below w.heap.size w w' := by
  have H0 := St.start_lay w []
  go_enter Tryd.func15, Tryd.ntmps15
  go_wp2_with fail
  refine absorb_calls (H0.allocAt 0 rfl w.heap.size rfl _ _ |>.push_mk rfl |>.allocAt 1 rfl (w.heap.size + 1) (by simp) _ _ |>.push_mk rfl) ?_
  intro w1 H
  generalize w.heap.size + 1 = gR at H ⊢
  generalize hga : w.heap.size = gA at H ⊢
  clear hga H0
  refine (refU_8 w1).mono ?_
  rintro e w2 ⟨rfl, hb2⟩
  replace H := H.call hb2
  clear hb2
  have a0 := H.cell 0 rfl (o := 0) rfl
  have a1 := H.cell 0 rfl (o := 1) rfl
  have a2 := H.cell 0 rfl (o := 2) rfl
  have a3 := H.cell 0 rfl (o := 3) rfl
  have a4 := H.cell 0 rfl (o := 4) rfl
  have a5 := H.cell 0 rfl (o := 5) rfl
  have lA := H.lt 0 rfl
  have HA := H.allocAt 2 rfl w2.heap.size rfl #[.bool true, .bool true, .bool true, .bool true, .bool true, .bool false] 74 |>.push_mk rfl |>.allocAt 3 rfl (w2.heap.size + 1) (by simp) #[.int .u8 8, .int .i64 h, .int .u8 (a.toNat : Int), .int .i64 c, .int .i64 o, .int .i64 (n : Int), .int .i64 0] 60 |>.push_mk rfl
  have HX := HA
  have hb := HX.blk 3 rfl
  have ht := HX.there 1 rfl
  go_wp2_with (first | (refine wpList_load_row rfl 60 (.tmp 4) rfl (w2.heap.size + 1) rfl _ _ _ _ hb Tryd.underlying60 rfl sk_size ?_) | (refine wpList_store_mid rfl 60 (.tmp 2) (.tmp 43) rfl gR 0 (List.toArray [.int .u8 8, .int .i64 h, .int .u8 (a.toNat : Int), .int .i64 c, .int .i64 o, .int .i64 (n : Int), .int .i64 0]) rfl rfl ht sk_size (all_oneCell_toArray (by simp [Value.oneCell'])) ?_))
  have HZ := (HX.storeAll 1 rfl (vs := [.int .u8 8, .int .i64 h, .int .u8 (a.toNat : Int), .int .i64 c, .int .i64 o, .int .i64 (n : Int), .int .i64 0]) rfl).upd_mk (by simp)
  exact bodyPost_ret (results_cell_row rfl _ _ gR 60 _ _ _ rfl (HZ.blk 1 rfl) Tryd.underlying60 rfl sk_size) rfl ⟨rfl, HZ.below⟩

set_option maxRecDepth 100000 in
set_option maxHeartbeats 2000000 in
theorem refOf_9 (h : Int) (a : UInt8) (c o : Int) (A B : Option Addr) (n cA m cB : Nat) (w : World) :
    Calls Tryd.prog 15 #[.agg #[.int .u8 9, .int .i64 h, .int .u8 (a.toNat : Int), .int .i64 c, .int .i64 o, .slice A n cA, .slice B m cB]] w fun e w' => e = .returned (.agg #[.int .u8 9, .int .i64 h, .int .u8 0, .int .i64 0, .int .i64 0, .int .i64 0, .int .i64 0]) ∧ Below w.heap.size w w' := by
  have H0 := St.start_lay w []
  go_enter Tryd.func15, Tryd.ntmps15
  go_wp2_with fail
  refine absorb_calls (H0.allocAt 0 rfl w.heap.size rfl _ _ |>.push_mk rfl |>.allocAt 1 rfl (w.heap.size + 1) (by simp) _ _ |>.push_mk rfl) ?_
  intro w1 H
  generalize w.heap.size + 1 = gR at H ⊢
  generalize hga : w.heap.size = gA at H ⊢
  clear hga H0
  refine (refU_9 w1).mono ?_
  rintro e w2 ⟨rfl, hb2⟩
  replace H := H.call hb2
  clear hb2
  have a0 := H.cell 0 rfl (o := 0) rfl
  have a1 := H.cell 0 rfl (o := 1) rfl
  have lA := H.lt 0 rfl
  have HA := H.allocAt 2 rfl w2.heap.size rfl #[.bool true, .bool false, .bool false, .bool false, .bool false, .bool false] 74 |>.push_mk rfl |>.allocAt 3 rfl (w2.heap.size + 1) (by simp) #[.int .u8 9, .int .i64 h, .int .u8 0, .int .i64 0, .int .i64 0, .int .i64 0, .int .i64 0] 60 |>.push_mk rfl
  have HX := HA
  have hb := HX.blk 3 rfl
  have ht := HX.there 1 rfl
  go_wp2_with (first | (refine wpList_load_row rfl 60 (.tmp 4) rfl (w2.heap.size + 1) rfl _ _ _ _ hb Tryd.underlying60 rfl sk_size ?_) | (refine wpList_store_mid rfl 60 (.tmp 2) (.tmp 43) rfl gR 0 (List.toArray [.int .u8 9, .int .i64 h, .int .u8 0, .int .i64 0, .int .i64 0, .int .i64 0, .int .i64 0]) rfl rfl ht sk_size (all_oneCell_toArray (by simp [Value.oneCell'])) ?_))
  have HZ := (HX.storeAll 1 rfl (vs := [.int .u8 9, .int .i64 h, .int .u8 0, .int .i64 0, .int .i64 0, .int .i64 0, .int .i64 0]) rfl).upd_mk (by simp)
  exact bodyPost_ret (results_cell_row rfl _ _ gR 60 _ _ _ rfl (HZ.blk 1 rfl) Tryd.underlying60 rfl sk_size) rfl ⟨rfl, HZ.below⟩

set_option maxRecDepth 100000 in
set_option maxHeartbeats 2000000 in
theorem refOf_10 (h : Int) (a : UInt8) (c o : Int) (A B : Option Addr) (n cA m cB : Nat) (w : World) :
    Calls Tryd.prog 15 #[.agg #[.int .u8 10, .int .i64 h, .int .u8 (a.toNat : Int), .int .i64 c, .int .i64 o, .slice A n cA, .slice B m cB]] w fun e w' => e = .returned (.agg #[.int .u8 10, .int .i64 h, .int .u8 0, .int .i64 0, .int .i64 0, .int .i64 0, .int .i64 0]) ∧ Below w.heap.size w w' := by
  have H0 := St.start_lay w []
  go_enter Tryd.func15, Tryd.ntmps15
  go_wp2_with fail
  refine absorb_calls (H0.allocAt 0 rfl w.heap.size rfl _ _ |>.push_mk rfl |>.allocAt 1 rfl (w.heap.size + 1) (by simp) _ _ |>.push_mk rfl) ?_
  intro w1 H
  generalize w.heap.size + 1 = gR at H ⊢
  generalize hga : w.heap.size = gA at H ⊢
  clear hga H0
  refine (refU_10 w1).mono ?_
  rintro e w2 ⟨rfl, hb2⟩
  replace H := H.call hb2
  clear hb2
  have a0 := H.cell 0 rfl (o := 0) rfl
  have a1 := H.cell 0 rfl (o := 1) rfl
  have lA := H.lt 0 rfl
  have HA := H.allocAt 2 rfl w2.heap.size rfl #[.bool true, .bool false, .bool false, .bool false, .bool false, .bool false] 74 |>.push_mk rfl |>.allocAt 3 rfl (w2.heap.size + 1) (by simp) #[.int .u8 10, .int .i64 h, .int .u8 0, .int .i64 0, .int .i64 0, .int .i64 0, .int .i64 0] 60 |>.push_mk rfl
  have HX := HA
  have hb := HX.blk 3 rfl
  have ht := HX.there 1 rfl
  go_wp2_with (first | (refine wpList_load_row rfl 60 (.tmp 4) rfl (w2.heap.size + 1) rfl _ _ _ _ hb Tryd.underlying60 rfl sk_size ?_) | (refine wpList_store_mid rfl 60 (.tmp 2) (.tmp 43) rfl gR 0 (List.toArray [.int .u8 10, .int .i64 h, .int .u8 0, .int .i64 0, .int .i64 0, .int .i64 0, .int .i64 0]) rfl rfl ht sk_size (all_oneCell_toArray (by simp [Value.oneCell'])) ?_))
  have HZ := (HX.storeAll 1 rfl (vs := [.int .u8 10, .int .i64 h, .int .u8 0, .int .i64 0, .int .i64 0, .int .i64 0, .int .i64 0]) rfl).upd_mk (by simp)
  exact bodyPost_ret (results_cell_row rfl _ _ gR 60 _ _ _ rfl (HZ.blk 1 rfl) Tryd.underlying60 rfl sk_size) rfl ⟨rfl, HZ.below⟩

set_option maxRecDepth 100000 in
set_option maxHeartbeats 2000000 in
theorem refOf_no (k : UInt8) (h : Int) (a : UInt8) (c o : Int) (A B : Option Addr) (n cA m cB : Nat) (w : World) (h1 : k ≠ 1) (h2 : k ≠ 2) (h3 : k ≠ 3) (h4 : k ≠ 4) (h5 : k ≠ 5) (h6 : k ≠ 6) (h7 : k ≠ 7) (h8 : k ≠ 8) (h9 : k ≠ 9) (h10 : k ≠ 10) :
    Calls Tryd.prog 15 #[.agg #[.int .u8 (k.toNat : Int), .int .i64 h, .int .u8 (a.toNat : Int), .int .i64 c, .int .i64 o, .slice A n cA, .slice B m cB]] w fun e w' => e = .returned (.agg #[.int .u8 (k.toNat : Int), .int .i64 0, .int .u8 0, .int .i64 0, .int .i64 0, .int .i64 0, .int .i64 0]) ∧ Below w.heap.size w w' := by
  have H0 := St.start_lay w []
  go_enter Tryd.func15, Tryd.ntmps15
  go_wp2_with fail
  refine absorb_calls (H0.allocAt 0 rfl w.heap.size rfl _ _ |>.push_mk rfl |>.allocAt 1 rfl (w.heap.size + 1) (by simp) _ _ |>.push_mk rfl) ?_
  intro w1 H
  generalize w.heap.size + 1 = gR at H ⊢
  generalize hga : w.heap.size = gA at H ⊢
  clear hga H0
  refine (refU_no k w1 h1 h2 h3 h4 h5 h6 h7 h8 h9 h10).mono ?_
  rintro e w2 ⟨rfl, hb2⟩
  replace H := H.call hb2
  clear hb2 h1 h2 h3 h4 h5 h6 h7 h8 h9 h10
  have a0 := H.cell 0 rfl (o := 0) rfl
  have lA := H.lt 0 rfl
  have HA := H.allocAt 2 rfl w2.heap.size rfl #[.bool false, .bool false, .bool false, .bool false, .bool false, .bool false] 74 |>.push_mk rfl |>.allocAt 3 rfl (w2.heap.size + 1) (by simp) #[.int .u8 (k.toNat : Int), .int .i64 0, .int .u8 0, .int .i64 0, .int .i64 0, .int .i64 0, .int .i64 0] 60 |>.push_mk rfl
  have HX := HA
  have hb := HX.blk 3 rfl
  have ht := HX.there 1 rfl
  go_wp2_with (first | (refine wpList_load_row rfl 60 (.tmp 4) rfl (w2.heap.size + 1) rfl _ _ _ _ hb Tryd.underlying60 rfl sk_size ?_) | (refine wpList_store_mid rfl 60 (.tmp 2) (.tmp 43) rfl gR 0 (List.toArray [.int .u8 (k.toNat : Int), .int .i64 0, .int .u8 0, .int .i64 0, .int .i64 0, .int .i64 0, .int .i64 0]) rfl rfl ht sk_size (all_oneCell_toArray (by simp [Value.oneCell'])) ?_))
  have HZ := (HX.storeAll 1 rfl (vs := [.int .u8 (k.toNat : Int), .int .i64 0, .int .u8 0, .int .i64 0, .int .i64 0, .int .i64 0, .int .i64 0]) rfl).upd_mk (by simp)
  exact bodyPost_ret (results_cell_row rfl _ _ gR 60 _ _ _ rfl (HZ.blk 1 rfl) Tryd.underlying60 rfl sk_size) rfl ⟨rfl, HZ.below⟩

theorem refOf_s (k : UInt8) (h : Int) (a : UInt8) (c o : Int) (A B : Option Addr) (n cA m cB : Nat) (w : World) :
    Calls Tryd.prog 15 #[opV k h a c o (.slice A n cA) (.slice B m cB)] w fun e w' => e = .returned (.agg (skV ((k.toNat : Int), qI 1 k h, qI 2 k (a.toNat : Int), qI 3 k c, qI 4 k o, qI 5 k n, qI 6 k m)).toArray) ∧ Below w.heap.size w w' := by
  by_cases h1 : k = 1
  · subst h1; exact refOf_1 h a c o A B n cA m cB w
  by_cases h2 : k = 2
  · subst h2; exact refOf_2 h a c o A B n cA m cB w
  by_cases h3 : k = 3
  · subst h3; exact refOf_3 h a c o A B n cA m cB w
  by_cases h4 : k = 4
  · subst h4; exact refOf_4 h a c o A B n cA m cB w
  by_cases h5 : k = 5
  · subst h5; exact refOf_5 h a c o A B n cA m cB w
  by_cases h6 : k = 6
  · subst h6; exact refOf_6 h a c o A B n cA m cB w
  by_cases h7 : k = 7
  · subst h7; exact refOf_7 h a c o A B n cA m cB w
  by_cases h8 : k = 8
  · subst h8; exact refOf_8 h a c o A B n cA m cB w
  by_cases h9 : k = 9
  · subst h9; exact refOf_9 h a c o A B n cA m cB w
  by_cases h10 : k = 10
  · subst h10; exact refOf_10 h a c o A B n cA m cB w
  unfold qI
  rw [sku_no h1 h2 h3 h4 h5 h6 h7 h8 h9 h10]
  exact refOf_no k h a c o A B n cA m cB w h1 h2 h3 h4 h5 h6 h7 h8 h9 h10

/-- an operation's skeleton -/
def skOf (s : OpR) : SkT := ((s.k.toNat : Int), qI 1 s.k s.h, qI 2 s.k (s.a.toNat : Int), qI 3 s.k s.c, qI 4 s.k s.o, qI 5 s.k s.n, qI 6 s.k s.m)

theorem op_cells7 {w : World} {A : Option Addr} {n k : Nat} {l : List OpR} {x : OpR} (h : Rd w 7 A n (opsV l)) (hx : l[k]? = some x) : ∃ p o, A = some ⟨p, o, none⟩ ∧ w.cell? ⟨p, o + k * 7, none⟩ = some (.int .u8 (x.k.toNat : Int)) ∧
    w.cell? ⟨p, o + k * 7 + 1, none⟩ = some (.int .i64 x.h) ∧ w.cell? ⟨p, o + k * 7 + 2, none⟩ = some (.int .u8 (x.a.toNat : Int)) ∧ w.cell? ⟨p, o + k * 7 + 3, none⟩ = some (.int .i64 x.c) ∧
    w.cell? ⟨p, o + k * 7 + 4, none⟩ = some (.int .i64 x.o) ∧ w.cell? ⟨p, o + k * 7 + 5, none⟩ = some (.slice x.A x.n x.cA) ∧ w.cell? ⟨p, o + k * 7 + 6, none⟩ = some (.slice x.B x.m x.cB) ∧ p < w.heap.size := by
  obtain ⟨p, o, rfl, hr⟩ := op_cells h hx
  have h0 := hr 0 _ rfl
  refine ⟨p, o, rfl, h0, hr 1 _ rfl, hr 2 _ rfl, hr 3 _ rfl, hr 4 _ rfl, hr 5 _ rfl, hr 6 _ rfl, ?_⟩
  exact World.block_lt_of_cell? w _ h0

theorem refOf_h (x : OpR) (w : World) :
    Calls Tryd.prog 15 #[opV x.k x.h x.a x.c x.o (.slice x.A x.n x.cA) (.slice x.B x.m x.cB)] w fun e w' => ∃ x1 x2 x3 x4 x5 x6 x7, Hid ((x1, x2, x3, x4, x5, x6, x7) = skOf x) ∧ e = .returned (.agg #[.int .u8 x1, .int .i64 x2, .int .u8 x3, .int .i64 x4, .int .i64 x5, .int .i64 x6, .int .i64 x7]) ∧ Below w.heap.size w w' :=
  (refOf_s x.k x.h x.a x.c x.o x.A x.B x.n x.cA x.m x.cB w).mono fun _ _ h => ⟨_, _, _, _, _, _, _, rfl, h.1, h.2⟩

theorem uses_sku (k : UInt8) (i : Nat) : (i ∈ usesOf k) ↔ (i + 1 ∈ sku k) := by
  unfold usesOf sku
  repeat' split
  all_goals (simp only [List.mem_cons, List.not_mem_nil, or_false]; try omega)

end Go.Proofs.YtenmlkgamlafpaaDoor
