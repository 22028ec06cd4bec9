/- The document's Of; All, in skel and in the document (layer 21). -/
import Derived.Test.YtgfhnbjpdhdhgaaSkOf
import Derived.Test.YtgfhnbjpdhdhgaaRowOs
import Derived.Test.YtgfhnbjpdhdhgaaSkPubA
namespace Go.Proofs.Ytgfhnbjpdhdhgaa
open Go.RowKit
set_option linter.unusedVariables false

set_option maxRecDepth 100000 in
set_option maxHeartbeats 2000000 in
theorem refOf_1 (h : Int) (a : UInt8) (c o : Int) (A B : Option Addr) (n cA m cB : Nat) (w : World) :
    Calls Try.prog 33 #[.agg #[.int .u8 1, .int .i64 h, .int .u8 (a.toNat : Int), .int .i64 c, .int .i64 o, .slice A n cA, .slice B m cB]] w fun e w' => e = .returned (.agg #[.int .u8 1, .int .i64 0, .int .u8 0, .int .i64 0, .int .i64 0, .int .i64 (n : Int), .int .i64 0]) ∧ Below w.heap.size w w' := by
  have H0 := St.start_lay w []
  go_enter Try.func33, Try.ntmps33
  go_wp2_with fail
  refine absorb_calls (H0.allocAt 0 rfl w.heap.size rfl _ _ |>.push_mk rfl |>.allocAt 1 rfl (w.heap.size + 1) (by simp) _ _ |>.push_mk rfl) ?_
  intro w1 H
  generalize w.heap.size + 1 = gR at H ⊢
  generalize hga : w.heap.size = gA at H ⊢
  clear hga H0
  refine (refU_1 w1).mono ?_
  rintro e w2 ⟨rfl, hb2⟩
  replace H := H.call hb2
  clear hb2
  have a0 := H.cell 0 rfl (o := 0) rfl
  have a5 := H.cell 0 rfl (o := 5) rfl
  have lA := H.lt 0 rfl
  have HA := H.allocAt 2 rfl w2.heap.size rfl #[.bool false, .bool false, .bool false, .bool false, .bool true, .bool false] 81 |>.push_mk rfl |>.allocAt 3 rfl (w2.heap.size + 1) (by simp) #[.int .u8 1, .int .i64 0, .int .u8 0, .int .i64 0, .int .i64 0, .int .i64 (n : Int), .int .i64 0] 51 |>.push_mk rfl
  have HX := HA
  have hb := HX.blk 3 rfl
  have ht := HX.there 1 rfl
  go_wp2_with (first | (refine wpList_load_row rfl 51 (.tmp 4) rfl (w2.heap.size + 1) rfl _ _ _ _ hb Try.underlying51 rfl sk_size ?_) | (refine wpList_store_mid rfl 51 (.tmp 2) (.tmp 43) rfl gR 0 (List.toArray [.int .u8 1, .int .i64 0, .int .u8 0, .int .i64 0, .int .i64 0, .int .i64 (n : Int), .int .i64 0]) rfl rfl ht sk_size (all_oneCell_toArray (by simp [Value.oneCell'])) ?_))
  have HZ := (HX.storeAll 1 rfl (vs := [.int .u8 1, .int .i64 0, .int .u8 0, .int .i64 0, .int .i64 0, .int .i64 (n : Int), .int .i64 0]) rfl).upd_mk (by simp)
  exact bodyPost_ret (results_cell_row rfl _ _ gR 51 _ _ _ rfl (HZ.blk 1 rfl) Try.underlying51 rfl sk_size) rfl ⟨rfl, HZ.below⟩

set_option maxRecDepth 100000 in
set_option maxHeartbeats 2000000 in
theorem refOf_2 (h : Int) (a : UInt8) (c o : Int) (A B : Option Addr) (n cA m cB : Nat) (w : World) :
    Calls Try.prog 33 #[.agg #[.int .u8 2, .int .i64 h, .int .u8 (a.toNat : Int), .int .i64 c, .int .i64 o, .slice A n cA, .slice B m cB]] w fun e w' => e = .returned (.agg #[.int .u8 2, .int .i64 h, .int .u8 (a.toNat : Int), .int .i64 0, .int .i64 o, .int .i64 (n : Int), .int .i64 0]) ∧ Below w.heap.size w w' := by
  have H0 := St.start_lay w []
  go_enter Try.func33, Try.ntmps33
  go_wp2_with fail
  refine absorb_calls (H0.allocAt 0 rfl w.heap.size rfl _ _ |>.push_mk rfl |>.allocAt 1 rfl (w.heap.size + 1) (by simp) _ _ |>.push_mk rfl) ?_
  intro w1 H
  generalize w.heap.size + 1 = gR at H ⊢
  generalize hga : w.heap.size = gA at H ⊢
  clear hga H0
  refine (refU_2 w1).mono ?_
  rintro e w2 ⟨rfl, hb2⟩
  replace H := H.call hb2
  clear hb2
  have a0 := H.cell 0 rfl (o := 0) rfl
  have a1 := H.cell 0 rfl (o := 1) rfl
  have a2 := H.cell 0 rfl (o := 2) rfl
  have a4 := H.cell 0 rfl (o := 4) rfl
  have a5 := H.cell 0 rfl (o := 5) rfl
  have lA := H.lt 0 rfl
  have HA := H.allocAt 2 rfl w2.heap.size rfl #[.bool true, .bool true, .bool false, .bool true, .bool true, .bool false] 81 |>.push_mk rfl |>.allocAt 3 rfl (w2.heap.size + 1) (by simp) #[.int .u8 2, .int .i64 h, .int .u8 (a.toNat : Int), .int .i64 0, .int .i64 o, .int .i64 (n : Int), .int .i64 0] 51 |>.push_mk rfl
  have HX := HA
  have hb := HX.blk 3 rfl
  have ht := HX.there 1 rfl
  go_wp2_with (first | (refine wpList_load_row rfl 51 (.tmp 4) rfl (w2.heap.size + 1) rfl _ _ _ _ hb Try.underlying51 rfl sk_size ?_) | (refine wpList_store_mid rfl 51 (.tmp 2) (.tmp 43) rfl gR 0 (List.toArray [.int .u8 2, .int .i64 h, .int .u8 (a.toNat : Int), .int .i64 0, .int .i64 o, .int .i64 (n : Int), .int .i64 0]) rfl rfl ht sk_size (all_oneCell_toArray (by simp [Value.oneCell'])) ?_))
  have HZ := (HX.storeAll 1 rfl (vs := [.int .u8 2, .int .i64 h, .int .u8 (a.toNat : Int), .int .i64 0, .int .i64 o, .int .i64 (n : Int), .int .i64 0]) rfl).upd_mk (by simp)
  exact bodyPost_ret (results_cell_row rfl _ _ gR 51 _ _ _ rfl (HZ.blk 1 rfl) Try.underlying51 rfl sk_size) rfl ⟨rfl, HZ.below⟩

set_option maxRecDepth 100000 in
set_option maxHeartbeats 2000000 in
theorem refOf_3 (h : Int) (a : UInt8) (c o : Int) (A B : Option Addr) (n cA m cB : Nat) (w : World) :
    Calls Try.prog 33 #[.agg #[.int .u8 3, .int .i64 h, .int .u8 (a.toNat : Int), .int .i64 c, .int .i64 o, .slice A n cA, .slice B m cB]] w fun e w' => e = .returned (.agg #[.int .u8 3, .int .i64 h, .int .u8 0, .int .i64 0, .int .i64 0, .int .i64 (n : Int), .int .i64 0]) ∧ Below w.heap.size w w' := by
  have H0 := St.start_lay w []
  go_enter Try.func33, Try.ntmps33
  go_wp2_with fail
  refine absorb_calls (H0.allocAt 0 rfl w.heap.size rfl _ _ |>.push_mk rfl |>.allocAt 1 rfl (w.heap.size + 1) (by simp) _ _ |>.push_mk rfl) ?_
  intro w1 H
  generalize w.heap.size + 1 = gR at H ⊢
  generalize hga : w.heap.size = gA at H ⊢
  clear hga H0
  refine (refU_3 w1).mono ?_
  rintro e w2 ⟨rfl, hb2⟩
  replace H := H.call hb2
  clear hb2
  have a0 := H.cell 0 rfl (o := 0) rfl
  have a1 := H.cell 0 rfl (o := 1) rfl
  have a5 := H.cell 0 rfl (o := 5) rfl
  have lA := H.lt 0 rfl
  have HA := H.allocAt 2 rfl w2.heap.size rfl #[.bool true, .bool false, .bool false, .bool false, .bool true, .bool false] 81 |>.push_mk rfl |>.allocAt 3 rfl (w2.heap.size + 1) (by simp) #[.int .u8 3, .int .i64 h, .int .u8 0, .int .i64 0, .int .i64 0, .int .i64 (n : Int), .int .i64 0] 51 |>.push_mk rfl
  have HX := HA
  have hb := HX.blk 3 rfl
  have ht := HX.there 1 rfl
  go_wp2_with (first | (refine wpList_load_row rfl 51 (.tmp 4) rfl (w2.heap.size + 1) rfl _ _ _ _ hb Try.underlying51 rfl sk_size ?_) | (refine wpList_store_mid rfl 51 (.tmp 2) (.tmp 43) rfl gR 0 (List.toArray [.int .u8 3, .int .i64 h, .int .u8 0, .int .i64 0, .int .i64 0, .int .i64 (n : Int), .int .i64 0]) rfl rfl ht sk_size (all_oneCell_toArray (by simp [Value.oneCell'])) ?_))
  have HZ := (HX.storeAll 1 rfl (vs := [.int .u8 3, .int .i64 h, .int .u8 0, .int .i64 0, .int .i64 0, .int .i64 (n : Int), .int .i64 0]) rfl).upd_mk (by simp)
  exact bodyPost_ret (results_cell_row rfl _ _ gR 51 _ _ _ rfl (HZ.blk 1 rfl) Try.underlying51 rfl sk_size) rfl ⟨rfl, HZ.below⟩

set_option maxRecDepth 100000 in
set_option maxHeartbeats 2000000 in
theorem refOf_4 (h : Int) (a : UInt8) (c o : Int) (A B : Option Addr) (n cA m cB : Nat) (w : World) :
    Calls Try.prog 33 #[.agg #[.int .u8 4, .int .i64 h, .int .u8 (a.toNat : Int), .int .i64 c, .int .i64 o, .slice A n cA, .slice B m cB]] w fun e w' => e = .returned (.agg #[.int .u8 4, .int .i64 h, .int .u8 0, .int .i64 0, .int .i64 0, .int .i64 0, .int .i64 0]) ∧ Below w.heap.size w w' := by
  have H0 := St.start_lay w []
  go_enter Try.func33, Try.ntmps33
  go_wp2_with fail
  refine absorb_calls (H0.allocAt 0 rfl w.heap.size rfl _ _ |>.push_mk rfl |>.allocAt 1 rfl (w.heap.size + 1) (by simp) _ _ |>.push_mk rfl) ?_
  intro w1 H
  generalize w.heap.size + 1 = gR at H ⊢
  generalize hga : w.heap.size = gA at H ⊢
  clear hga H0
  refine (refU_4 w1).mono ?_
  rintro e w2 ⟨rfl, hb2⟩
  replace H := H.call hb2
  clear hb2
  have a0 := H.cell 0 rfl (o := 0) rfl
  have a1 := H.cell 0 rfl (o := 1) rfl
  have lA := H.lt 0 rfl
  have HA := H.allocAt 2 rfl w2.heap.size rfl #[.bool true, .bool false, .bool false, .bool false, .bool false, .bool false] 81 |>.push_mk rfl |>.allocAt 3 rfl (w2.heap.size + 1) (by simp) #[.int .u8 4, .int .i64 h, .int .u8 0, .int .i64 0, .int .i64 0, .int .i64 0, .int .i64 0] 51 |>.push_mk rfl
  have HX := HA
  have hb := HX.blk 3 rfl
  have ht := HX.there 1 rfl
  go_wp2_with (first | (refine wpList_load_row rfl 51 (.tmp 4) rfl (w2.heap.size + 1) rfl _ _ _ _ hb Try.underlying51 rfl sk_size ?_) | (refine wpList_store_mid rfl 51 (.tmp 2) (.tmp 43) rfl gR 0 (List.toArray [.int .u8 4, .int .i64 h, .int .u8 0, .int .i64 0, .int .i64 0, .int .i64 0, .int .i64 0]) rfl rfl ht sk_size (all_oneCell_toArray (by simp [Value.oneCell'])) ?_))
  have HZ := (HX.storeAll 1 rfl (vs := [.int .u8 4, .int .i64 h, .int .u8 0, .int .i64 0, .int .i64 0, .int .i64 0, .int .i64 0]) rfl).upd_mk (by simp)
  exact bodyPost_ret (results_cell_row rfl _ _ gR 51 _ _ _ rfl (HZ.blk 1 rfl) Try.underlying51 rfl sk_size) rfl ⟨rfl, HZ.below⟩

set_option maxRecDepth 100000 in
set_option maxHeartbeats 2000000 in
theorem refOf_5 (h : Int) (a : UInt8) (c o : Int) (A B : Option Addr) (n cA m cB : Nat) (w : World) :
    Calls Try.prog 33 #[.agg #[.int .u8 5, .int .i64 h, .int .u8 (a.toNat : Int), .int .i64 c, .int .i64 o, .slice A n cA, .slice B m cB]] w fun e w' => e = .returned (.agg #[.int .u8 5, .int .i64 h, .int .u8 0, .int .i64 0, .int .i64 0, .int .i64 (n : Int), .int .i64 0]) ∧ Below w.heap.size w w' := by
  have H0 := St.start_lay w []
  go_enter Try.func33, Try.ntmps33
  go_wp2_with fail
  refine absorb_calls (H0.allocAt 0 rfl w.heap.size rfl _ _ |>.push_mk rfl |>.allocAt 1 rfl (w.heap.size + 1) (by simp) _ _ |>.push_mk rfl) ?_
  intro w1 H
  generalize w.heap.size + 1 = gR at H ⊢
  generalize hga : w.heap.size = gA at H ⊢
  clear hga H0
  refine (refU_5 w1).mono ?_
  rintro e w2 ⟨rfl, hb2⟩
  replace H := H.call hb2
  clear hb2
  have a0 := H.cell 0 rfl (o := 0) rfl
  have a1 := H.cell 0 rfl (o := 1) rfl
  have a5 := H.cell 0 rfl (o := 5) rfl
  have lA := H.lt 0 rfl
  have HA := H.allocAt 2 rfl w2.heap.size rfl #[.bool true, .bool false, .bool false, .bool false, .bool true, .bool false] 81 |>.push_mk rfl |>.allocAt 3 rfl (w2.heap.size + 1) (by simp) #[.int .u8 5, .int .i64 h, .int .u8 0, .int .i64 0, .int .i64 0, .int .i64 (n : Int), .int .i64 0] 51 |>.push_mk rfl
  have HX := HA
  have hb := HX.blk 3 rfl
  have ht := HX.there 1 rfl
  go_wp2_with (first | (refine wpList_load_row rfl 51 (.tmp 4) rfl (w2.heap.size + 1) rfl _ _ _ _ hb Try.underlying51 rfl sk_size ?_) | (refine wpList_store_mid rfl 51 (.tmp 2) (.tmp 43) rfl gR 0 (List.toArray [.int .u8 5, .int .i64 h, .int .u8 0, .int .i64 0, .int .i64 0, .int .i64 (n : Int), .int .i64 0]) rfl rfl ht sk_size (all_oneCell_toArray (by simp [Value.oneCell'])) ?_))
  have HZ := (HX.storeAll 1 rfl (vs := [.int .u8 5, .int .i64 h, .int .u8 0, .int .i64 0, .int .i64 0, .int .i64 (n : Int), .int .i64 0]) rfl).upd_mk (by simp)
  exact bodyPost_ret (results_cell_row rfl _ _ gR 51 _ _ _ rfl (HZ.blk 1 rfl) Try.underlying51 rfl sk_size) rfl ⟨rfl, HZ.below⟩

set_option maxRecDepth 100000 in
set_option maxHeartbeats 2000000 in
theorem refOf_6 (h : Int) (a : UInt8) (c o : Int) (A B : Option Addr) (n cA m cB : Nat) (w : World) :
    Calls Try.prog 33 #[.agg #[.int .u8 6, .int .i64 h, .int .u8 (a.toNat : Int), .int .i64 c, .int .i64 o, .slice A n cA, .slice B m cB]] w fun e w' => e = .returned (.agg #[.int .u8 6, .int .i64 h, .int .u8 0, .int .i64 0, .int .i64 0, .int .i64 0, .int .i64 0]) ∧ Below w.heap.size w w' := by
  have H0 := St.start_lay w []
  go_enter Try.func33, Try.ntmps33
  go_wp2_with fail
  refine absorb_calls (H0.allocAt 0 rfl w.heap.size rfl _ _ |>.push_mk rfl |>.allocAt 1 rfl (w.heap.size + 1) (by simp) _ _ |>.push_mk rfl) ?_
  intro w1 H
  generalize w.heap.size + 1 = gR at H ⊢
  generalize hga : w.heap.size = gA at H ⊢
  clear hga H0
  refine (refU_6 w1).mono ?_
  rintro e w2 ⟨rfl, hb2⟩
  replace H := H.call hb2
  clear hb2
  have a0 := H.cell 0 rfl (o := 0) rfl
  have a1 := H.cell 0 rfl (o := 1) rfl
  have lA := H.lt 0 rfl
  have HA := H.allocAt 2 rfl w2.heap.size rfl #[.bool true, .bool false, .bool false, .bool false, .bool false, .bool false] 81 |>.push_mk rfl |>.allocAt 3 rfl (w2.heap.size + 1) (by simp) #[.int .u8 6, .int .i64 h, .int .u8 0, .int .i64 0, .int .i64 0, .int .i64 0, .int .i64 0] 51 |>.push_mk rfl
  have HX := HA
  have hb := HX.blk 3 rfl
  have ht := HX.there 1 rfl
  go_wp2_with (first | (refine wpList_load_row rfl 51 (.tmp 4) rfl (w2.heap.size + 1) rfl _ _ _ _ hb Try.underlying51 rfl sk_size ?_) | (refine wpList_store_mid rfl 51 (.tmp 2) (.tmp 43) rfl gR 0 (List.toArray [.int .u8 6, .int .i64 h, .int .u8 0, .int .i64 0, .int .i64 0, .int .i64 0, .int .i64 0]) rfl rfl ht sk_size (all_oneCell_toArray (by simp [Value.oneCell'])) ?_))
  have HZ := (HX.storeAll 1 rfl (vs := [.int .u8 6, .int .i64 h, .int .u8 0, .int .i64 0, .int .i64 0, .int .i64 0, .int .i64 0]) rfl).upd_mk (by simp)
  exact bodyPost_ret (results_cell_row rfl _ _ gR 51 _ _ _ rfl (HZ.blk 1 rfl) Try.underlying51 rfl sk_size) rfl ⟨rfl, HZ.below⟩

set_option maxRecDepth 100000 in
set_option maxHeartbeats 2000000 in
theorem refOf_7 (h : Int) (a : UInt8) (c o : Int) (A B : Option Addr) (n cA m cB : Nat) (w : World) :
    Calls Try.prog 33 #[.agg #[.int .u8 7, .int .i64 h, .int .u8 (a.toNat : Int), .int .i64 c, .int .i64 o, .slice A n cA, .slice B m cB]] w fun e w' => e = .returned (.agg #[.int .u8 7, .int .i64 h, .int .u8 (a.toNat : Int), .int .i64 0, .int .i64 o, .int .i64 (n : Int), .int .i64 (m : Int)]) ∧ Below w.heap.size w w' := by
  have H0 := St.start_lay w []
  go_enter Try.func33, Try.ntmps33
  go_wp2_with fail
  refine absorb_calls (H0.allocAt 0 rfl w.heap.size rfl _ _ |>.push_mk rfl |>.allocAt 1 rfl (w.heap.size + 1) (by simp) _ _ |>.push_mk rfl) ?_
  intro w1 H
  generalize w.heap.size + 1 = gR at H ⊢
  generalize hga : w.heap.size = gA at H ⊢
  clear hga H0
  refine (refU_7 w1).mono ?_
  rintro e w2 ⟨rfl, hb2⟩
  replace H := H.call hb2
  clear hb2
  have a0 := H.cell 0 rfl (o := 0) rfl
  have a1 := H.cell 0 rfl (o := 1) rfl
  have a2 := H.cell 0 rfl (o := 2) rfl
  have a4 := H.cell 0 rfl (o := 4) rfl
  have a5 := H.cell 0 rfl (o := 5) rfl
  have a6 := H.cell 0 rfl (o := 6) rfl
  have lA := H.lt 0 rfl
  have HA := H.allocAt 2 rfl w2.heap.size rfl #[.bool true, .bool true, .bool false, .bool true, .bool true, .bool true] 81 |>.push_mk rfl |>.allocAt 3 rfl (w2.heap.size + 1) (by simp) #[.int .u8 7, .int .i64 h, .int .u8 (a.toNat : Int), .int .i64 0, .int .i64 o, .int .i64 (n : Int), .int .i64 (m : Int)] 51 |>.push_mk rfl
  have HX := HA
  have hb := HX.blk 3 rfl
  have ht := HX.there 1 rfl
  go_wp2_with (first | (refine wpList_load_row rfl 51 (.tmp 4) rfl (w2.heap.size + 1) rfl _ _ _ _ hb Try.underlying51 rfl sk_size ?_) | (refine wpList_store_mid rfl 51 (.tmp 2) (.tmp 43) rfl gR 0 (List.toArray [.int .u8 7, .int .i64 h, .int .u8 (a.toNat : Int), .int .i64 0, .int .i64 o, .int .i64 (n : Int), .int .i64 (m : Int)]) rfl rfl ht sk_size (all_oneCell_toArray (by simp [Value.oneCell'])) ?_))
  have HZ := (HX.storeAll 1 rfl (vs := [.int .u8 7, .int .i64 h, .int .u8 (a.toNat : Int), .int .i64 0, .int .i64 o, .int .i64 (n : Int), .int .i64 (m : Int)]) rfl).upd_mk (by simp)
  exact bodyPost_ret (results_cell_row rfl _ _ gR 51 _ _ _ rfl (HZ.blk 1 rfl) Try.underlying51 rfl sk_size) rfl ⟨rfl, HZ.below⟩

set_option maxRecDepth 100000 in
set_option maxHeartbeats 2000000 in
theorem refOf_8 (h : Int) (a : UInt8) (c o : Int) (A B : Option Addr) (n cA m cB : Nat) (w : World) :
    Calls Try.prog 33 #[.agg #[.int .u8 8, .int .i64 h, .int .u8 (a.toNat : Int), .int .i64 c, .int .i64 o, .slice A n cA, .slice B m cB]] w fun e w' => e = .returned (.agg #[.int .u8 8, .int .i64 h, .int .u8 (a.toNat : Int), .int .i64 c, .int .i64 o, .int .i64 (n : Int), .int .i64 0]) ∧ Below w.heap.size w w' := by
  have H0 := St.start_lay w []
  go_enter Try.func33, Try.ntmps33
  go_wp2_with fail
  refine absorb_calls (H0.allocAt 0 rfl w.heap.size rfl _ _ |>.push_mk rfl |>.allocAt 1 rfl (w.heap.size + 1) (by simp) _ _ |>.push_mk rfl) ?_
  intro w1 H
  generalize w.heap.size + 1 = gR at H ⊢
  generalize hga : w.heap.size = gA at H ⊢
  clear hga H0
  refine (refU_8 w1).mono ?_
  rintro e w2 ⟨rfl, hb2⟩
  replace H := H.call hb2
  clear hb2
  have a0 := H.cell 0 rfl (o := 0) rfl
  have a1 := H.cell 0 rfl (o := 1) rfl
  have a2 := H.cell 0 rfl (o := 2) rfl
  have a3 := H.cell 0 rfl (o := 3) rfl
  have a4 := H.cell 0 rfl (o := 4) rfl
  have a5 := H.cell 0 rfl (o := 5) rfl
  have lA := H.lt 0 rfl
  have HA := H.allocAt 2 rfl w2.heap.size rfl #[.bool true, .bool true, .bool true, .bool true, .bool true, .bool false] 81 |>.push_mk rfl |>.allocAt 3 rfl (w2.heap.size + 1) (by simp) #[.int .u8 8, .int .i64 h, .int .u8 (a.toNat : Int), .int .i64 c, .int .i64 o, .int .i64 (n : Int), .int .i64 0] 51 |>.push_mk rfl
  have HX := HA
  have hb := HX.blk 3 rfl
  have ht := HX.there 1 rfl
  go_wp2_with (first | (refine wpList_load_row rfl 51 (.tmp 4) rfl (w2.heap.size + 1) rfl _ _ _ _ hb Try.underlying51 rfl sk_size ?_) | (refine wpList_store_mid rfl 51 (.tmp 2) (.tmp 43) rfl gR 0 (List.toArray [.int .u8 8, .int .i64 h, .int .u8 (a.toNat : Int), .int .i64 c, .int .i64 o, .int .i64 (n : Int), .int .i64 0]) rfl rfl ht sk_size (all_oneCell_toArray (by simp [Value.oneCell'])) ?_))
  have HZ := (HX.storeAll 1 rfl (vs := [.int .u8 8, .int .i64 h, .int .u8 (a.toNat : Int), .int .i64 c, .int .i64 o, .int .i64 (n : Int), .int .i64 0]) rfl).upd_mk (by simp)
  exact bodyPost_ret (results_cell_row rfl _ _ gR 51 _ _ _ rfl (HZ.blk 1 rfl) Try.underlying51 rfl sk_size) rfl ⟨rfl, HZ.below⟩

set_option maxRecDepth 100000 in
set_option maxHeartbeats 2000000 in
theorem refOf_9 (h : Int) (a : UInt8) (c o : Int) (A B : Option Addr) (n cA m cB : Nat) (w : World) :
    Calls Try.prog 33 #[.agg #[.int .u8 9, .int .i64 h, .int .u8 (a.toNat : Int), .int .i64 c, .int .i64 o, .slice A n cA, .slice B m cB]] w fun e w' => e = .returned (.agg #[.int .u8 9, .int .i64 h, .int .u8 0, .int .i64 0, .int .i64 0, .int .i64 0, .int .i64 0]) ∧ Below w.heap.size w w' := by
  have H0 := St.start_lay w []
  go_enter Try.func33, Try.ntmps33
  go_wp2_with fail
  refine absorb_calls (H0.allocAt 0 rfl w.heap.size rfl _ _ |>.push_mk rfl |>.allocAt 1 rfl (w.heap.size + 1) (by simp) _ _ |>.push_mk rfl) ?_
  intro w1 H
  generalize w.heap.size + 1 = gR at H ⊢
  generalize hga : w.heap.size = gA at H ⊢
  clear hga H0
  refine (refU_9 w1).mono ?_
  rintro e w2 ⟨rfl, hb2⟩
  replace H := H.call hb2
  clear hb2
  have a0 := H.cell 0 rfl (o := 0) rfl
  have a1 := H.cell 0 rfl (o := 1) rfl
  have lA := H.lt 0 rfl
  have HA := H.allocAt 2 rfl w2.heap.size rfl #[.bool true, .bool false, .bool false, .bool false, .bool false, .bool false] 81 |>.push_mk rfl |>.allocAt 3 rfl (w2.heap.size + 1) (by simp) #[.int .u8 9, .int .i64 h, .int .u8 0, .int .i64 0, .int .i64 0, .int .i64 0, .int .i64 0] 51 |>.push_mk rfl
  have HX := HA
  have hb := HX.blk 3 rfl
  have ht := HX.there 1 rfl
  go_wp2_with (first | (refine wpList_load_row rfl 51 (.tmp 4) rfl (w2.heap.size + 1) rfl _ _ _ _ hb Try.underlying51 rfl sk_size ?_) | (refine wpList_store_mid rfl 51 (.tmp 2) (.tmp 43) rfl gR 0 (List.toArray [.int .u8 9, .int .i64 h, .int .u8 0, .int .i64 0, .int .i64 0, .int .i64 0, .int .i64 0]) rfl rfl ht sk_size (all_oneCell_toArray (by simp [Value.oneCell'])) ?_))
  have HZ := (HX.storeAll 1 rfl (vs := [.int .u8 9, .int .i64 h, .int .u8 0, .int .i64 0, .int .i64 0, .int .i64 0, .int .i64 0]) rfl).upd_mk (by simp)
  exact bodyPost_ret (results_cell_row rfl _ _ gR 51 _ _ _ rfl (HZ.blk 1 rfl) Try.underlying51 rfl sk_size) rfl ⟨rfl, HZ.below⟩

set_option maxRecDepth 100000 in
set_option maxHeartbeats 2000000 in
theorem refOf_10 (h : Int) (a : UInt8) (c o : Int) (A B : Option Addr) (n cA m cB : Nat) (w : World) :
    Calls Try.prog 33 #[.agg #[.int .u8 10, .int .i64 h, .int .u8 (a.toNat : Int), .int .i64 c, .int .i64 o, .slice A n cA, .slice B m cB]] w fun e w' => e = .returned (.agg #[.int .u8 10, .int .i64 h, .int .u8 0, .int .i64 0, .int .i64 0, .int .i64 0, .int .i64 0]) ∧ Below w.heap.size w w' := by
  have H0 := St.start_lay w []
  go_enter Try.func33, Try.ntmps33
  go_wp2_with fail
  refine absorb_calls (H0.allocAt 0 rfl w.heap.size rfl _ _ |>.push_mk rfl |>.allocAt 1 rfl (w.heap.size + 1) (by simp) _ _ |>.push_mk rfl) ?_
  intro w1 H
  generalize w.heap.size + 1 = gR at H ⊢
  generalize hga : w.heap.size = gA at H ⊢
  clear hga H0
  refine (refU_10 w1).mono ?_
  rintro e w2 ⟨rfl, hb2⟩
  replace H := H.call hb2
  clear hb2
  have a0 := H.cell 0 rfl (o := 0) rfl
  have a1 := H.cell 0 rfl (o := 1) rfl
  have lA := H.lt 0 rfl
  have HA := H.allocAt 2 rfl w2.heap.size rfl #[.bool true, .bool false, .bool false, .bool false, .bool false, .bool false] 81 |>.push_mk rfl |>.allocAt 3 rfl (w2.heap.size + 1) (by simp) #[.int .u8 10, .int .i64 h, .int .u8 0, .int .i64 0, .int .i64 0, .int .i64 0, .int .i64 0] 51 |>.push_mk rfl
  have HX := HA
  have hb := HX.blk 3 rfl
  have ht := HX.there 1 rfl
  go_wp2_with (first | (refine wpList_load_row rfl 51 (.tmp 4) rfl (w2.heap.size + 1) rfl _ _ _ _ hb Try.underlying51 rfl sk_size ?_) | (refine wpList_store_mid rfl 51 (.tmp 2) (.tmp 43) rfl gR 0 (List.toArray [.int .u8 10, .int .i64 h, .int .u8 0, .int .i64 0, .int .i64 0, .int .i64 0, .int .i64 0]) rfl rfl ht sk_size (all_oneCell_toArray (by simp [Value.oneCell'])) ?_))
  have HZ := (HX.storeAll 1 rfl (vs := [.int .u8 10, .int .i64 h, .int .u8 0, .int .i64 0, .int .i64 0, .int .i64 0, .int .i64 0]) rfl).upd_mk (by simp)
  exact bodyPost_ret (results_cell_row rfl _ _ gR 51 _ _ _ rfl (HZ.blk 1 rfl) Try.underlying51 rfl sk_size) rfl ⟨rfl, HZ.below⟩

set_option maxRecDepth 100000 in
set_option maxHeartbeats 2000000 in
theorem refOf_no (k : UInt8) (h : Int) (a : UInt8) (c o : Int) (A B : Option Addr) (n cA m cB : Nat) (w : World) (h1 : k ≠ 1) (h2 : k ≠ 2) (h3 : k ≠ 3) (h4 : k ≠ 4) (h5 : k ≠ 5) (h6 : k ≠ 6) (h7 : k ≠ 7) (h8 : k ≠ 8) (h9 : k ≠ 9) (h10 : k ≠ 10) :
    Calls Try.prog 33 #[.agg #[.int .u8 (k.toNat : Int), .int .i64 h, .int .u8 (a.toNat : Int), .int .i64 c, .int .i64 o, .slice A n cA, .slice B m cB]] w fun e w' => e = .returned (.agg #[.int .u8 (k.toNat : Int), .int .i64 0, .int .u8 0, .int .i64 0, .int .i64 0, .int .i64 0, .int .i64 0]) ∧ Below w.heap.size w w' := by
  have H0 := St.start_lay w []
  go_enter Try.func33, Try.ntmps33
  go_wp2_with fail
  refine absorb_calls (H0.allocAt 0 rfl w.heap.size rfl _ _ |>.push_mk rfl |>.allocAt 1 rfl (w.heap.size + 1) (by simp) _ _ |>.push_mk rfl) ?_
  intro w1 H
  generalize w.heap.size + 1 = gR at H ⊢
  generalize hga : w.heap.size = gA at H ⊢
  clear hga H0
  refine (refU_no k w1 h1 h2 h3 h4 h5 h6 h7 h8 h9 h10).mono ?_
  rintro e w2 ⟨rfl, hb2⟩
  replace H := H.call hb2
  clear hb2 h1 h2 h3 h4 h5 h6 h7 h8 h9 h10
  have a0 := H.cell 0 rfl (o := 0) rfl
  have lA := H.lt 0 rfl
  have HA := H.allocAt 2 rfl w2.heap.size rfl #[.bool false, .bool false, .bool false, .bool false, .bool false, .bool false] 81 |>.push_mk rfl |>.allocAt 3 rfl (w2.heap.size + 1) (by simp) #[.int .u8 (k.toNat : Int), .int .i64 0, .int .u8 0, .int .i64 0, .int .i64 0, .int .i64 0, .int .i64 0] 51 |>.push_mk rfl
  have HX := HA
  have hb := HX.blk 3 rfl
  have ht := HX.there 1 rfl
  go_wp2_with (first | (refine wpList_load_row rfl 51 (.tmp 4) rfl (w2.heap.size + 1) rfl _ _ _ _ hb Try.underlying51 rfl sk_size ?_) | (refine wpList_store_mid rfl 51 (.tmp 2) (.tmp 43) rfl gR 0 (List.toArray [.int .u8 (k.toNat : Int), .int .i64 0, .int .u8 0, .int .i64 0, .int .i64 0, .int .i64 0, .int .i64 0]) rfl rfl ht sk_size (all_oneCell_toArray (by simp [Value.oneCell'])) ?_))
  have HZ := (HX.storeAll 1 rfl (vs := [.int .u8 (k.toNat : Int), .int .i64 0, .int .u8 0, .int .i64 0, .int .i64 0, .int .i64 0, .int .i64 0]) rfl).upd_mk (by simp)
  exact bodyPost_ret (results_cell_row rfl _ _ gR 51 _ _ _ rfl (HZ.blk 1 rfl) Try.underlying51 rfl sk_size) rfl ⟨rfl, HZ.below⟩

theorem refOf_s (k : UInt8) (h : Int) (a : UInt8) (c o : Int) (A B : Option Addr) (n cA m cB : Nat) (w : World) :
    Calls Try.prog 33 #[opV k h a c o (.slice A n cA) (.slice B m cB)] w fun e w' => e = .returned (.agg (skV ((k.toNat : Int), qI 1 k h, qI 2 k (a.toNat : Int), qI 3 k c, qI 4 k o, qI 5 k n, qI 6 k m)).toArray) ∧ Below w.heap.size w w' := by
  by_cases h1 : k = 1
  · subst h1; exact refOf_1 h a c o A B n cA m cB w
  by_cases h2 : k = 2
  · subst h2; exact refOf_2 h a c o A B n cA m cB w
  by_cases h3 : k = 3
  · subst h3; exact refOf_3 h a c o A B n cA m cB w
  by_cases h4 : k = 4
  · subst h4; exact refOf_4 h a c o A B n cA m cB w
  by_cases h5 : k = 5
  · subst h5; exact refOf_5 h a c o A B n cA m cB w
  by_cases h6 : k = 6
  · subst h6; exact refOf_6 h a c o A B n cA m cB w
  by_cases h7 : k = 7
  · subst h7; exact refOf_7 h a c o A B n cA m cB w
  by_cases h8 : k = 8
  · subst h8; exact refOf_8 h a c o A B n cA m cB w
  by_cases h9 : k = 9
  · subst h9; exact refOf_9 h a c o A B n cA m cB w
  by_cases h10 : k = 10
  · subst h10; exact refOf_10 h a c o A B n cA m cB w
  unfold qI
  rw [sku_no h1 h2 h3 h4 h5 h6 h7 h8 h9 h10]
  exact refOf_no k h a c o A B n cA m cB w h1 h2 h3 h4 h5 h6 h7 h8 h9 h10

/-- an operation's skeleton -/
def skOf (s : OpR) : SkT := ((s.k.toNat : Int), qI 1 s.k s.h, qI 2 s.k (s.a.toNat : Int), qI 3 s.k s.c, qI 4 s.k s.o, qI 5 s.k s.n, qI 6 s.k s.m)
end Go.Proofs.Ytgfhnbjpdhdhgaa
