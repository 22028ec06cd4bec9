/- The document's Fill (layer 21). -/
import Derived.Test.YtgfhnbjpdhdhgaaRefU
namespace Go.Proofs.Ytgfhnbjpdhdhgaa
open Go.RowKit
set_option linter.unusedVariables false

theorem hold_op {P : Program} {ops : Array Oper} {rest : List Oper} {o : Oper} {a : Act} {w : World} {Q : Exit → Act → World → Prop} (op : Op) (ho : o.op = op) (h : Held (wpList P ops Q (o :: rest) a w)) : wpList P ops Q (o :: rest) a w := h

set_option maxRecDepth 100000 in
set_option maxHeartbeats 2000000 in
theorem refFill_1 (h : Int) (a : UInt8) (c o d m : Int) (b : UInt8) (w : World) :
    Calls Try.prog 45 #[.agg #[.int .u8 1, .int .i64 h, .int .u8 (a.toNat : Int), .int .i64 c, .int .i64 o, .int .i64 d, .int .i64 m], .int .u8 (b.toNat : Int)] w (FillP 1 0 0 0 0 d 0 b w) := by
  have H0 := St.start_lay w []
  go_enter Try.func45, Try.ntmps45
  go_wp2_with fail
  refine absorb_calls (H0.allocAt 0 rfl w.heap.size rfl _ _ |>.push_mk rfl |>.allocAt 1 rfl (w.heap.size + 1) (by simp) _ _ |>.push_mk rfl) ?_
  intro w1 H
  generalize w.heap.size + 1 = gR at H ⊢
  generalize hga : w.heap.size = gA at H ⊢
  clear hga H0
  refine (refU_1 w1).mono ?_
  rintro e w2 ⟨rfl, hb2⟩
  replace H := H.call hb2
  clear hb2
  have a0 := H.cell 0 rfl (o := 0) rfl
  have a1 := H.cell 0 rfl (o := 1) rfl
  have a2 := H.cell 0 rfl (o := 2) rfl
  have a3 := H.cell 0 rfl (o := 3) rfl
  have a4 := H.cell 0 rfl (o := 4) rfl
  have a5 := H.cell 0 rfl (o := 5) rfl
  have a6 := H.cell 0 rfl (o := 6) rfl
  have lA := H.lt 0 rfl
  have lR := H.lt 1 rfl
  by_cases hok : 0 ≤ d ∧ d ≤ 16777215
  · obtain ⟨d1, d2⟩ := hok
    go_wp2_with fail
    refine absorb_calls (H.allocAt 2 rfl w2.heap.size rfl _ _ |>.push_mk rfl |>.allocAt 3 rfl (w2.heap.size + 1) (by simp) _ _ |>.push_mk rfl) ?_
    clear a0 a1 a2 a3 a4 a5 a6 lA lR H
    intro w3 H
    generalize w2.heap.size + 1 = gT at H ⊢
    generalize w2.heap.size = gU at H ⊢
    refine (many_s d.toNat b w3 (by omega) (by omega)).mono ?_
    rintro e w4 ⟨v5, rfl, ho5, hb5⟩
    obtain ⟨A5, n5, c5, rfl, hn5, -⟩ := ho5.shape
    replace H := (H.pushOwnB 4 rfl ho5 hb5).push_mk rfl
    clear ho5 hb5
    have x5 := H.cell 3 rfl (o := 5) rfl
    have y5 := H.free 3 rfl 5
    have u5 := H.cell 2 rfl (o := 5) rfl
    have n32 := H.ne 3 2 rfl rfl (by omega)
    have HX := (H.store 3 rfl (o := 5) (u := .slice A5 n5 c5)).upd_mk (by simp)
    have hb := HX.blk 3 rfl
    have ht := HX.there 1 rfl
    go_wp2_with (first | (refine wpList_load_row rfl 31 (.tmp 7) rfl gT rfl _ _ _ _ hb Try.underlying31 rfl op_size ?_) | (refine wpList_store_mid rfl 31 (.tmp 4) (.tmp 75) rfl gR 0 (List.toArray [.int .u8 1, .int .i64 0, .int .u8 0, .int .i64 0, .int .i64 0, .slice A5 n5 c5, .slice none 0 0]) rfl rfl ht op_size (all_oneCell_toArray (by simp [Value.oneCell'])) ?_))
    have HZ := (HX.storeAll 1 rfl (vs := [.int .u8 1, .int .i64 0, .int .u8 0, .int .i64 0, .int .i64 0, .slice A5 n5 c5, .slice none 0 0]) rfl).upd_mk (by simp)
    refine bodyPost_ret (results_cell1 rfl _ _ gR 31 _ _ _ rfl (HZ.blk 1 rfl) Try.underlying31 rfl op_size) rfl ?_
    refine ⟨fun _ => ⟨.slice A5 n5 c5, .slice none 0 0, rfl, ?_⟩, fun hno => absurd (by omega) hno⟩
    exact (((HZ.shape_row 4 rfl (n' := d.toNat) (xs' := (List.replicate d.toNat b).map vb) (by simp) rfl).nilRow 5 rfl 5 1).push_mk rfl).perm [4, 5] 2 rfl (by decide) (by intro i hi; match i with | 0 => rfl | 1 => rfl | i + 2 => omega)
  · have hc : d < 0 ∨ (0 ≤ d ∧ 16777215 < d) := by omega
    have HNO := Lib.hid hok
    clear hok
    rcases hc with hc | ⟨hc1, hc2⟩
    all_goals have r0 := H.cell 1 rfl (o := 0) rfl
    all_goals have f0 := H.free 1 rfl 0
    all_goals have r1 := H.cell 1 rfl (o := 1) rfl
    all_goals have f1 := H.free 1 rfl 1
    all_goals have r2 := H.cell 1 rfl (o := 2) rfl
    all_goals have f2 := H.free 1 rfl 2
    all_goals have r3 := H.cell 1 rfl (o := 3) rfl
    all_goals have f3 := H.free 1 rfl 3
    all_goals have r4 := H.cell 1 rfl (o := 4) rfl
    all_goals have f4 := H.free 1 rfl 4
    all_goals have r5 := H.cell 1 rfl (o := 5) rfl
    all_goals have f5 := H.free 1 rfl 5
    all_goals have r6 := H.cell 1 rfl (o := 6) rfl
    all_goals have f6 := H.free 1 rfl 6
    all_goals have n01 := H.ne 0 1 rfl rfl (by omega)
    all_goals
      go_wp2_with fail
      have HS := ((((((((((((((H.store 1 rfl (o := 0) (u := .int .u8 0)).upd_mk (by simp)).store 1 rfl (o := 1) (u := .int .i64 0)).upd_mk (by simp)).store 1 rfl (o := 2) (u := .int .u8 0)).upd_mk (by simp)).store 1 rfl (o := 3) (u := .int .i64 0)).upd_mk (by simp)).store 1 rfl (o := 4) (u := .int .i64 0)).upd_mk (by simp)).store 1 rfl (o := 5) (u := .slice none 0 0)).upd_mk (by simp)).store 1 rfl (o := 6) (u := .slice none 0 0)).upd_mk (by simp))
      have HZ := (HS.allocAt 2 rfl w2.heap.size (by simp [World.setCell]) #[.bool false, .bool false, .bool false, .bool false, .bool true, .bool false] 81).push_mk rfl
      refine bodyPost_ret (results_cell1 rfl _ _ gR 31 #[.int .u8 0, .int .i64 0, .int .u8 0, .int .i64 0, .int .i64 0, .slice none 0 0, .slice none 0 0] _ _ rfl (HZ.blk 1 rfl) Try.underlying31 rfl op_size) rfl ?_
      exact ⟨fun h => absurd (by omega) HNO.out, fun _ => ⟨rfl, HZ.below⟩⟩

set_option maxRecDepth 100000 in
set_option maxHeartbeats 2000000 in
theorem refFill_2 (h : Int) (a : UInt8) (c o d m : Int) (b : UInt8) (w : World) :
    Calls Try.prog 45 #[.agg #[.int .u8 2, .int .i64 h, .int .u8 (a.toNat : Int), .int .i64 c, .int .i64 o, .int .i64 d, .int .i64 m], .int .u8 (b.toNat : Int)] w (FillP 2 h a 0 o d 0 b w) := by
  have H0 := St.start_lay w []
  go_enter Try.func45, Try.ntmps45
  go_wp2_with fail
  refine absorb_calls (H0.allocAt 0 rfl w.heap.size rfl _ _ |>.push_mk rfl |>.allocAt 1 rfl (w.heap.size + 1) (by simp) _ _ |>.push_mk rfl) ?_
  intro w1 H
  generalize w.heap.size + 1 = gR at H ⊢
  generalize hga : w.heap.size = gA at H ⊢
  clear hga H0
  refine (refU_2 w1).mono ?_
  rintro e w2 ⟨rfl, hb2⟩
  replace H := H.call hb2
  clear hb2
  have a0 := H.cell 0 rfl (o := 0) rfl
  have a1 := H.cell 0 rfl (o := 1) rfl
  have a2 := H.cell 0 rfl (o := 2) rfl
  have a3 := H.cell 0 rfl (o := 3) rfl
  have a4 := H.cell 0 rfl (o := 4) rfl
  have a5 := H.cell 0 rfl (o := 5) rfl
  have a6 := H.cell 0 rfl (o := 6) rfl
  have lA := H.lt 0 rfl
  have lR := H.lt 1 rfl
  by_cases hok : 0 ≤ d ∧ d ≤ 16777215
  · obtain ⟨d1, d2⟩ := hok
    go_wp2_with fail
    refine absorb_calls (H.allocAt 2 rfl w2.heap.size rfl _ _ |>.push_mk rfl |>.allocAt 3 rfl (w2.heap.size + 1) (by simp) _ _ |>.push_mk rfl) ?_
    clear a0 a1 a2 a3 a4 a5 a6 lA lR H
    intro w3 H
    generalize w2.heap.size + 1 = gT at H ⊢
    generalize w2.heap.size = gU at H ⊢
    refine (many_s d.toNat b w3 (by omega) (by omega)).mono ?_
    rintro e w4 ⟨v5, rfl, ho5, hb5⟩
    obtain ⟨A5, n5, c5, rfl, hn5, -⟩ := ho5.shape
    replace H := (H.pushOwnB 4 rfl ho5 hb5).push_mk rfl
    clear ho5 hb5
    have x5 := H.cell 3 rfl (o := 5) rfl
    have y5 := H.free 3 rfl 5
    have u5 := H.cell 2 rfl (o := 5) rfl
    have n32 := H.ne 3 2 rfl rfl (by omega)
    have HX := (H.store 3 rfl (o := 5) (u := .slice A5 n5 c5)).upd_mk (by simp)
    have hb := HX.blk 3 rfl
    have ht := HX.there 1 rfl
    go_wp2_with (first | (refine wpList_load_row rfl 31 (.tmp 7) rfl gT rfl _ _ _ _ hb Try.underlying31 rfl op_size ?_) | (refine wpList_store_mid rfl 31 (.tmp 4) (.tmp 75) rfl gR 0 (List.toArray [.int .u8 2, .int .i64 h, .int .u8 (a.toNat : Int), .int .i64 0, .int .i64 o, .slice A5 n5 c5, .slice none 0 0]) rfl rfl ht op_size (all_oneCell_toArray (by simp [Value.oneCell'])) ?_))
    have HZ := (HX.storeAll 1 rfl (vs := [.int .u8 2, .int .i64 h, .int .u8 (a.toNat : Int), .int .i64 0, .int .i64 o, .slice A5 n5 c5, .slice none 0 0]) rfl).upd_mk (by simp)
    refine bodyPost_ret (results_cell1 rfl _ _ gR 31 _ _ _ rfl (HZ.blk 1 rfl) Try.underlying31 rfl op_size) rfl ?_
    refine ⟨fun _ => ⟨.slice A5 n5 c5, .slice none 0 0, rfl, ?_⟩, fun hno => absurd (by omega) hno⟩
    exact (((HZ.shape_row 4 rfl (n' := d.toNat) (xs' := (List.replicate d.toNat b).map vb) (by simp) rfl).nilRow 5 rfl 5 1).push_mk rfl).perm [4, 5] 2 rfl (by decide) (by intro i hi; match i with | 0 => rfl | 1 => rfl | i + 2 => omega)
  · have hc : d < 0 ∨ (0 ≤ d ∧ 16777215 < d) := by omega
    have HNO := Lib.hid hok
    clear hok
    rcases hc with hc | ⟨hc1, hc2⟩
    all_goals have r0 := H.cell 1 rfl (o := 0) rfl
    all_goals have f0 := H.free 1 rfl 0
    all_goals have r1 := H.cell 1 rfl (o := 1) rfl
    all_goals have f1 := H.free 1 rfl 1
    all_goals have r2 := H.cell 1 rfl (o := 2) rfl
    all_goals have f2 := H.free 1 rfl 2
    all_goals have r3 := H.cell 1 rfl (o := 3) rfl
    all_goals have f3 := H.free 1 rfl 3
    all_goals have r4 := H.cell 1 rfl (o := 4) rfl
    all_goals have f4 := H.free 1 rfl 4
    all_goals have r5 := H.cell 1 rfl (o := 5) rfl
    all_goals have f5 := H.free 1 rfl 5
    all_goals have r6 := H.cell 1 rfl (o := 6) rfl
    all_goals have f6 := H.free 1 rfl 6
    all_goals have n01 := H.ne 0 1 rfl rfl (by omega)
    all_goals
      go_wp2_with fail
      have HS := ((((((((((((((H.store 1 rfl (o := 0) (u := .int .u8 0)).upd_mk (by simp)).store 1 rfl (o := 1) (u := .int .i64 0)).upd_mk (by simp)).store 1 rfl (o := 2) (u := .int .u8 0)).upd_mk (by simp)).store 1 rfl (o := 3) (u := .int .i64 0)).upd_mk (by simp)).store 1 rfl (o := 4) (u := .int .i64 0)).upd_mk (by simp)).store 1 rfl (o := 5) (u := .slice none 0 0)).upd_mk (by simp)).store 1 rfl (o := 6) (u := .slice none 0 0)).upd_mk (by simp))
      have HZ := (HS.allocAt 2 rfl w2.heap.size (by simp [World.setCell]) #[.bool true, .bool true, .bool false, .bool true, .bool true, .bool false] 81).push_mk rfl
      refine bodyPost_ret (results_cell1 rfl _ _ gR 31 #[.int .u8 0, .int .i64 0, .int .u8 0, .int .i64 0, .int .i64 0, .slice none 0 0, .slice none 0 0] _ _ rfl (HZ.blk 1 rfl) Try.underlying31 rfl op_size) rfl ?_
      exact ⟨fun h => absurd (by omega) HNO.out, fun _ => ⟨rfl, HZ.below⟩⟩

set_option maxRecDepth 100000 in
set_option maxHeartbeats 2000000 in
theorem refFill_3 (h : Int) (a : UInt8) (c o d m : Int) (b : UInt8) (w : World) :
    Calls Try.prog 45 #[.agg #[.int .u8 3, .int .i64 h, .int .u8 (a.toNat : Int), .int .i64 c, .int .i64 o, .int .i64 d, .int .i64 m], .int .u8 (b.toNat : Int)] w (FillP 3 h 0 0 0 d 0 b w) := by
  have H0 := St.start_lay w []
  go_enter Try.func45, Try.ntmps45
  go_wp2_with fail
  refine absorb_calls (H0.allocAt 0 rfl w.heap.size rfl _ _ |>.push_mk rfl |>.allocAt 1 rfl (w.heap.size + 1) (by simp) _ _ |>.push_mk rfl) ?_
  intro w1 H
  generalize w.heap.size + 1 = gR at H ⊢
  generalize hga : w.heap.size = gA at H ⊢
  clear hga H0
  refine (refU_3 w1).mono ?_
  rintro e w2 ⟨rfl, hb2⟩
  replace H := H.call hb2
  clear hb2
  have a0 := H.cell 0 rfl (o := 0) rfl
  have a1 := H.cell 0 rfl (o := 1) rfl
  have a2 := H.cell 0 rfl (o := 2) rfl
  have a3 := H.cell 0 rfl (o := 3) rfl
  have a4 := H.cell 0 rfl (o := 4) rfl
  have a5 := H.cell 0 rfl (o := 5) rfl
  have a6 := H.cell 0 rfl (o := 6) rfl
  have lA := H.lt 0 rfl
  have lR := H.lt 1 rfl
  by_cases hok : 0 ≤ d ∧ d ≤ 16777215
  · obtain ⟨d1, d2⟩ := hok
    go_wp2_with fail
    refine absorb_calls (H.allocAt 2 rfl w2.heap.size rfl _ _ |>.push_mk rfl |>.allocAt 3 rfl (w2.heap.size + 1) (by simp) _ _ |>.push_mk rfl) ?_
    clear a0 a1 a2 a3 a4 a5 a6 lA lR H
    intro w3 H
    generalize w2.heap.size + 1 = gT at H ⊢
    generalize w2.heap.size = gU at H ⊢
    refine (many_s d.toNat b w3 (by omega) (by omega)).mono ?_
    rintro e w4 ⟨v5, rfl, ho5, hb5⟩
    obtain ⟨A5, n5, c5, rfl, hn5, -⟩ := ho5.shape
    replace H := (H.pushOwnB 4 rfl ho5 hb5).push_mk rfl
    clear ho5 hb5
    have x5 := H.cell 3 rfl (o := 5) rfl
    have y5 := H.free 3 rfl 5
    have u5 := H.cell 2 rfl (o := 5) rfl
    have n32 := H.ne 3 2 rfl rfl (by omega)
    have HX := (H.store 3 rfl (o := 5) (u := .slice A5 n5 c5)).upd_mk (by simp)
    have hb := HX.blk 3 rfl
    have ht := HX.there 1 rfl
    go_wp2_with (first | (refine wpList_load_row rfl 31 (.tmp 7) rfl gT rfl _ _ _ _ hb Try.underlying31 rfl op_size ?_) | (refine wpList_store_mid rfl 31 (.tmp 4) (.tmp 75) rfl gR 0 (List.toArray [.int .u8 3, .int .i64 h, .int .u8 0, .int .i64 0, .int .i64 0, .slice A5 n5 c5, .slice none 0 0]) rfl rfl ht op_size (all_oneCell_toArray (by simp [Value.oneCell'])) ?_))
    have HZ := (HX.storeAll 1 rfl (vs := [.int .u8 3, .int .i64 h, .int .u8 0, .int .i64 0, .int .i64 0, .slice A5 n5 c5, .slice none 0 0]) rfl).upd_mk (by simp)
    refine bodyPost_ret (results_cell1 rfl _ _ gR 31 _ _ _ rfl (HZ.blk 1 rfl) Try.underlying31 rfl op_size) rfl ?_
    refine ⟨fun _ => ⟨.slice A5 n5 c5, .slice none 0 0, rfl, ?_⟩, fun hno => absurd (by omega) hno⟩
    exact (((HZ.shape_row 4 rfl (n' := d.toNat) (xs' := (List.replicate d.toNat b).map vb) (by simp) rfl).nilRow 5 rfl 5 1).push_mk rfl).perm [4, 5] 2 rfl (by decide) (by intro i hi; match i with | 0 => rfl | 1 => rfl | i + 2 => omega)
  · have hc : d < 0 ∨ (0 ≤ d ∧ 16777215 < d) := by omega
    have HNO := Lib.hid hok
    clear hok
    rcases hc with hc | ⟨hc1, hc2⟩
    all_goals have r0 := H.cell 1 rfl (o := 0) rfl
    all_goals have f0 := H.free 1 rfl 0
    all_goals have r1 := H.cell 1 rfl (o := 1) rfl
    all_goals have f1 := H.free 1 rfl 1
    all_goals have r2 := H.cell 1 rfl (o := 2) rfl
    all_goals have f2 := H.free 1 rfl 2
    all_goals have r3 := H.cell 1 rfl (o := 3) rfl
    all_goals have f3 := H.free 1 rfl 3
    all_goals have r4 := H.cell 1 rfl (o := 4) rfl
    all_goals have f4 := H.free 1 rfl 4
    all_goals have r5 := H.cell 1 rfl (o := 5) rfl
    all_goals have f5 := H.free 1 rfl 5
    all_goals have r6 := H.cell 1 rfl (o := 6) rfl
    all_goals have f6 := H.free 1 rfl 6
    all_goals have n01 := H.ne 0 1 rfl rfl (by omega)
    all_goals
      go_wp2_with fail
      have HS := ((((((((((((((H.store 1 rfl (o := 0) (u := .int .u8 0)).upd_mk (by simp)).store 1 rfl (o := 1) (u := .int .i64 0)).upd_mk (by simp)).store 1 rfl (o := 2) (u := .int .u8 0)).upd_mk (by simp)).store 1 rfl (o := 3) (u := .int .i64 0)).upd_mk (by simp)).store 1 rfl (o := 4) (u := .int .i64 0)).upd_mk (by simp)).store 1 rfl (o := 5) (u := .slice none 0 0)).upd_mk (by simp)).store 1 rfl (o := 6) (u := .slice none 0 0)).upd_mk (by simp))
      have HZ := (HS.allocAt 2 rfl w2.heap.size (by simp [World.setCell]) #[.bool true, .bool false, .bool false, .bool false, .bool true, .bool false] 81).push_mk rfl
      refine bodyPost_ret (results_cell1 rfl _ _ gR 31 #[.int .u8 0, .int .i64 0, .int .u8 0, .int .i64 0, .int .i64 0, .slice none 0 0, .slice none 0 0] _ _ rfl (HZ.blk 1 rfl) Try.underlying31 rfl op_size) rfl ?_
      exact ⟨fun h => absurd (by omega) HNO.out, fun _ => ⟨rfl, HZ.below⟩⟩

set_option maxRecDepth 100000 in
set_option maxHeartbeats 2000000 in
theorem refFill_4 (h : Int) (a : UInt8) (c o d m : Int) (b : UInt8) (w : World) :
    Calls Try.prog 45 #[.agg #[.int .u8 4, .int .i64 h, .int .u8 (a.toNat : Int), .int .i64 c, .int .i64 o, .int .i64 d, .int .i64 m], .int .u8 (b.toNat : Int)] w (FillP 4 h 0 0 0 0 0 b w) := by
  have H0 := St.start_lay w []
  go_enter Try.func45, Try.ntmps45
  go_wp2_with fail
  refine absorb_calls (H0.allocAt 0 rfl w.heap.size rfl _ _ |>.push_mk rfl |>.allocAt 1 rfl (w.heap.size + 1) (by simp) _ _ |>.push_mk rfl) ?_
  intro w1 H
  generalize w.heap.size + 1 = gR at H ⊢
  generalize hga : w.heap.size = gA at H ⊢
  clear hga H0
  refine (refU_4 w1).mono ?_
  rintro e w2 ⟨rfl, hb2⟩
  replace H := H.call hb2
  clear hb2
  have a0 := H.cell 0 rfl (o := 0) rfl
  have a1 := H.cell 0 rfl (o := 1) rfl
  have a2 := H.cell 0 rfl (o := 2) rfl
  have a3 := H.cell 0 rfl (o := 3) rfl
  have a4 := H.cell 0 rfl (o := 4) rfl
  have a5 := H.cell 0 rfl (o := 5) rfl
  have a6 := H.cell 0 rfl (o := 6) rfl
  have lA := H.lt 0 rfl
  have lR := H.lt 1 rfl
  have r0 := H.cell 1 rfl (o := 0) rfl
  have f0 := H.free 1 rfl 0
  have r1 := H.cell 1 rfl (o := 1) rfl
  have f1 := H.free 1 rfl 1
  have r2 := H.cell 1 rfl (o := 2) rfl
  have f2 := H.free 1 rfl 2
  have r3 := H.cell 1 rfl (o := 3) rfl
  have f3 := H.free 1 rfl 3
  have r4 := H.cell 1 rfl (o := 4) rfl
  have f4 := H.free 1 rfl 4
  have r5 := H.cell 1 rfl (o := 5) rfl
  have f5 := H.free 1 rfl 5
  have r6 := H.cell 1 rfl (o := 6) rfl
  have f6 := H.free 1 rfl 6
  have n01 := H.ne 0 1 rfl rfl (by omega)
  go_wp2_with fail
  have HS := ((((((((((((((H.store 1 rfl (o := 0) (u := .int .u8 4)).upd_mk (by simp)).store 1 rfl (o := 1) (u := .int .i64 h)).upd_mk (by simp)).store 1 rfl (o := 2) (u := .int .u8 0)).upd_mk (by simp)).store 1 rfl (o := 3) (u := .int .i64 0)).upd_mk (by simp)).store 1 rfl (o := 4) (u := .int .i64 0)).upd_mk (by simp)).store 1 rfl (o := 5) (u := .slice none 0 0)).upd_mk (by simp)).store 1 rfl (o := 6) (u := .slice none 0 0)).upd_mk (by simp))
  have HZ := (HS.allocAt 2 rfl w2.heap.size (by simp [World.setCell]) #[.bool true, .bool false, .bool false, .bool false, .bool false, .bool false] 81 |>.push_mk rfl).allocAt 3 rfl (w2.heap.size + 1) (by simp [World.setCell]) #[.int .u8 4, .int .i64 h, .int .u8 0, .int .i64 0, .int .i64 0, .slice none 0 0, .slice none 0 0] 31 |>.push_mk rfl
  refine bodyPost_ret (results_cell1 rfl _ _ gR 31 #[.int .u8 4, .int .i64 h, .int .u8 0, .int .i64 0, .int .i64 0, .slice none 0 0, .slice none 0 0] _ _ rfl (HZ.blk 1 rfl) Try.underlying31 rfl op_size) rfl ?_
  exact ⟨fun _ => ⟨.slice none 0 0, .slice none 0 0, rfl, (((St.start_lay w []).call HZ.below).nilRow 0 rfl _ _).push_mk rfl |>.nilRow 1 rfl _ _ |>.push_mk rfl⟩, fun hno => absurd (by omega) hno⟩

set_option maxRecDepth 100000 in
set_option maxHeartbeats 2000000 in
theorem refFill_5 (h : Int) (a : UInt8) (c o d m : Int) (b : UInt8) (w : World) :
    Calls Try.prog 45 #[.agg #[.int .u8 5, .int .i64 h, .int .u8 (a.toNat : Int), .int .i64 c, .int .i64 o, .int .i64 d, .int .i64 m], .int .u8 (b.toNat : Int)] w (FillP 5 h 0 0 0 d 0 b w) := by
  have H0 := St.start_lay w []
  go_enter Try.func45, Try.ntmps45
  go_wp2_with fail
  refine absorb_calls (H0.allocAt 0 rfl w.heap.size rfl _ _ |>.push_mk rfl |>.allocAt 1 rfl (w.heap.size + 1) (by simp) _ _ |>.push_mk rfl) ?_
  intro w1 H
  generalize w.heap.size + 1 = gR at H ⊢
  generalize hga : w.heap.size = gA at H ⊢
  clear hga H0
  refine (refU_5 w1).mono ?_
  rintro e w2 ⟨rfl, hb2⟩
  replace H := H.call hb2
  clear hb2
  have a0 := H.cell 0 rfl (o := 0) rfl
  have a1 := H.cell 0 rfl (o := 1) rfl
  have a2 := H.cell 0 rfl (o := 2) rfl
  have a3 := H.cell 0 rfl (o := 3) rfl
  have a4 := H.cell 0 rfl (o := 4) rfl
  have a5 := H.cell 0 rfl (o := 5) rfl
  have a6 := H.cell 0 rfl (o := 6) rfl
  have lA := H.lt 0 rfl
  have lR := H.lt 1 rfl
  by_cases hok : 0 ≤ d ∧ d ≤ 16777215
  · obtain ⟨d1, d2⟩ := hok
    go_wp2_with fail
    refine absorb_calls (H.allocAt 2 rfl w2.heap.size rfl _ _ |>.push_mk rfl |>.allocAt 3 rfl (w2.heap.size + 1) (by simp) _ _ |>.push_mk rfl) ?_
    clear a0 a1 a2 a3 a4 a5 a6 lA lR H
    intro w3 H
    generalize w2.heap.size + 1 = gT at H ⊢
    generalize w2.heap.size = gU at H ⊢
    refine (many_s d.toNat b w3 (by omega) (by omega)).mono ?_
    rintro e w4 ⟨v5, rfl, ho5, hb5⟩
    obtain ⟨A5, n5, c5, rfl, hn5, -⟩ := ho5.shape
    replace H := (H.pushOwnB 4 rfl ho5 hb5).push_mk rfl
    clear ho5 hb5
    have x5 := H.cell 3 rfl (o := 5) rfl
    have y5 := H.free 3 rfl 5
    have u5 := H.cell 2 rfl (o := 5) rfl
    have n32 := H.ne 3 2 rfl rfl (by omega)
    have HX := (H.store 3 rfl (o := 5) (u := .slice A5 n5 c5)).upd_mk (by simp)
    have hb := HX.blk 3 rfl
    have ht := HX.there 1 rfl
    go_wp2_with (first | (refine wpList_load_row rfl 31 (.tmp 7) rfl gT rfl _ _ _ _ hb Try.underlying31 rfl op_size ?_) | (refine wpList_store_mid rfl 31 (.tmp 4) (.tmp 75) rfl gR 0 (List.toArray [.int .u8 5, .int .i64 h, .int .u8 0, .int .i64 0, .int .i64 0, .slice A5 n5 c5, .slice none 0 0]) rfl rfl ht op_size (all_oneCell_toArray (by simp [Value.oneCell'])) ?_))
    have HZ := (HX.storeAll 1 rfl (vs := [.int .u8 5, .int .i64 h, .int .u8 0, .int .i64 0, .int .i64 0, .slice A5 n5 c5, .slice none 0 0]) rfl).upd_mk (by simp)
    refine bodyPost_ret (results_cell1 rfl _ _ gR 31 _ _ _ rfl (HZ.blk 1 rfl) Try.underlying31 rfl op_size) rfl ?_
    refine ⟨fun _ => ⟨.slice A5 n5 c5, .slice none 0 0, rfl, ?_⟩, fun hno => absurd (by omega) hno⟩
    exact (((HZ.shape_row 4 rfl (n' := d.toNat) (xs' := (List.replicate d.toNat b).map vb) (by simp) rfl).nilRow 5 rfl 5 1).push_mk rfl).perm [4, 5] 2 rfl (by decide) (by intro i hi; match i with | 0 => rfl | 1 => rfl | i + 2 => omega)
  · have hc : d < 0 ∨ (0 ≤ d ∧ 16777215 < d) := by omega
    have HNO := Lib.hid hok
    clear hok
    rcases hc with hc | ⟨hc1, hc2⟩
    all_goals have r0 := H.cell 1 rfl (o := 0) rfl
    all_goals have f0 := H.free 1 rfl 0
    all_goals have r1 := H.cell 1 rfl (o := 1) rfl
    all_goals have f1 := H.free 1 rfl 1
    all_goals have r2 := H.cell 1 rfl (o := 2) rfl
    all_goals have f2 := H.free 1 rfl 2
    all_goals have r3 := H.cell 1 rfl (o := 3) rfl
    all_goals have f3 := H.free 1 rfl 3
    all_goals have r4 := H.cell 1 rfl (o := 4) rfl
    all_goals have f4 := H.free 1 rfl 4
    all_goals have r5 := H.cell 1 rfl (o := 5) rfl
    all_goals have f5 := H.free 1 rfl 5
    all_goals have r6 := H.cell 1 rfl (o := 6) rfl
    all_goals have f6 := H.free 1 rfl 6
    all_goals have n01 := H.ne 0 1 rfl rfl (by omega)
    all_goals
      go_wp2_with fail
      have HS := ((((((((((((((H.store 1 rfl (o := 0) (u := .int .u8 0)).upd_mk (by simp)).store 1 rfl (o := 1) (u := .int .i64 0)).upd_mk (by simp)).store 1 rfl (o := 2) (u := .int .u8 0)).upd_mk (by simp)).store 1 rfl (o := 3) (u := .int .i64 0)).upd_mk (by simp)).store 1 rfl (o := 4) (u := .int .i64 0)).upd_mk (by simp)).store 1 rfl (o := 5) (u := .slice none 0 0)).upd_mk (by simp)).store 1 rfl (o := 6) (u := .slice none 0 0)).upd_mk (by simp))
      have HZ := (HS.allocAt 2 rfl w2.heap.size (by simp [World.setCell]) #[.bool true, .bool false, .bool false, .bool false, .bool true, .bool false] 81).push_mk rfl
      refine bodyPost_ret (results_cell1 rfl _ _ gR 31 #[.int .u8 0, .int .i64 0, .int .u8 0, .int .i64 0, .int .i64 0, .slice none 0 0, .slice none 0 0] _ _ rfl (HZ.blk 1 rfl) Try.underlying31 rfl op_size) rfl ?_
      exact ⟨fun h => absurd (by omega) HNO.out, fun _ => ⟨rfl, HZ.below⟩⟩

set_option maxRecDepth 100000 in
set_option maxHeartbeats 2000000 in
theorem refFill_6 (h : Int) (a : UInt8) (c o d m : Int) (b : UInt8) (w : World) :
    Calls Try.prog 45 #[.agg #[.int .u8 6, .int .i64 h, .int .u8 (a.toNat : Int), .int .i64 c, .int .i64 o, .int .i64 d, .int .i64 m], .int .u8 (b.toNat : Int)] w (FillP 6 h 0 0 0 0 0 b w) := by
  have H0 := St.start_lay w []
  go_enter Try.func45, Try.ntmps45
  go_wp2_with fail
  refine absorb_calls (H0.allocAt 0 rfl w.heap.size rfl _ _ |>.push_mk rfl |>.allocAt 1 rfl (w.heap.size + 1) (by simp) _ _ |>.push_mk rfl) ?_
  intro w1 H
  generalize w.heap.size + 1 = gR at H ⊢
  generalize hga : w.heap.size = gA at H ⊢
  clear hga H0
  refine (refU_6 w1).mono ?_
  rintro e w2 ⟨rfl, hb2⟩
  replace H := H.call hb2
  clear hb2
  have a0 := H.cell 0 rfl (o := 0) rfl
  have a1 := H.cell 0 rfl (o := 1) rfl
  have a2 := H.cell 0 rfl (o := 2) rfl
  have a3 := H.cell 0 rfl (o := 3) rfl
  have a4 := H.cell 0 rfl (o := 4) rfl
  have a5 := H.cell 0 rfl (o := 5) rfl
  have a6 := H.cell 0 rfl (o := 6) rfl
  have lA := H.lt 0 rfl
  have lR := H.lt 1 rfl
  have r0 := H.cell 1 rfl (o := 0) rfl
  have f0 := H.free 1 rfl 0
  have r1 := H.cell 1 rfl (o := 1) rfl
  have f1 := H.free 1 rfl 1
  have r2 := H.cell 1 rfl (o := 2) rfl
  have f2 := H.free 1 rfl 2
  have r3 := H.cell 1 rfl (o := 3) rfl
  have f3 := H.free 1 rfl 3
  have r4 := H.cell 1 rfl (o := 4) rfl
  have f4 := H.free 1 rfl 4
  have r5 := H.cell 1 rfl (o := 5) rfl
  have f5 := H.free 1 rfl 5
  have r6 := H.cell 1 rfl (o := 6) rfl
  have f6 := H.free 1 rfl 6
  have n01 := H.ne 0 1 rfl rfl (by omega)
  go_wp2_with fail
  have HS := ((((((((((((((H.store 1 rfl (o := 0) (u := .int .u8 6)).upd_mk (by simp)).store 1 rfl (o := 1) (u := .int .i64 h)).upd_mk (by simp)).store 1 rfl (o := 2) (u := .int .u8 0)).upd_mk (by simp)).store 1 rfl (o := 3) (u := .int .i64 0)).upd_mk (by simp)).store 1 rfl (o := 4) (u := .int .i64 0)).upd_mk (by simp)).store 1 rfl (o := 5) (u := .slice none 0 0)).upd_mk (by simp)).store 1 rfl (o := 6) (u := .slice none 0 0)).upd_mk (by simp))
  have HZ := (HS.allocAt 2 rfl w2.heap.size (by simp [World.setCell]) #[.bool true, .bool false, .bool false, .bool false, .bool false, .bool false] 81 |>.push_mk rfl).allocAt 3 rfl (w2.heap.size + 1) (by simp [World.setCell]) #[.int .u8 6, .int .i64 h, .int .u8 0, .int .i64 0, .int .i64 0, .slice none 0 0, .slice none 0 0] 31 |>.push_mk rfl
  refine bodyPost_ret (results_cell1 rfl _ _ gR 31 #[.int .u8 6, .int .i64 h, .int .u8 0, .int .i64 0, .int .i64 0, .slice none 0 0, .slice none 0 0] _ _ rfl (HZ.blk 1 rfl) Try.underlying31 rfl op_size) rfl ?_
  exact ⟨fun _ => ⟨.slice none 0 0, .slice none 0 0, rfl, (((St.start_lay w []).call HZ.below).nilRow 0 rfl _ _).push_mk rfl |>.nilRow 1 rfl _ _ |>.push_mk rfl⟩, fun hno => absurd (by omega) hno⟩

set_option maxRecDepth 100000 in
set_option maxHeartbeats 2000000 in
theorem refFill_7 (h : Int) (a : UInt8) (c o d m : Int) (b : UInt8) (w : World) :
    Calls Try.prog 45 #[.agg #[.int .u8 7, .int .i64 h, .int .u8 (a.toNat : Int), .int .i64 c, .int .i64 o, .int .i64 d, .int .i64 m], .int .u8 (b.toNat : Int)] w (FillP 7 h a 0 o d m b w) := by
  have H0 := St.start_lay w []
  go_enter Try.func45, Try.ntmps45
  go_wp2_with fail
  refine absorb_calls (H0.allocAt 0 rfl w.heap.size rfl _ _ |>.push_mk rfl |>.allocAt 1 rfl (w.heap.size + 1) (by simp) _ _ |>.push_mk rfl) ?_
  intro w1 H
  generalize w.heap.size + 1 = gR at H ⊢
  generalize hga : w.heap.size = gA at H ⊢
  clear hga H0
  refine (refU_7 w1).mono ?_
  rintro e w2 ⟨rfl, hb2⟩
  replace H := H.call hb2
  clear hb2
  have a0 := H.cell 0 rfl (o := 0) rfl
  have a1 := H.cell 0 rfl (o := 1) rfl
  have a2 := H.cell 0 rfl (o := 2) rfl
  have a3 := H.cell 0 rfl (o := 3) rfl
  have a4 := H.cell 0 rfl (o := 4) rfl
  have a5 := H.cell 0 rfl (o := 5) rfl
  have a6 := H.cell 0 rfl (o := 6) rfl
  have lA := H.lt 0 rfl
  have lR := H.lt 1 rfl
  by_cases hok : 0 ≤ d ∧ d ≤ 16777215 ∧ 0 ≤ m ∧ m ≤ 16777215
  · obtain ⟨d1, d2, m1, m2⟩ := hok
    go_wp2_with fail
    refine absorb_calls (H.allocAt 2 rfl w2.heap.size rfl _ _ |>.push_mk rfl |>.allocAt 3 rfl (w2.heap.size + 1) (by simp) _ _ |>.push_mk rfl) ?_
    clear a0 a1 a2 a3 a4 a5 a6 lA lR H
    intro w3 H
    generalize w2.heap.size + 1 = gT at H ⊢
    generalize w2.heap.size = gU at H ⊢
    refine (many_s d.toNat b w3 (by omega) (by omega)).mono ?_
    rintro e w4 ⟨v5, rfl, ho5, hb5⟩
    obtain ⟨A5, n5, c5, rfl, hn5, -⟩ := ho5.shape
    replace H := (H.pushOwnB 4 rfl ho5 hb5).push_mk rfl
    clear ho5 hb5
    have x5 := H.cell 3 rfl (o := 5) rfl
    have y5 := H.free 3 rfl 5
    have z6 := H.cell 0 rfl (o := 6) rfl
    have u5 := H.cell 2 rfl (o := 5) rfl
    have n30 := H.ne 3 0 rfl rfl (by omega)
    have n32 := H.ne 3 2 rfl rfl (by omega)
    go_wp2_with fail
    replace H := (H.store 3 rfl (o := 5) (u := .slice A5 n5 c5)).upd_mk (by simp)
    refine (many_s m.toNat b _ (by omega) (by omega)).mono ?_
    rintro e w5 ⟨v6, rfl, ho6, hb6⟩
    obtain ⟨A6, n6, c6, rfl, hn6, -⟩ := ho6.shape
    replace H := (H.pushOwnB 5 rfl ho6 hb6).push_mk rfl
    clear ho6 hb6 x5 y5 z6 u5
    have x6 := H.cell 3 rfl (o := 6) rfl
    have y6 := H.free 3 rfl 6
    have HX := (H.store 3 rfl (o := 6) (u := .slice A6 n6 c6)).upd_mk (by simp)
    have hb := HX.blk 3 rfl
    have ht := HX.there 1 rfl
    go_wp2_with (first | (refine wpList_load_row rfl 31 (.tmp 7) rfl gT rfl _ _ _ _ hb Try.underlying31 rfl op_size ?_) | (refine wpList_store_mid rfl 31 (.tmp 4) (.tmp 75) rfl gR 0 (List.toArray [.int .u8 7, .int .i64 h, .int .u8 (a.toNat : Int), .int .i64 0, .int .i64 o, .slice A5 n5 c5, .slice A6 n6 c6]) rfl rfl ht op_size (all_oneCell_toArray (by simp [Value.oneCell'])) ?_))
    have HZ := (HX.storeAll 1 rfl (vs := [.int .u8 7, .int .i64 h, .int .u8 (a.toNat : Int), .int .i64 0, .int .i64 o, .slice A5 n5 c5, .slice A6 n6 c6]) rfl).upd_mk (by simp)
    refine bodyPost_ret (results_cell1 rfl _ _ gR 31 _ _ _ rfl (HZ.blk 1 rfl) Try.underlying31 rfl op_size) rfl ?_
    refine ⟨fun _ => ⟨.slice A5 n5 c5, .slice A6 n6 c6, rfl, ?_⟩, fun hno => absurd (by omega) hno⟩
    exact (HZ.shape_row 4 rfl (n' := d.toNat) (xs' := (List.replicate d.toNat b).map vb) (by simp) rfl).shape_row 5 rfl (n' := m.toNat) (xs' := (List.replicate m.toNat b).map vb) (by simp) rfl |>.perm [4, 5] 2 rfl (by decide) (by intro i hi; match i with | 0 => rfl | 1 => rfl | i + 2 => omega)
  · have hc : d < 0 ∨ (0 ≤ d ∧ 16777215 < d) ∨ (0 ≤ d ∧ d ≤ 16777215 ∧ m < 0) ∨ (0 ≤ d ∧ d ≤ 16777215 ∧ 0 ≤ m ∧ 16777215 < m) := by omega
    have HNO := Lib.hid hok
    clear hok
    rcases hc with hc | ⟨hc1, hc2⟩ | ⟨hc1, hc2, hc3⟩ | ⟨hc1, hc2, hc3, hc4⟩
    all_goals have r0 := H.cell 1 rfl (o := 0) rfl
    all_goals have f0 := H.free 1 rfl 0
    all_goals have r1 := H.cell 1 rfl (o := 1) rfl
    all_goals have f1 := H.free 1 rfl 1
    all_goals have r2 := H.cell 1 rfl (o := 2) rfl
    all_goals have f2 := H.free 1 rfl 2
    all_goals have r3 := H.cell 1 rfl (o := 3) rfl
    all_goals have f3 := H.free 1 rfl 3
    all_goals have r4 := H.cell 1 rfl (o := 4) rfl
    all_goals have f4 := H.free 1 rfl 4
    all_goals have r5 := H.cell 1 rfl (o := 5) rfl
    all_goals have f5 := H.free 1 rfl 5
    all_goals have r6 := H.cell 1 rfl (o := 6) rfl
    all_goals have f6 := H.free 1 rfl 6
    all_goals have n01 := H.ne 0 1 rfl rfl (by omega)
    all_goals
      go_wp2_with fail
      have HS := ((((((((((((((H.store 1 rfl (o := 0) (u := .int .u8 0)).upd_mk (by simp)).store 1 rfl (o := 1) (u := .int .i64 0)).upd_mk (by simp)).store 1 rfl (o := 2) (u := .int .u8 0)).upd_mk (by simp)).store 1 rfl (o := 3) (u := .int .i64 0)).upd_mk (by simp)).store 1 rfl (o := 4) (u := .int .i64 0)).upd_mk (by simp)).store 1 rfl (o := 5) (u := .slice none 0 0)).upd_mk (by simp)).store 1 rfl (o := 6) (u := .slice none 0 0)).upd_mk (by simp))
      have HZ := (HS.allocAt 2 rfl w2.heap.size (by simp [World.setCell]) #[.bool true, .bool true, .bool false, .bool true, .bool true, .bool true] 81).push_mk rfl
      refine bodyPost_ret (results_cell1 rfl _ _ gR 31 #[.int .u8 0, .int .i64 0, .int .u8 0, .int .i64 0, .int .i64 0, .slice none 0 0, .slice none 0 0] _ _ rfl (HZ.blk 1 rfl) Try.underlying31 rfl op_size) rfl ?_
      exact ⟨fun h => absurd (by omega) HNO.out, fun _ => ⟨rfl, HZ.below⟩⟩

set_option maxRecDepth 100000 in
set_option maxHeartbeats 2000000 in
theorem refFill_8 (h : Int) (a : UInt8) (c o d m : Int) (b : UInt8) (w : World) :
    Calls Try.prog 45 #[.agg #[.int .u8 8, .int .i64 h, .int .u8 (a.toNat : Int), .int .i64 c, .int .i64 o, .int .i64 d, .int .i64 m], .int .u8 (b.toNat : Int)] w (FillP 8 h a c o d 0 b w) := by
  have H0 := St.start_lay w []
  go_enter Try.func45, Try.ntmps45
  go_wp2_with fail
  refine absorb_calls (H0.allocAt 0 rfl w.heap.size rfl _ _ |>.push_mk rfl |>.allocAt 1 rfl (w.heap.size + 1) (by simp) _ _ |>.push_mk rfl) ?_
  intro w1 H
  generalize w.heap.size + 1 = gR at H ⊢
  generalize hga : w.heap.size = gA at H ⊢
  clear hga H0
  refine (refU_8 w1).mono ?_
  rintro e w2 ⟨rfl, hb2⟩
  replace H := H.call hb2
  clear hb2
  have a0 := H.cell 0 rfl (o := 0) rfl
  have a1 := H.cell 0 rfl (o := 1) rfl
  have a2 := H.cell 0 rfl (o := 2) rfl
  have a3 := H.cell 0 rfl (o := 3) rfl
  have a4 := H.cell 0 rfl (o := 4) rfl
  have a5 := H.cell 0 rfl (o := 5) rfl
  have a6 := H.cell 0 rfl (o := 6) rfl
  have lA := H.lt 0 rfl
  have lR := H.lt 1 rfl
  by_cases hok : 0 ≤ d ∧ d ≤ 16777215
  · obtain ⟨d1, d2⟩ := hok
    go_wp2_with fail
    refine absorb_calls (H.allocAt 2 rfl w2.heap.size rfl _ _ |>.push_mk rfl |>.allocAt 3 rfl (w2.heap.size + 1) (by simp) _ _ |>.push_mk rfl) ?_
    clear a0 a1 a2 a3 a4 a5 a6 lA lR H
    intro w3 H
    generalize w2.heap.size + 1 = gT at H ⊢
    generalize w2.heap.size = gU at H ⊢
    refine (many_s d.toNat b w3 (by omega) (by omega)).mono ?_
    rintro e w4 ⟨v5, rfl, ho5, hb5⟩
    obtain ⟨A5, n5, c5, rfl, hn5, -⟩ := ho5.shape
    replace H := (H.pushOwnB 4 rfl ho5 hb5).push_mk rfl
    clear ho5 hb5
    have x5 := H.cell 3 rfl (o := 5) rfl
    have y5 := H.free 3 rfl 5
    have u5 := H.cell 2 rfl (o := 5) rfl
    have n32 := H.ne 3 2 rfl rfl (by omega)
    have HX := (H.store 3 rfl (o := 5) (u := .slice A5 n5 c5)).upd_mk (by simp)
    have hb := HX.blk 3 rfl
    have ht := HX.there 1 rfl
    go_wp2_with (first | (refine wpList_load_row rfl 31 (.tmp 7) rfl gT rfl _ _ _ _ hb Try.underlying31 rfl op_size ?_) | (refine wpList_store_mid rfl 31 (.tmp 4) (.tmp 75) rfl gR 0 (List.toArray [.int .u8 8, .int .i64 h, .int .u8 (a.toNat : Int), .int .i64 c, .int .i64 o, .slice A5 n5 c5, .slice none 0 0]) rfl rfl ht op_size (all_oneCell_toArray (by simp [Value.oneCell'])) ?_))
    have HZ := (HX.storeAll 1 rfl (vs := [.int .u8 8, .int .i64 h, .int .u8 (a.toNat : Int), .int .i64 c, .int .i64 o, .slice A5 n5 c5, .slice none 0 0]) rfl).upd_mk (by simp)
    refine bodyPost_ret (results_cell1 rfl _ _ gR 31 _ _ _ rfl (HZ.blk 1 rfl) Try.underlying31 rfl op_size) rfl ?_
    refine ⟨fun _ => ⟨.slice A5 n5 c5, .slice none 0 0, rfl, ?_⟩, fun hno => absurd (by omega) hno⟩
    exact (((HZ.shape_row 4 rfl (n' := d.toNat) (xs' := (List.replicate d.toNat b).map vb) (by simp) rfl).nilRow 5 rfl 5 1).push_mk rfl).perm [4, 5] 2 rfl (by decide) (by intro i hi; match i with | 0 => rfl | 1 => rfl | i + 2 => omega)
  · have hc : d < 0 ∨ (0 ≤ d ∧ 16777215 < d) := by omega
    have HNO := Lib.hid hok
    clear hok
    rcases hc with hc | ⟨hc1, hc2⟩
    all_goals have r0 := H.cell 1 rfl (o := 0) rfl
    all_goals have f0 := H.free 1 rfl 0
    all_goals have r1 := H.cell 1 rfl (o := 1) rfl
    all_goals have f1 := H.free 1 rfl 1
    all_goals have r2 := H.cell 1 rfl (o := 2) rfl
    all_goals have f2 := H.free 1 rfl 2
    all_goals have r3 := H.cell 1 rfl (o := 3) rfl
    all_goals have f3 := H.free 1 rfl 3
    all_goals have r4 := H.cell 1 rfl (o := 4) rfl
    all_goals have f4 := H.free 1 rfl 4
    all_goals have r5 := H.cell 1 rfl (o := 5) rfl
    all_goals have f5 := H.free 1 rfl 5
    all_goals have r6 := H.cell 1 rfl (o := 6) rfl
    all_goals have f6 := H.free 1 rfl 6
    all_goals have n01 := H.ne 0 1 rfl rfl (by omega)
    all_goals
      go_wp2_with fail
      have HS := ((((((((((((((H.store 1 rfl (o := 0) (u := .int .u8 0)).upd_mk (by simp)).store 1 rfl (o := 1) (u := .int .i64 0)).upd_mk (by simp)).store 1 rfl (o := 2) (u := .int .u8 0)).upd_mk (by simp)).store 1 rfl (o := 3) (u := .int .i64 0)).upd_mk (by simp)).store 1 rfl (o := 4) (u := .int .i64 0)).upd_mk (by simp)).store 1 rfl (o := 5) (u := .slice none 0 0)).upd_mk (by simp)).store 1 rfl (o := 6) (u := .slice none 0 0)).upd_mk (by simp))
      have HZ := (HS.allocAt 2 rfl w2.heap.size (by simp [World.setCell]) #[.bool true, .bool true, .bool true, .bool true, .bool true, .bool false] 81).push_mk rfl
      refine bodyPost_ret (results_cell1 rfl _ _ gR 31 #[.int .u8 0, .int .i64 0, .int .u8 0, .int .i64 0, .int .i64 0, .slice none 0 0, .slice none 0 0] _ _ rfl (HZ.blk 1 rfl) Try.underlying31 rfl op_size) rfl ?_
      exact ⟨fun h => absurd (by omega) HNO.out, fun _ => ⟨rfl, HZ.below⟩⟩

set_option maxRecDepth 100000 in
set_option maxHeartbeats 2000000 in
theorem refFill_9 (h : Int) (a : UInt8) (c o d m : Int) (b : UInt8) (w : World) :
    Calls Try.prog 45 #[.agg #[.int .u8 9, .int .i64 h, .int .u8 (a.toNat : Int), .int .i64 c, .int .i64 o, .int .i64 d, .int .i64 m], .int .u8 (b.toNat : Int)] w (FillP 9 h 0 0 0 0 0 b w) := by
  have H0 := St.start_lay w []
  go_enter Try.func45, Try.ntmps45
  go_wp2_with fail
  refine absorb_calls (H0.allocAt 0 rfl w.heap.size rfl _ _ |>.push_mk rfl |>.allocAt 1 rfl (w.heap.size + 1) (by simp) _ _ |>.push_mk rfl) ?_
  intro w1 H
  generalize w.heap.size + 1 = gR at H ⊢
  generalize hga : w.heap.size = gA at H ⊢
  clear hga H0
  refine (refU_9 w1).mono ?_
  rintro e w2 ⟨rfl, hb2⟩
  replace H := H.call hb2
  clear hb2
  have a0 := H.cell 0 rfl (o := 0) rfl
  have a1 := H.cell 0 rfl (o := 1) rfl
  have a2 := H.cell 0 rfl (o := 2) rfl
  have a3 := H.cell 0 rfl (o := 3) rfl
  have a4 := H.cell 0 rfl (o := 4) rfl
  have a5 := H.cell 0 rfl (o := 5) rfl
  have a6 := H.cell 0 rfl (o := 6) rfl
  have lA := H.lt 0 rfl
  have lR := H.lt 1 rfl
  have r0 := H.cell 1 rfl (o := 0) rfl
  have f0 := H.free 1 rfl 0
  have r1 := H.cell 1 rfl (o := 1) rfl
  have f1 := H.free 1 rfl 1
  have r2 := H.cell 1 rfl (o := 2) rfl
  have f2 := H.free 1 rfl 2
  have r3 := H.cell 1 rfl (o := 3) rfl
  have f3 := H.free 1 rfl 3
  have r4 := H.cell 1 rfl (o := 4) rfl
  have f4 := H.free 1 rfl 4
  have r5 := H.cell 1 rfl (o := 5) rfl
  have f5 := H.free 1 rfl 5
  have r6 := H.cell 1 rfl (o := 6) rfl
  have f6 := H.free 1 rfl 6
  have n01 := H.ne 0 1 rfl rfl (by omega)
  go_wp2_with fail
  have HS := ((((((((((((((H.store 1 rfl (o := 0) (u := .int .u8 9)).upd_mk (by simp)).store 1 rfl (o := 1) (u := .int .i64 h)).upd_mk (by simp)).store 1 rfl (o := 2) (u := .int .u8 0)).upd_mk (by simp)).store 1 rfl (o := 3) (u := .int .i64 0)).upd_mk (by simp)).store 1 rfl (o := 4) (u := .int .i64 0)).upd_mk (by simp)).store 1 rfl (o := 5) (u := .slice none 0 0)).upd_mk (by simp)).store 1 rfl (o := 6) (u := .slice none 0 0)).upd_mk (by simp))
  have HZ := (HS.allocAt 2 rfl w2.heap.size (by simp [World.setCell]) #[.bool true, .bool false, .bool false, .bool false, .bool false, .bool false] 81 |>.push_mk rfl).allocAt 3 rfl (w2.heap.size + 1) (by simp [World.setCell]) #[.int .u8 9, .int .i64 h, .int .u8 0, .int .i64 0, .int .i64 0, .slice none 0 0, .slice none 0 0] 31 |>.push_mk rfl
  refine bodyPost_ret (results_cell1 rfl _ _ gR 31 #[.int .u8 9, .int .i64 h, .int .u8 0, .int .i64 0, .int .i64 0, .slice none 0 0, .slice none 0 0] _ _ rfl (HZ.blk 1 rfl) Try.underlying31 rfl op_size) rfl ?_
  exact ⟨fun _ => ⟨.slice none 0 0, .slice none 0 0, rfl, (((St.start_lay w []).call HZ.below).nilRow 0 rfl _ _).push_mk rfl |>.nilRow 1 rfl _ _ |>.push_mk rfl⟩, fun hno => absurd (by omega) hno⟩

set_option maxRecDepth 100000 in
set_option maxHeartbeats 2000000 in
theorem refFill_10 (h : Int) (a : UInt8) (c o d m : Int) (b : UInt8) (w : World) :
    Calls Try.prog 45 #[.agg #[.int .u8 10, .int .i64 h, .int .u8 (a.toNat : Int), .int .i64 c, .int .i64 o, .int .i64 d, .int .i64 m], .int .u8 (b.toNat : Int)] w (FillP 10 h 0 0 0 0 0 b w) := by
  have H0 := St.start_lay w []
  go_enter Try.func45, Try.ntmps45
  go_wp2_with fail
  refine absorb_calls (H0.allocAt 0 rfl w.heap.size rfl _ _ |>.push_mk rfl |>.allocAt 1 rfl (w.heap.size + 1) (by simp) _ _ |>.push_mk rfl) ?_
  intro w1 H
  generalize w.heap.size + 1 = gR at H ⊢
  generalize hga : w.heap.size = gA at H ⊢
  clear hga H0
  refine (refU_10 w1).mono ?_
  rintro e w2 ⟨rfl, hb2⟩
  replace H := H.call hb2
  clear hb2
  have a0 := H.cell 0 rfl (o := 0) rfl
  have a1 := H.cell 0 rfl (o := 1) rfl
  have a2 := H.cell 0 rfl (o := 2) rfl
  have a3 := H.cell 0 rfl (o := 3) rfl
  have a4 := H.cell 0 rfl (o := 4) rfl
  have a5 := H.cell 0 rfl (o := 5) rfl
  have a6 := H.cell 0 rfl (o := 6) rfl
  have lA := H.lt 0 rfl
  have lR := H.lt 1 rfl
  have r0 := H.cell 1 rfl (o := 0) rfl
  have f0 := H.free 1 rfl 0
  have r1 := H.cell 1 rfl (o := 1) rfl
  have f1 := H.free 1 rfl 1
  have r2 := H.cell 1 rfl (o := 2) rfl
  have f2 := H.free 1 rfl 2
  have r3 := H.cell 1 rfl (o := 3) rfl
  have f3 := H.free 1 rfl 3
  have r4 := H.cell 1 rfl (o := 4) rfl
  have f4 := H.free 1 rfl 4
  have r5 := H.cell 1 rfl (o := 5) rfl
  have f5 := H.free 1 rfl 5
  have r6 := H.cell 1 rfl (o := 6) rfl
  have f6 := H.free 1 rfl 6
  have n01 := H.ne 0 1 rfl rfl (by omega)
  go_wp2_with fail
  have HS := ((((((((((((((H.store 1 rfl (o := 0) (u := .int .u8 10)).upd_mk (by simp)).store 1 rfl (o := 1) (u := .int .i64 h)).upd_mk (by simp)).store 1 rfl (o := 2) (u := .int .u8 0)).upd_mk (by simp)).store 1 rfl (o := 3) (u := .int .i64 0)).upd_mk (by simp)).store 1 rfl (o := 4) (u := .int .i64 0)).upd_mk (by simp)).store 1 rfl (o := 5) (u := .slice none 0 0)).upd_mk (by simp)).store 1 rfl (o := 6) (u := .slice none 0 0)).upd_mk (by simp))
  have HZ := (HS.allocAt 2 rfl w2.heap.size (by simp [World.setCell]) #[.bool true, .bool false, .bool false, .bool false, .bool false, .bool false] 81 |>.push_mk rfl).allocAt 3 rfl (w2.heap.size + 1) (by simp [World.setCell]) #[.int .u8 10, .int .i64 h, .int .u8 0, .int .i64 0, .int .i64 0, .slice none 0 0, .slice none 0 0] 31 |>.push_mk rfl
  refine bodyPost_ret (results_cell1 rfl _ _ gR 31 #[.int .u8 10, .int .i64 h, .int .u8 0, .int .i64 0, .int .i64 0, .slice none 0 0, .slice none 0 0] _ _ rfl (HZ.blk 1 rfl) Try.underlying31 rfl op_size) rfl ?_
  exact ⟨fun _ => ⟨.slice none 0 0, .slice none 0 0, rfl, (((St.start_lay w []).call HZ.below).nilRow 0 rfl _ _).push_mk rfl |>.nilRow 1 rfl _ _ |>.push_mk rfl⟩, fun hno => absurd (by omega) hno⟩

set_option maxRecDepth 100000 in
set_option maxHeartbeats 2000000 in
theorem refFill_no (k : UInt8) (h : Int) (a : UInt8) (c o d m : Int) (b : UInt8) (w : World) (h1 : k ≠ 1) (h2 : k ≠ 2) (h3 : k ≠ 3) (h4 : k ≠ 4) (h5 : k ≠ 5) (h6 : k ≠ 6) (h7 : k ≠ 7) (h8 : k ≠ 8) (h9 : k ≠ 9) (h10 : k ≠ 10) :
    Calls Try.prog 45 #[.agg #[.int .u8 (k.toNat : Int), .int .i64 h, .int .u8 (a.toNat : Int), .int .i64 c, .int .i64 o, .int .i64 d, .int .i64 m], .int .u8 (b.toNat : Int)] w (FillP k 0 0 0 0 0 0 b w) := by
  have H0 := St.start_lay w []
  go_enter Try.func45, Try.ntmps45
  go_wp2_with fail
  refine absorb_calls (H0.allocAt 0 rfl w.heap.size rfl _ _ |>.push_mk rfl |>.allocAt 1 rfl (w.heap.size + 1) (by simp) _ _ |>.push_mk rfl) ?_
  intro w1 H
  generalize w.heap.size + 1 = gR at H ⊢
  generalize hga : w.heap.size = gA at H ⊢
  clear hga H0
  refine (refU_no k w1 h1 h2 h3 h4 h5 h6 h7 h8 h9 h10).mono ?_
  rintro e w2 ⟨rfl, hb2⟩
  replace H := H.call hb2
  clear hb2 h1 h2 h3 h4 h5 h6 h7 h8 h9 h10
  have a0 := H.cell 0 rfl (o := 0) rfl
  have a1 := H.cell 0 rfl (o := 1) rfl
  have a2 := H.cell 0 rfl (o := 2) rfl
  have a3 := H.cell 0 rfl (o := 3) rfl
  have a4 := H.cell 0 rfl (o := 4) rfl
  have a5 := H.cell 0 rfl (o := 5) rfl
  have a6 := H.cell 0 rfl (o := 6) rfl
  have lA := H.lt 0 rfl
  have lR := H.lt 1 rfl
  have r0 := H.cell 1 rfl (o := 0) rfl
  have f0 := H.free 1 rfl 0
  have r1 := H.cell 1 rfl (o := 1) rfl
  have f1 := H.free 1 rfl 1
  have r2 := H.cell 1 rfl (o := 2) rfl
  have f2 := H.free 1 rfl 2
  have r3 := H.cell 1 rfl (o := 3) rfl
  have f3 := H.free 1 rfl 3
  have r4 := H.cell 1 rfl (o := 4) rfl
  have f4 := H.free 1 rfl 4
  have r5 := H.cell 1 rfl (o := 5) rfl
  have f5 := H.free 1 rfl 5
  have r6 := H.cell 1 rfl (o := 6) rfl
  have f6 := H.free 1 rfl 6
  have n01 := H.ne 0 1 rfl rfl (by omega)
  go_wp2_with fail
  have HS := ((((((((((((((H.store 1 rfl (o := 0) (u := .int .u8 (k.toNat : Int))).upd_mk (by simp)).store 1 rfl (o := 1) (u := .int .i64 0)).upd_mk (by simp)).store 1 rfl (o := 2) (u := .int .u8 0)).upd_mk (by simp)).store 1 rfl (o := 3) (u := .int .i64 0)).upd_mk (by simp)).store 1 rfl (o := 4) (u := .int .i64 0)).upd_mk (by simp)).store 1 rfl (o := 5) (u := .slice none 0 0)).upd_mk (by simp)).store 1 rfl (o := 6) (u := .slice none 0 0)).upd_mk (by simp))
  have HZ := (HS.allocAt 2 rfl w2.heap.size (by simp [World.setCell]) #[.bool false, .bool false, .bool false, .bool false, .bool false, .bool false] 81 |>.push_mk rfl).allocAt 3 rfl (w2.heap.size + 1) (by simp [World.setCell]) #[.int .u8 (k.toNat : Int), .int .i64 0, .int .u8 0, .int .i64 0, .int .i64 0, .slice none 0 0, .slice none 0 0] 31 |>.push_mk rfl
  refine bodyPost_ret (results_cell1 rfl _ _ gR 31 #[.int .u8 (k.toNat : Int), .int .i64 0, .int .u8 0, .int .i64 0, .int .i64 0, .slice none 0 0, .slice none 0 0] _ _ rfl (HZ.blk 1 rfl) Try.underlying31 rfl op_size) rfl ?_
  exact ⟨fun _ => ⟨.slice none 0 0, .slice none 0 0, rfl, (((St.start_lay w []).call HZ.below).nilRow 0 rfl _ _).push_mk rfl |>.nilRow 1 rfl _ _ |>.push_mk rfl⟩, fun hno => absurd (by omega) hno⟩
end Go.Proofs.Ytgfhnbjpdhdhgaa
