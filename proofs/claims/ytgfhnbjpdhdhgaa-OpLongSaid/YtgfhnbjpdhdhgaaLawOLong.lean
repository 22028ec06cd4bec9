/- The law OpLong, walked. -/
import Derived.Test.YtgfhnbjpdhdhgaaLawOReads
import Derived.Test.YtgfhnbjpdhdhgaaOpB
namespace Go.Proofs.Ytgfhnbjpdhdhgaa
open Go.RowKit
set_option linter.unusedVariables false

theorem made_bytes {w : World} {base g n : Nat} (h : w.ownsRow base 5 1 (.slice (some ⟨g, 0, none⟩) n n) n (madeCells (Value.int .u8 0).cells (n * 1)).toList) : ∃ Z : List UInt8, Hid (Z.length = n) ∧ w.ownsRow base 5 1 (.slice (some ⟨g, 0, none⟩) n n) n (Z.map vb) := by
  refine ⟨List.replicate n 0, List.length_replicate, ?_⟩
  rw [List.map_replicate]
  rw [show (Value.int .u8 0).cells = #[.int .u8 0] from rfl, toList_madeCells_one, Nat.mul_one] at h
  exact h
theorem long_d (A : Option Addr) (n c : Nat) (w : World) (h : 16777215 < n) : Calls Try.prog 29 #[.agg #[.int .u8 0, .int .i64 0, .int .u8 0, .int .i64 0, .int .i64 0, .slice A n c, .slice none 0 0]] w fun e w' => e = .returned (.tuple #[.slice none 0 0, .int .i64 9]) ∧ Below w.heap.size w w' :=
  encode_long 0 0 0 0 0 A n c none 0 0 w (.inl h)
theorem long_m (A : Option Addr) (n c : Nat) (w : World) (h : 16777215 < n) : Calls Try.prog 29 #[.agg #[.int .u8 0, .int .i64 0, .int .u8 0, .int .i64 0, .int .i64 0, .slice none 0 0, .slice A n c]] w fun e w' => e = .returned (.tuple #[.slice none 0 0, .int .i64 9]) ∧ Below w.heap.size w w' :=
  encode_long 0 0 0 0 0 none 0 0 A n c w (.inr h)
/-- what the law needs to know of the bytes -/
theorem seven (A B : Option Addr) (n c m d : Nat) (xs ys : List UInt8) (w : World) (hd : Rd w 1 A n (xs.map vb)) (hm : Rd w 1 B m (ys.map vb)) (hn : n ≤ 16777215) (hn' : m ≤ 16777215) (N : Nat) (hN : 32 + n + m = N) : Calls Try.prog 29 #[.agg #[.int .u8 7, .int .i64 0, .int .u8 0, .int .i64 0, .int .i64 0, .slice A n c, .slice B m d]] w fun e w' =>
    ∃ v L, e = .returned (.tuple #[v, .int .i64 0]) ∧ w'.ownsRow w.heap.size 5 1 v N (L.map vb) ∧ Below w.heap.size w w' ∧ Hid (decR L = ⟨7, 0, 0, 0, 0, xs, ys, N, 0⟩) := by
  have hlx : xs.length = n := by simpa using hd.1
  have hly : ys.length = m := by simpa using hm.1
  refine (encode_s 7 0 0 0 0 A n c B m d xs ys w hd hm hn hn').mono ?_
  rintro e w' ⟨v, rfl, ho, hb⟩
  have hl : (encB 7 0 0 0 0 xs ys).length = N := by rw [encB_length]; omega
  refine ⟨v, encB 7 0 0 0 0 xs ys, rfl, ?_, hb, ?_⟩
  · unfold OwnB at ho; rwa [hl] at ho
  · unfold Hid
    rw [dec_enc 7 0 0 0 0 xs ys (by omega) (by omega) (by omega) (by omega) (by omega), show 32 + xs.length + ys.length = N by omega]

set_option maxRecDepth 100000 in
set_option maxHeartbeats 4000000 in
theorem opLong_walk (w : World) : Calls Try.prog 5 #[] w fun e w' => e = .returned (.bool true) ∧ Below w.heap.size w w' := by
  obtain ⟨i0, hi0, hz0, hz1, hz2⟩ := info_parts u8_info
  have H := St.start_lay w []
  go_enter Try.func5, Try.ntmps5
  go_wp2_with (at_make; refine wpList_make_full _ rfl (.const (.int .i64 16777216)) (.const (.int .i64 16777216)) 25 rfl w.heap.size 5 i0 (.int .u8 0) 1 Try.underlying25 hi0 hz0 hz1 .i64 .i64 _ _ 16777216 rfl rfl (by omega) (by omega) (by rw [hz2]; omega) (by simp only [maxLen]; omega) (Nat.le_refl _) ?_; intro w1 ho1 hg1; obtain ⟨Z, LZ, ho1⟩ := made_bytes ho1; replace H := (H.pushRow 0 rfl ((Below.refl _ _).grown hg1 (Nat.le_refl _) (fun _ h => by cases h)) ho1).push_mk rfl; clear ho1 hg1; refine absorb_list H ?_; clear H; generalize w.heap.size = g0; intro w1 H)
  replace H : St w [] w1 (lay [.row 5 1 (.slice (some ⟨g0, 0, none⟩) 16777216 16777216) 16777216 (Z.map vb)]) := H
  refine (long_d _ _ _ w1 (by omega)).mono ?_
  rintro e w2 ⟨rfl, hb2⟩
  replace H := H.call hb2
  go_wp2_with fail
  refine (long_m _ _ _ w2 (by omega)).mono ?_
  rintro e w3 ⟨rfl, hb3⟩
  replace H := H.call hb3
  clear hb2 hb3
  go_wp2_with fail
  refine absorb_calls (H.lit 1 rfl 5 _ 1 rfl (by omega) w3.heap.size rfl |>.push_mk rfl) ?_
  clear H
  intro w4 H
  generalize w3.heap.size = g1 at H ⊢
  replace H : St w [] w4 (lay [.row 5 1 (.slice (some ⟨g0, 0, none⟩) 16777216 16777216) 16777216 (Z.map vb), .row 5 1 (.slice (some ⟨g1, 0, none⟩) 1 1) 1 ([(7 : UInt8)].map vb)]) := H
  obtain ⟨X, HX, LX⟩ : ∃ X, Hid (Z.take 16777215 = X) ∧ Hid (X.length = 16777215) := ⟨_, rfl, by unfold Hid; rw [List.length_take, LZ.out]; rfl⟩
  have rx := (H.rd 0 rfl).take (k := 16777215) (by omega)
  rw [HX.out] at rx
  refine (seven _ _ 16777215 _ 1 _ X [7] w4 rx (H.rd 1 rfl) (by omega) (by omega) 16777248 (by omega)).mono ?_
  rintro e w5 ⟨v2, L2, rfl, ho, hb, D2⟩
  replace H := (H.pushRow 2 rfl hb ho).push_mk rfl
  clear ho hb rx
  obtain ⟨A2, c2, rfl, hc2, hg2⟩ := row_form (H.row 2 rfl)
  replace H : St w [] w5 (lay [.row 5 1 (.slice (some ⟨g0, 0, none⟩) 16777216 16777216) 16777216 (Z.map vb), .row 5 1 (.slice (some ⟨g1, 0, none⟩) 1 1) 1 ([(7 : UInt8)].map vb), .row 5 1 (.slice A2 16777248 c2) 16777248 (L2.map vb)]) := H
  go_wp2_with fail
  refine absorb_calls (H.lit 3 rfl 5 _ 1 rfl (by omega) w5.heap.size rfl |>.push_mk rfl) ?_
  clear H
  intro w6 H
  generalize w5.heap.size = g3 at H ⊢
  replace H : St w [] w6 (lay [.row 5 1 (.slice (some ⟨g0, 0, none⟩) 16777216 16777216) 16777216 (Z.map vb), .row 5 1 (.slice (some ⟨g1, 0, none⟩) 1 1) 1 ([(7 : UInt8)].map vb), .row 5 1 (.slice A2 16777248 c2) 16777248 (L2.map vb), .row 5 1 (.slice (some ⟨g3, 0, none⟩) 1 1) 1 ([(7 : UInt8)].map vb)]) := H
  obtain ⟨Y, HY, LY⟩ : ∃ Y, Hid (fld Z 1 16777215 = Y) ∧ Hid (Y.length = 16777215) := ⟨_, rfl, by unfold Hid; rw [fld_length _ _ _ (by rw [LZ.out]; omega)]⟩
  have ry := (H.rd 0 rfl).fld 1 16777215 (by omega) rfl
  rw [HY.out] at ry
  refine (seven _ _ 1 _ 16777215 _ [7] Y w6 (H.rd 3 rfl) ry (by omega) (by omega) 16777248 (by omega)).mono ?_
  rintro e w7 ⟨v4, L4, rfl, ho, hb, D4⟩
  replace H := (H.pushRow 4 rfl hb ho).push_mk rfl
  clear ho hb ry
  obtain ⟨A4, c4, rfl, hc4, hg4⟩ := row_form (H.row 4 rfl)
  replace H : St w [] w7 (lay [.row 5 1 (.slice (some ⟨g0, 0, none⟩) 16777216 16777216) 16777216 (Z.map vb), .row 5 1 (.slice (some ⟨g1, 0, none⟩) 1 1) 1 ([(7 : UInt8)].map vb), .row 5 1 (.slice A2 16777248 c2) 16777248 (L2.map vb), .row 5 1 (.slice (some ⟨g3, 0, none⟩) 1 1) 1 ([(7 : UInt8)].map vb), .row 5 1 (.slice A4 16777248 c4) 16777248 (L4.map vb)]) := H
  go_wp2_with fail
  refine (lives_s w7).mono ?_
  rintro e w8 ⟨rfl, hb8⟩
  replace H := H.call hb8
  clear hb8
  go_wp2_with fail
  refine (decode_s _ 16777248 c2 L2 w8 (H.rd 2 rfl) hc2 (by omega)).mono ?_
  rintro e w9 ⟨v5, v6, rfl, HN⟩
  replace H := H.also HN
  clear HN
  rw [D2.out] at H ⊢
  simp only at H ⊢
  replace H := H.shape_row 5 rfl (n' := 16777215) (xs' := X.map vb) LX.out rfl
  replace H := H.shape_row 6 rfl (n' := 1) (xs' := [(7 : UInt8)].map vb) rfl rfl
  obtain ⟨A5, c5, rfl, -⟩ := row_form (H.row 5 rfl)
  obtain ⟨A6, c6, rfl, -⟩ := row_form (H.row 6 rfl)
  go_wp2_with fail
  refine absorb_calls (H.allocAt 7 rfl w9.heap.size rfl _ _ |>.push_mk rfl) ?_
  clear H
  intro wx H
  generalize w9.heap.size = g7 at H ⊢
  refine (decode_s _ 16777248 c4 L4 wx (H.rd 4 rfl) hc4 (by omega)).mono ?_
  rintro e w9 ⟨v5, v6, rfl, HN⟩
  replace H := H.also HN
  clear HN
  rw [D4.out] at H ⊢
  simp only at H ⊢
  replace H := H.shape_row 8 rfl (n' := 1) (xs' := [(7 : UInt8)].map vb) rfl rfl
  replace H := H.shape_row 9 rfl (n' := 16777215) (xs' := Y.map vb) LY.out rfl
  obtain ⟨A8, c8, rfl, -⟩ := row_form (H.row 8 rfl)
  obtain ⟨A9, c9, rfl, -⟩ := row_form (H.row 9 rfl)
  have x1 := H.cell 7 rfl (o := 5) rfl
  have x2 := H.cell 7 rfl (o := 6) rfl
  have x3 := H.lt 7 rfl
  go_wp2_with fail
  refine absorb_calls (H.allocAt 10 rfl w9.heap.size rfl _ _ |>.push_mk rfl |>.lit 11 rfl 5 _ 1 rfl (by omega) (w9.heap.size + 1) (by simp) |>.push_mk rfl) ?_
  clear H x1 x2 x3
  intro wx H
  generalize w9.heap.size + 1 = gb at H ⊢
  generalize w9.heap.size = ga at H ⊢
  refine (sameBytes_quiet _ _ 1 1 _ _ [7] [7] wx (H.rd 6 rfl) (H.rd 11 rfl) (by omega) (by omega) rfl).mono ?_
  rintro e wy ⟨rfl, q, rfl⟩
  replace H := H.drewN q
  generalize wx.drewN q = wy at H ⊢
  have x1 := H.cell 10 rfl (o := 5) rfl
  have x2 := H.cell 10 rfl (o := 6) rfl
  have x3 := H.lt 10 rfl
  go_wp2_with fail
  refine absorb_calls (H.lit 12 rfl 5 _ 1 rfl (by omega) wy.heap.size rfl |>.push_mk rfl) ?_
  clear H x1 x2 x3
  intro wx H
  generalize wy.heap.size = gc at H ⊢
  refine (sameBytes_quiet _ _ 1 1 _ _ [7] [7] wx (H.rd 8 rfl) (H.rd 12 rfl) (by omega) (by omega) rfl).mono ?_
  rintro e wz ⟨rfl, q, rfl⟩
  replace H := H.drewN q
  go_wp2_with fail
  go_ret
  exact ⟨rfl, H.below⟩
end Go.Proofs.Ytgfhnbjpdhdhgaa
