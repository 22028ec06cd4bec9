/- The law OpReads, walked. -/
import Derived.Test.YtgfhnbjpdhdhgaaOpL
namespace Go.Proofs.Ytgfhnbjpdhdhgaa
open Go.RowKit
set_option linter.unusedVariables false

theorem nD_le (l : List UInt8) (h : 32 ≤ l.length) : nD l ≤ 16777215 := by have := tk_lt (fld l 26 3); rw [fld_length _ _ _ (by omega)] at this; unfold nD; omega
theorem nM_le (l : List UInt8) (h : 32 ≤ l.length) : nM l ≤ 16777215 := by have := tk_lt (fld l 29 3); rw [fld_length _ _ _ (by omega)] at this; unfold nM; omega
theorem nextR_le (l : List UInt8) : (nextR l).d.length ≤ 16777215 ∧ (nextR l).m.length ≤ 16777215 := by
  unfold nextR
  split
  · rename_i h
    have h1 := nD_le l h.1
    have h2 := nM_le l h.1
    simp only
    rw [fld_length _ _ _ (by omega), fld_length _ _ _ (by omega)]
    exact ⟨h1, h2⟩
  · exact ⟨by simp [noNext], by simp [noNext]⟩
theorem decR_le (l : List UInt8) : (decR l).d.length ≤ 16777215 ∧ (decR l).m.length ≤ 16777215 := by
  unfold decR
  split
  · exact nextR_le l
  · exact ⟨by simp [noNext], by simp [noNext]⟩
theorem Rd.front {w : World} {A : Option Addr} {n m : Nat} {l k : List UInt8} (h : Rd w 1 A m ((l ++ k).map vb)) (hn : l.length = n) (hm : n ≤ m) : Rd w 1 A n (l.map vb) := by
  have := h.take hm
  rw [List.take_left' hn] at this
  exact this
theorem b_bne (x : Int) : (x != x) = false := by simp

set_option maxRecDepth 100000 in
set_option maxHeartbeats 4000000 in
theorem opReads_walk (A : Option Addr) (n c : Nat) (l : List UInt8) (w : World) (hR : Rd w 1 A n (l.map vb)) (hn : n ≤ 140737488351232) (hc : n ≤ c) :
    Calls Try.prog 4 #[.slice A n c] w fun e w' => e = .returned (.bool true) ∧ Below w.heap.size w w' := by
  have hl : l.length = n := by simpa using hR.1
  have HL := Lib.hid hl
  clear hl
  have H := St.start_lay w []
  go_enter Try.func4, Try.ntmps4
  go_wp2_with fail
  refine (lives_s w).mono ?_
  rintro e w1 ⟨rfl, hb1⟩
  replace H := H.call hb1
  go_wp2_with fail
  refine (lentBytes_any A n c l w1 (H.arg0 hR) (by omega)).mono ?_
  rintro e w2 ⟨v0, rfl, ho, hb2⟩
  obtain ⟨gF, cF, rfl, hcF, -, -⟩ := ho.lent HL.out
  replace H := (H.pushOwnB 0 rfl ho hb2).push_mk rfl
  have LX : Hid ((l ++ marksB 7 0 6).length = n + 6) := by unfold Hid; rw [List.length_append, marksB_length, HL.out]
  replace H := H.shape_row 0 rfl LX.out rfl
  clear ho hb1 hb2 LX
  generalize hX : l ++ marksB 7 0 6 = X at H
  have HX := Lib.hid hX
  clear hX
  replace H : St w [] w2 (lay [.row 5 1 (.slice (some ⟨gF, 0, none⟩) (n + 6) cF) (n + 6) (X.map vb)]) := H
  go_wp2_with fail
  refine (decode_s _ n cF l _ (Rd.front (k := marksB 7 0 6) (m := n + 6) (by rw [HX.out]; exact H.rd 0 rfl) HL.out (by omega)) (by omega) hn).mono ?_
  rintro e wx ⟨vD, uD, rfl, HN⟩
  replace H := H.also HN
  clear HN
  have leD := decR_le l
  obtain ⟨rD, hrD⟩ : ∃ r, decR l = r := ⟨_, rfl⟩
  rw [hrD] at H leD ⊢
  have HRD := Lib.hid hrD
  clear hrD
  obtain ⟨kD, hD, aD, cD, oD, dD, mD, ND, eD⟩ := rD
  simp only at H leD ⊢
  have LED := Lib.hid leD
  clear leD
  obtain ⟨AD, pD, rfl, -⟩ := row_form (H.row 1 rfl)
  obtain ⟨BD, qD, rfl, -⟩ := row_form (H.row 2 rfl)
  go_wp2_with fail
  refine absorb_calls (H.allocAt 3 rfl wx.heap.size rfl _ _ |>.push_mk rfl) ?_
  clear H
  intro wy H
  generalize wx.heap.size = gD at H ⊢
  replace H : St w [] wy (lay [.row 5 1 (.slice (some ⟨gF, 0, none⟩) (n + 6) cF) (n + 6) (X.map vb), .row 5 1 (.slice AD dD.length pD) dD.length (dD.map vb), .row 5 1 (.slice BD mD.length qD) mD.length (mD.map vb), .blk gD 31 [.int .u8 (kD.toNat : Int), .int .i64 hD, .int .u8 (aD.toNat : Int), .int .i64 cD, .int .i64 oD, .slice AD dD.length pD, .slice BD mD.length qD]]) := H
  refine (next_s _ n cF l _ (Rd.front (k := marksB 7 0 6) (m := n + 6) (by rw [HX.out]; exact H.rd 0 rfl) HL.out (by omega)) (by omega) hn).mono ?_
  rintro e wx ⟨vN, uN, rfl, HN⟩
  replace H := H.also HN
  clear HN
  have leN := nextR_le l
  obtain ⟨rN, hrN⟩ : ∃ r, nextR l = r := ⟨_, rfl⟩
  rw [hrN] at H leN ⊢
  have HRN := Lib.hid hrN
  clear hrN
  obtain ⟨kN, hN, aN, cN, oN, dN, mN, NN, eN⟩ := rN
  simp only at H leN ⊢
  have LEN := Lib.hid leN
  clear leN
  obtain ⟨AN, pN, rfl, -⟩ := row_form (H.row 4 rfl)
  obtain ⟨BN, qN, rfl, -⟩ := row_form (H.row 5 rfl)
  go_wp2_with fail
  refine absorb_calls (H.allocAt 6 rfl wx.heap.size rfl _ _ |>.push_mk rfl) ?_
  clear H
  intro wy H
  generalize wx.heap.size = gN at H ⊢
  replace H : St w [] wy (lay [.row 5 1 (.slice (some ⟨gF, 0, none⟩) (n + 6) cF) (n + 6) (X.map vb), .row 5 1 (.slice AD dD.length pD) dD.length (dD.map vb), .row 5 1 (.slice BD mD.length qD) mD.length (mD.map vb), .blk gD 31 [.int .u8 (kD.toNat : Int), .int .i64 hD, .int .u8 (aD.toNat : Int), .int .i64 cD, .int .i64 oD, .slice AD dD.length pD, .slice BD mD.length qD], .row 5 1 (.slice AN dN.length pN) dN.length (dN.map vb), .row 5 1 (.slice BN mN.length qN) mN.length (mN.map vb), .blk gN 31 [.int .u8 (kN.toNat : Int), .int .i64 hN, .int .u8 (aN.toNat : Int), .int .i64 cN, .int .i64 oN, .slice AN dN.length pN, .slice BN mN.length qN]]) := H
  refine (refDecode_s A n c l _ (H.arg0 hR) hc hn).mono ?_
  rintro e wx ⟨vE, uE, rfl, HN⟩
  replace H := H.also HN
  clear HN
  rw [HRD.out] at H ⊢
  simp only at H ⊢
  obtain ⟨AE, pE, rfl, -⟩ := row_form (H.row 7 rfl)
  obtain ⟨BE, qE, rfl, -⟩ := row_form (H.row 8 rfl)
  go_wp2_with fail
  refine absorb_calls (H.allocAt 9 rfl wx.heap.size rfl _ _ |>.push_mk rfl) ?_
  clear H
  intro wy H
  generalize wx.heap.size = gE at H ⊢
  replace H : St w [] wy (lay [.row 5 1 (.slice (some ⟨gF, 0, none⟩) (n + 6) cF) (n + 6) (X.map vb), .row 5 1 (.slice AD dD.length pD) dD.length (dD.map vb), .row 5 1 (.slice BD mD.length qD) mD.length (mD.map vb), .blk gD 31 [.int .u8 (kD.toNat : Int), .int .i64 hD, .int .u8 (aD.toNat : Int), .int .i64 cD, .int .i64 oD, .slice AD dD.length pD, .slice BD mD.length qD], .row 5 1 (.slice AN dN.length pN) dN.length (dN.map vb), .row 5 1 (.slice BN mN.length qN) mN.length (mN.map vb), .blk gN 31 [.int .u8 (kN.toNat : Int), .int .i64 hN, .int .u8 (aN.toNat : Int), .int .i64 cN, .int .i64 oN, .slice AN dN.length pN, .slice BN mN.length qN], .row 5 1 (.slice AE dD.length pE) dD.length (dD.map vb), .row 5 1 (.slice BE mD.length qE) mD.length (mD.map vb), .blk gE 31 [.int .u8 (kD.toNat : Int), .int .i64 hD, .int .u8 (aD.toNat : Int), .int .i64 cD, .int .i64 oD, .slice AE dD.length pE, .slice BE mD.length qE]]) := H
  refine (refNext_s A n c l _ (H.arg0 hR) hc hn).mono ?_
  rintro e wx ⟨vM, uM, rfl, HN⟩
  replace H := H.also HN
  clear HN
  rw [HRN.out] at H ⊢
  simp only at H ⊢
  obtain ⟨AM, pM, rfl, -⟩ := row_form (H.row 10 rfl)
  obtain ⟨BM, qM, rfl, -⟩ := row_form (H.row 11 rfl)
  have f1 := b_bne eD
  have f2 := b_bne eN
  have f3 := b_bne (NN : Int)
  have HA := (H.allocAt 12 rfl wx.heap.size rfl #[.int .u8 (kN.toNat : Int), .int .i64 hN, .int .u8 (aN.toNat : Int), .int .i64 cN, .int .i64 oN, .slice AM dN.length pM, .slice BM mN.length qM] 31).push_mk rfl
  replace HA : St w [] (wx.alloc (.cells #[.int .u8 (kN.toNat : Int), .int .i64 hN, .int .u8 (aN.toNat : Int), .int .i64 cN, .int .i64 oN, .slice AM dN.length pM, .slice BM mN.length qM] 31)) (lay [.row 5 1 (.slice (some ⟨gF, 0, none⟩) (n + 6) cF) (n + 6) (X.map vb), .row 5 1 (.slice AD dD.length pD) dD.length (dD.map vb), .row 5 1 (.slice BD mD.length qD) mD.length (mD.map vb), .blk gD 31 [.int .u8 (kD.toNat : Int), .int .i64 hD, .int .u8 (aD.toNat : Int), .int .i64 cD, .int .i64 oD, .slice AD dD.length pD, .slice BD mD.length qD], .row 5 1 (.slice AN dN.length pN) dN.length (dN.map vb), .row 5 1 (.slice BN mN.length qN) mN.length (mN.map vb), .blk gN 31 [.int .u8 (kN.toNat : Int), .int .i64 hN, .int .u8 (aN.toNat : Int), .int .i64 cN, .int .i64 oN, .slice AN dN.length pN, .slice BN mN.length qN], .row 5 1 (.slice AE dD.length pE) dD.length (dD.map vb), .row 5 1 (.slice BE mD.length qE) mD.length (mD.map vb), .blk gE 31 [.int .u8 (kD.toNat : Int), .int .i64 hD, .int .u8 (aD.toNat : Int), .int .i64 cD, .int .i64 oD, .slice AE dD.length pE, .slice BE mD.length qE], .row 5 1 (.slice AM dN.length pM) dN.length (dN.map vb), .row 5 1 (.slice BM mN.length qM) mN.length (mN.map vb), .blk wx.heap.size 31 [.int .u8 (kN.toNat : Int), .int .i64 hN, .int .u8 (aN.toNat : Int), .int .i64 cN, .int .i64 oN, .slice AM dN.length pM, .slice BM mN.length qM]]) := HA
  clear H
  go_wp2_with (first | (refine load_guard (by rfl) 31 (.tmp 5) rfl gD rfl _ _ _ _ (HA.blk 3 rfl) Try.underlying31 rfl op_size ?_) | (refine wpList_load_row rfl 31 (.tmp 5) rfl gD rfl _ _ _ _ (HA.blk 3 rfl) Try.underlying31 rfl op_size ?_) | (refine load_guard (by rfl) 31 (.tmp 10) rfl gE rfl _ _ _ _ (HA.blk 9 rfl) Try.underlying31 rfl op_size ?_) | (refine wpList_load_row rfl 31 (.tmp 10) rfl gE rfl _ _ _ _ (HA.blk 9 rfl) Try.underlying31 rfl op_size ?_) | (refine load_guard (by rfl) 31 (.tmp 7) rfl gN rfl _ _ _ _ (HA.blk 6 rfl) Try.underlying31 rfl op_size ?_) | (refine wpList_load_row rfl 31 (.tmp 7) rfl gN rfl _ _ _ _ (HA.blk 6 rfl) Try.underlying31 rfl op_size ?_) | (refine load_guard (by rfl) 31 (.tmp 12) rfl wx.heap.size rfl _ _ _ _ (HA.blk 12 rfl) Try.underlying31 rfl op_size ?_) | (refine wpList_load_row rfl 31 (.tmp 12) rfl wx.heap.size rfl _ _ _ _ (HA.blk 12 rfl) Try.underlying31 rfl op_size ?_))
  refine absorb_calls HA ?_
  generalize wx.heap.size = gM
  clear HA
  intro wy H
  refine (sameOp_yes kD hD aD cD oD AD BD AE BE dD.length mD.length pD qD dD.length mD.length pE qE dD mD _ (H.rd 1 rfl) (H.rd 2 rfl) (H.rd 7 rfl) (H.rd 8 rfl) (by have := LED.out; omega) (by have := LED.out; omega)).mono ?_
  rintro e wx ⟨rfl, hbx⟩
  replace H := H.call hbx
  clear hbx
  go_wp2_with (first | (refine load_guard (by rfl) 31 (.tmp 5) rfl gD rfl _ _ _ _ (H.blk 3 rfl) Try.underlying31 rfl op_size ?_) | (refine wpList_load_row rfl 31 (.tmp 5) rfl gD rfl _ _ _ _ (H.blk 3 rfl) Try.underlying31 rfl op_size ?_) | (refine load_guard (by rfl) 31 (.tmp 10) rfl gE rfl _ _ _ _ (H.blk 9 rfl) Try.underlying31 rfl op_size ?_) | (refine wpList_load_row rfl 31 (.tmp 10) rfl gE rfl _ _ _ _ (H.blk 9 rfl) Try.underlying31 rfl op_size ?_) | (refine load_guard (by rfl) 31 (.tmp 7) rfl gN rfl _ _ _ _ (H.blk 6 rfl) Try.underlying31 rfl op_size ?_) | (refine wpList_load_row rfl 31 (.tmp 7) rfl gN rfl _ _ _ _ (H.blk 6 rfl) Try.underlying31 rfl op_size ?_) | (refine load_guard (by rfl) 31 (.tmp 12) rfl gM rfl _ _ _ _ (H.blk 12 rfl) Try.underlying31 rfl op_size ?_) | (refine wpList_load_row rfl 31 (.tmp 12) rfl gM rfl _ _ _ _ (H.blk 12 rfl) Try.underlying31 rfl op_size ?_))
  refine (sameOp_yes kN hN aN cN oN AN BN AM BM dN.length mN.length pN qN dN.length mN.length pM qM dN mN _ (H.rd 4 rfl) (H.rd 5 rfl) (H.rd 10 rfl) (H.rd 11 rfl) (by have := LEN.out; omega) (by have := LEN.out; omega)).mono ?_
  rintro e wx ⟨rfl, hbx⟩
  replace H := H.call hbx
  clear hbx
  go_wp2_with fail
  refine (keptBytes_yes _ A (n + 6) n cF c X l _ (H.rd 0 rfl) (H.arg0 hR) (by omega) (by omega) HX.out.symm).mono ?_
  rintro e wx ⟨rfl, hbx⟩
  replace H := H.call hbx
  clear hbx
  go_wp2_with fail
  refine (over_st H 0 rfl (by omega)).mono ?_
  rintro e wx ⟨rfl, H'⟩
  replace H := H'.upd_mk (by simp)
  clear H'
  have HM : Hid ((marksB 9 0 (n + 6)).length = n + 6) := marksB_length _ _ _
  generalize marksB 9 0 (n + 6) = Y at H HM
  replace H : St w [] wx (lay [.row 5 1 (.slice (some ⟨gF, 0, none⟩) (n + 6) cF) (n + 6) (Y.map vb), .row 5 1 (.slice AD dD.length pD) dD.length (dD.map vb), .row 5 1 (.slice BD mD.length qD) mD.length (mD.map vb), .blk gD 31 [.int .u8 (kD.toNat : Int), .int .i64 hD, .int .u8 (aD.toNat : Int), .int .i64 cD, .int .i64 oD, .slice AD dD.length pD, .slice BD mD.length qD], .row 5 1 (.slice AN dN.length pN) dN.length (dN.map vb), .row 5 1 (.slice BN mN.length qN) mN.length (mN.map vb), .blk gN 31 [.int .u8 (kN.toNat : Int), .int .i64 hN, .int .u8 (aN.toNat : Int), .int .i64 cN, .int .i64 oN, .slice AN dN.length pN, .slice BN mN.length qN], .row 5 1 (.slice AE dD.length pE) dD.length (dD.map vb), .row 5 1 (.slice BE mD.length qE) mD.length (mD.map vb), .blk gE 31 [.int .u8 (kD.toNat : Int), .int .i64 hD, .int .u8 (aD.toNat : Int), .int .i64 cD, .int .i64 oD, .slice AE dD.length pE, .slice BE mD.length qE], .row 5 1 (.slice AM dN.length pM) dN.length (dN.map vb), .row 5 1 (.slice BM mN.length qM) mN.length (mN.map vb), .blk gM 31 [.int .u8 (kN.toNat : Int), .int .i64 hN, .int .u8 (aN.toNat : Int), .int .i64 cN, .int .i64 oN, .slice AM dN.length pM, .slice BM mN.length qM]]) := H
  go_wp2_with (first | (refine load_guard (by rfl) 31 (.tmp 5) rfl gD rfl _ _ _ _ (H.blk 3 rfl) Try.underlying31 rfl op_size ?_) | (refine wpList_load_row rfl 31 (.tmp 5) rfl gD rfl _ _ _ _ (H.blk 3 rfl) Try.underlying31 rfl op_size ?_) | (refine load_guard (by rfl) 31 (.tmp 10) rfl gE rfl _ _ _ _ (H.blk 9 rfl) Try.underlying31 rfl op_size ?_) | (refine wpList_load_row rfl 31 (.tmp 10) rfl gE rfl _ _ _ _ (H.blk 9 rfl) Try.underlying31 rfl op_size ?_) | (refine load_guard (by rfl) 31 (.tmp 7) rfl gN rfl _ _ _ _ (H.blk 6 rfl) Try.underlying31 rfl op_size ?_) | (refine wpList_load_row rfl 31 (.tmp 7) rfl gN rfl _ _ _ _ (H.blk 6 rfl) Try.underlying31 rfl op_size ?_) | (refine load_guard (by rfl) 31 (.tmp 12) rfl gM rfl _ _ _ _ (H.blk 12 rfl) Try.underlying31 rfl op_size ?_) | (refine wpList_load_row rfl 31 (.tmp 12) rfl gM rfl _ _ _ _ (H.blk 12 rfl) Try.underlying31 rfl op_size ?_))
  refine (sameOp_yes kD hD aD cD oD AD BD AE BE dD.length mD.length pD qD dD.length mD.length pE qE dD mD _ (H.rd 1 rfl) (H.rd 2 rfl) (H.rd 7 rfl) (H.rd 8 rfl) (by have := LED.out; omega) (by have := LED.out; omega)).mono ?_
  rintro e wx ⟨rfl, hbx⟩
  replace H := H.call hbx
  clear hbx
  go_wp2_with (first | (refine load_guard (by rfl) 31 (.tmp 5) rfl gD rfl _ _ _ _ (H.blk 3 rfl) Try.underlying31 rfl op_size ?_) | (refine wpList_load_row rfl 31 (.tmp 5) rfl gD rfl _ _ _ _ (H.blk 3 rfl) Try.underlying31 rfl op_size ?_) | (refine load_guard (by rfl) 31 (.tmp 10) rfl gE rfl _ _ _ _ (H.blk 9 rfl) Try.underlying31 rfl op_size ?_) | (refine wpList_load_row rfl 31 (.tmp 10) rfl gE rfl _ _ _ _ (H.blk 9 rfl) Try.underlying31 rfl op_size ?_) | (refine load_guard (by rfl) 31 (.tmp 7) rfl gN rfl _ _ _ _ (H.blk 6 rfl) Try.underlying31 rfl op_size ?_) | (refine wpList_load_row rfl 31 (.tmp 7) rfl gN rfl _ _ _ _ (H.blk 6 rfl) Try.underlying31 rfl op_size ?_) | (refine load_guard (by rfl) 31 (.tmp 12) rfl gM rfl _ _ _ _ (H.blk 12 rfl) Try.underlying31 rfl op_size ?_) | (refine wpList_load_row rfl 31 (.tmp 12) rfl gM rfl _ _ _ _ (H.blk 12 rfl) Try.underlying31 rfl op_size ?_))
  refine (sameOp_yes kN hN aN cN oN AN BN AM BM dN.length mN.length pN qN dN.length mN.length pM qM dN mN _ (H.rd 4 rfl) (H.rd 5 rfl) (H.rd 10 rfl) (H.rd 11 rfl) (by have := LEN.out; omega) (by have := LEN.out; omega)).mono ?_
  rintro e wx ⟨rfl, hbx⟩
  replace H := H.call hbx
  clear hbx
  have x1 := H.cell 3 rfl (o := 5) rfl
  have x2 := H.cell 3 rfl (o := 6) rfl
  have x3 := H.cell 6 rfl (o := 5) rfl
  have x4 := H.cell 6 rfl (o := 6) rfl
  replace H := H.shape_row 0 rfl (n' := Y.length) (xs' := Y.map vb) HM.out.symm rfl
  go_wp2_with fail
  refine (apart_st H [(.slice AD dD.length pD, dD), (.slice BD mD.length qD, mD), (.slice AN dN.length pN, dN), (.slice BN mN.length qN, mN), (.slice (some ⟨gF, 0, none⟩) (n + 6) cF, Y)] (fun i => [1, 2, 4, 5, 0].getD i 99) (fun i j hi hj => (by decide : ∀ i < 5, ∀ j < 5, [1, 2, 4, 5, 0].getD i 99 = [1, 2, 4, 5, 0].getD j 99 → i = j) i hi j hj) ?_ 5 rfl (by omega) ?_ _ rfl).mono ?_
  · intro i p hp
    match i, hp with
    | 0, hp => cases hp; rfl
    | 1, hp => cases hp; rfl
    | 2, hp => cases hp; rfl
    | 3, hp => cases hp; rfl
    | 4, hp => cases hp; rfl
    | i + 5, hp => simp at hp
  · intro p hp
    have h1 := LED.out
    have h2 := LEN.out
    have h3 := HM.out
    simp only [List.mem_cons, List.not_mem_nil, or_false] at hp
    rcases hp with rfl | rfl | rfl | rfl | rfl <;> simp only <;> omega
  rintro e wz ⟨rfl, hbz⟩
  go_wp2_with fail
  go_ret
  exact ⟨rfl, hbz⟩
end Go.Proofs.Ytgfhnbjpdhdhgaa
