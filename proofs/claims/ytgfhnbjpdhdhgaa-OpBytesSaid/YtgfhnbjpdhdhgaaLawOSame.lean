/- The law OpSame, walked. -/
import Derived.Test.YtgfhnbjpdhdhgaaLawOReads
import Derived.Test.YtgfhnbjpdhdhgaaOpS
import Derived.Test.YtgfhnbjpdhdhgaaLentO
import Derived.Test.YtgfhnbjpdhdhgaaRowO
namespace Go.Proofs.Ytgfhnbjpdhdhgaa
open Go.RowKit
set_option linter.unusedVariables false

set_option maxRecDepth 100000 in
set_option maxHeartbeats 4000000 in
theorem opSame_walk (k : UInt8) (h : Int) (a : UInt8) (cn ou : Int) (A B : Option Addr) (n c m d : Nat) (xs ys : List UInt8) (k' : UInt8) (h' : Int) (a' : UInt8) (cn' ou' : Int) (A' B' : Option Addr) (n' c' m' d' : Nat) (xs' ys' : List UInt8) (w : World) (hA : Rd w 1 A n (xs.map vb)) (hB : Rd w 1 B m (ys.map vb)) (hn : n ≤ 140737488351232) (hm : m ≤ 140737488351232) (_ : I64 h) (_ : I64 cn) (_ : I64 ou) (hA' : Rd w 1 A' n' (xs'.map vb)) (hB' : Rd w 1 B' m' (ys'.map vb)) (hn' : n' ≤ 140737488351232) (hm' : m' ≤ 140737488351232) (_ : I64 h') (_ : I64 cn') (_ : I64 ou') :
    Calls Try.prog 7 #[opV k h a cn ou (.slice A n c) (.slice B m d), opV k' h' a' cn' ou' (.slice A' n' c') (.slice B' m' d')] w fun e w' => e = .returned (.bool true) ∧ Below w.heap.size w w' := by
  have Hx := Lib.hid (show xs.length = n by simpa using hA.1)
  have Hy := Lib.hid (show ys.length = m by simpa using hB.1)
  have Hx' := Lib.hid (show xs'.length = n' by simpa using hA'.1)
  have Hy' := Lib.hid (show ys'.length = m' by simpa using hB'.1)
  have H0 := St.start_lay w []
  go_enter Try.func7, Try.ntmps7
  go_wp2_with fail
  refine absorb_calls (H0.allocAt 0 rfl w.heap.size rfl _ _ |>.push_mk rfl |>.allocAt 1 rfl (w.heap.size + 1) (by simp) _ _ |>.push_mk rfl) ?_
  intro w1 H
  generalize w.heap.size + 1 = gB at H ⊢
  generalize hga : w.heap.size = gA at H ⊢
  clear hga H0
  replace H : St w [] w1 (lay [.blk gA 31 [.int .u8 (k.toNat : Int), .int .i64 h, .int .u8 (a.toNat : Int), .int .i64 cn, .int .i64 ou, .slice A n c, .slice B m d], .blk gB 31 [.int .u8 (k'.toNat : Int), .int .i64 h', .int .u8 (a'.toNat : Int), .int .i64 cn', .int .i64 ou', .slice A' n' c', .slice B' m' d']]) := H
  refine (lentOp_s k h a cn ou A B n m c d xs ys _ (H.arg0 hA) (H.arg0 hB) (by omega) (by omega)).mono ?_
  rintro e wx ⟨g1, e1, c1, d1, lc1, ld1, rfl, HN⟩
  replace H := H.also HN
  clear HN
  generalize hX : xs ++ marksB 7 0 6 = X1 at H
  generalize hY : ys ++ marksB 7 0 6 = Y1 at H
  have HX1 := Lib.hid hX
  have HY1 := Lib.hid hY
  clear hX hY
  replace H : St w [] wx (lay [.blk gA 31 [.int .u8 (k.toNat : Int), .int .i64 h, .int .u8 (a.toNat : Int), .int .i64 cn, .int .i64 ou, .slice A n c, .slice B m d], .blk gB 31 [.int .u8 (k'.toNat : Int), .int .i64 h', .int .u8 (a'.toNat : Int), .int .i64 cn', .int .i64 ou', .slice A' n' c', .slice B' m' d'], .row 5 1 (.slice (some ⟨g1, 0, none⟩) (n + 6) c1) (n + 6) (X1.map vb), .row 5 1 (.slice (some ⟨e1, 0, none⟩) (m + 6) d1) (m + 6) (Y1.map vb)]) := H
  have HA := (H.allocAt 4 rfl wx.heap.size rfl #[.int .u8 (k.toNat : Int), .int .i64 h, .int .u8 (a.toNat : Int), .int .i64 cn, .int .i64 ou, .slice (some ⟨g1, 0, none⟩) n c1, .slice (some ⟨e1, 0, none⟩) m d1] 31 |>.push_mk rfl |>.allocAt 5 rfl (wx.heap.size + 1) (by simp) #[.slice (some ⟨g1, 0, none⟩) (n + 6) c1, .slice (some ⟨e1, 0, none⟩) (m + 6) d1] 47 |>.push_mk rfl)
  clear H
  have b1 := HA.cell 1 rfl (o := 0) rfl
  go_wp2_with (first | (refine load_guard (by rfl) 31 (.tmp 3) rfl gB rfl _ _ _ _ (HA.blk 1 rfl) Try.underlying31 rfl op_size ?_) | (refine wpList_load_row rfl 31 (.tmp 3) rfl gB rfl _ _ _ _ (HA.blk 1 rfl) Try.underlying31 rfl op_size ?_))
  refine absorb_calls HA ?_
  clear HA b1
  intro wy H
  generalize wx.heap.size + 1 = q1 at H ⊢
  generalize wx.heap.size = p1 at H ⊢
  replace H : St w [] wy (lay [.blk gA 31 [.int .u8 (k.toNat : Int), .int .i64 h, .int .u8 (a.toNat : Int), .int .i64 cn, .int .i64 ou, .slice A n c, .slice B m d], .blk gB 31 [.int .u8 (k'.toNat : Int), .int .i64 h', .int .u8 (a'.toNat : Int), .int .i64 cn', .int .i64 ou', .slice A' n' c', .slice B' m' d'], .row 5 1 (.slice (some ⟨g1, 0, none⟩) (n + 6) c1) (n + 6) (X1.map vb), .row 5 1 (.slice (some ⟨e1, 0, none⟩) (m + 6) d1) (m + 6) (Y1.map vb), .blk p1 31 [.int .u8 (k.toNat : Int), .int .i64 h, .int .u8 (a.toNat : Int), .int .i64 cn, .int .i64 ou, .slice (some ⟨g1, 0, none⟩) n c1, .slice (some ⟨e1, 0, none⟩) m d1], .blk q1 47 [.slice (some ⟨g1, 0, none⟩) (n + 6) c1, .slice (some ⟨e1, 0, none⟩) (m + 6) d1]]) := H
  refine (lentOp_s k' h' a' cn' ou' A' B' n' m' c' d' xs' ys' _ (H.arg0 hA') (H.arg0 hB') (by omega) (by omega)).mono ?_
  rintro e wx ⟨g2, e2, c2, d2, lc2, ld2, rfl, HN⟩
  replace H := H.also HN
  clear HN
  generalize hX : xs' ++ marksB 7 0 6 = X2 at H
  generalize hY : ys' ++ marksB 7 0 6 = Y2 at H
  have HX2 := Lib.hid hX
  have HY2 := Lib.hid hY
  clear hX hY
  replace H : St w [] wx (lay [.blk gA 31 [.int .u8 (k.toNat : Int), .int .i64 h, .int .u8 (a.toNat : Int), .int .i64 cn, .int .i64 ou, .slice A n c, .slice B m d], .blk gB 31 [.int .u8 (k'.toNat : Int), .int .i64 h', .int .u8 (a'.toNat : Int), .int .i64 cn', .int .i64 ou', .slice A' n' c', .slice B' m' d'], .row 5 1 (.slice (some ⟨g1, 0, none⟩) (n + 6) c1) (n + 6) (X1.map vb), .row 5 1 (.slice (some ⟨e1, 0, none⟩) (m + 6) d1) (m + 6) (Y1.map vb), .blk p1 31 [.int .u8 (k.toNat : Int), .int .i64 h, .int .u8 (a.toNat : Int), .int .i64 cn, .int .i64 ou, .slice (some ⟨g1, 0, none⟩) n c1, .slice (some ⟨e1, 0, none⟩) m d1], .blk q1 47 [.slice (some ⟨g1, 0, none⟩) (n + 6) c1, .slice (some ⟨e1, 0, none⟩) (m + 6) d1], .row 5 1 (.slice (some ⟨g2, 0, none⟩) (n' + 6) c2) (n' + 6) (X2.map vb), .row 5 1 (.slice (some ⟨e2, 0, none⟩) (m' + 6) d2) (m' + 6) (Y2.map vb)]) := H
  have HA := (H.allocAt 8 rfl wx.heap.size rfl #[.int .u8 (k'.toNat : Int), .int .i64 h', .int .u8 (a'.toNat : Int), .int .i64 cn', .int .i64 ou', .slice (some ⟨g2, 0, none⟩) n' c2, .slice (some ⟨e2, 0, none⟩) m' d2] 31 |>.push_mk rfl |>.allocAt 9 rfl (wx.heap.size + 1) (by simp) #[.slice (some ⟨g2, 0, none⟩) (n' + 6) c2, .slice (some ⟨e2, 0, none⟩) (m' + 6) d2] 47 |>.push_mk rfl)
  clear H
  go_wp2_with (first | (refine load_guard (by rfl) 31 (.tmp 5) rfl p1 rfl _ _ _ _ (HA.blk 4 rfl) Try.underlying31 rfl op_size ?_) | (refine wpList_load_row rfl 31 (.tmp 5) rfl p1 rfl _ _ _ _ (HA.blk 4 rfl) Try.underlying31 rfl op_size ?_) | (refine load_guard (by rfl) 31 (.tmp 7) rfl wx.heap.size rfl _ _ _ _ (HA.blk 8 rfl) Try.underlying31 rfl op_size ?_) | (refine wpList_load_row rfl 31 (.tmp 7) rfl wx.heap.size rfl _ _ _ _ (HA.blk 8 rfl) Try.underlying31 rfl op_size ?_))
  refine absorb_calls HA ?_
  clear HA
  intro wy H
  generalize wx.heap.size + 1 = q2 at H ⊢
  generalize wx.heap.size = p2 at H ⊢
  replace H : St w [] wy (lay [.blk gA 31 [.int .u8 (k.toNat : Int), .int .i64 h, .int .u8 (a.toNat : Int), .int .i64 cn, .int .i64 ou, .slice A n c, .slice B m d], .blk gB 31 [.int .u8 (k'.toNat : Int), .int .i64 h', .int .u8 (a'.toNat : Int), .int .i64 cn', .int .i64 ou', .slice A' n' c', .slice B' m' d'], .row 5 1 (.slice (some ⟨g1, 0, none⟩) (n + 6) c1) (n + 6) (X1.map vb), .row 5 1 (.slice (some ⟨e1, 0, none⟩) (m + 6) d1) (m + 6) (Y1.map vb), .blk p1 31 [.int .u8 (k.toNat : Int), .int .i64 h, .int .u8 (a.toNat : Int), .int .i64 cn, .int .i64 ou, .slice (some ⟨g1, 0, none⟩) n c1, .slice (some ⟨e1, 0, none⟩) m d1], .blk q1 47 [.slice (some ⟨g1, 0, none⟩) (n + 6) c1, .slice (some ⟨e1, 0, none⟩) (m + 6) d1], .row 5 1 (.slice (some ⟨g2, 0, none⟩) (n' + 6) c2) (n' + 6) (X2.map vb), .row 5 1 (.slice (some ⟨e2, 0, none⟩) (m' + 6) d2) (m' + 6) (Y2.map vb), .blk p2 31 [.int .u8 (k'.toNat : Int), .int .i64 h', .int .u8 (a'.toNat : Int), .int .i64 cn', .int .i64 ou', .slice (some ⟨g2, 0, none⟩) n' c2, .slice (some ⟨e2, 0, none⟩) m' d2], .blk q2 47 [.slice (some ⟨g2, 0, none⟩) (n' + 6) c2, .slice (some ⟨e2, 0, none⟩) (m' + 6) d2]]) := H
  refine (opSame_s k k' h h' a a' cn cn' ou ou' _ _ _ _ n m _ _ n' m' _ _ xs ys xs' ys' _ (Rd.front (k := marksB 7 0 6) (m := n + 6) (by rw [HX1.out]; exact H.rd 2 rfl) Hx.out (by omega)) (Rd.front (k := marksB 7 0 6) (m := m + 6) (by rw [HY1.out]; exact H.rd 3 rfl) Hy.out (by omega)) (Rd.front (k := marksB 7 0 6) (m := n' + 6) (by rw [HX2.out]; exact H.rd 6 rfl) Hx'.out (by omega)) (Rd.front (k := marksB 7 0 6) (m := m' + 6) (by rw [HY2.out]; exact H.rd 7 rfl) Hy'.out (by omega)) (by omega) (by omega) (by omega) (by omega)).mono ?_
  rintro e wx ⟨rfl, hb⟩
  replace H := H.call hb
  clear hb
  obtain ⟨s, HS⟩ : ∃ s, Hid (decide (k = k' ∧ h = h' ∧ a = a' ∧ cn = cn' ∧ ou = ou' ∧ xs = xs' ∧ ys = ys') = s) := ⟨_, rfl⟩
  have HS2 : Hid (decide (k' = k ∧ h' = h ∧ a' = a ∧ cn' = cn ∧ ou' = ou ∧ xs' = xs ∧ ys' = ys) = s) := by
    unfold Hid
    rw [← HS.out]
    exact decide_eq_decide.2 ⟨fun ⟨a, b, c, d, e, f, g⟩ => ⟨a.symm, b.symm, c.symm, d.symm, e.symm, f.symm, g.symm⟩, fun ⟨a, b, c, d, e, f, g⟩ => ⟨a.symm, b.symm, c.symm, d.symm, e.symm, f.symm, g.symm⟩⟩
  rw [HS.out]
  have hss : (s == s) = true := by simp
  go_wp2_with fail
  refine (lives_s wx).mono ?_
  rintro e wy ⟨rfl, hb⟩
  replace H := H.call hb
  clear hb
  go_wp2_with (first | (refine load_guard (by rfl) 31 (.tmp 2) rfl gA rfl _ _ _ _ (H.blk 0 rfl) Try.underlying31 rfl op_size ?_) | (refine wpList_load_row rfl 31 (.tmp 2) rfl gA rfl _ _ _ _ (H.blk 0 rfl) Try.underlying31 rfl op_size ?_) | (refine load_guard (by rfl) 31 (.tmp 3) rfl gB rfl _ _ _ _ (H.blk 1 rfl) Try.underlying31 rfl op_size ?_) | (refine wpList_load_row rfl 31 (.tmp 3) rfl gB rfl _ _ _ _ (H.blk 1 rfl) Try.underlying31 rfl op_size ?_) | (refine load_guard (by rfl) 31 (.tmp 5) rfl p1 rfl _ _ _ _ (H.blk 4 rfl) Try.underlying31 rfl op_size ?_) | (refine wpList_load_row rfl 31 (.tmp 5) rfl p1 rfl _ _ _ _ (H.blk 4 rfl) Try.underlying31 rfl op_size ?_) | (refine load_guard (by rfl) 31 (.tmp 7) rfl p2 rfl _ _ _ _ (H.blk 8 rfl) Try.underlying31 rfl op_size ?_) | (refine wpList_load_row rfl 31 (.tmp 7) rfl p2 rfl _ _ _ _ (H.blk 8 rfl) Try.underlying31 rfl op_size ?_) | (refine load_guard (by rfl) 47 (.tmp 6) rfl q1 rfl _ _ _ _ (H.blk 5 rfl) Try.underlying47 rfl two_size ?_) | (refine wpList_load_row rfl 47 (.tmp 6) rfl q1 rfl _ _ _ _ (H.blk 5 rfl) Try.underlying47 rfl two_size ?_) | (refine load_guard (by rfl) 47 (.tmp 8) rfl q2 rfl _ _ _ _ (H.blk 9 rfl) Try.underlying47 rfl two_size ?_) | (refine wpList_load_row rfl 47 (.tmp 8) rfl q2 rfl _ _ _ _ (H.blk 9 rfl) Try.underlying47 rfl two_size ?_))
  refine (refSame_s k k' h h' a a' cn cn' ou ou' A B A' B' n m c d n' m' c' d' xs ys xs' ys' _ (H.arg0 hA) (H.arg0 hB) (H.arg0 hA') (H.arg0 hB') (by omega) (by omega) (by omega) (by omega)).mono ?_
  rintro e wx ⟨rfl, hb⟩
  replace H := H.call hb
  clear hb
  rw [HS.out]
  go_wp2_with (first | (refine load_guard (by rfl) 31 (.tmp 2) rfl gA rfl _ _ _ _ (H.blk 0 rfl) Try.underlying31 rfl op_size ?_) | (refine wpList_load_row rfl 31 (.tmp 2) rfl gA rfl _ _ _ _ (H.blk 0 rfl) Try.underlying31 rfl op_size ?_) | (refine load_guard (by rfl) 31 (.tmp 3) rfl gB rfl _ _ _ _ (H.blk 1 rfl) Try.underlying31 rfl op_size ?_) | (refine wpList_load_row rfl 31 (.tmp 3) rfl gB rfl _ _ _ _ (H.blk 1 rfl) Try.underlying31 rfl op_size ?_) | (refine load_guard (by rfl) 31 (.tmp 5) rfl p1 rfl _ _ _ _ (H.blk 4 rfl) Try.underlying31 rfl op_size ?_) | (refine wpList_load_row rfl 31 (.tmp 5) rfl p1 rfl _ _ _ _ (H.blk 4 rfl) Try.underlying31 rfl op_size ?_) | (refine load_guard (by rfl) 31 (.tmp 7) rfl p2 rfl _ _ _ _ (H.blk 8 rfl) Try.underlying31 rfl op_size ?_) | (refine wpList_load_row rfl 31 (.tmp 7) rfl p2 rfl _ _ _ _ (H.blk 8 rfl) Try.underlying31 rfl op_size ?_) | (refine load_guard (by rfl) 47 (.tmp 6) rfl q1 rfl _ _ _ _ (H.blk 5 rfl) Try.underlying47 rfl two_size ?_) | (refine wpList_load_row rfl 47 (.tmp 6) rfl q1 rfl _ _ _ _ (H.blk 5 rfl) Try.underlying47 rfl two_size ?_) | (refine load_guard (by rfl) 47 (.tmp 8) rfl q2 rfl _ _ _ _ (H.blk 9 rfl) Try.underlying47 rfl two_size ?_) | (refine wpList_load_row rfl 47 (.tmp 8) rfl q2 rfl _ _ _ _ (H.blk 9 rfl) Try.underlying47 rfl two_size ?_))
  refine (opSame_s k' k h' h a' a cn' cn ou' ou _ _ _ _ n' m' _ _ n m _ _ xs' ys' xs ys _ (Rd.front (k := marksB 7 0 6) (m := n' + 6) (by rw [HX2.out]; exact H.rd 6 rfl) Hx'.out (by omega)) (Rd.front (k := marksB 7 0 6) (m := m' + 6) (by rw [HY2.out]; exact H.rd 7 rfl) Hy'.out (by omega)) (Rd.front (k := marksB 7 0 6) (m := n + 6) (by rw [HX1.out]; exact H.rd 2 rfl) Hx.out (by omega)) (Rd.front (k := marksB 7 0 6) (m := m + 6) (by rw [HY1.out]; exact H.rd 3 rfl) Hy.out (by omega)) (by omega) (by omega) (by omega) (by omega)).mono ?_
  rintro e wy ⟨rfl, hb⟩
  replace H := H.call hb
  clear hb
  rw [HS2.out]
  go_wp2_with (first | (refine load_guard (by rfl) 31 (.tmp 2) rfl gA rfl _ _ _ _ (H.blk 0 rfl) Try.underlying31 rfl op_size ?_) | (refine wpList_load_row rfl 31 (.tmp 2) rfl gA rfl _ _ _ _ (H.blk 0 rfl) Try.underlying31 rfl op_size ?_) | (refine load_guard (by rfl) 31 (.tmp 3) rfl gB rfl _ _ _ _ (H.blk 1 rfl) Try.underlying31 rfl op_size ?_) | (refine wpList_load_row rfl 31 (.tmp 3) rfl gB rfl _ _ _ _ (H.blk 1 rfl) Try.underlying31 rfl op_size ?_) | (refine load_guard (by rfl) 31 (.tmp 5) rfl p1 rfl _ _ _ _ (H.blk 4 rfl) Try.underlying31 rfl op_size ?_) | (refine wpList_load_row rfl 31 (.tmp 5) rfl p1 rfl _ _ _ _ (H.blk 4 rfl) Try.underlying31 rfl op_size ?_) | (refine load_guard (by rfl) 31 (.tmp 7) rfl p2 rfl _ _ _ _ (H.blk 8 rfl) Try.underlying31 rfl op_size ?_) | (refine wpList_load_row rfl 31 (.tmp 7) rfl p2 rfl _ _ _ _ (H.blk 8 rfl) Try.underlying31 rfl op_size ?_) | (refine load_guard (by rfl) 47 (.tmp 6) rfl q1 rfl _ _ _ _ (H.blk 5 rfl) Try.underlying47 rfl two_size ?_) | (refine wpList_load_row rfl 47 (.tmp 6) rfl q1 rfl _ _ _ _ (H.blk 5 rfl) Try.underlying47 rfl two_size ?_) | (refine load_guard (by rfl) 47 (.tmp 8) rfl q2 rfl _ _ _ _ (H.blk 9 rfl) Try.underlying47 rfl two_size ?_) | (refine wpList_load_row rfl 47 (.tmp 8) rfl q2 rfl _ _ _ _ (H.blk 9 rfl) Try.underlying47 rfl two_size ?_))
  refine (opSame_s k k h h a a cn cn ou ou _ _ _ _ n m _ _ n m _ _ xs ys xs ys _ (Rd.front (k := marksB 7 0 6) (m := n + 6) (by rw [HX1.out]; exact H.rd 2 rfl) Hx.out (by omega)) (Rd.front (k := marksB 7 0 6) (m := m + 6) (by rw [HY1.out]; exact H.rd 3 rfl) Hy.out (by omega)) (Rd.front (k := marksB 7 0 6) (m := n + 6) (by rw [HX1.out]; exact H.rd 2 rfl) Hx.out (by omega)) (Rd.front (k := marksB 7 0 6) (m := m + 6) (by rw [HY1.out]; exact H.rd 3 rfl) Hy.out (by omega)) (by omega) (by omega) (by omega) (by omega)).mono ?_
  rintro e wx ⟨rfl, hb⟩
  replace H := H.call hb
  clear hb
  rw [decide_eq_true ⟨rfl, rfl, rfl, rfl, rfl, rfl, rfl⟩]
  go_wp2_with (first | (refine load_guard (by rfl) 31 (.tmp 2) rfl gA rfl _ _ _ _ (H.blk 0 rfl) Try.underlying31 rfl op_size ?_) | (refine wpList_load_row rfl 31 (.tmp 2) rfl gA rfl _ _ _ _ (H.blk 0 rfl) Try.underlying31 rfl op_size ?_) | (refine load_guard (by rfl) 31 (.tmp 3) rfl gB rfl _ _ _ _ (H.blk 1 rfl) Try.underlying31 rfl op_size ?_) | (refine wpList_load_row rfl 31 (.tmp 3) rfl gB rfl _ _ _ _ (H.blk 1 rfl) Try.underlying31 rfl op_size ?_) | (refine load_guard (by rfl) 31 (.tmp 5) rfl p1 rfl _ _ _ _ (H.blk 4 rfl) Try.underlying31 rfl op_size ?_) | (refine wpList_load_row rfl 31 (.tmp 5) rfl p1 rfl _ _ _ _ (H.blk 4 rfl) Try.underlying31 rfl op_size ?_) | (refine load_guard (by rfl) 31 (.tmp 7) rfl p2 rfl _ _ _ _ (H.blk 8 rfl) Try.underlying31 rfl op_size ?_) | (refine wpList_load_row rfl 31 (.tmp 7) rfl p2 rfl _ _ _ _ (H.blk 8 rfl) Try.underlying31 rfl op_size ?_) | (refine load_guard (by rfl) 47 (.tmp 6) rfl q1 rfl _ _ _ _ (H.blk 5 rfl) Try.underlying47 rfl two_size ?_) | (refine wpList_load_row rfl 47 (.tmp 6) rfl q1 rfl _ _ _ _ (H.blk 5 rfl) Try.underlying47 rfl two_size ?_) | (refine load_guard (by rfl) 47 (.tmp 8) rfl q2 rfl _ _ _ _ (H.blk 9 rfl) Try.underlying47 rfl two_size ?_) | (refine wpList_load_row rfl 47 (.tmp 8) rfl q2 rfl _ _ _ _ (H.blk 9 rfl) Try.underlying47 rfl two_size ?_))
  refine (keptOp_yes k h a cn ou A B _ _ n m c d (n + 6) (m + 6) _ _ xs ys _ (H.arg0 hA) (H.arg0 hB) (by rw [HX1.out]; exact H.rd 2 rfl) (by rw [HY1.out]; exact H.rd 3 rfl) (by omega) (by omega) (by omega) (by omega)).mono ?_
  rintro e wy ⟨rfl, hb⟩
  replace H := H.call hb
  clear hb
  go_wp2_with (first | (refine load_guard (by rfl) 31 (.tmp 2) rfl gA rfl _ _ _ _ (H.blk 0 rfl) Try.underlying31 rfl op_size ?_) | (refine wpList_load_row rfl 31 (.tmp 2) rfl gA rfl _ _ _ _ (H.blk 0 rfl) Try.underlying31 rfl op_size ?_) | (refine load_guard (by rfl) 31 (.tmp 3) rfl gB rfl _ _ _ _ (H.blk 1 rfl) Try.underlying31 rfl op_size ?_) | (refine wpList_load_row rfl 31 (.tmp 3) rfl gB rfl _ _ _ _ (H.blk 1 rfl) Try.underlying31 rfl op_size ?_) | (refine load_guard (by rfl) 31 (.tmp 5) rfl p1 rfl _ _ _ _ (H.blk 4 rfl) Try.underlying31 rfl op_size ?_) | (refine wpList_load_row rfl 31 (.tmp 5) rfl p1 rfl _ _ _ _ (H.blk 4 rfl) Try.underlying31 rfl op_size ?_) | (refine load_guard (by rfl) 31 (.tmp 7) rfl p2 rfl _ _ _ _ (H.blk 8 rfl) Try.underlying31 rfl op_size ?_) | (refine wpList_load_row rfl 31 (.tmp 7) rfl p2 rfl _ _ _ _ (H.blk 8 rfl) Try.underlying31 rfl op_size ?_) | (refine load_guard (by rfl) 47 (.tmp 6) rfl q1 rfl _ _ _ _ (H.blk 5 rfl) Try.underlying47 rfl two_size ?_) | (refine wpList_load_row rfl 47 (.tmp 6) rfl q1 rfl _ _ _ _ (H.blk 5 rfl) Try.underlying47 rfl two_size ?_) | (refine load_guard (by rfl) 47 (.tmp 8) rfl q2 rfl _ _ _ _ (H.blk 9 rfl) Try.underlying47 rfl two_size ?_) | (refine wpList_load_row rfl 47 (.tmp 8) rfl q2 rfl _ _ _ _ (H.blk 9 rfl) Try.underlying47 rfl two_size ?_))
  refine (keptOp_yes k' h' a' cn' ou' A' B' _ _ n' m' c' d' (n' + 6) (m' + 6) _ _ xs' ys' _ (H.arg0 hA') (H.arg0 hB') (by rw [HX2.out]; exact H.rd 6 rfl) (by rw [HY2.out]; exact H.rd 7 rfl) (by omega) (by omega) (by omega) (by omega)).mono ?_
  rintro e wx ⟨rfl, hb⟩
  replace H := H.call hb
  clear hb
  go_wp2_with fail
  go_ret
  exact ⟨rfl, H.below⟩
end Go.Proofs.Ytgfhnbjpdhdhgaa
