/- The law OpBytes, walked. -/
import Derived.Test.YtgfhnbjpdhdhgaaLawOSame
import Derived.Test.YtgfhnbjpdhdhgaaPlain
import Derived.Test.YtgfhnbjpdhdhgaaOpB
namespace Go.Proofs.Ytgfhnbjpdhdhgaa
open Go.RowKit
set_option linter.unusedVariables false

/-- an operation's bytes, or the error -/
def encR (k : UInt8) (h : Int) (a : UInt8) (c o : Int) (d m : List UInt8) : List UInt8 × Int := if d.length ≤ 16777215 ∧ m.length ≤ 16777215 then (encB k h a c o d m, 0) else ([], 9)
theorem encR_le (k : UInt8) (h : Int) (a : UInt8) (c o : Int) (d m : List UInt8) : (encR k h a c o d m).1.length ≤ 100000000 := by
  unfold encR
  split
  · rename_i h1; simp only; rw [encB_length]; omega
  · simp
theorem encode_any (k : UInt8) (h : Int) (al : UInt8) (cn ou : Int) (A : Option Addr) (n c : Nat) (B : Option Addr) (m d : Nat) (xs ys : List UInt8) (w : World) (hd : Rd w 1 A n (xs.map vb)) (hm : Rd w 1 B m (ys.map vb)) :
    Calls Try.prog 29 #[opV k h al cn ou (.slice A n c) (.slice B m d)] w fun e w' => ∃ v, e = .returned (.tuple #[v, .int .i64 (encR k h al cn ou xs ys).2]) ∧ w'.ownsRow w.heap.size 5 1 v (encR k h al cn ou xs ys).1.length ((encR k h al cn ou xs ys).1.map vb) ∧ Below w.heap.size w w' := by
  have hlx : xs.length = n := by simpa using hd.1
  have hly : ys.length = m := by simpa using hm.1
  unfold encR
  by_cases hc : xs.length ≤ 16777215 ∧ ys.length ≤ 16777215
  · rw [if_pos hc]
    exact encode_s k h al cn ou A n c B m d xs ys w hd hm (by omega) (by omega)
  · rw [if_neg hc]
    refine (encode_long k h al cn ou A n c B m d w (by omega)).mono ?_
    rintro e w' ⟨rfl, hb⟩
    exact ⟨_, rfl, World.ownsRow_nil _ _ _ _, hb⟩
theorem refEncode_any (k : UInt8) (h : Int) (al : UInt8) (cn ou : Int) (A : Option Addr) (n c : Nat) (B : Option Addr) (m d : Nat) (xs ys : List UInt8) (w : World) (hd : Rd w 1 A n (xs.map vb)) (hm : Rd w 1 B m (ys.map vb)) :
    Calls Try.prog 46 #[opV k h al cn ou (.slice A n c) (.slice B m d)] w fun e w' => ∃ v, e = .returned (.tuple #[v, .int .i64 (encR k h al cn ou xs ys).2]) ∧ w'.ownsRow w.heap.size 5 1 v (encR k h al cn ou xs ys).1.length ((encR k h al cn ou xs ys).1.map vb) ∧ Below w.heap.size w w' := by
  have hlx : xs.length = n := by simpa using hd.1
  have hly : ys.length = m := by simpa using hm.1
  unfold encR
  by_cases hc : xs.length ≤ 16777215 ∧ ys.length ≤ 16777215
  · rw [if_pos hc]
    exact refEncode_s k h al cn ou A n c B m d xs ys w hd hm (by omega) (by omega)
  · rw [if_neg hc]
    refine (refEncode_long k h al cn ou A n c B m d w (by omega)).mono ?_
    rintro e w' ⟨rfl, hb⟩
    exact ⟨_, rfl, World.ownsRow_nil _ _ _ _, hb⟩
theorem upd_lay {L : List Own} {k : Nat} {A : Own} (h : k < L.length) : upd (lay L) k A = lay (L.set k A) := by
  funext i
  simp only [lay, upd]
  by_cases hi : i = k
  · subst hi; simp [h]
  · rw [List.getElem?_set_ne (fun e => hi e.symm), if_neg hi]
theorem pL_le (c : Nat) (us : List Nat) (l : List UInt8) : (pL c us l).length ≤ l.length := by unfold pL; split <;> simp

set_option maxRecDepth 100000 in
set_option maxHeartbeats 8000000 in
theorem opBytes_walk (k : UInt8) (h : Int) (a : UInt8) (cn ou : Int) (A B : Option Addr) (n c m d : Nat) (xs ys : List UInt8) (w : World) (hA : Rd w 1 A n (xs.map vb)) (hB : Rd w 1 B m (ys.map vb)) (hn : n ≤ 140737488351232) (hm : m ≤ 140737488351232) (_ : I64 h) (_ : I64 cn) (_ : I64 ou) :
    Calls Try.prog 10 #[opV k h a cn ou (.slice A n c) (.slice B m d)] w fun e w' => e = .returned (.bool true) ∧ Below w.heap.size w w' := by
  have Hx := Lib.hid (show xs.length = n by simpa using hA.1)
  have Hy := Lib.hid (show ys.length = m by simpa using hB.1)
  have H := St.start_lay w []
  obtain ⟨L, ee, hR⟩ : ∃ L ee, Hid (encR k h a cn ou xs ys = (L, ee)) := ⟨_, _, rfl⟩
  have hLL : L.length ≤ 100000000 := by have := encR_le k h a cn ou xs ys; rw [hR.out] at this; exact this
  have HLL := Lib.hid hLL
  clear hLL
  obtain ⟨ph, pa, pc, po, pd, pm, hP⟩ : ∃ ph pa pc po pd pm, Hid (pI 0 (usesOf k) h = ph ∧ pA (usesOf k) a = pa ∧ pI 2 (usesOf k) cn = pc ∧ pI 3 (usesOf k) ou = po ∧ pL 4 (usesOf k) xs = pd ∧ pL 5 (usesOf k) ys = pm) := ⟨_, _, _, _, _, _, rfl, rfl, rfl, rfl, rfl, rfl⟩
  have hpl : pd.length ≤ 140737488351232 ∧ pm.length ≤ 140737488351232 := by
    have h1 := pL_le 4 (usesOf k) xs
    have h2 := pL_le 5 (usesOf k) ys
    rw [hP.out.2.2.2.2.1, Hx.out] at h1
    rw [hP.out.2.2.2.2.2, Hy.out] at h2
    omega
  have HPL := Lib.hid hpl
  clear hpl
  go_enter Try.func10, Try.ntmps10
  go_wp2_with fail
  refine absorb_calls (H.allocAt 0 rfl w.heap.size rfl _ _ |>.push_mk rfl) ?_
  clear H
  intro w1 H
  generalize hga : w.heap.size = gA at H ⊢
  clear hga
  replace H : St w [] w1 (lay [.blk gA 31 [.int .u8 (k.toNat : Int), .int .i64 h, .int .u8 (a.toNat : Int), .int .i64 cn, .int .i64 ou, .slice A n c, .slice B m d]]) := H
  refine (lives_s w1).mono ?_
  rintro e w2 ⟨rfl, hb⟩
  replace H := H.call hb
  clear hb
  have c0 := H.cell 0 rfl (o := 0) rfl
  go_wp2_with (first | (refine load_guard (by rfl) 31 (.tmp 1) rfl gA rfl _ _ _ _ (H.blk 0 rfl) Try.underlying31 rfl op_size ?_) | (refine wpList_load_row rfl 31 (.tmp 1) rfl gA rfl _ _ _ _ (H.blk 0 rfl) Try.underlying31 rfl op_size ?_))
  clear c0
  refine (lentOp_s k h a cn ou A B n m c d xs ys _ (H.arg0 hA) (H.arg0 hB) (by omega) (by omega)).mono ?_
  rintro e wx ⟨g1, e1, c1, d1, lc1, ld1, rfl, HN⟩
  replace H := H.also HN
  clear HN
  generalize hX : xs ++ marksB 7 0 6 = X at H
  generalize hY : ys ++ marksB 7 0 6 = Y at H
  have HX := Lib.hid hX
  have HY := Lib.hid hY
  clear hX hY
  replace H : St w [] wx (lay [.blk gA 31 [.int .u8 (k.toNat : Int), .int .i64 h, .int .u8 (a.toNat : Int), .int .i64 cn, .int .i64 ou, .slice A n c, .slice B m d], .row 5 1 (.slice (some ⟨g1, 0, none⟩) (n + 6) c1) (n + 6) (X.map vb), .row 5 1 (.slice (some ⟨e1, 0, none⟩) (m + 6) d1) (m + 6) (Y.map vb)]) := H
  have HA := (H.allocAt 3 rfl wx.heap.size rfl #[.int .u8 (k.toNat : Int), .int .i64 h, .int .u8 (a.toNat : Int), .int .i64 cn, .int .i64 ou, .slice (some ⟨g1, 0, none⟩) n c1, .slice (some ⟨e1, 0, none⟩) m d1] 31 |>.push_mk rfl |>.allocAt 4 rfl (wx.heap.size + 1) (by simp) #[.slice (some ⟨g1, 0, none⟩) (n + 6) c1, .slice (some ⟨e1, 0, none⟩) (m + 6) d1] 47 |>.push_mk rfl)
  clear H
  go_wp2_with (first | (refine load_guard (by rfl) 31 (.tmp 3) rfl wx.heap.size rfl _ _ _ _ (HA.blk 3 rfl) Try.underlying31 rfl op_size ?_) | (refine wpList_load_row rfl 31 (.tmp 3) rfl wx.heap.size rfl _ _ _ _ (HA.blk 3 rfl) Try.underlying31 rfl op_size ?_))
  refine absorb_calls HA ?_
  clear HA
  intro wy H
  generalize wx.heap.size + 1 = q1 at H ⊢
  generalize wx.heap.size = p1 at H ⊢
  replace H : St w [] wy (lay [.blk gA 31 [.int .u8 (k.toNat : Int), .int .i64 h, .int .u8 (a.toNat : Int), .int .i64 cn, .int .i64 ou, .slice A n c, .slice B m d], .row 5 1 (.slice (some ⟨g1, 0, none⟩) (n + 6) c1) (n + 6) (X.map vb), .row 5 1 (.slice (some ⟨e1, 0, none⟩) (m + 6) d1) (m + 6) (Y.map vb), .blk p1 31 [.int .u8 (k.toNat : Int), .int .i64 h, .int .u8 (a.toNat : Int), .int .i64 cn, .int .i64 ou, .slice (some ⟨g1, 0, none⟩) n c1, .slice (some ⟨e1, 0, none⟩) m d1], .blk q1 47 [.slice (some ⟨g1, 0, none⟩) (n + 6) c1, .slice (some ⟨e1, 0, none⟩) (m + 6) d1]]) := H
  refine (encode_any k h a cn ou _ n _ _ m _ xs ys _ (Rd.front (k := marksB 7 0 6) (m := n + 6) (by rw [HX.out]; exact H.rd 1 rfl) Hx.out (by omega)) (Rd.front (k := marksB 7 0 6) (m := m + 6) (by rw [HY.out]; exact H.rd 2 rfl) Hy.out (by omega))).mono ?_
  rintro e wx ⟨v, rfl, ho, hb⟩
  rw [hR.out] at ho ⊢
  simp only at ho ⊢
  replace H := (H.pushRow 5 rfl hb ho).push_mk rfl
  clear ho hb
  obtain ⟨AE, cE, rfl, -⟩ := row_form (H.row 5 rfl)
  replace H : St w [] wx (lay [.blk gA 31 [.int .u8 (k.toNat : Int), .int .i64 h, .int .u8 (a.toNat : Int), .int .i64 cn, .int .i64 ou, .slice A n c, .slice B m d], .row 5 1 (.slice (some ⟨g1, 0, none⟩) (n + 6) c1) (n + 6) (X.map vb), .row 5 1 (.slice (some ⟨e1, 0, none⟩) (m + 6) d1) (m + 6) (Y.map vb), .blk p1 31 [.int .u8 (k.toNat : Int), .int .i64 h, .int .u8 (a.toNat : Int), .int .i64 cn, .int .i64 ou, .slice (some ⟨g1, 0, none⟩) n c1, .slice (some ⟨e1, 0, none⟩) m d1], .blk q1 47 [.slice (some ⟨g1, 0, none⟩) (n + 6) c1, .slice (some ⟨e1, 0, none⟩) (m + 6) d1], .row 5 1 (.slice AE L.length cE) L.length (L.map vb)]) := H
  go_wp2_with (first | (refine load_guard (by rfl) 31 (.tmp 1) rfl gA rfl _ _ _ _ (H.blk 0 rfl) Try.underlying31 rfl op_size ?_) | (refine wpList_load_row rfl 31 (.tmp 1) rfl gA rfl _ _ _ _ (H.blk 0 rfl) Try.underlying31 rfl op_size ?_) | (refine load_guard (by rfl) 31 (.tmp 3) rfl p1 rfl _ _ _ _ (H.blk 3 rfl) Try.underlying31 rfl op_size ?_) | (refine wpList_load_row rfl 31 (.tmp 3) rfl p1 rfl _ _ _ _ (H.blk 3 rfl) Try.underlying31 rfl op_size ?_) | (refine load_guard (by rfl) 47 (.tmp 4) rfl q1 rfl _ _ _ _ (H.blk 4 rfl) Try.underlying47 rfl two_size ?_) | (refine wpList_load_row rfl 47 (.tmp 4) rfl q1 rfl _ _ _ _ (H.blk 4 rfl) Try.underlying47 rfl two_size ?_))
  refine (encode_any k h a cn ou _ n _ _ m _ xs ys _ (Rd.front (k := marksB 7 0 6) (m := n + 6) (by rw [HX.out]; exact H.rd 1 rfl) Hx.out (by omega)) (Rd.front (k := marksB 7 0 6) (m := m + 6) (by rw [HY.out]; exact H.rd 2 rfl) Hy.out (by omega))).mono ?_
  rintro e wx ⟨v, rfl, ho, hb⟩
  rw [hR.out] at ho ⊢
  simp only at ho ⊢
  replace H := (H.pushRow 6 rfl hb ho).push_mk rfl
  clear ho hb
  obtain ⟨AF, cF, rfl, -⟩ := row_form (H.row 6 rfl)
  replace H : St w [] wx (lay [.blk gA 31 [.int .u8 (k.toNat : Int), .int .i64 h, .int .u8 (a.toNat : Int), .int .i64 cn, .int .i64 ou, .slice A n c, .slice B m d], .row 5 1 (.slice (some ⟨g1, 0, none⟩) (n + 6) c1) (n + 6) (X.map vb), .row 5 1 (.slice (some ⟨e1, 0, none⟩) (m + 6) d1) (m + 6) (Y.map vb), .blk p1 31 [.int .u8 (k.toNat : Int), .int .i64 h, .int .u8 (a.toNat : Int), .int .i64 cn, .int .i64 ou, .slice (some ⟨g1, 0, none⟩) n c1, .slice (some ⟨e1, 0, none⟩) m d1], .blk q1 47 [.slice (some ⟨g1, 0, none⟩) (n + 6) c1, .slice (some ⟨e1, 0, none⟩) (m + 6) d1], .row 5 1 (.slice AE L.length cE) L.length (L.map vb), .row 5 1 (.slice AF L.length cF) L.length (L.map vb)]) := H
  go_wp2_with (first | (refine load_guard (by rfl) 31 (.tmp 1) rfl gA rfl _ _ _ _ (H.blk 0 rfl) Try.underlying31 rfl op_size ?_) | (refine wpList_load_row rfl 31 (.tmp 1) rfl gA rfl _ _ _ _ (H.blk 0 rfl) Try.underlying31 rfl op_size ?_) | (refine load_guard (by rfl) 31 (.tmp 3) rfl p1 rfl _ _ _ _ (H.blk 3 rfl) Try.underlying31 rfl op_size ?_) | (refine wpList_load_row rfl 31 (.tmp 3) rfl p1 rfl _ _ _ _ (H.blk 3 rfl) Try.underlying31 rfl op_size ?_) | (refine load_guard (by rfl) 47 (.tmp 4) rfl q1 rfl _ _ _ _ (H.blk 4 rfl) Try.underlying47 rfl two_size ?_) | (refine wpList_load_row rfl 47 (.tmp 4) rfl q1 rfl _ _ _ _ (H.blk 4 rfl) Try.underlying47 rfl two_size ?_))
  refine (refEncode_any k h a cn ou _ n _ _ m _ xs ys _ (H.arg0 hA) (H.arg0 hB)).mono ?_
  rintro e wx ⟨v, rfl, ho, hb⟩
  rw [hR.out] at ho ⊢
  simp only at ho ⊢
  replace H := (H.pushRow 7 rfl hb ho).push_mk rfl
  clear ho hb
  obtain ⟨AG, cG, rfl, -⟩ := row_form (H.row 7 rfl)
  replace H : St w [] wx (lay [.blk gA 31 [.int .u8 (k.toNat : Int), .int .i64 h, .int .u8 (a.toNat : Int), .int .i64 cn, .int .i64 ou, .slice A n c, .slice B m d], .row 5 1 (.slice (some ⟨g1, 0, none⟩) (n + 6) c1) (n + 6) (X.map vb), .row 5 1 (.slice (some ⟨e1, 0, none⟩) (m + 6) d1) (m + 6) (Y.map vb), .blk p1 31 [.int .u8 (k.toNat : Int), .int .i64 h, .int .u8 (a.toNat : Int), .int .i64 cn, .int .i64 ou, .slice (some ⟨g1, 0, none⟩) n c1, .slice (some ⟨e1, 0, none⟩) m d1], .blk q1 47 [.slice (some ⟨g1, 0, none⟩) (n + 6) c1, .slice (some ⟨e1, 0, none⟩) (m + 6) d1], .row 5 1 (.slice AE L.length cE) L.length (L.map vb), .row 5 1 (.slice AF L.length cF) L.length (L.map vb), .row 5 1 (.slice AG L.length cG) L.length (L.map vb)]) := H
  go_wp2_with (first | (refine load_guard (by rfl) 31 (.tmp 1) rfl gA rfl _ _ _ _ (H.blk 0 rfl) Try.underlying31 rfl op_size ?_) | (refine wpList_load_row rfl 31 (.tmp 1) rfl gA rfl _ _ _ _ (H.blk 0 rfl) Try.underlying31 rfl op_size ?_) | (refine load_guard (by rfl) 31 (.tmp 3) rfl p1 rfl _ _ _ _ (H.blk 3 rfl) Try.underlying31 rfl op_size ?_) | (refine wpList_load_row rfl 31 (.tmp 3) rfl p1 rfl _ _ _ _ (H.blk 3 rfl) Try.underlying31 rfl op_size ?_) | (refine load_guard (by rfl) 47 (.tmp 4) rfl q1 rfl _ _ _ _ (H.blk 4 rfl) Try.underlying47 rfl two_size ?_) | (refine wpList_load_row rfl 47 (.tmp 4) rfl q1 rfl _ _ _ _ (H.blk 4 rfl) Try.underlying47 rfl two_size ?_))
  refine (opPlain_s k h a cn ou _ _ n m _ _ xs ys _ (Rd.front (k := marksB 7 0 6) (m := n + 6) (by rw [HX.out]; exact H.rd 1 rfl) Hx.out (by omega)) (Rd.front (k := marksB 7 0 6) (m := m + 6) (by rw [HY.out]; exact H.rd 2 rfl) Hy.out (by omega)) (by omega) (by omega)).mono ?_
  rintro e wx ⟨v5, v6, rfl, HN⟩
  replace H := H.also HN
  clear HN
  rw [hP.out.1, hP.out.2.1, hP.out.2.2.1, hP.out.2.2.2.1]
  rw [hP.out.2.2.2.2.1, hP.out.2.2.2.2.2] at H
  obtain ⟨AP, cP, rfl, -⟩ := row_form (H.row 8 rfl)
  obtain ⟨BP, dP, rfl, -⟩ := row_form (H.row 9 rfl)
  replace H : St w [] wx (lay [.blk gA 31 [.int .u8 (k.toNat : Int), .int .i64 h, .int .u8 (a.toNat : Int), .int .i64 cn, .int .i64 ou, .slice A n c, .slice B m d], .row 5 1 (.slice (some ⟨g1, 0, none⟩) (n + 6) c1) (n + 6) (X.map vb), .row 5 1 (.slice (some ⟨e1, 0, none⟩) (m + 6) d1) (m + 6) (Y.map vb), .blk p1 31 [.int .u8 (k.toNat : Int), .int .i64 h, .int .u8 (a.toNat : Int), .int .i64 cn, .int .i64 ou, .slice (some ⟨g1, 0, none⟩) n c1, .slice (some ⟨e1, 0, none⟩) m d1], .blk q1 47 [.slice (some ⟨g1, 0, none⟩) (n + 6) c1, .slice (some ⟨e1, 0, none⟩) (m + 6) d1], .row 5 1 (.slice AE L.length cE) L.length (L.map vb), .row 5 1 (.slice AF L.length cF) L.length (L.map vb), .row 5 1 (.slice AG L.length cG) L.length (L.map vb), .row 5 1 (.slice AP pd.length cP) pd.length (pd.map vb), .row 5 1 (.slice BP pm.length dP) pm.length (pm.map vb)]) := H
  have HA := (H.allocAt 10 rfl wx.heap.size rfl #[.int .u8 (k.toNat : Int), .int .i64 ph, .int .u8 (pa.toNat : Int), .int .i64 pc, .int .i64 po, .slice AP pd.length cP, .slice BP pm.length dP] 31).push_mk rfl
  clear H
  have y1 := HA.lt 0 rfl
  have y2 := HA.lt 3 rfl
  go_wp2_with (first | (refine load_guard (by rfl) 31 (.tmp 1) rfl gA rfl _ _ _ _ (HA.blk 0 rfl) Try.underlying31 rfl op_size ?_) | (refine wpList_load_row rfl 31 (.tmp 1) rfl gA rfl _ _ _ _ (HA.blk 0 rfl) Try.underlying31 rfl op_size ?_) | (refine load_guard (by rfl) 31 (.tmp 3) rfl p1 rfl _ _ _ _ (HA.blk 3 rfl) Try.underlying31 rfl op_size ?_) | (refine wpList_load_row rfl 31 (.tmp 3) rfl p1 rfl _ _ _ _ (HA.blk 3 rfl) Try.underlying31 rfl op_size ?_))
  refine absorb_calls HA ?_
  clear HA y1 y2
  intro wy H
  generalize wx.heap.size = bP at H ⊢
  replace H : St w [] wy (lay [.blk gA 31 [.int .u8 (k.toNat : Int), .int .i64 h, .int .u8 (a.toNat : Int), .int .i64 cn, .int .i64 ou, .slice A n c, .slice B m d], .row 5 1 (.slice (some ⟨g1, 0, none⟩) (n + 6) c1) (n + 6) (X.map vb), .row 5 1 (.slice (some ⟨e1, 0, none⟩) (m + 6) d1) (m + 6) (Y.map vb), .blk p1 31 [.int .u8 (k.toNat : Int), .int .i64 h, .int .u8 (a.toNat : Int), .int .i64 cn, .int .i64 ou, .slice (some ⟨g1, 0, none⟩) n c1, .slice (some ⟨e1, 0, none⟩) m d1], .blk q1 47 [.slice (some ⟨g1, 0, none⟩) (n + 6) c1, .slice (some ⟨e1, 0, none⟩) (m + 6) d1], .row 5 1 (.slice AE L.length cE) L.length (L.map vb), .row 5 1 (.slice AF L.length cF) L.length (L.map vb), .row 5 1 (.slice AG L.length cG) L.length (L.map vb), .row 5 1 (.slice AP pd.length cP) pd.length (pd.map vb), .row 5 1 (.slice BP pm.length dP) pm.length (pm.map vb), .blk bP 31 [.int .u8 (k.toNat : Int), .int .i64 ph, .int .u8 (pa.toNat : Int), .int .i64 pc, .int .i64 po, .slice AP pd.length cP, .slice BP pm.length dP]]) := H
  refine (opPlain_s k h a cn ou _ _ n m _ _ xs ys _ (Rd.front (k := marksB 7 0 6) (m := n + 6) (by rw [HX.out]; exact H.rd 1 rfl) Hx.out (by omega)) (Rd.front (k := marksB 7 0 6) (m := m + 6) (by rw [HY.out]; exact H.rd 2 rfl) Hy.out (by omega)) (by omega) (by omega)).mono ?_
  rintro e wx ⟨v5, v6, rfl, HN⟩
  replace H := H.also HN
  clear HN
  rw [hP.out.1, hP.out.2.1, hP.out.2.2.1, hP.out.2.2.2.1]
  rw [hP.out.2.2.2.2.1, hP.out.2.2.2.2.2] at H
  obtain ⟨AQ, cQ, rfl, -⟩ := row_form (H.row 11 rfl)
  obtain ⟨BQ, dQ, rfl, -⟩ := row_form (H.row 12 rfl)
  replace H : St w [] wx (lay [.blk gA 31 [.int .u8 (k.toNat : Int), .int .i64 h, .int .u8 (a.toNat : Int), .int .i64 cn, .int .i64 ou, .slice A n c, .slice B m d], .row 5 1 (.slice (some ⟨g1, 0, none⟩) (n + 6) c1) (n + 6) (X.map vb), .row 5 1 (.slice (some ⟨e1, 0, none⟩) (m + 6) d1) (m + 6) (Y.map vb), .blk p1 31 [.int .u8 (k.toNat : Int), .int .i64 h, .int .u8 (a.toNat : Int), .int .i64 cn, .int .i64 ou, .slice (some ⟨g1, 0, none⟩) n c1, .slice (some ⟨e1, 0, none⟩) m d1], .blk q1 47 [.slice (some ⟨g1, 0, none⟩) (n + 6) c1, .slice (some ⟨e1, 0, none⟩) (m + 6) d1], .row 5 1 (.slice AE L.length cE) L.length (L.map vb), .row 5 1 (.slice AF L.length cF) L.length (L.map vb), .row 5 1 (.slice AG L.length cG) L.length (L.map vb), .row 5 1 (.slice AP pd.length cP) pd.length (pd.map vb), .row 5 1 (.slice BP pm.length dP) pm.length (pm.map vb), .blk bP 31 [.int .u8 (k.toNat : Int), .int .i64 ph, .int .u8 (pa.toNat : Int), .int .i64 pc, .int .i64 po, .slice AP pd.length cP, .slice BP pm.length dP], .row 5 1 (.slice AQ pd.length cQ) pd.length (pd.map vb), .row 5 1 (.slice BQ pm.length dQ) pm.length (pm.map vb)]) := H
  have HA := (H.allocAt 13 rfl wx.heap.size rfl #[.int .u8 (k.toNat : Int), .int .i64 ph, .int .u8 (pa.toNat : Int), .int .i64 pc, .int .i64 po, .slice AQ pd.length cQ, .slice BQ pm.length dQ] 31).push_mk rfl
  clear H
  have y1 := HA.lt 0 rfl
  have y2 := HA.lt 3 rfl
  go_wp2_with (first | (refine load_guard (by rfl) 31 (.tmp 1) rfl gA rfl _ _ _ _ (HA.blk 0 rfl) Try.underlying31 rfl op_size ?_) | (refine wpList_load_row rfl 31 (.tmp 1) rfl gA rfl _ _ _ _ (HA.blk 0 rfl) Try.underlying31 rfl op_size ?_) | (refine load_guard (by rfl) 31 (.tmp 3) rfl p1 rfl _ _ _ _ (HA.blk 3 rfl) Try.underlying31 rfl op_size ?_) | (refine wpList_load_row rfl 31 (.tmp 3) rfl p1 rfl _ _ _ _ (HA.blk 3 rfl) Try.underlying31 rfl op_size ?_))
  refine absorb_calls HA ?_
  clear HA y1 y2
  intro wy H
  generalize wx.heap.size = bQ at H ⊢
  replace H : St w [] wy (lay [.blk gA 31 [.int .u8 (k.toNat : Int), .int .i64 h, .int .u8 (a.toNat : Int), .int .i64 cn, .int .i64 ou, .slice A n c, .slice B m d], .row 5 1 (.slice (some ⟨g1, 0, none⟩) (n + 6) c1) (n + 6) (X.map vb), .row 5 1 (.slice (some ⟨e1, 0, none⟩) (m + 6) d1) (m + 6) (Y.map vb), .blk p1 31 [.int .u8 (k.toNat : Int), .int .i64 h, .int .u8 (a.toNat : Int), .int .i64 cn, .int .i64 ou, .slice (some ⟨g1, 0, none⟩) n c1, .slice (some ⟨e1, 0, none⟩) m d1], .blk q1 47 [.slice (some ⟨g1, 0, none⟩) (n + 6) c1, .slice (some ⟨e1, 0, none⟩) (m + 6) d1], .row 5 1 (.slice AE L.length cE) L.length (L.map vb), .row 5 1 (.slice AF L.length cF) L.length (L.map vb), .row 5 1 (.slice AG L.length cG) L.length (L.map vb), .row 5 1 (.slice AP pd.length cP) pd.length (pd.map vb), .row 5 1 (.slice BP pm.length dP) pm.length (pm.map vb), .blk bP 31 [.int .u8 (k.toNat : Int), .int .i64 ph, .int .u8 (pa.toNat : Int), .int .i64 pc, .int .i64 po, .slice AP pd.length cP, .slice BP pm.length dP], .row 5 1 (.slice AQ pd.length cQ) pd.length (pd.map vb), .row 5 1 (.slice BQ pm.length dQ) pm.length (pm.map vb), .blk bQ 31 [.int .u8 (k.toNat : Int), .int .i64 ph, .int .u8 (pa.toNat : Int), .int .i64 pc, .int .i64 po, .slice AQ pd.length cQ, .slice BQ pm.length dQ]]) := H
  refine (refPlain_s k h a cn ou _ _ n m _ _ xs ys _ (H.arg0 hA) (H.arg0 hB) (by omega) (by omega)).mono ?_
  rintro e wx ⟨v5, v6, rfl, HN⟩
  replace H := H.also HN
  clear HN
  rw [hP.out.1, hP.out.2.1, hP.out.2.2.1, hP.out.2.2.2.1]
  rw [hP.out.2.2.2.2.1, hP.out.2.2.2.2.2] at H
  obtain ⟨AR, cR, rfl, -⟩ := row_form (H.row 14 rfl)
  obtain ⟨BR, dR, rfl, -⟩ := row_form (H.row 15 rfl)
  replace H : St w [] wx (lay [.blk gA 31 [.int .u8 (k.toNat : Int), .int .i64 h, .int .u8 (a.toNat : Int), .int .i64 cn, .int .i64 ou, .slice A n c, .slice B m d], .row 5 1 (.slice (some ⟨g1, 0, none⟩) (n + 6) c1) (n + 6) (X.map vb), .row 5 1 (.slice (some ⟨e1, 0, none⟩) (m + 6) d1) (m + 6) (Y.map vb), .blk p1 31 [.int .u8 (k.toNat : Int), .int .i64 h, .int .u8 (a.toNat : Int), .int .i64 cn, .int .i64 ou, .slice (some ⟨g1, 0, none⟩) n c1, .slice (some ⟨e1, 0, none⟩) m d1], .blk q1 47 [.slice (some ⟨g1, 0, none⟩) (n + 6) c1, .slice (some ⟨e1, 0, none⟩) (m + 6) d1], .row 5 1 (.slice AE L.length cE) L.length (L.map vb), .row 5 1 (.slice AF L.length cF) L.length (L.map vb), .row 5 1 (.slice AG L.length cG) L.length (L.map vb), .row 5 1 (.slice AP pd.length cP) pd.length (pd.map vb), .row 5 1 (.slice BP pm.length dP) pm.length (pm.map vb), .blk bP 31 [.int .u8 (k.toNat : Int), .int .i64 ph, .int .u8 (pa.toNat : Int), .int .i64 pc, .int .i64 po, .slice AP pd.length cP, .slice BP pm.length dP], .row 5 1 (.slice AQ pd.length cQ) pd.length (pd.map vb), .row 5 1 (.slice BQ pm.length dQ) pm.length (pm.map vb), .blk bQ 31 [.int .u8 (k.toNat : Int), .int .i64 ph, .int .u8 (pa.toNat : Int), .int .i64 pc, .int .i64 po, .slice AQ pd.length cQ, .slice BQ pm.length dQ], .row 5 1 (.slice AR pd.length cR) pd.length (pd.map vb), .row 5 1 (.slice BR pm.length dR) pm.length (pm.map vb)]) := H
  have HA := (H.allocAt 16 rfl wx.heap.size rfl #[.int .u8 (k.toNat : Int), .int .i64 ph, .int .u8 (pa.toNat : Int), .int .i64 pc, .int .i64 po, .slice AR pd.length cR, .slice BR pm.length dR] 31).push_mk rfl
  clear H
  have y1 := HA.lt 0 rfl
  have y2 := HA.lt 3 rfl
  have f1 := b_bne ee
  go_wp2_with fail
  refine absorb_calls HA ?_
  clear HA y1 y2
  intro wy H
  generalize wx.heap.size = bR at H ⊢
  replace H : St w [] wy (lay [.blk gA 31 [.int .u8 (k.toNat : Int), .int .i64 h, .int .u8 (a.toNat : Int), .int .i64 cn, .int .i64 ou, .slice A n c, .slice B m d], .row 5 1 (.slice (some ⟨g1, 0, none⟩) (n + 6) c1) (n + 6) (X.map vb), .row 5 1 (.slice (some ⟨e1, 0, none⟩) (m + 6) d1) (m + 6) (Y.map vb), .blk p1 31 [.int .u8 (k.toNat : Int), .int .i64 h, .int .u8 (a.toNat : Int), .int .i64 cn, .int .i64 ou, .slice (some ⟨g1, 0, none⟩) n c1, .slice (some ⟨e1, 0, none⟩) m d1], .blk q1 47 [.slice (some ⟨g1, 0, none⟩) (n + 6) c1, .slice (some ⟨e1, 0, none⟩) (m + 6) d1], .row 5 1 (.slice AE L.length cE) L.length (L.map vb), .row 5 1 (.slice AF L.length cF) L.length (L.map vb), .row 5 1 (.slice AG L.length cG) L.length (L.map vb), .row 5 1 (.slice AP pd.length cP) pd.length (pd.map vb), .row 5 1 (.slice BP pm.length dP) pm.length (pm.map vb), .blk bP 31 [.int .u8 (k.toNat : Int), .int .i64 ph, .int .u8 (pa.toNat : Int), .int .i64 pc, .int .i64 po, .slice AP pd.length cP, .slice BP pm.length dP], .row 5 1 (.slice AQ pd.length cQ) pd.length (pd.map vb), .row 5 1 (.slice BQ pm.length dQ) pm.length (pm.map vb), .blk bQ 31 [.int .u8 (k.toNat : Int), .int .i64 ph, .int .u8 (pa.toNat : Int), .int .i64 pc, .int .i64 po, .slice AQ pd.length cQ, .slice BQ pm.length dQ], .row 5 1 (.slice AR pd.length cR) pd.length (pd.map vb), .row 5 1 (.slice BR pm.length dR) pm.length (pm.map vb), .blk bR 31 [.int .u8 (k.toNat : Int), .int .i64 ph, .int .u8 (pa.toNat : Int), .int .i64 pc, .int .i64 po, .slice AR pd.length cR, .slice BR pm.length dR]]) := H
  refine (sameBytes_yes AE AG L.length L.length cE cG L L _ (H.rd 5 rfl) (H.rd 7 rfl) (by have := HLL.out; omega) (by have := HLL.out; omega) rfl).mono ?_
  rintro e wx ⟨rfl, hb⟩
  replace H := H.call hb
  clear hb
  go_wp2_with (first | (refine load_guard (by rfl) 31 (.tmp 11) rfl bP rfl _ _ _ _ (H.blk 10 rfl) Try.underlying31 rfl op_size ?_) | (refine wpList_load_row rfl 31 (.tmp 11) rfl bP rfl _ _ _ _ (H.blk 10 rfl) Try.underlying31 rfl op_size ?_) | (refine load_guard (by rfl) 31 (.tmp 13) rfl bR rfl _ _ _ _ (H.blk 16 rfl) Try.underlying31 rfl op_size ?_) | (refine wpList_load_row rfl 31 (.tmp 13) rfl bR rfl _ _ _ _ (H.blk 16 rfl) Try.underlying31 rfl op_size ?_) | (refine load_guard (by rfl) 31 (.tmp 12) rfl bQ rfl _ _ _ _ (H.blk 13 rfl) Try.underlying31 rfl op_size ?_) | (refine wpList_load_row rfl 31 (.tmp 12) rfl bQ rfl _ _ _ _ (H.blk 13 rfl) Try.underlying31 rfl op_size ?_) | (refine load_guard (by rfl) 47 (.tmp 4) rfl q1 rfl _ _ _ _ (H.blk 4 rfl) Try.underlying47 rfl two_size ?_) | (refine wpList_load_row rfl 47 (.tmp 4) rfl q1 rfl _ _ _ _ (H.blk 4 rfl) Try.underlying47 rfl two_size ?_) | (refine load_guard (by rfl) 31 (.tmp 1) rfl gA rfl _ _ _ _ (H.blk 0 rfl) Try.underlying31 rfl op_size ?_) | (refine wpList_load_row rfl 31 (.tmp 1) rfl gA rfl _ _ _ _ (H.blk 0 rfl) Try.underlying31 rfl op_size ?_))
  refine (sameBytes_yes AF AG L.length L.length cF cG L L _ (H.rd 6 rfl) (H.rd 7 rfl) (by have := HLL.out; omega) (by have := HLL.out; omega) rfl).mono ?_
  rintro e wx ⟨rfl, hb⟩
  replace H := H.call hb
  clear hb
  go_wp2_with (first | (refine load_guard (by rfl) 31 (.tmp 11) rfl bP rfl _ _ _ _ (H.blk 10 rfl) Try.underlying31 rfl op_size ?_) | (refine wpList_load_row rfl 31 (.tmp 11) rfl bP rfl _ _ _ _ (H.blk 10 rfl) Try.underlying31 rfl op_size ?_) | (refine load_guard (by rfl) 31 (.tmp 13) rfl bR rfl _ _ _ _ (H.blk 16 rfl) Try.underlying31 rfl op_size ?_) | (refine wpList_load_row rfl 31 (.tmp 13) rfl bR rfl _ _ _ _ (H.blk 16 rfl) Try.underlying31 rfl op_size ?_) | (refine load_guard (by rfl) 31 (.tmp 12) rfl bQ rfl _ _ _ _ (H.blk 13 rfl) Try.underlying31 rfl op_size ?_) | (refine wpList_load_row rfl 31 (.tmp 12) rfl bQ rfl _ _ _ _ (H.blk 13 rfl) Try.underlying31 rfl op_size ?_) | (refine load_guard (by rfl) 47 (.tmp 4) rfl q1 rfl _ _ _ _ (H.blk 4 rfl) Try.underlying47 rfl two_size ?_) | (refine wpList_load_row rfl 47 (.tmp 4) rfl q1 rfl _ _ _ _ (H.blk 4 rfl) Try.underlying47 rfl two_size ?_) | (refine load_guard (by rfl) 31 (.tmp 1) rfl gA rfl _ _ _ _ (H.blk 0 rfl) Try.underlying31 rfl op_size ?_) | (refine wpList_load_row rfl 31 (.tmp 1) rfl gA rfl _ _ _ _ (H.blk 0 rfl) Try.underlying31 rfl op_size ?_))
  refine (sameOp_yes k ph pa pc po AP BP AR BR pd.length pm.length cP dP pd.length pm.length cR dR pd pm _ (H.rd 8 rfl) (H.rd 9 rfl) (H.rd 14 rfl) (H.rd 15 rfl) (by have := HPL.out; omega) (by have := HPL.out; omega)).mono ?_
  rintro e wx ⟨rfl, hb⟩
  replace H := H.call hb
  clear hb
  go_wp2_with (first | (refine load_guard (by rfl) 31 (.tmp 11) rfl bP rfl _ _ _ _ (H.blk 10 rfl) Try.underlying31 rfl op_size ?_) | (refine wpList_load_row rfl 31 (.tmp 11) rfl bP rfl _ _ _ _ (H.blk 10 rfl) Try.underlying31 rfl op_size ?_) | (refine load_guard (by rfl) 31 (.tmp 13) rfl bR rfl _ _ _ _ (H.blk 16 rfl) Try.underlying31 rfl op_size ?_) | (refine wpList_load_row rfl 31 (.tmp 13) rfl bR rfl _ _ _ _ (H.blk 16 rfl) Try.underlying31 rfl op_size ?_) | (refine load_guard (by rfl) 31 (.tmp 12) rfl bQ rfl _ _ _ _ (H.blk 13 rfl) Try.underlying31 rfl op_size ?_) | (refine wpList_load_row rfl 31 (.tmp 12) rfl bQ rfl _ _ _ _ (H.blk 13 rfl) Try.underlying31 rfl op_size ?_) | (refine load_guard (by rfl) 47 (.tmp 4) rfl q1 rfl _ _ _ _ (H.blk 4 rfl) Try.underlying47 rfl two_size ?_) | (refine wpList_load_row rfl 47 (.tmp 4) rfl q1 rfl _ _ _ _ (H.blk 4 rfl) Try.underlying47 rfl two_size ?_) | (refine load_guard (by rfl) 31 (.tmp 1) rfl gA rfl _ _ _ _ (H.blk 0 rfl) Try.underlying31 rfl op_size ?_) | (refine wpList_load_row rfl 31 (.tmp 1) rfl gA rfl _ _ _ _ (H.blk 0 rfl) Try.underlying31 rfl op_size ?_))
  refine (sameOp_yes k ph pa pc po AQ BQ AR BR pd.length pm.length cQ dQ pd.length pm.length cR dR pd pm _ (H.rd 11 rfl) (H.rd 12 rfl) (H.rd 14 rfl) (H.rd 15 rfl) (by have := HPL.out; omega) (by have := HPL.out; omega)).mono ?_
  rintro e wx ⟨rfl, hb⟩
  replace H := H.call hb
  clear hb
  go_wp2_with (first | (refine load_guard (by rfl) 31 (.tmp 11) rfl bP rfl _ _ _ _ (H.blk 10 rfl) Try.underlying31 rfl op_size ?_) | (refine wpList_load_row rfl 31 (.tmp 11) rfl bP rfl _ _ _ _ (H.blk 10 rfl) Try.underlying31 rfl op_size ?_) | (refine load_guard (by rfl) 31 (.tmp 13) rfl bR rfl _ _ _ _ (H.blk 16 rfl) Try.underlying31 rfl op_size ?_) | (refine wpList_load_row rfl 31 (.tmp 13) rfl bR rfl _ _ _ _ (H.blk 16 rfl) Try.underlying31 rfl op_size ?_) | (refine load_guard (by rfl) 31 (.tmp 12) rfl bQ rfl _ _ _ _ (H.blk 13 rfl) Try.underlying31 rfl op_size ?_) | (refine wpList_load_row rfl 31 (.tmp 12) rfl bQ rfl _ _ _ _ (H.blk 13 rfl) Try.underlying31 rfl op_size ?_) | (refine load_guard (by rfl) 47 (.tmp 4) rfl q1 rfl _ _ _ _ (H.blk 4 rfl) Try.underlying47 rfl two_size ?_) | (refine wpList_load_row rfl 47 (.tmp 4) rfl q1 rfl _ _ _ _ (H.blk 4 rfl) Try.underlying47 rfl two_size ?_) | (refine load_guard (by rfl) 31 (.tmp 1) rfl gA rfl _ _ _ _ (H.blk 0 rfl) Try.underlying31 rfl op_size ?_) | (refine wpList_load_row rfl 31 (.tmp 1) rfl gA rfl _ _ _ _ (H.blk 0 rfl) Try.underlying31 rfl op_size ?_))
  refine (keptOp_yes k h a cn ou A B _ _ n m c d (n + 6) (m + 6) _ _ xs ys _ (H.arg0 hA) (H.arg0 hB) (by rw [HX.out]; exact H.rd 1 rfl) (by rw [HY.out]; exact H.rd 2 rfl) (by omega) (by omega) (by omega) (by omega)).mono ?_
  rintro e wx ⟨rfl, hb⟩
  replace H := H.call hb
  clear hb
  go_wp2_with (first | (refine load_guard (by rfl) 31 (.tmp 11) rfl bP rfl _ _ _ _ (H.blk 10 rfl) Try.underlying31 rfl op_size ?_) | (refine wpList_load_row rfl 31 (.tmp 11) rfl bP rfl _ _ _ _ (H.blk 10 rfl) Try.underlying31 rfl op_size ?_) | (refine load_guard (by rfl) 31 (.tmp 13) rfl bR rfl _ _ _ _ (H.blk 16 rfl) Try.underlying31 rfl op_size ?_) | (refine wpList_load_row rfl 31 (.tmp 13) rfl bR rfl _ _ _ _ (H.blk 16 rfl) Try.underlying31 rfl op_size ?_) | (refine load_guard (by rfl) 31 (.tmp 12) rfl bQ rfl _ _ _ _ (H.blk 13 rfl) Try.underlying31 rfl op_size ?_) | (refine wpList_load_row rfl 31 (.tmp 12) rfl bQ rfl _ _ _ _ (H.blk 13 rfl) Try.underlying31 rfl op_size ?_) | (refine load_guard (by rfl) 47 (.tmp 4) rfl q1 rfl _ _ _ _ (H.blk 4 rfl) Try.underlying47 rfl two_size ?_) | (refine wpList_load_row rfl 47 (.tmp 4) rfl q1 rfl _ _ _ _ (H.blk 4 rfl) Try.underlying47 rfl two_size ?_) | (refine load_guard (by rfl) 31 (.tmp 1) rfl gA rfl _ _ _ _ (H.blk 0 rfl) Try.underlying31 rfl op_size ?_) | (refine wpList_load_row rfl 31 (.tmp 1) rfl gA rfl _ _ _ _ (H.blk 0 rfl) Try.underlying31 rfl op_size ?_))
  refine (overOp_st H 1 2 (by omega) rfl rfl (by omega) (by omega)).mono ?_
  rintro e wx ⟨rfl, H'⟩
  rw [upd_lay (by simp), upd_lay (by simp)] at H'
  replace H := H'
  clear H'
  have HM1 : Hid ((marksB 9 0 (n + 6)).length = n + 6) := marksB_length _ _ _
  have HM2 : Hid ((marksB 9 0 (m + 6)).length = m + 6) := marksB_length _ _ _
  replace H := (H.shape_row 1 rfl (n' := (marksB 9 0 (n + 6)).length) (xs' := (marksB 9 0 (n + 6)).map vb) HM1.out.symm rfl).shape_row 2 rfl (n' := (marksB 9 0 (m + 6)).length) (xs' := (marksB 9 0 (m + 6)).map vb) HM2.out.symm rfl
  generalize marksB 9 0 (n + 6) = M1 at H HM1
  generalize marksB 9 0 (m + 6) = M2 at H HM2
  replace H : St w [] wx (lay [.blk gA 31 [.int .u8 (k.toNat : Int), .int .i64 h, .int .u8 (a.toNat : Int), .int .i64 cn, .int .i64 ou, .slice A n c, .slice B m d], .row 5 1 (.slice (some ⟨g1, 0, none⟩) (n + 6) c1) M1.length (M1.map vb), .row 5 1 (.slice (some ⟨e1, 0, none⟩) (m + 6) d1) M2.length (M2.map vb), .blk p1 31 [.int .u8 (k.toNat : Int), .int .i64 h, .int .u8 (a.toNat : Int), .int .i64 cn, .int .i64 ou, .slice (some ⟨g1, 0, none⟩) n c1, .slice (some ⟨e1, 0, none⟩) m d1], .blk q1 47 [.slice (some ⟨g1, 0, none⟩) (n + 6) c1, .slice (some ⟨e1, 0, none⟩) (m + 6) d1], .row 5 1 (.slice AE L.length cE) L.length (L.map vb), .row 5 1 (.slice AF L.length cF) L.length (L.map vb), .row 5 1 (.slice AG L.length cG) L.length (L.map vb), .row 5 1 (.slice AP pd.length cP) pd.length (pd.map vb), .row 5 1 (.slice BP pm.length dP) pm.length (pm.map vb), .blk bP 31 [.int .u8 (k.toNat : Int), .int .i64 ph, .int .u8 (pa.toNat : Int), .int .i64 pc, .int .i64 po, .slice AP pd.length cP, .slice BP pm.length dP], .row 5 1 (.slice AQ pd.length cQ) pd.length (pd.map vb), .row 5 1 (.slice BQ pm.length dQ) pm.length (pm.map vb), .blk bQ 31 [.int .u8 (k.toNat : Int), .int .i64 ph, .int .u8 (pa.toNat : Int), .int .i64 pc, .int .i64 po, .slice AQ pd.length cQ, .slice BQ pm.length dQ], .row 5 1 (.slice AR pd.length cR) pd.length (pd.map vb), .row 5 1 (.slice BR pm.length dR) pm.length (pm.map vb), .blk bR 31 [.int .u8 (k.toNat : Int), .int .i64 ph, .int .u8 (pa.toNat : Int), .int .i64 pc, .int .i64 po, .slice AR pd.length cR, .slice BR pm.length dR]]) := H
  go_wp2_with (first | (refine load_guard (by rfl) 31 (.tmp 11) rfl bP rfl _ _ _ _ (H.blk 10 rfl) Try.underlying31 rfl op_size ?_) | (refine wpList_load_row rfl 31 (.tmp 11) rfl bP rfl _ _ _ _ (H.blk 10 rfl) Try.underlying31 rfl op_size ?_) | (refine load_guard (by rfl) 31 (.tmp 13) rfl bR rfl _ _ _ _ (H.blk 16 rfl) Try.underlying31 rfl op_size ?_) | (refine wpList_load_row rfl 31 (.tmp 13) rfl bR rfl _ _ _ _ (H.blk 16 rfl) Try.underlying31 rfl op_size ?_) | (refine load_guard (by rfl) 31 (.tmp 12) rfl bQ rfl _ _ _ _ (H.blk 13 rfl) Try.underlying31 rfl op_size ?_) | (refine wpList_load_row rfl 31 (.tmp 12) rfl bQ rfl _ _ _ _ (H.blk 13 rfl) Try.underlying31 rfl op_size ?_) | (refine load_guard (by rfl) 47 (.tmp 4) rfl q1 rfl _ _ _ _ (H.blk 4 rfl) Try.underlying47 rfl two_size ?_) | (refine wpList_load_row rfl 47 (.tmp 4) rfl q1 rfl _ _ _ _ (H.blk 4 rfl) Try.underlying47 rfl two_size ?_) | (refine load_guard (by rfl) 31 (.tmp 1) rfl gA rfl _ _ _ _ (H.blk 0 rfl) Try.underlying31 rfl op_size ?_) | (refine wpList_load_row rfl 31 (.tmp 1) rfl gA rfl _ _ _ _ (H.blk 0 rfl) Try.underlying31 rfl op_size ?_))
  refine (sameBytes_yes AE AG L.length L.length cE cG L L _ (H.rd 5 rfl) (H.rd 7 rfl) (by have := HLL.out; omega) (by have := HLL.out; omega) rfl).mono ?_
  rintro e wx ⟨rfl, hb⟩
  replace H := H.call hb
  clear hb
  go_wp2_with (first | (refine load_guard (by rfl) 31 (.tmp 11) rfl bP rfl _ _ _ _ (H.blk 10 rfl) Try.underlying31 rfl op_size ?_) | (refine wpList_load_row rfl 31 (.tmp 11) rfl bP rfl _ _ _ _ (H.blk 10 rfl) Try.underlying31 rfl op_size ?_) | (refine load_guard (by rfl) 31 (.tmp 13) rfl bR rfl _ _ _ _ (H.blk 16 rfl) Try.underlying31 rfl op_size ?_) | (refine wpList_load_row rfl 31 (.tmp 13) rfl bR rfl _ _ _ _ (H.blk 16 rfl) Try.underlying31 rfl op_size ?_) | (refine load_guard (by rfl) 31 (.tmp 12) rfl bQ rfl _ _ _ _ (H.blk 13 rfl) Try.underlying31 rfl op_size ?_) | (refine wpList_load_row rfl 31 (.tmp 12) rfl bQ rfl _ _ _ _ (H.blk 13 rfl) Try.underlying31 rfl op_size ?_) | (refine load_guard (by rfl) 47 (.tmp 4) rfl q1 rfl _ _ _ _ (H.blk 4 rfl) Try.underlying47 rfl two_size ?_) | (refine wpList_load_row rfl 47 (.tmp 4) rfl q1 rfl _ _ _ _ (H.blk 4 rfl) Try.underlying47 rfl two_size ?_) | (refine load_guard (by rfl) 31 (.tmp 1) rfl gA rfl _ _ _ _ (H.blk 0 rfl) Try.underlying31 rfl op_size ?_) | (refine wpList_load_row rfl 31 (.tmp 1) rfl gA rfl _ _ _ _ (H.blk 0 rfl) Try.underlying31 rfl op_size ?_))
  refine (sameOp_yes k ph pa pc po AP BP AR BR pd.length pm.length cP dP pd.length pm.length cR dR pd pm _ (H.rd 8 rfl) (H.rd 9 rfl) (H.rd 14 rfl) (H.rd 15 rfl) (by have := HPL.out; omega) (by have := HPL.out; omega)).mono ?_
  rintro e wx ⟨rfl, hb⟩
  replace H := H.call hb
  clear hb
  have x1 := H.cell 10 rfl (o := 5) rfl
  have x2 := H.cell 10 rfl (o := 6) rfl
  have x3 := H.cell 13 rfl (o := 5) rfl
  have x4 := H.cell 13 rfl (o := 6) rfl
  have x5 := H.cell 4 rfl (o := 0) rfl
  have x6 := H.cell 4 rfl (o := 1) rfl
  go_wp2_with fail
  refine (apart_st H [(.slice AE L.length cE, L), (.slice AF L.length cF, L), (.slice AP pd.length cP, pd), (.slice BP pm.length dP, pm), (.slice AQ pd.length cQ, pd), (.slice BQ pm.length dQ, pm), (.slice (some ⟨g1, 0, none⟩) (n + 6) c1, M1), (.slice (some ⟨e1, 0, none⟩) (m + 6) d1, M2)] (fun i => [5, 6, 8, 9, 11, 12, 1, 2].getD i 99) (fun i j hi hj => (by decide : ∀ i < 8, ∀ j < 8, [5, 6, 8, 9, 11, 12, 1, 2].getD i 99 = [5, 6, 8, 9, 11, 12, 1, 2].getD j 99 → i = j) i hi j hj) ?_ 8 rfl (by omega) ?_ _ rfl).mono ?_
  · intro i p hp
    match i, hp with
    | 0, hp => cases hp; rfl
    | 1, hp => cases hp; rfl
    | 2, hp => cases hp; rfl
    | 3, hp => cases hp; rfl
    | 4, hp => cases hp; rfl
    | 5, hp => cases hp; rfl
    | 6, hp => cases hp; rfl
    | 7, hp => cases hp; rfl
    | i + 8, hp => simp at hp
  · intro p hp
    have h1 := HLL.out
    have h2 := HPL.out
    have h3 := HM1.out
    have h4 := HM2.out
    simp only [List.mem_cons, List.not_mem_nil, or_false] at hp
    rcases hp with rfl | rfl | rfl | rfl | rfl | rfl | rfl | rfl <;> simp only <;> omega
  rintro e wz ⟨rfl, hbz⟩
  go_wp2_with fail
  go_ret
  exact ⟨rfl, hbz⟩
end Go.Proofs.Ytgfhnbjpdhdhgaa
