/- The law SkelTakes, walked. -/
import Derived.Test.YtgfhnbjpdhdhgaaSkAll
import Derived.Test.YtgfhnbjpdhdhgaaApartS
import Derived.Test.YtgfhnbjpdhdhgaaFam
namespace Go.Proofs.Ytgfhnbjpdhdhgaa
open Go.RowKit
set_option linter.unusedVariables false

theorem St.rdBlk {w0 w : World} {F0 : List Nat} {E : Env} {g : Nat} {T : TypeId} {cs : List Value} (H : St w0 F0 w E) (k : Nat) (hk : E k = some (.blk g T cs)) (size n : Nat) (hl : cs.length = n * size) : Rd w size (some ⟨g, 0, none⟩) n cs :=
  ⟨hl, fun _ => ⟨_, rfl, H.lt k hk, fun j u hu => by rw [Addr.add_mid, Nat.zero_add]; exact H.cell k hk hu⟩⟩
theorem Rd.frontB {w : World} {A : Option Addr} {n m : Nat} {l k : List UInt8} (h : Rd w 1 A m ((l ++ k).map vb)) (hn : l.length = n) (hm : n ≤ m) : Rd w 1 A n (l.map vb) := by
  have := h.take hm
  rw [List.take_left' hn] at this
  exact this
theorem drop_of_get {α : Type} {l : List α} {q : Nat} {y : α} (h : l[q]? = some y) : l.drop q = y :: l.drop (q + 1) := by
  obtain ⟨h1, h2⟩ := List.getElem?_eq_some_iff.1 h
  rw [List.drop_eq_getElem_cons h1, h2]
theorem rep_get {α : Type} (q : Nat) (z y : α) (t : List α) : (List.replicate q z ++ (y :: t))[q]? = some y := by
  rw [List.getElem?_append_right (by simp)]
  simp
theorem LentAll.map {l L : List OpR} {n : Nat} (h : LentAll l L n) (hl : l.length = n) : L.map skOf = l.map skOf := by
  refine List.ext_getElem? fun i => ?_
  rw [List.getElem?_map, List.getElem?_map]
  by_cases hi : i < n
  · have h1 : L[i]? = some (L[i]'(by rw [h.1]; exact hi)) := List.getElem?_eq_getElem _
    have h2 : l[i]? = some (l[i]'(by rw [hl]; exact hi)) := List.getElem?_eq_getElem _
    rw [h1, h2]
    obtain ⟨g, c, g', d, -, -, e⟩ := h.2 i _ _ h2 h1
    simp only [Option.map_some]
    rw [e]
    rfl
  · rw [List.getElem?_eq_none (by rw [h.1]; omega), List.getElem?_eq_none (by rw [hl]; omega)]
theorem St.shapeN {w0 w : World} {F0 : List Nat} {L : List Own} {e : TypeId} {size : Nat} {v : Value} {n n' : Nat} {xs : List Value} (H : St w0 F0 w (lay L)) (k : Nat) (hk : L[k]? = some (.row e size v n xs)) (hn : n = n') : St w0 F0 w (lay (L.set k (.row e size v n' xs))) := by
  subst hn
  obtain ⟨h1, h2⟩ := List.getElem?_eq_some_iff.1 hk
  rw [← h2, List.set_getElem_self]
  exact H
def swap26 (k : Nat) : Nat := if k = 2 then 6 else if k = 6 then 2 else k
theorem swap26_inj (i j : Nat) (h : swap26 i = swap26 j) : i = j := by
  unfold swap26 at h
  split at h <;> (try split at h) <;> (try split at h) <;> (try split at h) <;> omega
theorem opsV_over (q : Nat) (y : OpR) (t : List OpR) :
    ((((((((opsV (List.replicate q z77 ++ (y :: t))).set (q * 7) (.int .u8 77)).set (q * 7 + 1) (.int .i64 0)).set (q * 7 + 2) (.int .u8 0)).set (q * 7 + 3) (.int .i64 0)).set (q * 7 + 4) (.int .i64 0)).set (q * 7 + 5) (.slice none 0 0)).set (q * 7 + 6) (.slice none 0 0)) = opsV (List.replicate (q + 1) z77 ++ t) := by
  rw [List.replicate_succ', opsV_append, opsV_append, opsV_append]
  have h : (opsV (List.replicate q z77)).length = q * 7 := by rw [opsV_length, List.length_replicate]
  generalize opsV (List.replicate q z77) = pre at h
  rw [show opsV (y :: t) = [.int .u8 (y.k.toNat : Int), .int .i64 y.h, .int .u8 (y.a.toNat : Int), .int .i64 y.c, .int .i64 y.o, .slice y.A y.n y.cA, .slice y.B y.m y.cB] ++ opsV t from rfl, set7 pre (opsV t) q h, List.append_assoc]
  rfl

set_option maxRecDepth 100000 in
set_option maxHeartbeats 8000000 in
theorem skelTakes_walk (A0 : Option Addr) (n c0 : Nat) (l : List OpR) (w : World) (hR : Rd w 7 A0 n (opsV l)) (hn : n ≤ 1599289640354) (hok : ∀ s ∈ l, s.Ok w) :
    Calls Try.prog 6 #[.slice A0 n c0] w fun e w' => e = .returned (.bool true) ∧ Below w.heap.size w w' := by
  obtain ⟨i0, hi0, hz0, hz1, hz2⟩ := info_parts op_info
  obtain ⟨i1, hi1, hy0, hy1, hy2⟩ := info_parts t2_info
  have hl : l.length = n := by have := hR.1; rw [opsV_length] at this; omega
  have HL := Lib.hid hl
  have HOK := Lib.hid hok
  clear hl hok
  have hU := Try.underlying31
  have hT := Try.underlying47
  have H := (((St.start_lay w []).nilRow 0 rfl 31 7).push_mk rfl |>.nilRow 1 rfl 47 2 |>.push_mk rfl |>.nothing 2 rfl |>.push_mk rfl)
  replace H : St w [] w (lay [.row 31 7 (.slice none 0 0) 0 (opsV []), .row 47 2 (.slice none 0 0) 0 (fullsV []), bigO lentO []]) := H
  go_enter Try.func6, Try.ntmps6
  go_wp2
  go_loopw [3, 4, 5] (fun v u i wr => ∃ (j : Nat) (L : List OpR), j ≤ n ∧ i = .int .i64 j ∧ Hid (LentAll l L j) ∧ St w [] wr (lay [.row 31 7 v j (opsV L), .row 47 2 u j (fullsV L), bigO lentO L])) (fun _ _ i _ => n - (intOf i).toNat)
  case atStart => exact ⟨0, [], Nat.zero_le _, rfl, ⟨rfl, fun i x y _ h => by simp at h⟩, H⟩
  case round =>
    clear H
    obtain ⟨j, L, hj, rfl, HLA, H⟩ := hrel
    by_cases hlt : j < n
    · obtain ⟨x, hx⟩ : ∃ r, l[j]? = some r := ⟨_, List.getElem?_eq_getElem (by rw [HL.out]; exact hlt)⟩
      have ok := HOK.out x (List.mem_of_getElem? hx)
      obtain ⟨p, o, rfl, a0, a1, a2, a3, a4, a5, a6, hlt2⟩ := op_cells7 (H.arg0 hR) hx
      have HX := Lib.hid hx
      clear hx
      obtain ⟨k, h, a, cn, ou, A, m, c, B, m2, d, xs, ys⟩ := x
      obtain ⟨ra, rb, ba, bb, -, -, -⟩ := ok
      simp only at ra rb ba bb a0 a1 a2 a3 a4 a5 a6
      have hk1 : (j : Int) < n := by omega
      go_wp2_with fail
      refine (lentOp_s k h a cn ou A B m m2 c d xs ys wr (H.arg0 ra) (H.arg0 rb) (by omega) (by omega)).mono ?_
      rintro e w2 ⟨g, g2, c1, d1, hc1, hd1, rfl, HN⟩
      replace H := H.also HN
      clear HN a0 a1 a2 a3 a4 a5 a6
      have HA := (H.allocAt 5 rfl w2.heap.size rfl #[.int .u8 (k.toNat : Int), .int .i64 h, .int .u8 (a.toNat : Int), .int .i64 cn, .int .i64 ou, .slice (some ⟨g, 0, none⟩) m c1, .slice (some ⟨g2, 0, none⟩) m2 d1] 31).push_mk rfl |>.allocAt 6 rfl (w2.heap.size + 1) (by simp) #[.slice (some ⟨g, 0, none⟩) (m + 6) c1, .slice (some ⟨g2, 0, none⟩) (m2 + 6) d1] 47 |>.push_mk rfl
      have HB := HA.allocAt 7 rfl (w2.heap.size + 1 + 1) (by simp) #[.int .u8 (k.toNat : Int), .int .i64 h, .int .u8 (a.toNat : Int), .int .i64 cn, .int .i64 ou, .slice (some ⟨g, 0, none⟩) m c1, .slice (some ⟨g2, 0, none⟩) m2 d1] 31 |>.push_mk rfl
      go_wp2_with (first | (refine wpList_load_row rfl 31 (.tmp 6) rfl w2.heap.size rfl _ _ _ _ (HA.blk 5 rfl) Try.underlying31 rfl op_size ?_) | (at_builtin; refine hold_here ?_))
      refine Held.go ?_
      refine absorb_list HB ?_
      clear HB HA H
      intro w3 H
      generalize w2.heap.size + 1 + 1 = gN at H ⊢
      generalize w2.heap.size + 1 = gF at H ⊢
      generalize w2.heap.size = gY at H ⊢
      replace H : St w [] w3 (lay [.row 31 7 u3 j (opsV L), .row 47 2 u4 j (fullsV L), bigO lentO L, .row 5 1 (.slice (some ⟨g, 0, none⟩) (m + 6) c1) (m + 6) ((xs ++ marksB 7 0 6).map vb), .row 5 1 (.slice (some ⟨g2, 0, none⟩) (m2 + 6) d1) (m2 + 6) ((ys ++ marksB 7 0 6).map vb), .blk gY 31 [.int .u8 (k.toNat : Int), .int .i64 h, .int .u8 (a.toNat : Int), .int .i64 cn, .int .i64 ou, .slice (some ⟨g, 0, none⟩) m c1, .slice (some ⟨g2, 0, none⟩) m2 d1], .blk gF 47 [.slice (some ⟨g, 0, none⟩) (m + 6) c1, .slice (some ⟨g2, 0, none⟩) (m2 + 6) d1], .blk gN 31 [.int .u8 (k.toNat : Int), .int .i64 h, .int .u8 (a.toNat : Int), .int .i64 cn, .int .i64 ou, .slice (some ⟨g, 0, none⟩) m c1, .slice (some ⟨g2, 0, none⟩) m2 d1]]) := H
      refine wpList_append_any _ rfl (.tmp 26) (.tmp 28) _ rfl 0 31 i0 _ 7 88 Try.underlying45 hi0 hz0 hz1 hz2 rfl (by omega) u3 j (opsV L) rfl (H.row 0 rfl) (some ⟨gN, 0, none⟩) 1 1 [.int .u8 (k.toNat : Int), .int .i64 h, .int .u8 (a.toNat : Int), .int .i64 cn, .int .i64 ou, .slice (some ⟨g, 0, none⟩) m c1, .slice (some ⟨g2, 0, none⟩) m2 d1] rfl (H.rdBlk 7 rfl 7 1 rfl) (by simpa [opsV, OpR.cs] using opsV_one [(⟨k, h, a, cn, ou, some ⟨g, 0, none⟩, m, c1, some ⟨g2, 0, none⟩, m2, d1, xs, ys⟩ : OpR)]) (by simp only [maxLen]; omega) (by omega) (by omega) ?_
      intro v4 w4 hown4 hg4 hat4
      replace H := ((H.grow 0 rfl hown4 hg4 hat4).upd_mk (by simp)).front 7
      have e1 : opsV L ++ [.int .u8 (k.toNat : Int), .int .i64 h, .int .u8 (a.toNat : Int), .int .i64 cn, .int .i64 ou, .slice (some ⟨g, 0, none⟩) m c1, .slice (some ⟨g2, 0, none⟩) m2 d1] = opsV (L ++ [(⟨k, h, a, cn, ou, some ⟨g, 0, none⟩, m, c1, some ⟨g2, 0, none⟩, m2, d1, xs, ys⟩ : OpR)]) := by rw [opsV_append]; simp [opsV, OpR.cs]
      rw [e1] at H
      clear hown4 hg4 hat4 e1
      replace H : St w [] w4 (lay [.row 31 7 v4 (j + 1) (opsV (L ++ [(⟨k, h, a, cn, ou, some ⟨g, 0, none⟩, m, c1, some ⟨g2, 0, none⟩, m2, d1, xs, ys⟩ : OpR)])), .row 47 2 u4 j (fullsV L), bigO lentO L, .row 5 1 (.slice (some ⟨g, 0, none⟩) (m + 6) c1) (m + 6) ((xs ++ marksB 7 0 6).map vb), .row 5 1 (.slice (some ⟨g2, 0, none⟩) (m2 + 6) d1) (m2 + 6) ((ys ++ marksB 7 0 6).map vb), .blk gY 31 [.int .u8 (k.toNat : Int), .int .i64 h, .int .u8 (a.toNat : Int), .int .i64 cn, .int .i64 ou, .slice (some ⟨g, 0, none⟩) m c1, .slice (some ⟨g2, 0, none⟩) m2 d1], .blk gF 47 [.slice (some ⟨g, 0, none⟩) (m + 6) c1, .slice (some ⟨g2, 0, none⟩) (m2 + 6) d1]]) := H
      have HB := H.allocAt 7 rfl w4.heap.size rfl #[.slice (some ⟨g, 0, none⟩) (m + 6) c1, .slice (some ⟨g2, 0, none⟩) (m2 + 6) d1] 47 |>.push_mk rfl
      go_wp2_with (first | (refine wpList_load_row rfl 47 (.tmp 7) rfl gF rfl _ _ _ _ (H.blk 6 rfl) Try.underlying47 rfl two_size ?_) | (at_builtin; refine hold_here ?_))
      refine Held.go ?_
      refine absorb_list HB ?_
      clear HB H
      intro w5' H
      generalize w4.heap.size = gN at H ⊢
      replace H : St w [] w5' (lay [.row 31 7 v4 (j + 1) (opsV (L ++ [(⟨k, h, a, cn, ou, some ⟨g, 0, none⟩, m, c1, some ⟨g2, 0, none⟩, m2, d1, xs, ys⟩ : OpR)])), .row 47 2 u4 j (fullsV L), bigO lentO L, .row 5 1 (.slice (some ⟨g, 0, none⟩) (m + 6) c1) (m + 6) ((xs ++ marksB 7 0 6).map vb), .row 5 1 (.slice (some ⟨g2, 0, none⟩) (m2 + 6) d1) (m2 + 6) ((ys ++ marksB 7 0 6).map vb), .blk gY 31 [.int .u8 (k.toNat : Int), .int .i64 h, .int .u8 (a.toNat : Int), .int .i64 cn, .int .i64 ou, .slice (some ⟨g, 0, none⟩) m c1, .slice (some ⟨g2, 0, none⟩) m2 d1], .blk gF 47 [.slice (some ⟨g, 0, none⟩) (m + 6) c1, .slice (some ⟨g2, 0, none⟩) (m2 + 6) d1], .blk gN 47 [.slice (some ⟨g, 0, none⟩) (m + 6) c1, .slice (some ⟨g2, 0, none⟩) (m2 + 6) d1]]) := H
      refine wpList_append_any _ rfl (.tmp 30) (.tmp 32) _ rfl 0 47 i1 _ 2 48 Try.underlying46 hi1 hy0 hy1 hy2 rfl (by omega) u4 j (fullsV L) rfl (H.row 1 rfl) (some ⟨gN, 0, none⟩) 1 1 [.slice (some ⟨g, 0, none⟩) (m + 6) c1, .slice (some ⟨g2, 0, none⟩) (m2 + 6) d1] rfl (H.rdBlk 7 rfl 2 1 rfl) (by simpa [fullsV, fullC] using fullsV_one [(⟨k, h, a, cn, ou, some ⟨g, 0, none⟩, m, c1, some ⟨g2, 0, none⟩, m2, d1, xs, ys⟩ : OpR)]) (by simp only [maxLen]; omega) (by omega) (by omega) ?_
      intro v5 w5 hown5 hg5 hat5
      replace H := ((H.grow 1 rfl hown5 hg5 hat5).upd_mk (by simp)).front 7
      have e1 : fullsV L ++ [.slice (some ⟨g, 0, none⟩) (m + 6) c1, .slice (some ⟨g2, 0, none⟩) (m2 + 6) d1] = fullsV (L ++ [(⟨k, h, a, cn, ou, some ⟨g, 0, none⟩, m, c1, some ⟨g2, 0, none⟩, m2, d1, xs, ys⟩ : OpR)]) := by rw [fullsV_append]; simp [fullsV, fullC]
      rw [e1] at H
      clear hown5 hg5 hat5 e1
      replace H : St w [] w5 (lay [.row 31 7 v4 (j + 1) (opsV (L ++ [(⟨k, h, a, cn, ou, some ⟨g, 0, none⟩, m, c1, some ⟨g2, 0, none⟩, m2, d1, xs, ys⟩ : OpR)])), .row 47 2 v5 (j + 1) (fullsV (L ++ [(⟨k, h, a, cn, ou, some ⟨g, 0, none⟩, m, c1, some ⟨g2, 0, none⟩, m2, d1, xs, ys⟩ : OpR)])), bigO lentO L, .row 5 1 (.slice (some ⟨g, 0, none⟩) (m + 6) c1) (m + 6) ((xs ++ marksB 7 0 6).map vb), .row 5 1 (.slice (some ⟨g2, 0, none⟩) (m2 + 6) d1) (m2 + 6) ((ys ++ marksB 7 0 6).map vb), .blk gY 31 [.int .u8 (k.toNat : Int), .int .i64 h, .int .u8 (a.toNat : Int), .int .i64 cn, .int .i64 ou, .slice (some ⟨g, 0, none⟩) m c1, .slice (some ⟨g2, 0, none⟩) m2 d1], .blk gF 47 [.slice (some ⟨g, 0, none⟩) (m + 6) c1, .slice (some ⟨g2, 0, none⟩) (m2 + 6) d1]]) := H
      replace H := H.drew
      obtain ⟨p9, o9, h9, HCX⟩ := op_cells (H.arg0 hR) HX.out
      injection h9 with h9
      injection h9 with h9 h8
      subst h9 h8
      go_wp2
      refine wp_region_held_drew (S := fun w' : World => w'.rangeAt gY 0 ([.int .u8 (k.toNat : Int), .int .i64 h, .int .u8 (a.toNat : Int), .int .i64 cn, .int .i64 ou, .slice (some ⟨g, 0, none⟩) m c1, .slice (some ⟨g2, 0, none⟩) m2 d1] : List Value) ∧ w'.rangeAt p (o + j * 7) ([.int .u8 (k.toNat : Int), .int .i64 h, .int .u8 (a.toNat : Int), .int .i64 cn, .int .i64 ou, .slice A m c, .slice B m2 d] : List Value)) (by kernel_rfl) ?_ (fun hHeld => ?_)
      · exact ⟨H.range 5 rfl, HCX⟩
      refine take_load 0 gY ([.int .u8 (k.toNat : Int), .int .i64 h, .int .u8 (a.toNat : Int), .int .i64 cn, .int .i64 ou, .slice (some ⟨g, 0, none⟩) m c1, .slice (some ⟨g2, 0, none⟩) m2 d1] : List Value) (fun w h => h.1) hU op_size rfl (by kernel_rfl) (by kernel_rfl) (by kernel_rfl) (fun _ _ _ h => h) rfl rfl rfl rfl (by assumption) ?_
      try simp only [Act.put, List.setIfInBounds_toArray, List.set_cons_zero, List.set_cons_succ]
      refine take_pure 2 (.slice (some ⟨p, o, none⟩) n c0) rfl (by kernel_rfl) (by kernel_rfl) (by kernel_rfl) (fun _ _ _ h => h) rfl (by intro w hSw; go_simp; try with_reducible rfl) (by assumption) ?_
      try simp only [Act.put, List.setIfInBounds_toArray, List.set_cons_zero, List.set_cons_succ]
      refine take_pure 3 (.int .i64 (j : Int)) rfl (by kernel_rfl) (by kernel_rfl) (by kernel_rfl) (fun _ _ _ h => h) rfl (by intro w hSw; go_simp; try with_reducible rfl) (by assumption) ?_
      try simp only [Act.put, List.setIfInBounds_toArray, List.set_cons_zero, List.set_cons_succ]
      refine take_pure 4 (.pointer (some ⟨p, o + j * 7, none⟩)) rfl (by kernel_rfl) (by kernel_rfl) (by kernel_rfl) (fun _ _ _ h => h) rfl (by intro w hSw; go_simp; try with_reducible rfl) (by assumption) ?_
      try simp only [Act.put, List.setIfInBounds_toArray, List.set_cons_zero, List.set_cons_succ]
      refine take_loadm 5 p (o + j * 7) ([.int .u8 (k.toNat : Int), .int .i64 h, .int .u8 (a.toNat : Int), .int .i64 cn, .int .i64 ou, .slice A m c, .slice B m2 d] : List Value) (fun w h => h.2) hU op_size rfl (by kernel_rfl) (by kernel_rfl) (by kernel_rfl) (fun _ _ _ h => h) rfl rfl rfl rfl (by assumption) ?_
      try simp only [Act.put, List.setIfInBounds_toArray, List.set_cons_zero, List.set_cons_succ]
      refine take_call 1 rfl (by kernel_rfl) (fun K hK => ?_)
      try go_simp
      refine (skOf_h (⟨k, h, a, cn, ou, some ⟨g, 0, none⟩, m, c1, some ⟨g2, 0, none⟩, m2, d1, xs, ys⟩ : OpR) _).mono ?_
      rintro e wx ⟨y1, y2, y3, y4, y5, y6, y7, HMy, rfl, hb⟩
      replace H := H.call hb
      replace HCX := range_keep hb HCX
      clear hb
      refine hK.out _ _ ?_ (fun hHeld => ?_)
      · exact ⟨H.range 5 rfl, HCX⟩
      clear hK K
      try simp only [Act.put, List.setIfInBounds_toArray, List.set_cons_zero, List.set_cons_succ]
      refine take_call 6 rfl (by kernel_rfl) (fun K hK => ?_)
      try go_simp
      refine (refOf_h (⟨k, h, a, cn, ou, A, m, c, B, m2, d, xs, ys⟩ : OpR) _).mono ?_
      rintro e wx ⟨z1, z2, z3, z4, z5, z6, z7, HMz, rfl, hb⟩
      replace H := H.call hb
      replace HCX := range_keep hb HCX
      clear hb
      refine hK.out _ _ ?_ (fun hHeld => ?_)
      · exact ⟨H.range 5 rfl, HCX⟩
      clear hK K
      try simp only [Act.put, List.setIfInBounds_toArray, List.set_cons_zero, List.set_cons_succ]
      have HE := HMy.out.trans HMz.out.symm
      simp only [Prod.mk.injEq] at HE
      obtain ⟨rfl, rfl, rfl, rfl, rfl, rfl, rfl⟩ := HE
      refine take_pure 7 (.bool false) rfl (by kernel_rfl) (by kernel_rfl) (by kernel_rfl) (fun _ _ _ h => h) rfl (by intro w hSw; go_simp; try with_reducible rfl) (by assumption) ?_
      try simp only [Act.put, List.setIfInBounds_toArray, List.set_cons_zero, List.set_cons_succ]
      refine wpAnyH_done (by kernel_rfl) ?_ _
      clear hHeld HCX
      go_wp2
      go_roundw
      case rel => exact ⟨j + 1, L ++ [(⟨k, h, a, cn, ou, some ⟨g, 0, none⟩, m, c1, some ⟨g2, 0, none⟩, m2, d1, xs, ys⟩ : OpR)], by omega, by go_num, HLA.out.step HX.out ⟨g, c1, g2, d1, hc1, hd1, rfl⟩, H.fam_push rfl⟩
      case measure => simp [intOf]; omega
    · obtain rfl : n = j := by omega
      have LM := HLA.out.map HL.out
      have hk1 : ¬ (n : Int) < n := by omega
      obtain ⟨AL, cL, rfl, -, hAL⟩ := row_form (H.row 0 rfl)
      obtain ⟨AF, cF, rfl, -, hAF⟩ := row_form (H.row 1 rfl)
      have HAL := Lib.hid hAL
      have HAF := Lib.hid hAF
      have HLM := Lib.hid LM
      clear hAL hAF LM
      go_wp2_with fail
      refine (skAll_s AL n cL L _ (H.rd 0 rfl) hn).mono ?_
      rintro e wx ⟨va, rfl, ho, hb⟩
      rw [HLM.out] at ho
      replace H := (H.pushRow 3 rfl hb ho).push_mk rfl
      replace H := H.shapeN 3 rfl (n' := n) (by rw [List.length_map, HL.out])
      obtain ⟨Aa, ca, rfl, -⟩ := row_form (H.row 3 rfl)
      clear ho hb
      go_wp2_with fail
      refine (skAll_s AL n cL L _ (H.rd 0 rfl) hn).mono ?_
      rintro e wx ⟨vb, rfl, ho, hb⟩
      rw [HLM.out] at ho
      replace H := (H.pushRow 4 rfl hb ho).push_mk rfl
      replace H := H.shapeN 4 rfl (n' := n) (by rw [List.length_map, HL.out])
      obtain ⟨Ab, cb, rfl, -⟩ := row_form (H.row 4 rfl)
      clear ho hb
      go_wp2_with fail
      refine (refAll_s A0 n c0 l _ (H.arg0 hR) hn).mono ?_
      rintro e wx ⟨vw, rfl, ho, hb⟩
      
      replace H := (H.pushRow 5 rfl hb ho).push_mk rfl
      replace H := H.shapeN 5 rfl (n' := n) (by rw [List.length_map, HL.out])
      obtain ⟨Aw, cw, rfl, -⟩ := row_form (H.row 5 rfl)
      clear ho hb
      replace H : St w [] wx (lay [.row 31 7 (.slice AL n cL) n (opsV (List.replicate 0 z77 ++ L.drop 0)), .row 47 2 (.slice AF n cF) n (fullsV L), bigO lentO (L.drop 0), .row 51 7 (.slice Aa n ca) n (sksV (l.map skOf)), .row 51 7 (.slice Ab n cb) n (sksV (l.map skOf)), .row 51 7 (.slice Aw n cw) n (sksV (l.map skOf))]) := H
      go_wp2
      clear hk1
      go_loopw [11] (fun i wr => ∃ q : Nat, q ≤ n ∧ i = .int .i64 q ∧ St w [] wr (lay [.row 31 7 (.slice AL n cL) n (opsV (List.replicate q z77 ++ L.drop q)), .row 47 2 (.slice AF n cF) n (fullsV L), bigO lentO (L.drop q), .row 51 7 (.slice Aa n ca) n (sksV (l.map skOf)), .row 51 7 (.slice Ab n cb) n (sksV (l.map skOf)), .row 51 7 (.slice Aw n cw) n (sksV (l.map skOf))])) (fun i _ => n - (intOf i).toNat)
      case atStart => exact ⟨0, Nat.zero_le _, rfl, H⟩
      case round =>
        clear H
        obtain ⟨q, hq, rfl, H⟩ := hrel
        by_cases hlt : q < n
        · obtain ⟨x, hx⟩ : ∃ r, l[q]? = some r := ⟨_, List.getElem?_eq_getElem (by rw [HL.out]; exact hlt)⟩
          obtain ⟨y, hy⟩ : ∃ r, L[q]? = some r := ⟨_, List.getElem?_eq_getElem (by rw [HLA.out.1]; exact hlt)⟩
          have ok := HOK.out x (List.mem_of_getElem? hx)
          obtain ⟨g, c1, g2, d1, hc1, hd1, rfl⟩ := HLA.out.2 q x y hx hy
          obtain ⟨k, h, a, cn, ou, A, m, c, B, m2, d, xs, ys⟩ := x
          obtain ⟨ra, rb, ba, bb, -, -, -⟩ := ok
          simp only at ra rb ba bb hc1 hd1 hy
          have hlx : xs.length = m := by simpa using ra.1
          have hly : ys.length = m2 := by simpa using rb.1
          have hdr : L.drop q = (⟨k, h, a, cn, ou, some ⟨g, 0, none⟩, m, c1, some ⟨g2, 0, none⟩, m2, d1, xs, ys⟩ : OpR) :: L.drop (q + 1) := drop_of_get hy
          rw [hdr] at H
          obtain ⟨gO, rfl, -⟩ := HAL.out (by omega)
          obtain ⟨gU, rfl, -⟩ := HAF.out (by omega)
          generalize L.drop (q + 1) = t at H hdr
          replace H : St w [] wr (lay [.row 31 7 (.slice (some ⟨gO, 0, none⟩) n cL) n (opsV (List.replicate q z77 ++ ((⟨k, h, a, cn, ou, some ⟨g, 0, none⟩, m, c1, some ⟨g2, 0, none⟩, m2, d1, xs, ys⟩ : OpR) :: t))), .row 47 2 (.slice (some ⟨gU, 0, none⟩) n cF) n (fullsV L), .sep (.sep (.row 5 1 (.slice (some ⟨g, 0, none⟩) (m + 6) c1) (m + 6) ((xs ++ marksB 7 0 6).map vb)) (.row 5 1 (.slice (some ⟨g2, 0, none⟩) (m2 + 6) d1) (m2 + 6) ((ys ++ marksB 7 0 6).map vb))) (bigO lentO t), .row 51 7 (.slice Aa n ca) n (sksV (l.map skOf)), .row 51 7 (.slice Ab n cb) n (sksV (l.map skOf)), .row 51 7 (.slice Aw n cw) n (sksV (l.map skOf))]) := H
          replace H := H.part_mk 2 rfl
          replace H := H.part_mk 2 rfl
          replace H : St w [] wr (lay [.row 31 7 (.slice (some ⟨gO, 0, none⟩) n cL) n (opsV (List.replicate q z77 ++ ((⟨k, h, a, cn, ou, some ⟨g, 0, none⟩, m, c1, some ⟨g2, 0, none⟩, m2, d1, xs, ys⟩ : OpR) :: t))), .row 47 2 (.slice (some ⟨gU, 0, none⟩) n cF) n (fullsV L), .row 5 1 (.slice (some ⟨g, 0, none⟩) (m + 6) c1) (m + 6) ((xs ++ marksB 7 0 6).map vb), .row 51 7 (.slice Aa n ca) n (sksV (l.map skOf)), .row 51 7 (.slice Ab n cb) n (sksV (l.map skOf)), .row 51 7 (.slice Aw n cw) n (sksV (l.map skOf)), bigO lentO t, .row 5 1 (.slice (some ⟨g2, 0, none⟩) (m2 + 6) d1) (m2 + 6) ((ys ++ marksB 7 0 6).map vb)]) := H
          obtain ⟨p, o, rfl, HCX⟩ := op_cells (H.arg0 hR) hx
          obtain ⟨p9, o9, h9, HCF⟩ := full_cells (H.rd 1 rfl) hy
          injection h9 with h9
          injection h9 with h9 h8
          subst h9 h8
          have hgy : (List.replicate q z77 ++ ((⟨k, h, a, cn, ou, some ⟨g, 0, none⟩, m, c1, some ⟨g2, 0, none⟩, m2, d1, xs, ys⟩ : OpR) :: t))[q]? = some (⟨k, h, a, cn, ou, some ⟨g, 0, none⟩, m, c1, some ⟨g2, 0, none⟩, m2, d1, xs, ys⟩ : OpR) := rep_get q _ _ _
          obtain ⟨p9, o9, h9, HCY⟩ := op_cells (H.rd 0 rfl) hgy
          injection h9 with h9
          injection h9 with h9 h8
          subst h9 h8
          rw [Nat.zero_add] at HCF HCY
          replace HCF : wr.rangeAt gU (q * 2) ([.slice (some ⟨g, 0, none⟩) (m + 6) c1, .slice (some ⟨g2, 0, none⟩) (m2 + 6) d1] : List Value) := HCF
          replace HCX : wr.rangeAt p (o + q * 7) ([.int .u8 (k.toNat : Int), .int .i64 h, .int .u8 (a.toNat : Int), .int .i64 cn, .int .i64 ou, .slice A m c, .slice B m2 d] : List Value) := HCX
          replace HCY : wr.rangeAt gO (q * 7) ([.int .u8 (k.toNat : Int), .int .i64 h, .int .u8 (a.toNat : Int), .int .i64 cn, .int .i64 ou, .slice (some ⟨g, 0, none⟩) m c1, .slice (some ⟨g2, 0, none⟩) m2 d1] : List Value) := HCY
          have HX := Lib.hid hx
          have HY := Lib.hid hy
          have HDR := Lib.hid hdr
          have HGY := Lib.hid hgy
          have HLX := Lib.hid hlx
          have HLY := Lib.hid hly
          clear hx hy hdr hgy hlx hly
          have hk1 : (q : Int) < n := by omega
          go_wp2
          replace H := H.drew
          replace HCF : wr.drew.rangeAt gU (q * 2) ([.slice (some ⟨g, 0, none⟩) (m + 6) c1, .slice (some ⟨g2, 0, none⟩) (m2 + 6) d1] : List Value) := HCF
          replace HCX : wr.drew.rangeAt p (o + q * 7) ([.int .u8 (k.toNat : Int), .int .i64 h, .int .u8 (a.toNat : Int), .int .i64 cn, .int .i64 ou, .slice A m c, .slice B m2 d] : List Value) := HCX
          replace HCY : wr.drew.rangeAt gO (q * 7) ([.int .u8 (k.toNat : Int), .int .i64 h, .int .u8 (a.toNat : Int), .int .i64 cn, .int .i64 ou, .slice (some ⟨g, 0, none⟩) m c1, .slice (some ⟨g2, 0, none⟩) m2 d1] : List Value) := HCY
          refine wp_region_held_drew (S := fun w' : World => w'.rangeAt gU (q * 2) ([.slice (some ⟨g, 0, none⟩) (m + 6) c1, .slice (some ⟨g2, 0, none⟩) (m2 + 6) d1] : List Value) ∧ w'.rangeAt p (o + q * 7) ([.int .u8 (k.toNat : Int), .int .i64 h, .int .u8 (a.toNat : Int), .int .i64 cn, .int .i64 ou, .slice A m c, .slice B m2 d] : List Value) ∧ w'.rangeAt gO (q * 7) ([.int .u8 (k.toNat : Int), .int .i64 h, .int .u8 (a.toNat : Int), .int .i64 cn, .int .i64 ou, .slice (some ⟨g, 0, none⟩) m c1, .slice (some ⟨g2, 0, none⟩) m2 d1] : List Value)) (by kernel_rfl) ?_ (fun hHeld => ?_)
          · exact ⟨HCF, HCX, HCY⟩
          refine take_pure 0 (.slice (some ⟨gU, 0, none⟩) n cF) rfl (by kernel_rfl) (by kernel_rfl) (by kernel_rfl) (fun _ _ _ h => h) rfl (by intro w hSw; go_simp; try with_reducible rfl) (by assumption) ?_
          try simp only [Act.put, List.setIfInBounds_toArray, List.set_cons_zero, List.set_cons_succ]
          refine take_pure 1 (.int .i64 (q : Int)) rfl (by kernel_rfl) (by kernel_rfl) (by kernel_rfl) (fun _ _ _ h => h) rfl (by intro w hSw; go_simp; try with_reducible rfl) (by assumption) ?_
          try simp only [Act.put, List.setIfInBounds_toArray, List.set_cons_zero, List.set_cons_succ]
          refine take_pure 2 (.pointer (some ⟨gU, q * 2, none⟩)) rfl (by kernel_rfl) (by kernel_rfl) (by kernel_rfl) (fun _ _ _ h => h) rfl (by intro w hSw; go_simp; try with_reducible rfl) (by assumption) ?_
          try simp only [Act.put, List.setIfInBounds_toArray, List.set_cons_zero, List.set_cons_succ]
          refine take_loadm 3 gU (q * 2) ([.slice (some ⟨g, 0, none⟩) (m + 6) c1, .slice (some ⟨g2, 0, none⟩) (m2 + 6) d1] : List Value) (fun w h => h.1) hT two_size rfl (by kernel_rfl) (by kernel_rfl) (by kernel_rfl) (fun _ _ _ h => h) rfl rfl rfl rfl (by assumption) ?_
          try simp only [Act.put, List.setIfInBounds_toArray, List.set_cons_zero, List.set_cons_succ]
          refine take_pure 4 (.slice (some ⟨p, o, none⟩) n c0) rfl (by kernel_rfl) (by kernel_rfl) (by kernel_rfl) (fun _ _ _ h => h) rfl (by intro w hSw; go_simp; try with_reducible rfl) (by assumption) ?_
          try simp only [Act.put, List.setIfInBounds_toArray, List.set_cons_zero, List.set_cons_succ]
          refine take_pure 5 (.int .i64 (q : Int)) rfl (by kernel_rfl) (by kernel_rfl) (by kernel_rfl) (fun _ _ _ h => h) rfl (by intro w hSw; go_simp; try with_reducible rfl) (by assumption) ?_
          try simp only [Act.put, List.setIfInBounds_toArray, List.set_cons_zero, List.set_cons_succ]
          refine take_pure 6 (.pointer (some ⟨p, o + q * 7, none⟩)) rfl (by kernel_rfl) (by kernel_rfl) (by kernel_rfl) (fun _ _ _ h => h) rfl (by intro w hSw; go_simp; try with_reducible rfl) (by assumption) ?_
          try simp only [Act.put, List.setIfInBounds_toArray, List.set_cons_zero, List.set_cons_succ]
          refine take_loadm 7 p (o + q * 7) ([.int .u8 (k.toNat : Int), .int .i64 h, .int .u8 (a.toNat : Int), .int .i64 cn, .int .i64 ou, .slice A m c, .slice B m2 d] : List Value) (fun w h => h.2.1) hU op_size rfl (by kernel_rfl) (by kernel_rfl) (by kernel_rfl) (fun _ _ _ h => h) rfl rfl rfl rfl (by assumption) ?_
          try simp only [Act.put, List.setIfInBounds_toArray, List.set_cons_zero, List.set_cons_succ]
          refine take_call 8 rfl (by kernel_rfl) (fun K hK => ?_)
          try go_simp
          refine (keptOp_yes k h a cn ou A B (some ⟨g, 0, none⟩) (some ⟨g2, 0, none⟩) m m2 c d (m + 6) (m2 + 6) c1 d1 xs ys _ (H.arg0 ra) (H.arg0 rb) (H.rd 2 rfl) (H.rd 7 rfl) (by omega) (by omega) (by omega) (by omega)).mono ?_
          rintro e wx ⟨rfl, hb⟩
          replace H := H.call hb
          replace HCF := range_keep hb HCF
          replace HCX := range_keep hb HCX
          replace HCY := range_keep hb HCY
          clear hb
          refine hK.out _ _ ?_ (fun hHeld => ?_)
          · exact ⟨HCF, HCX, HCY⟩
          clear hK K
          try simp only [Act.put, List.setIfInBounds_toArray, List.set_cons_zero, List.set_cons_succ]
          refine take_pure 9 (.bool false) rfl (by kernel_rfl) (by kernel_rfl) (by kernel_rfl) (fun _ _ _ h => h) rfl (by intro w hSw; go_simp; try with_reducible rfl) (by assumption) ?_
          try simp only [Act.put, List.setIfInBounds_toArray, List.set_cons_zero, List.set_cons_succ]
          refine take_pure 10 (.bool false) rfl (by kernel_rfl) (by kernel_rfl) (by kernel_rfl) (fun _ _ _ h => h) rfl (by intro w hSw; go_simp; try with_reducible rfl) (by assumption) ?_
          try simp only [Act.put, List.setIfInBounds_toArray, List.set_cons_zero, List.set_cons_succ]
          refine take_pure 11 (.slice (some ⟨gO, 0, none⟩) n cL) rfl (by kernel_rfl) (by kernel_rfl) (by kernel_rfl) (fun _ _ _ h => h) rfl (by intro w hSw; go_simp; try with_reducible rfl) (by assumption) ?_
          try simp only [Act.put, List.setIfInBounds_toArray, List.set_cons_zero, List.set_cons_succ]
          refine take_pure 12 (.int .i64 (q : Int)) rfl (by kernel_rfl) (by kernel_rfl) (by kernel_rfl) (fun _ _ _ h => h) rfl (by intro w hSw; go_simp; try with_reducible rfl) (by assumption) ?_
          try simp only [Act.put, List.setIfInBounds_toArray, List.set_cons_zero, List.set_cons_succ]
          refine take_pure 13 (.pointer (some ⟨gO, q * 7, none⟩)) rfl (by kernel_rfl) (by kernel_rfl) (by kernel_rfl) (fun _ _ _ h => h) rfl (by intro w hSw; go_simp; try with_reducible rfl) (by assumption) ?_
          try simp only [Act.put, List.setIfInBounds_toArray, List.set_cons_zero, List.set_cons_succ]
          refine take_loadm 14 gO (q * 7) ([.int .u8 (k.toNat : Int), .int .i64 h, .int .u8 (a.toNat : Int), .int .i64 cn, .int .i64 ou, .slice (some ⟨g, 0, none⟩) m c1, .slice (some ⟨g2, 0, none⟩) m2 d1] : List Value) (fun w h => h.2.2) hU op_size rfl (by kernel_rfl) (by kernel_rfl) (by kernel_rfl) (fun _ _ _ h => h) rfl rfl rfl rfl (by assumption) ?_
          try simp only [Act.put, List.setIfInBounds_toArray, List.set_cons_zero, List.set_cons_succ]
          refine take_pure 15 (.slice (some ⟨p, o, none⟩) n c0) rfl (by kernel_rfl) (by kernel_rfl) (by kernel_rfl) (fun _ _ _ h => h) rfl (by intro w hSw; go_simp; try with_reducible rfl) (by assumption) ?_
          try simp only [Act.put, List.setIfInBounds_toArray, List.set_cons_zero, List.set_cons_succ]
          refine take_pure 16 (.int .i64 (q : Int)) rfl (by kernel_rfl) (by kernel_rfl) (by kernel_rfl) (fun _ _ _ h => h) rfl (by intro w hSw; go_simp; try with_reducible rfl) (by assumption) ?_
          try simp only [Act.put, List.setIfInBounds_toArray, List.set_cons_zero, List.set_cons_succ]
          refine take_pure 17 (.pointer (some ⟨p, o + q * 7, none⟩)) rfl (by kernel_rfl) (by kernel_rfl) (by kernel_rfl) (fun _ _ _ h => h) rfl (by intro w hSw; go_simp; try with_reducible rfl) (by assumption) ?_
          try simp only [Act.put, List.setIfInBounds_toArray, List.set_cons_zero, List.set_cons_succ]
          refine take_loadm 18 p (o + q * 7) ([.int .u8 (k.toNat : Int), .int .i64 h, .int .u8 (a.toNat : Int), .int .i64 cn, .int .i64 ou, .slice A m c, .slice B m2 d] : List Value) (fun w h => h.2.1) hU op_size rfl (by kernel_rfl) (by kernel_rfl) (by kernel_rfl) (fun _ _ _ h => h) rfl rfl rfl rfl (by assumption) ?_
          try simp only [Act.put, List.setIfInBounds_toArray, List.set_cons_zero, List.set_cons_succ]
          refine take_call 19 rfl (by kernel_rfl) (fun K hK => ?_)
          try go_simp
          refine (sameOp_yes k h a cn ou (some ⟨g, 0, none⟩) (some ⟨g2, 0, none⟩) A B m m2 c1 d1 m m2 c d xs ys _ (Rd.frontB (H.rd 2 rfl) HLX.out (by omega)) (Rd.frontB (H.rd 7 rfl) HLY.out (by omega)) (H.arg0 ra) (H.arg0 rb) (by omega) (by omega)).mono ?_
          rintro e wx ⟨rfl, hb⟩
          replace H := H.call hb
          replace HCF := range_keep hb HCF
          replace HCX := range_keep hb HCX
          replace HCY := range_keep hb HCY
          clear hb
          refine hK.out _ _ ?_ (fun hHeld => ?_)
          · exact ⟨HCF, HCX, HCY⟩
          clear hK K
          try simp only [Act.put, List.setIfInBounds_toArray, List.set_cons_zero, List.set_cons_succ]
          refine take_pure 20 (.bool false) rfl (by kernel_rfl) (by kernel_rfl) (by kernel_rfl) (fun _ _ _ h => h) rfl (by intro w hSw; go_simp; try with_reducible rfl) (by assumption) ?_
          try simp only [Act.put, List.setIfInBounds_toArray, List.set_cons_zero, List.set_cons_succ]
          refine take_pure 21 (.bool false) rfl (by kernel_rfl) (by kernel_rfl) (by kernel_rfl) (fun _ _ _ h => h) rfl (by intro w hSw; go_simp; try with_reducible rfl) (by assumption) ?_
          try simp only [Act.put, List.setIfInBounds_toArray, List.set_cons_zero, List.set_cons_succ]
          refine wpAnyH_done (by kernel_rfl) ?_ _
          clear hHeld HCX HCY
          have f0 := HCF 0 _ rfl
          have f1 := HCF 1 _ rfl
          rw [Nat.add_zero] at f0
          clear HCF
          go_wp2_with fail
          refine (overOp_st H 2 7 (by omega) rfl rfl (by omega) (by omega)).mono ?_
          rintro e wy ⟨rfl, H'⟩
          replace H : St w [] wy (lay [.row 31 7 (.slice (some ⟨gO, 0, none⟩) n cL) n (opsV (List.replicate q z77 ++ ((⟨k, h, a, cn, ou, some ⟨g, 0, none⟩, m, c1, some ⟨g2, 0, none⟩, m2, d1, xs, ys⟩ : OpR) :: t))), .row 47 2 (.slice (some ⟨gU, 0, none⟩) n cF) n (fullsV L), bigO lentO t, .row 51 7 (.slice Aa n ca) n (sksV (l.map skOf)), .row 51 7 (.slice Ab n cb) n (sksV (l.map skOf)), .row 51 7 (.slice Aw n cw) n (sksV (l.map skOf))]) := H'.pick swap26 swap26_inj (fun k A hA => by
            match k, hA with
            | 0, hA => exact hA
            | 1, hA => exact hA
            | 2, hA => exact hA
            | 3, hA => exact hA
            | 4, hA => exact hA
            | 5, hA => exact hA
            | k + 6, hA => simp [lay] at hA)
          clear H' f0 f1
          obtain ⟨p9, o9, h9, b0, b1, b2, b3, b4, b5, b6, hlt3⟩ := op_cells7 (H.rd 0 rfl) HGY.out
          injection h9 with h9
          injection h9 with h9 h8
          subst h9 h8
          rw [Nat.zero_add] at b0 b1 b2 b3 b4 b5 b6
          have y0 := row_free H 0 rfl (q * 7)
          have y1 := row_free H 0 rfl (q * 7 + 1)
          have y2 := row_free H 0 rfl (q * 7 + 2)
          have y3 := row_free H 0 rfl (q * 7 + 3)
          have y4 := row_free H 0 rfl (q * 7 + 4)
          have y5 := row_free H 0 rfl (q * 7 + 5)
          have y6 := row_free H 0 rfl (q * 7 + 6)
          have H3 := ((((((((((((((H.rowStore 0 rfl (o := q * 7) (u := .int .u8 77)).upd_mk (by simp)).rowStore 0 rfl (o := q * 7 + 1) (u := .int .i64 0)).upd_mk (by simp)).rowStore 0 rfl (o := q * 7 + 2) (u := .int .u8 0)).upd_mk (by simp)).rowStore 0 rfl (o := q * 7 + 3) (u := .int .i64 0)).upd_mk (by simp)).rowStore 0 rfl (o := q * 7 + 4) (u := .int .i64 0)).upd_mk (by simp)).rowStore 0 rfl (o := q * 7 + 5) (u := .slice none 0 0)).upd_mk (by simp)).rowStore 0 rfl (o := q * 7 + 6) (u := .slice none 0 0)).upd_mk (by simp))
          clear H
          go_wp2
          go_roundw
          case rel =>
            refine ⟨q + 1, by omega, by go_num, ?_⟩
            have e1 : t = L.drop (q + 1) := by
              have h1 := congrArg List.tail HDR.out
              rw [List.tail_drop] at h1
              exact h1.symm
            rw [← e1, ← opsV_over]
            exact H3
          case measure => simp [intOf]; omega
        · obtain rfl : n = q := by omega
          have hk1 : ¬ (n : Int) < n := by omega
          go_wp2_with fail
          refine (sameSk_any Aa Aw n n ca cw (l.map skOf) (l.map skOf) _ (H.rd 3 rfl) (H.rd 5 rfl) (by omega) (by omega)).mono ?_
          rintro e wx ⟨rfl, q', rfl⟩
          rw [decide_eq_true rfl]
          replace H := H.drewN q'
          generalize World.drewN _ q' = wx at H ⊢
          go_wp2_with fail
          refine (sameSk_any Ab Aw n n cb cw (l.map skOf) (l.map skOf) _ (H.rd 4 rfl) (H.rd 5 rfl) (by omega) (by omega)).mono ?_
          rintro e wx ⟨rfl, q', rfl⟩
          rw [decide_eq_true rfl]
          replace H := H.drewN q'
          generalize World.drewN _ q' = wx at H ⊢
          go_wp2_with fail
          refine (skelSame_any Aa Ab n n ca cb (l.map skOf) (l.map skOf) _ (H.rd 3 rfl) (H.rd 4 rfl) (by omega) (by omega)).mono ?_
          rintro e wx ⟨rfl, q', rfl⟩
          rw [decide_eq_true rfl]
          replace H := H.drewN q'
          generalize World.drewN _ q' = wx at H ⊢
          go_wp2_with fail
          have HA := (H.allocAt 6 rfl wx.heap.size rfl #[.slice Aa n ca, .slice Ab n cb] 22).push_mk rfl
          refine absorb_calls HA ?_
          clear HA H
          intro wy H
          generalize wx.heap.size = gL at H ⊢
          replace H : St w [] wy (lay [.row 51 7 (.slice Aa n ca) n (sksV (l.map skOf)), .row 51 7 (.slice Ab n cb) n (sksV (l.map skOf)), .blk gL 22 [.slice Aa n ca, .slice Ab n cb]]) := H.perm [3, 4, 6] 3 rfl (by decide) (by intro i hi; match i with | 0 => rfl | 1 => rfl | 2 => rfl | i + 3 => omega)
          refine (apartSk_two _ _ n n gL (l.map skOf) (l.map skOf) H (by rw [List.length_map, HL.out]) (by rw [List.length_map, HL.out]) hn hn).mono ?_
          rintro e wz ⟨rfl, hbz⟩
          go_wp2_with fail
          go_ret
          exact ⟨rfl, hbz⟩
end Go.Proofs.Ytgfhnbjpdhdhgaa
