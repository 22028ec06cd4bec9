/- The law SkelFills, walked. -/
import Derived.Test.YtgfhnbjpdhdhgaaSkAwake
import Derived.Test.YtgfhnbjpdhdhgaaHeld
import Derived.Deep.Cut
import Derived.Test.YtgfhnbjpdhdhgaaRowK
import Derived.Test.YtgfhnbjpdhdhgaaOpL
namespace Go.Proofs.Ytgfhnbjpdhdhgaa
open Go.RowKit
set_option linter.unusedVariables false

/-- what Fill tells of a plain skeleton: the operation, or none, and the error -/
structure FillT where
  k : UInt8
  h : Int
  a : UInt8
  c : Int
  o : Int
  d : List UInt8
  m : List UInt8
  e : Int
def fillR (k : UInt8) (h : Int) (a : UInt8) (c o d m : Int) (b : UInt8) : FillT :=
  if 0 ≤ d ∧ d ≤ 16777215 ∧ 0 ≤ m ∧ m ≤ 16777215 then ⟨k, h, a, c, o, List.replicate d.toNat b, List.replicate m.toNat b, 0⟩ else ⟨0, 0, 0, 0, 0, [], [], 2⟩
def FillU (r : FillT) (w : World) (e : Ending) (w' : World) : Prop := ∃ v5 v6, e = .returned (.tuple #[opV r.k r.h r.a r.c r.o v5 v6, .int .i64 r.e]) ∧
    St w [] w' (lay [.row 5 1 v5 r.d.length (r.d.map vb), .row 5 1 v6 r.m.length (r.m.map vb)])
theorem fillU_of {k : UInt8} {h : Int} {a : UInt8} {c o d m : Int} {b : UInt8} {w w' : World} {e : Ending} (H : FillP k h a c o d m b w e w') : FillU (fillR k h a c o d m b) w e w' := by
  unfold fillR
  split
  · rename_i hc
    obtain ⟨v5, v6, he, hs⟩ := H.1 hc
    refine ⟨v5, v6, he, ?_⟩
    simp only [List.length_replicate]
    exact hs
  · rename_i hc
    obtain ⟨he, hb⟩ := H.2 hc
    refine ⟨_, _, he, ?_⟩
    exact (((St.start_lay w []).nilRow 0 rfl 5 1 |>.push_mk rfl).nilRow 1 rfl 5 1 |>.push_mk rfl).call hb
theorem fillR_le (k : UInt8) (h : Int) (a : UInt8) (c o d m : Int) (b : UInt8) : (fillR k h a c o d m b).d.length ≤ 16777215 ∧ (fillR k h a c o d m b).m.length ≤ 16777215 := by
  unfold fillR
  split
  · simp only [List.length_replicate]; omega
  · exact ⟨by simp, by simp⟩
theorem skFill_u (k : UInt8) (h : Int) (a : UInt8) (c o d m : Int) (b : UInt8) (w : World) :
    Calls Try.prog 44 #[.agg #[.int .u8 (k.toNat : Int), .int .i64 h, .int .u8 (a.toNat : Int), .int .i64 c, .int .i64 o, .int .i64 d, .int .i64 m], .int .u8 (b.toNat : Int)] w (FillU (fillR k (qI 1 k h) (qA k a) (qI 3 k c) (qI 4 k o) (qI 5 k d) (qI 6 k m) b) w) :=
  (skFill_q k h a c o d m b w).mono fun _ _ h => fillU_of h
theorem refFill_u (k : UInt8) (h : Int) (a : UInt8) (c o d m : Int) (b : UInt8) (w : World) :
    Calls Try.prog 45 #[.agg #[.int .u8 (k.toNat : Int), .int .i64 h, .int .u8 (a.toNat : Int), .int .i64 c, .int .i64 o, .int .i64 d, .int .i64 m], .int .u8 (b.toNat : Int)] w (FillU (fillR k (qI 1 k h) (qA k a) (qI 3 k c) (qI 4 k o) (qI 5 k d) (qI 6 k m) b) w) :=
  (refFill_s k h a c o d m b w).mono fun _ _ h => fillU_of h
theorem bne_no (x : Int) : (x != x) = false := by simp

set_option maxRecDepth 100000 in
set_option maxHeartbeats 4000000 in
theorem skelFills_walk (k : UInt8) (h : Int) (a : UInt8) (c o d m : Int) (b : UInt8) (w : World) (_ : I64 h) (_ : I64 c) (_ : I64 o) (_ : I64 d) (_ : I64 m) :
    Calls Try.prog 8 #[.agg #[.int .u8 (k.toNat : Int), .int .i64 h, .int .u8 (a.toNat : Int), .int .i64 c, .int .i64 o, .int .i64 d, .int .i64 m], .int .u8 (b.toNat : Int)] w fun e w' => e = .returned (.bool true) ∧ Below w.heap.size w w' := by
  have H := St.start_lay w []
  have hle := fillR_le k (qI 1 k h) (qA k a) (qI 3 k c) (qI 4 k o) (qI 5 k d) (qI 6 k m) b
  obtain ⟨r, hr⟩ : ∃ r, fillR k (qI 1 k h) (qA k a) (qI 3 k c) (qI 4 k o) (qI 5 k d) (qI 6 k m) b = r := ⟨_, rfl⟩
  have C1 := skFill_u k h a c o d m b
  have C2 := refFill_u k h a c o d m b
  rw [hr] at hle C1 C2
  clear hr
  have HC1 := Lib.hid C1
  have HC2 := Lib.hid C2
  have HLE := Lib.hid hle
  clear C1 C2 hle
  obtain ⟨k', h', a', c', o', D, M, er⟩ := r
  go_enter Try.func8, Try.ntmps8
  go_wp2_with fail
  refine absorb_wp (H.allocAt 0 rfl w.heap.size rfl _ _ |>.push_mk rfl) ?_
  clear H
  intro w1 H
  generalize w.heap.size = gS at H ⊢
  replace H : St w [] w1 (lay [.blk gS 51 [.int .u8 (k.toNat : Int), .int .i64 h, .int .u8 (a.toNat : Int), .int .i64 c, .int .i64 o, .int .i64 d, .int .i64 m]]) := H
  obtain ⟨x, X⟩ : ∃ x, Hid (bdI (cutI d) (cutI m) (cutI o) (cutI c) = x) := ⟨_, rfl⟩
  have hU := Try.underlying51
  have hl1 : (Try.prog.info? 51).map (·.size) = some ([.int .u8 (k.toNat : Int), .int .i64 h, .int .u8 (a.toNat : Int), .int .i64 c, .int .i64 o, .int .i64 d, .int .i64 m] : List Value).length := sk_size
  replace H := H.drew
  refine wp_region_held_drew (S := fun w' : World => w'.rangeAt gS 0 ([.int .u8 (k.toNat : Int), .int .i64 h, .int .u8 (a.toNat : Int), .int .i64 c, .int .i64 o, .int .i64 d, .int .i64 m] : List Value)) (by kernel_rfl) ?_ (fun hHeld => ?_)
  · exact H.range 0 rfl
  refine take_load 0 gS ([.int .u8 (k.toNat : Int), .int .i64 h, .int .u8 (a.toNat : Int), .int .i64 c, .int .i64 o, .int .i64 d, .int .i64 m] : List Value) (fun w h => h) hU hl1 rfl (by kernel_rfl) (by kernel_rfl) (by kernel_rfl) (fun _ _ _ h => h) rfl rfl rfl rfl (by assumption) ?_
  try simp only [Act.put, List.setIfInBounds_toArray, List.set_cons_zero, List.set_cons_succ]
  refine take_load 2 gS ([.int .u8 (k.toNat : Int), .int .i64 h, .int .u8 (a.toNat : Int), .int .i64 c, .int .i64 o, .int .i64 d, .int .i64 m] : List Value) (fun w h => h) hU hl1 rfl (by kernel_rfl) (by kernel_rfl) (by kernel_rfl) (fun _ _ _ h => h) rfl rfl rfl rfl (by assumption) ?_
  try simp only [Act.put, List.setIfInBounds_toArray, List.set_cons_zero, List.set_cons_succ]
  refine take_call 1 rfl (by kernel_rfl) (fun K hK => ?_)
  try go_simp
  refine (skBound_s (k.toNat : Int) h (a.toNat : Int) c o d m _).mono ?_
  rintro e wx ⟨rfl, hb⟩
  replace H := H.call hb
  clear hb
  rw [X.out]
  refine hK.out _ _ ?_ (fun hHeld => ?_)
  · exact H.range 0 rfl
  clear hK K
  try simp only [Act.put, List.setIfInBounds_toArray, List.set_cons_zero, List.set_cons_succ]
  refine take_call 3 rfl (by kernel_rfl) (fun K hK => ?_)
  try go_simp
  refine (refBound_s (k.toNat : Int) h (a.toNat : Int) c o d m _).mono ?_
  rintro e wx ⟨rfl, hb⟩
  replace H := H.call hb
  clear hb
  rw [X.out]
  refine hK.out _ _ ?_ (fun hHeld => ?_)
  · exact H.range 0 rfl
  clear hK K
  try simp only [Act.put, List.setIfInBounds_toArray, List.set_cons_zero, List.set_cons_succ]
  refine take_pure 4 (.bool false) rfl (by kernel_rfl) (by kernel_rfl) (by kernel_rfl) (fun _ _ _ h => h) rfl (by intro w hSw; go_simp; try with_reducible rfl) (by assumption) ?_
  try simp only [Act.put, List.setIfInBounds_toArray, List.set_cons_zero, List.set_cons_succ]
  refine wpAnyH_done (by kernel_rfl) ?_ _
  clear hHeld
  have x5 := H.cell 0 rfl (o := 5) rfl
  have x6 := H.cell 0 rfl (o := 6) rfl
  go_upto_region 3 with fail
  go_cut [33] from 11 (fun v wr => ∃ z : Bool, v = .bool z ∧ St w [] wr (lay [.blk gS 51 [.int .u8 (k.toNat : Int), .int .i64 h, .int .u8 (a.toNat : Int), .int .i64 c, .int .i64 o, .int .i64 d, .int .i64 m]]))
  case first =>
    go_wp2_with fail
    all_goals (go_meet; case rel => exact ⟨_, rfl, H⟩)
  case rest =>
    clear H x5 x6
    obtain ⟨z, rfl, H⟩ := hcut
    cases z
    case true =>
      go_wp2_with fail
      refine (skAwake_s wc).mono ?_
      rintro e wx ⟨rfl, hb⟩
      replace H := H.call hb
      go_wp2_with fail
      go_ret
      exact ⟨rfl, H.below⟩
    case false =>
      go_wp2_with (first | (refine load_guard (by rfl) 51 (.tmp 2) rfl gS rfl _ _ _ _ (H.blk 0 rfl) Try.underlying51 rfl sk_size ?_) | (refine wpList_load_row rfl 51 (.tmp 2) rfl gS rfl _ _ _ _ (H.blk 0 rfl) Try.underlying51 rfl sk_size ?_))
      refine (HC1.out _).mono ?_
      rintro e wx ⟨v5, v6, rfl, HN⟩
      replace H := H.also HN
      clear HN
      obtain ⟨AX, cX, rfl, -⟩ := row_form (H.row 1 rfl)
      obtain ⟨BX, dX, rfl, -⟩ := row_form (H.row 2 rfl)
      replace H : St w [] wx (lay [.blk gS 51 [.int .u8 (k.toNat : Int), .int .i64 h, .int .u8 (a.toNat : Int), .int .i64 c, .int .i64 o, .int .i64 d, .int .i64 m], .row 5 1 (.slice AX D.length cX) D.length (D.map vb), .row 5 1 (.slice BX M.length dX) M.length (M.map vb)]) := H
      have HA := (H.allocAt 3 rfl wx.heap.size rfl #[.int .u8 (k'.toNat : Int), .int .i64 h', .int .u8 (a'.toNat : Int), .int .i64 c', .int .i64 o', .slice AX D.length cX, .slice BX M.length dX] 31).push_mk rfl
      clear H
      have y1 := HA.lt 0 rfl
      go_wp2_with (first | (refine load_guard (by rfl) 51 (.tmp 2) rfl gS rfl _ _ _ _ (HA.blk 0 rfl) Try.underlying51 rfl sk_size ?_) | (refine wpList_load_row rfl 51 (.tmp 2) rfl gS rfl _ _ _ _ (HA.blk 0 rfl) Try.underlying51 rfl sk_size ?_))
      refine absorb_calls HA ?_
      clear HA y1
      intro wy H
      generalize wx.heap.size = gX at H ⊢
      replace H : St w [] wy (lay [.blk gS 51 [.int .u8 (k.toNat : Int), .int .i64 h, .int .u8 (a.toNat : Int), .int .i64 c, .int .i64 o, .int .i64 d, .int .i64 m], .row 5 1 (.slice AX D.length cX) D.length (D.map vb), .row 5 1 (.slice BX M.length dX) M.length (M.map vb), .blk gX 31 [.int .u8 (k'.toNat : Int), .int .i64 h', .int .u8 (a'.toNat : Int), .int .i64 c', .int .i64 o', .slice AX D.length cX, .slice BX M.length dX]]) := H
      refine (HC1.out _).mono ?_
      rintro e wx ⟨v5, v6, rfl, HN⟩
      replace H := H.also HN
      clear HN
      obtain ⟨AY, cY, rfl, -⟩ := row_form (H.row 4 rfl)
      obtain ⟨BY, dY, rfl, -⟩ := row_form (H.row 5 rfl)
      replace H : St w [] wx (lay [.blk gS 51 [.int .u8 (k.toNat : Int), .int .i64 h, .int .u8 (a.toNat : Int), .int .i64 c, .int .i64 o, .int .i64 d, .int .i64 m], .row 5 1 (.slice AX D.length cX) D.length (D.map vb), .row 5 1 (.slice BX M.length dX) M.length (M.map vb), .blk gX 31 [.int .u8 (k'.toNat : Int), .int .i64 h', .int .u8 (a'.toNat : Int), .int .i64 c', .int .i64 o', .slice AX D.length cX, .slice BX M.length dX], .row 5 1 (.slice AY D.length cY) D.length (D.map vb), .row 5 1 (.slice BY M.length dY) M.length (M.map vb)]) := H
      have HA := (H.allocAt 6 rfl wx.heap.size rfl #[.int .u8 (k'.toNat : Int), .int .i64 h', .int .u8 (a'.toNat : Int), .int .i64 c', .int .i64 o', .slice AY D.length cY, .slice BY M.length dY] 31).push_mk rfl
      clear H
      have y1 := HA.lt 0 rfl
      go_wp2_with (first | (refine load_guard (by rfl) 51 (.tmp 2) rfl gS rfl _ _ _ _ (HA.blk 0 rfl) Try.underlying51 rfl sk_size ?_) | (refine wpList_load_row rfl 51 (.tmp 2) rfl gS rfl _ _ _ _ (HA.blk 0 rfl) Try.underlying51 rfl sk_size ?_))
      refine absorb_calls HA ?_
      clear HA y1
      intro wy H
      generalize wx.heap.size = gY at H ⊢
      replace H : St w [] wy (lay [.blk gS 51 [.int .u8 (k.toNat : Int), .int .i64 h, .int .u8 (a.toNat : Int), .int .i64 c, .int .i64 o, .int .i64 d, .int .i64 m], .row 5 1 (.slice AX D.length cX) D.length (D.map vb), .row 5 1 (.slice BX M.length dX) M.length (M.map vb), .blk gX 31 [.int .u8 (k'.toNat : Int), .int .i64 h', .int .u8 (a'.toNat : Int), .int .i64 c', .int .i64 o', .slice AX D.length cX, .slice BX M.length dX], .row 5 1 (.slice AY D.length cY) D.length (D.map vb), .row 5 1 (.slice BY M.length dY) M.length (M.map vb), .blk gY 31 [.int .u8 (k'.toNat : Int), .int .i64 h', .int .u8 (a'.toNat : Int), .int .i64 c', .int .i64 o', .slice AY D.length cY, .slice BY M.length dY]]) := H
      refine (HC2.out _).mono ?_
      rintro e wx ⟨v5, v6, rfl, HN⟩
      replace H := H.also HN
      clear HN
      obtain ⟨AZ, cZ, rfl, -⟩ := row_form (H.row 7 rfl)
      obtain ⟨BZ, dZ, rfl, -⟩ := row_form (H.row 8 rfl)
      replace H : St w [] wx (lay [.blk gS 51 [.int .u8 (k.toNat : Int), .int .i64 h, .int .u8 (a.toNat : Int), .int .i64 c, .int .i64 o, .int .i64 d, .int .i64 m], .row 5 1 (.slice AX D.length cX) D.length (D.map vb), .row 5 1 (.slice BX M.length dX) M.length (M.map vb), .blk gX 31 [.int .u8 (k'.toNat : Int), .int .i64 h', .int .u8 (a'.toNat : Int), .int .i64 c', .int .i64 o', .slice AX D.length cX, .slice BX M.length dX], .row 5 1 (.slice AY D.length cY) D.length (D.map vb), .row 5 1 (.slice BY M.length dY) M.length (M.map vb), .blk gY 31 [.int .u8 (k'.toNat : Int), .int .i64 h', .int .u8 (a'.toNat : Int), .int .i64 c', .int .i64 o', .slice AY D.length cY, .slice BY M.length dY], .row 5 1 (.slice AZ D.length cZ) D.length (D.map vb), .row 5 1 (.slice BZ M.length dZ) M.length (M.map vb)]) := H
      have HA := (H.allocAt 9 rfl wx.heap.size rfl #[.int .u8 (k'.toNat : Int), .int .i64 h', .int .u8 (a'.toNat : Int), .int .i64 c', .int .i64 o', .slice AZ D.length cZ, .slice BZ M.length dZ] 31).push_mk rfl
      clear H
      have y1 := HA.lt 0 rfl
      have f1 := bne_no er
      go_wp2_with (first | (refine load_guard (by rfl) 31 (.tmp 5) rfl gX rfl _ _ _ _ (HA.blk 3 rfl) Try.underlying31 rfl op_size ?_) | (refine wpList_load_row rfl 31 (.tmp 5) rfl gX rfl _ _ _ _ (HA.blk 3 rfl) Try.underlying31 rfl op_size ?_) | (refine load_guard (by rfl) 31 (.tmp 9) rfl wx.heap.size rfl _ _ _ _ (HA.blk 9 rfl) Try.underlying31 rfl op_size ?_) | (refine wpList_load_row rfl 31 (.tmp 9) rfl wx.heap.size rfl _ _ _ _ (HA.blk 9 rfl) Try.underlying31 rfl op_size ?_))
      refine absorb_calls HA ?_
      clear HA y1
      intro wy H
      generalize wx.heap.size = gZ at H ⊢
      replace H : St w [] wy (lay [.blk gS 51 [.int .u8 (k.toNat : Int), .int .i64 h, .int .u8 (a.toNat : Int), .int .i64 c, .int .i64 o, .int .i64 d, .int .i64 m], .row 5 1 (.slice AX D.length cX) D.length (D.map vb), .row 5 1 (.slice BX M.length dX) M.length (M.map vb), .blk gX 31 [.int .u8 (k'.toNat : Int), .int .i64 h', .int .u8 (a'.toNat : Int), .int .i64 c', .int .i64 o', .slice AX D.length cX, .slice BX M.length dX], .row 5 1 (.slice AY D.length cY) D.length (D.map vb), .row 5 1 (.slice BY M.length dY) M.length (M.map vb), .blk gY 31 [.int .u8 (k'.toNat : Int), .int .i64 h', .int .u8 (a'.toNat : Int), .int .i64 c', .int .i64 o', .slice AY D.length cY, .slice BY M.length dY], .row 5 1 (.slice AZ D.length cZ) D.length (D.map vb), .row 5 1 (.slice BZ M.length dZ) M.length (M.map vb), .blk gZ 31 [.int .u8 (k'.toNat : Int), .int .i64 h', .int .u8 (a'.toNat : Int), .int .i64 c', .int .i64 o', .slice AZ D.length cZ, .slice BZ M.length dZ]]) := H
      refine (sameOp_yes k' h' a' c' o' AX BX AZ BZ D.length M.length cX dX D.length M.length cZ dZ D M _ (H.rd 1 rfl) (H.rd 2 rfl) (H.rd 7 rfl) (H.rd 8 rfl) (by have := HLE.out; omega) (by have := HLE.out; omega)).mono ?_
      rintro e wx ⟨rfl, hb⟩
      replace H := H.call hb
      clear hb
      go_wp2_with (first | (refine load_guard (by rfl) 31 (.tmp 7) rfl gY rfl _ _ _ _ (H.blk 6 rfl) Try.underlying31 rfl op_size ?_) | (refine wpList_load_row rfl 31 (.tmp 7) rfl gY rfl _ _ _ _ (H.blk 6 rfl) Try.underlying31 rfl op_size ?_) | (refine load_guard (by rfl) 31 (.tmp 9) rfl gZ rfl _ _ _ _ (H.blk 9 rfl) Try.underlying31 rfl op_size ?_) | (refine wpList_load_row rfl 31 (.tmp 9) rfl gZ rfl _ _ _ _ (H.blk 9 rfl) Try.underlying31 rfl op_size ?_))
      refine (sameOp_yes k' h' a' c' o' AY BY AZ BZ D.length M.length cY dY D.length M.length cZ dZ D M _ (H.rd 4 rfl) (H.rd 5 rfl) (H.rd 7 rfl) (H.rd 8 rfl) (by have := HLE.out; omega) (by have := HLE.out; omega)).mono ?_
      rintro e wx ⟨rfl, hb⟩
      replace H := H.call hb
      clear hb
      have z1 := H.cell 3 rfl (o := 5) rfl
      have z2 := H.cell 3 rfl (o := 6) rfl
      have z3 := H.cell 6 rfl (o := 5) rfl
      have z4 := H.cell 6 rfl (o := 6) rfl
      go_wp2_with fail
      refine (apart_st H [(.slice AX D.length cX, D), (.slice BX M.length dX, M), (.slice AY D.length cY, D), (.slice BY M.length dY, M)] (fun i => [1, 2, 4, 5].getD i 99) (fun i j hi hj => (by decide : ∀ i < 4, ∀ j < 4, [1, 2, 4, 5].getD i 99 = [1, 2, 4, 5].getD j 99 → i = j) i hi j hj) ?_ 4 rfl (by omega) ?_ _ rfl).mono ?_
      · intro i p hp
        match i, hp with
        | 0, hp => cases hp; rfl
        | 1, hp => cases hp; rfl
        | 2, hp => cases hp; rfl
        | 3, hp => cases hp; rfl
        | i + 4, hp => simp at hp
      · intro p hp
        have h1 := HLE.out
        simp only [List.mem_cons, List.not_mem_nil, or_false] at hp
        rcases hp with rfl | rfl | rfl | rfl <;> simp only <;> omega
      rintro e wz ⟨rfl, hbz⟩
      go_wp2_with fail
      go_ret
      exact ⟨rfl, hbz⟩
end Go.Proofs.Ytgfhnbjpdhdhgaa
