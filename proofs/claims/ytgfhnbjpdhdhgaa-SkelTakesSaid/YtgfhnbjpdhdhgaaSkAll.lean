/- All, in skel and in the document (layer 21). -/
import Derived.Test.YtgfhnbjpdhdhgaaRefOf
namespace Go.Proofs.Ytgfhnbjpdhdhgaa
open Go.RowKit
set_option linter.unusedVariables false

theorem op_cells7 {w : World} {A : Option Addr} {n k : Nat} {l : List OpR} {x : OpR} (h : Rd w 7 A n (opsV l)) (hx : l[k]? = some x) : ∃ p o, A = some ⟨p, o, none⟩ ∧ w.cell? ⟨p, o + k * 7, none⟩ = some (.int .u8 (x.k.toNat : Int)) ∧
    w.cell? ⟨p, o + k * 7 + 1, none⟩ = some (.int .i64 x.h) ∧ w.cell? ⟨p, o + k * 7 + 2, none⟩ = some (.int .u8 (x.a.toNat : Int)) ∧ w.cell? ⟨p, o + k * 7 + 3, none⟩ = some (.int .i64 x.c) ∧
    w.cell? ⟨p, o + k * 7 + 4, none⟩ = some (.int .i64 x.o) ∧ w.cell? ⟨p, o + k * 7 + 5, none⟩ = some (.slice x.A x.n x.cA) ∧ w.cell? ⟨p, o + k * 7 + 6, none⟩ = some (.slice x.B x.m x.cB) ∧ p < w.heap.size := by
  obtain ⟨p, o, rfl, hr⟩ := op_cells h hx
  have h0 := hr 0 _ rfl
  refine ⟨p, o, rfl, h0, hr 1 _ rfl, hr 2 _ rfl, hr 3 _ rfl, hr 4 _ rfl, hr 5 _ rfl, hr 6 _ rfl, ?_⟩
  exact World.block_lt_of_cell? w _ h0

theorem skOf_h (x : OpR) (w : World) :
    Calls Try.prog 32 #[opV x.k x.h x.a x.c x.o (.slice x.A x.n x.cA) (.slice x.B x.m x.cB)] w fun e w' => ∃ x1 x2 x3 x4 x5 x6 x7, Hid ((x1, x2, x3, x4, x5, x6, x7) = skOf x) ∧ e = .returned (.agg #[.int .u8 x1, .int .i64 x2, .int .u8 x3, .int .i64 x4, .int .i64 x5, .int .i64 x6, .int .i64 x7]) ∧ Below w.heap.size w w' :=
  (skOf_s x.k x.h x.a x.c x.o x.A x.B x.n x.cA x.m x.cB w).mono fun _ _ h => ⟨_, _, _, _, _, _, _, rfl, h.1, h.2⟩
theorem refOf_h (x : OpR) (w : World) :
    Calls Try.prog 33 #[opV x.k x.h x.a x.c x.o (.slice x.A x.n x.cA) (.slice x.B x.m x.cB)] w fun e w' => ∃ x1 x2 x3 x4 x5 x6 x7, Hid ((x1, x2, x3, x4, x5, x6, x7) = skOf x) ∧ e = .returned (.agg #[.int .u8 x1, .int .i64 x2, .int .u8 x3, .int .i64 x4, .int .i64 x5, .int .i64 x6, .int .i64 x7]) ∧ Below w.heap.size w w' :=
  (refOf_s x.k x.h x.a x.c x.o x.A x.B x.n x.cA x.m x.cB w).mono fun _ _ h => ⟨_, _, _, _, _, _, _, rfl, h.1, h.2⟩
theorem takeMap_succ {α β : Type} (f : α → β) {l : List α} {k : Nat} {x : α} (h : l[k]? = some x) : (l.take (k + 1)).map f = (l.take k).map f ++ [f x] := by
  rw [List.take_add_one, h]; simp

set_option maxHeartbeats 1000000 in
theorem skAll_s (A : Option Addr) (n c : Nat) (l : List OpR) (w : World) (hd : Rd w 7 A n (opsV l)) (hn : n ≤ 1599289640354) :
    Calls Try.prog 34 #[.slice A n c] w fun e w' => ∃ v, e = .returned v ∧ OwnS w' w.heap.size v (l.map skOf) ∧ Below w.heap.size w w' := by
  obtain ⟨i0, hi0, hz0, hz1, hz2⟩ := info_parts sk_info
  have hl : l.length = n := by have := hd.1; rw [opsV_length] at this; omega
  have HL := Lib.hid hl
  clear hl
  have H1 := ((St.start_lay w []).nilRow 0 rfl 51 7).push_mk rfl
  go_enter Try.func34, Try.ntmps34
  go_wp2
  go_loopw [3, 8] (fun v i wr => ∃ k : Nat, k ≤ n ∧ i = .int .i64 k ∧ St w [] wr (lay [.row 51 7 v k (sksV ((l.take k).map skOf))])) (fun v i _ => n - (intOf i).toNat)
  case atStart => exact ⟨0, Nat.zero_le _, rfl, H1⟩
  case round =>
    clear H1
    obtain ⟨k, hk, rfl, H⟩ := hrel
    by_cases hlt : k < n
    · obtain ⟨x, hx⟩ : ∃ r, l[k]? = some r := ⟨_, List.getElem?_eq_getElem (by rw [HL.out]; exact hlt)⟩
      obtain ⟨p, o, rfl, a0, a1, a2, a3, a4, a5, a6, hlt2⟩ := op_cells7 (H.arg0 hd) hx
      have HX := Lib.hid hx
      clear hx
      have hk1 : (k : Int) < n := by omega
      go_wp2_with fail
      refine (skOf_h x _).mono ?_
      rintro e w2 ⟨x1, x2, x3, x4, x5, x6, x7, HM, rfl, hb2⟩
      have H2 := (H.call ((Below.refl _ _).alloc (Nat.le_refl _) _)).call hb2
      have hr := H2.row 0 rfl
      clear a0 a1 a2 a3 a4 a5 a6
      go_wp2_with (at_builtin; refine hold_here ?_)
      refine Held.go ?_
      refine wpList_append_any _ rfl (.tmp 12) (.tmp 15) _ rfl 0 51 i0 _ 7 56 Try.underlying22 hi0 hz0 hz1 hz2 rfl (by omega) _ k (sksV ((l.take k).map skOf)) rfl (hr.alloc _) (some ⟨w2.heap.size, 0, none⟩) 1 1 (skV (x1, x2, x3, x4, x5, x6, x7)) rfl (rd_new0 w2 (skV (x1, x2, x3, x4, x5, x6, x7)) _ 7 rfl) (by simpa [sksV] using sksV_one [(x1, x2, x3, x4, x5, x6, x7)]) (by simp only [maxLen]; omega) (by omega) (by omega) ?_
      intro v3 w3 hown3 hg3 hat3
      have H3 := (((((H2.alloc 1 rfl #[.int .u8 x1, .int .i64 x2, .int .u8 x3, .int .i64 x4, .int .i64 x5, .int .i64 x6, .int .i64 x7] 51)).grow 0 rfl hown3 hg3 hat3)).sub (E' := lay [.row 51 7 v3 (k + 1) (sksV ((l.take k).map skOf) ++ skV (x1, x2, x3, x4, x5, x6, x7))]) (fun i A hA => by cases i with | zero => exact hA | succ i => simp [lay] at hA))
      rw [HM.out] at H3
      clear hr hown3 hg3 hat3 H2 H
      go_wp2
      go_roundw
      case rel => exact ⟨k + 1, by omega, by go_num, by rw [takeMap_succ skOf HX.out, sksV_append]; simpa [sksV] using H3⟩
      case measure => simp [intOf]; omega
    · obtain rfl : k = n := by omega
      have hk1 : ¬ (k : Int) < k := by omega
      go_wp2
      go_ret
      refine ⟨_, rfl, ?_, H.below⟩
      have := H.ownRow 0 rfl
      rw [List.take_of_length_le (by rw [HL.out]; omega)] at this
      unfold OwnS
      rw [List.length_map, HL.out]
      exact this

set_option maxHeartbeats 1000000 in
theorem refAll_s (A : Option Addr) (n c : Nat) (l : List OpR) (w : World) (hd : Rd w 7 A n (opsV l)) (hn : n ≤ 1599289640354) :
    Calls Try.prog 35 #[.slice A n c] w fun e w' => ∃ v, e = .returned v ∧ OwnS w' w.heap.size v (l.map skOf) ∧ Below w.heap.size w w' := by
  obtain ⟨i0, hi0, hz0, hz1, hz2⟩ := info_parts sk_info
  have hl : l.length = n := by have := hd.1; rw [opsV_length] at this; omega
  have HL := Lib.hid hl
  clear hl
  have H1 := ((St.start_lay w []).nilRow 0 rfl 51 7).push_mk rfl
  go_enter Try.func35, Try.ntmps35
  go_wp2
  go_loopw [3, 4] (fun v i wr => ∃ k : Nat, k ≤ n ∧ i = .int .i64 k ∧ St w [] wr (lay [.row 51 7 v k (sksV ((l.take k).map skOf))])) (fun v i _ => n - (intOf i).toNat)
  case atStart => exact ⟨0, Nat.zero_le _, rfl, H1⟩
  case round =>
    clear H1
    obtain ⟨k, hk, rfl, H⟩ := hrel
    by_cases hlt : k < n
    · obtain ⟨x, hx⟩ : ∃ r, l[k]? = some r := ⟨_, List.getElem?_eq_getElem (by rw [HL.out]; exact hlt)⟩
      obtain ⟨p, o, rfl, a0, a1, a2, a3, a4, a5, a6, hlt2⟩ := op_cells7 (H.arg0 hd) hx
      have HX := Lib.hid hx
      clear hx
      have hk1 : (k : Int) < n := by omega
      go_wp2_with fail
      refine (refOf_h x _).mono ?_
      rintro e w2 ⟨x1, x2, x3, x4, x5, x6, x7, HM, rfl, hb2⟩
      have H2 := H.call hb2
      have hr := H2.row 0 rfl
      clear a0 a1 a2 a3 a4 a5 a6
      go_wp2_with (at_builtin; refine hold_here ?_)
      refine Held.go ?_
      refine wpList_append_any _ rfl (.tmp 11) (.tmp 17) _ rfl 0 51 i0 _ 7 56 Try.underlying22 hi0 hz0 hz1 hz2 rfl (by omega) _ k (sksV ((l.take k).map skOf)) rfl (hr.alloc _) (some ⟨w2.heap.size, 0, none⟩) 1 1 (skV (x1, x2, x3, x4, x5, x6, x7)) rfl (rd_new0 w2 (skV (x1, x2, x3, x4, x5, x6, x7)) _ 7 rfl) (by simpa [sksV] using sksV_one [(x1, x2, x3, x4, x5, x6, x7)]) (by simp only [maxLen]; omega) (by omega) (by omega) ?_
      intro v3 w3 hown3 hg3 hat3
      have H3 := (((((H2.alloc 1 rfl #[.int .u8 x1, .int .i64 x2, .int .u8 x3, .int .i64 x4, .int .i64 x5, .int .i64 x6, .int .i64 x7] 51)).grow 0 rfl hown3 hg3 hat3)).sub (E' := lay [.row 51 7 v3 (k + 1) (sksV ((l.take k).map skOf) ++ skV (x1, x2, x3, x4, x5, x6, x7))]) (fun i A hA => by cases i with | zero => exact hA | succ i => simp [lay] at hA))
      rw [HM.out] at H3
      clear hr hown3 hg3 hat3 H2 H
      go_wp2
      go_roundw
      case rel => exact ⟨k + 1, by omega, by go_num, by rw [takeMap_succ skOf HX.out, sksV_append]; simpa [sksV] using H3⟩
      case measure => simp [intOf]; omega
    · obtain rfl : k = n := by omega
      have hk1 : ¬ (k : Int) < k := by omega
      go_wp2
      go_ret
      refine ⟨_, rfl, ?_, H.below⟩
      have := H.ownRow 0 rfl
      rw [List.take_of_length_le (by rw [HL.out]; omega)] at this
      unfold OwnS
      rw [List.length_map, HL.out]
      exact this
end Go.Proofs.Ytgfhnbjpdhdhgaa
