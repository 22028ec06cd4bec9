/- ApartSkeletons of two lists of the call's own: it answers true, whatever they hold. -/
import Derived.Test.YtgfhnbjpdhdhgaaSkOf
import Derived.Test.YtgfhnbjpdhdhgaaTwo
import Derived.Test.YtgfhnbjpdhdhgaaHeld
namespace Go.Proofs.Ytgfhnbjpdhdhgaa
open Go.RowKit
set_option linter.unusedVariables false

theorem lsk_info : (Try.prog.info? 22).map (fun i => (i.zero, i.size, i.bytes)) = some (some (.slice none 0 0), 1, 24) := by kernel_rfl
theorem marksS_get {a n i : Nat} (h : i < n) : (marksS a 0 n)[i]? = some (markS a i) := by
  unfold marksS
  rw [List.getElem?_map, List.getElem?_range h]
  simp
theorem marksS_take (a n m : Nat) (h : n ≤ m) : marksS a 0 n = (marksS a 0 m).take n := by
  simp [marksS, ← List.map_take, List.take_range, Nat.min_eq_left h]
/-- a list that is written over, place by place -/
theorem sks_over {a q n : Nat} {l : List SkT} (hl : l.length = n) (hq : q < n) :
    (((((((sksV (marksS a 0 q ++ l.drop q)).set (q * 7) (.int .u8 (markS a q).1)).set (q * 7 + 1) (.int .i64 (markS a q).2.1)).set (q * 7 + 2) (.int .u8 (markS a q).2.2.1)).set (q * 7 + 3) (.int .i64 (markS a q).2.2.2.1)).set (q * 7 + 4) (.int .i64 (markS a q).2.2.2.2.1)).set (q * 7 + 5) (.int .i64 (markS a q).2.2.2.2.2.1)).set (q * 7 + 6) (.int .i64 (markS a q).2.2.2.2.2.2) = sksV (marksS a 0 (q + 1) ++ l.drop (q + 1)) := by
  have h1 : l.drop q = l[q] :: l.drop (q + 1) := List.drop_eq_getElem_cons (by omega)
  rw [h1, sksV_append, marksS_succ, sksV_append, sksV_append]
  have h2 : (sksV (marksS a 0 q)).length = q * 7 := by rw [sksV_length, marksS_length]
  generalize sksV (marksS a 0 q) = pre at h2
  rw [show sksV (l[q] :: l.drop (q + 1)) = skV l[q] ++ sksV (l.drop (q + 1)) from rfl]
  generalize sksV (l.drop (q + 1)) = post
  obtain ⟨x1, x2, x3, x4, x5, x6, x7⟩ := l[q]
  rw [Nat.zero_add, show sksV [markS a q] = skV (markS a q) from by simp [sksV]]
  obtain ⟨y1, y2, y3, y4, y5, y6, y7⟩ := markS a q
  rw [← h2]
  simp only [skV, List.append_assoc]
  rw [List.set_append_right _ _ (Nat.le_refl _), List.set_append_right _ _ (by omega), List.set_append_right _ _ (by omega), List.set_append_right _ _ (by omega), List.set_append_right _ _ (by omega), List.set_append_right _ _ (by omega), List.set_append_right _ _ (by omega)]
  simp
theorem row_free {w0 w : World} {F0 : List Nat} {E : Env} {e : TypeId} {size n g c : Nat} {xs : List Value} (H : St w0 F0 w E) (k : Nat) (hk : E k = some (.row e size (.slice (some ⟨g, 0, none⟩) n c) n xs)) (o : Nat) : w.frozen? ⟨g, o, none⟩ = false := by
  rcases (H.row k hk).2 with ⟨h, _⟩ | ⟨g', cap, cur, h, _, hg, _⟩
  · cases h
  · injection h with e1 _ _
    injection e1 with e1
    injection e1 with e1
    subst e1
    exact frozen_of_row w g o _ _ hg

theorem new_cells (w : World) (us : List Value) (t : TypeId) : ∀ j u, us[j]? = some u → (w.alloc (.cells us.toArray t)).cell? ((⟨w.heap.size, 0, none⟩ : Addr).add j) = some u := by
  intro j u hu
  rw [Addr.add_mid, Nat.zero_add, World.cell?_alloc_at _ _ _ _ rfl]
  simpa using hu
theorem sks_pre (a n m : Nat) (h : n ≤ m) : sksV (marksS a 0 n) = (sksV (marksS a 0 m)).take (sksV (marksS a 0 n)).length := by
  have h1 : marksS a 0 m = marksS a 0 n ++ (marksS a 0 m).drop n := by
    conv => lhs; rw [← List.take_append_drop n (marksS a 0 m)]
    rw [← marksS_take a n m h]
  rw [h1, sksV_append, List.take_left]
theorem drew_cell {w : World} {a : Addr} {v : Option Value} (h : w.cell? a = v) : w.drew.cell? a = v := h
theorem below_some {w w' : World} {a : Addr} {v : Value} (hb : Below w.heap.size w w') (h : w.cell? a = some v) : w'.cell? a = some v := by
  rw [hb.cell (World.block_lt_of_cell? w _ h)]
  exact h

theorem range_keep {w w' : World} {p o : Nat} {cs : List Value} (hb : Below w.heap.size w w') (h : w.rangeAt p o cs) : w'.rangeAt p o cs := fun j v hv => below_some hb (h j v hv)
theorem range_seven {w : World} {p o : Nat} {a0 a1 a2 a3 a4 a5 a6 : Value} (h0 : w.cell? ⟨p, o, none⟩ = some a0) (h1 : w.cell? ⟨p, o + 1, none⟩ = some a1) (h2 : w.cell? ⟨p, o + 2, none⟩ = some a2) (h3 : w.cell? ⟨p, o + 3, none⟩ = some a3) (h4 : w.cell? ⟨p, o + 4, none⟩ = some a4) (h5 : w.cell? ⟨p, o + 5, none⟩ = some a5) (h6 : w.cell? ⟨p, o + 6, none⟩ = some a6) : w.rangeAt p o [a0, a1, a2, a3, a4, a5, a6] := fun j v hv => by
  match j, hv with
  | 0, hv => cases hv; exact h0
  | 1, hv => cases hv; exact h1
  | 2, hv => cases hv; exact h2
  | 3, hv => cases hv; exact h3
  | 4, hv => cases hv; exact h4
  | 5, hv => cases hv; exact h5
  | 6, hv => cases hv; exact h6
  | j + 7, hv => simp at hv
section
variable {P : Program} {l : List Oper} {Q : Exit → Act → World → Prop} {md : Region.Mode} {S : World → Prop} {o : Oper} {rest : List Oper} {fuel : Nat} {listed : Array Bool} {a : Act} {w : World}
theorem take_loadm {ty : TypeId} {x : Operand} {d : TypeDesc} (i g off : Nat) (cs : List Value) (hS : ∀ w, S w → w.rangeAt g off cs) (hu : P.underlying ty = some d) (hl : (P.info? ty).map (·.size) = some cs.length)
    (hi : l.drop i = o :: rest) (hs : Region.noSelect l.toArray = true) (hf : Region.free md l.toArray listed i = true) (hr : (Region.ready md l.toArray listed).contains i = true)
    (hQ : ∀ c a w, Q (.panic c) (a.put o.dst (.agg cs.toArray)) w → Q (.panic c) a w) (hd : d.isRow = true) (hw : Region.wanted o (yielded l.toArray a.tmps) = true)
    (ho : o.op = .load ty x) (hx : a.eval x = .pointer (some ⟨g, off, none⟩)) (hSw : S w)
    (h : wpAnyH P md l.toArray Q S fuel (listed.setIfInBounds i true) (a.put o.dst (.agg cs.toArray)) w) : wpAnyH P md l.toArray Q S (fuel + 1) listed a w :=
  wpAnyH_take (drop_at hi) hs hf hr hQ (yieldsIf_load_mid hw ty x ho g off hx cs d hS hu hd hl) hSw h
/-- an operation that is not wanted -/
theorem take_skip (i : Nat) (hi : l.drop i = o :: rest) (hs : Region.noSelect l.toArray = true) (hf : Region.free md l.toArray listed i = true) (hr : (Region.ready md l.toArray listed).contains i = true)
    (hQ : ∀ c a w, Q (.panic c) (a.put o.dst undef) w → Q (.panic c) a w) (hw : Region.wanted o (yielded l.toArray a.tmps) = false) (hSw : S w)
    (h : wpAnyH P md l.toArray Q S fuel (listed.setIfInBounds i true) (a.put o.dst undef) w) : wpAnyH P md l.toArray Q S (fuel + 1) listed a w :=
  wpAnyH_take (drop_at hi) hs hf hr hQ (.inr ⟨hw, rfl⟩) hSw h
theorem take_two {o' : Oper} {rest' : List Oper} (i j : Nat) (hi : l.drop i = o :: rest) (hj : l.drop j = o' :: rest') (hr : Region.ready md l.toArray listed = [i, j])
    (h : ∀ K' : Act → World → Prop, Shut (∀ a w, S w → (S w → wpAnyH P md l.toArray Q S fuel (listed.setIfInBounds i true) a w) → K' a w) → if Region.wanted o (yielded l.toArray a.tmps) = true then Oper.wp P o a w K' Q else K' (a.put o.dst undef) w)
    (h' : ∀ K' : Act → World → Prop, Shut (∀ a w, S w → (S w → wpAnyH P md l.toArray Q S fuel (listed.setIfInBounds j true) a w) → K' a w) → if Region.wanted o' (yielded l.toArray a.tmps) = true then Oper.wp P o' a w K' Q else K' (a.put o'.dst undef) w) :
    wpAnyH P md l.toArray Q S (fuel + 1) listed a w :=
  wpAnyH_ready hr (by simp) (AllReadyH.cons (drop_at hi) h (AllReadyH.cons (drop_at hj) h' AllReadyH.nil))
end

set_option maxRecDepth 100000 in
set_option maxHeartbeats 4000000 in
theorem apartSk_two {w0 w : World} (v0 v1 : Value) (n0 n1 gL : Nat) (l0 l1 : List SkT) (H : St w0 [] w (lay [.row 51 7 v0 n0 (sksV (l0)), .row 51 7 v1 n1 (sksV (l1)), .blk gL 22 [v0, v1]])) (h0 : l0.length = n0) (h1 : l1.length = n1) (hn0 : n0 ≤ 1599289640354) (hn1 : n1 ≤ 1599289640354) :
    Calls Try.prog 38 #[.slice (some ⟨gL, 0, none⟩) 2 2] w fun e w' => e = .returned (.bool true) ∧ Below w0.heap.size w0 w' := by
  obtain ⟨i0, hi0, hz0, hz1, hz2⟩ := info_parts sk_info
  obtain ⟨i1, hi1, hy0, hy1, hy2⟩ := info_parts lsk_info
  have hU := Try.underlying51
  have HL0 := Lib.hid h0
  have HL1 := Lib.hid h1
  clear h0 h1
  go_enter Try.func38, Try.ntmps38
  go_wp2
  go_loopw [3] (fun i wr => ∃ k : Nat, k ≤ 2 ∧ i = .int .i64 k ∧ St w0 [] wr (lay [.row 51 7 v0 n0 (sksV (if 0 < k then marksS 10 0 n0 else l0)), .row 51 7 v1 n1 (sksV (if 1 < k then marksS 11 0 n1 else l1)), .blk gL 22 [v0, v1]])) (fun i _ => 2 - (intOf i).toNat)
  case atStart => exact ⟨0, by omega, rfl, by simpa using H⟩
  case round =>
    clear H
    obtain ⟨k, hk, rfl, H⟩ := hrel
    have hk3 : k = 0 ∨ k = 1 ∨ k = 2 := by omega
    rcases hk3 with rfl | rfl | rfl
    · replace H : St w0 [] wr (lay [.row 51 7 v0 n0 (sksV (l0)), .row 51 7 v1 n1 (sksV (l1)), .blk gL 22 [v0, v1]]) := by simpa using H
      obtain ⟨A, c, hv, -⟩ := row_form (H.row 0 rfl)
      subst hv
      have hcell := H.cell 2 rfl (o := 0) rfl
      go_wp2
      go_loopw [4] (fun i wr => ∃ q : Nat, q ≤ n0 ∧ i = .int .i64 q ∧ St w0 [] wr (lay [.row 51 7 (.slice A n0 c) n0 (sksV (marksS 10 0 q ++ l0.drop q)), .row 51 7 v1 n1 (sksV (l1)), .blk gL 22 [(.slice A n0 c), v1]])) (fun i _ => n0 - (intOf i).toNat)
      case atStart => exact ⟨0, Nat.zero_le _, rfl, by simpa [marksS] using H⟩
      case round =>
        clear H hcell
        obtain ⟨q, hq, rfl, H⟩ := hrel
        have hcell := H.cell 2 rfl (o := 0) rfl
        by_cases hlq : q < n0
        · obtain ⟨g, hA, hlt⟩ : ∃ g, A = some ⟨g, 0, none⟩ ∧ g < wr.heap.size := by
            obtain ⟨A', c', h, -, h2⟩ := row_form (H.row 0 rfl)
            injection h with h _ _
            subst h
            exact h2 (by omega)
          subst hA
          have hq1 : (q : Int) < n0 := by omega
          have hlen : (marksS 10 0 q ++ l0.drop q).length = n0 := by rw [List.length_append, marksS_length, List.length_drop, HL0.out]; omega
          obtain ⟨x, hx⟩ : ∃ x, (marksS 10 0 q ++ l0.drop q)[q]? = some x := ⟨_, List.getElem?_eq_getElem (by rw [hlen]; exact hlq)⟩
          have H1 := H.drew
          have HX := Lib.hid hx
          clear hx hlen
          go_wp2
          have hw1 : IntKind.i64.wrap (0 + 10) = 10 := rfl
          go_region_held3 (fun w' => w'.cell? ⟨gL, 0, none⟩ = some (.slice (some ⟨g, 0, none⟩) n0 c)) (first | with_reducible exact H3.cell 2 rfl rfl | with_reducible exact H2.cell 2 rfl rfl | with_reducible exact H1.cell 2 rfl rfl) ((go_at_call 55; refine (markS_h 10 q _ (by omega) (by omega) rfl rfl).mono ?_; rintro e w2 ⟨x1, x2, x3, x4, x5, x6, x7, HM, rfl, hb2⟩; have H2 := H1.call hb2; obtain ⟨p9, o9, h9, b0, b1, b2, b3, b4, b5, b6⟩ := sk_cells (H2.rd 0 rfl) HX.out; injection h9 with h9; injection h9 with h9 h8; subst h9 h8; rw [Nat.zero_add] at b0 b1 b2 b3 b4 b5 b6; have y0 := row_free H2 0 rfl (q * 7); have y1 := row_free H2 0 rfl (q * 7 + 1); have y2 := row_free H2 0 rfl (q * 7 + 2); have y3 := row_free H2 0 rfl (q * 7 + 3); have y4 := row_free H2 0 rfl (q * 7 + 4); have y5 := row_free H2 0 rfl (q * 7 + 5); have y6 := row_free H2 0 rfl (q * 7 + 6); have H3 := ((((((((((((((H2.rowStore 0 rfl (o := q * 7) (u := .int .u8 x1)).upd_mk (by simp)).rowStore 0 rfl (o := q * 7 + 1) (u := .int .i64 x2)).upd_mk (by simp)).rowStore 0 rfl (o := q * 7 + 2) (u := .int .u8 x3)).upd_mk (by simp)).rowStore 0 rfl (o := q * 7 + 3) (u := .int .i64 x4)).upd_mk (by simp)).rowStore 0 rfl (o := q * 7 + 4) (u := .int .i64 x5)).upd_mk (by simp)).rowStore 0 rfl (o := q * 7 + 5) (u := .int .i64 x6)).upd_mk (by simp)).rowStore 0 rfl (o := q * 7 + 6) (u := .int .i64 x7)).upd_mk (by simp))))
          have HS := sks_over (a := 10) HL0.out hlq
          rw [← HM.out] at HS
          go_wp2
          go_roundw
          case rel =>
            refine ⟨q + 1, by omega, by go_num, ?_⟩
            rw [← HS]
            exact H3
          case measure => simp [intOf]; omega
        · obtain rfl : q = n0 := by omega
          have hq1 : ¬ (q : Int) < q := by omega
          go_wp2
          go_roundw
          case rel =>
            refine ⟨1, by omega, by go_num, ?_⟩
            rw [List.drop_of_length_le (by rw [HL0.out]; omega), List.append_nil] at H
            simpa using H
          case measure => simp [intOf]
    · replace H : St w0 [] wr (lay [.row 51 7 v0 n0 (sksV (marksS 10 0 n0)), .row 51 7 v1 n1 (sksV (l1)), .blk gL 22 [v0, v1]]) := by simpa using H
      obtain ⟨A, c, hv, -⟩ := row_form (H.row 1 rfl)
      subst hv
      have hcell := H.cell 2 rfl (o := 1) rfl
      go_wp2
      go_loopw [4] (fun i wr => ∃ q : Nat, q ≤ n1 ∧ i = .int .i64 q ∧ St w0 [] wr (lay [.row 51 7 v0 n0 (sksV (marksS 10 0 n0)), .row 51 7 (.slice A n1 c) n1 (sksV (marksS 11 0 q ++ l1.drop q)), .blk gL 22 [v0, (.slice A n1 c)]])) (fun i _ => n1 - (intOf i).toNat)
      case atStart => exact ⟨0, Nat.zero_le _, rfl, by simpa [marksS] using H⟩
      case round =>
        clear H hcell
        obtain ⟨q, hq, rfl, H⟩ := hrel
        have hcell := H.cell 2 rfl (o := 1) rfl
        by_cases hlq : q < n1
        · obtain ⟨g, hA, hlt⟩ : ∃ g, A = some ⟨g, 0, none⟩ ∧ g < wr.heap.size := by
            obtain ⟨A', c', h, -, h2⟩ := row_form (H.row 1 rfl)
            injection h with h _ _
            subst h
            exact h2 (by omega)
          subst hA
          have hq1 : (q : Int) < n1 := by omega
          have hlen : (marksS 11 0 q ++ l1.drop q).length = n1 := by rw [List.length_append, marksS_length, List.length_drop, HL1.out]; omega
          obtain ⟨x, hx⟩ : ∃ x, (marksS 11 0 q ++ l1.drop q)[q]? = some x := ⟨_, List.getElem?_eq_getElem (by rw [hlen]; exact hlq)⟩
          have H1 := H.drew
          have HX := Lib.hid hx
          clear hx hlen
          go_wp2
          have hw1 : IntKind.i64.wrap (1 + 10) = 11 := rfl
          go_region_held3 (fun w' => w'.cell? ⟨gL, 1, none⟩ = some (.slice (some ⟨g, 0, none⟩) n1 c)) (first | with_reducible exact H3.cell 2 rfl rfl | with_reducible exact H2.cell 2 rfl rfl | with_reducible exact H1.cell 2 rfl rfl) ((go_at_call 55; refine (markS_h 11 q _ (by omega) (by omega) rfl rfl).mono ?_; rintro e w2 ⟨x1, x2, x3, x4, x5, x6, x7, HM, rfl, hb2⟩; have H2 := H1.call hb2; obtain ⟨p9, o9, h9, b0, b1, b2, b3, b4, b5, b6⟩ := sk_cells (H2.rd 1 rfl) HX.out; injection h9 with h9; injection h9 with h9 h8; subst h9 h8; rw [Nat.zero_add] at b0 b1 b2 b3 b4 b5 b6; have y0 := row_free H2 1 rfl (q * 7); have y1 := row_free H2 1 rfl (q * 7 + 1); have y2 := row_free H2 1 rfl (q * 7 + 2); have y3 := row_free H2 1 rfl (q * 7 + 3); have y4 := row_free H2 1 rfl (q * 7 + 4); have y5 := row_free H2 1 rfl (q * 7 + 5); have y6 := row_free H2 1 rfl (q * 7 + 6); have H3 := ((((((((((((((H2.rowStore 1 rfl (o := q * 7) (u := .int .u8 x1)).upd_mk (by simp)).rowStore 1 rfl (o := q * 7 + 1) (u := .int .i64 x2)).upd_mk (by simp)).rowStore 1 rfl (o := q * 7 + 2) (u := .int .u8 x3)).upd_mk (by simp)).rowStore 1 rfl (o := q * 7 + 3) (u := .int .i64 x4)).upd_mk (by simp)).rowStore 1 rfl (o := q * 7 + 4) (u := .int .i64 x5)).upd_mk (by simp)).rowStore 1 rfl (o := q * 7 + 5) (u := .int .i64 x6)).upd_mk (by simp)).rowStore 1 rfl (o := q * 7 + 6) (u := .int .i64 x7)).upd_mk (by simp))))
          have HS := sks_over (a := 11) HL1.out hlq
          rw [← HM.out] at HS
          go_wp2
          go_roundw
          case rel =>
            refine ⟨q + 1, by omega, by go_num, ?_⟩
            rw [← HS]
            exact H3
          case measure => simp [intOf]; omega
        · obtain rfl : q = n1 := by omega
          have hq1 : ¬ (q : Int) < q := by omega
          go_wp2
          go_roundw
          case rel =>
            refine ⟨2, by omega, by go_num, ?_⟩
            rw [List.drop_of_length_le (by rw [HL1.out]; omega), List.append_nil] at H
            simpa using H
          case measure => simp [intOf]
    · replace H : St w0 [] wr (lay [.row 51 7 v0 n0 (sksV (marksS 10 0 n0)), .row 51 7 v1 n1 (sksV (marksS 11 0 n1)), .blk gL 22 [v0, v1]]) := by simpa using H
      go_wp2
      go_loopw [5, 6] (fun v i wr => (i = .int .i64 0 ∧ St w0 [] wr (lay [.row 51 7 v0 n0 (sksV (marksS 10 0 n0)), .row 51 7 v1 n1 (sksV (marksS 11 0 n1)), .blk gL 22 [v0, v1], .row 22 1 v 0 []])) ∨ (∃ g0, i = .int .i64 1 ∧ St w0 [] wr (lay [.two 51 7 v0 n0 (sksV (marksS 10 0 n0)) g0 (n0 + 6) (sksV (marksS 10 0 (n0 + 6))), .row 51 7 v1 n1 (sksV (marksS 11 0 n1)), .blk gL 22 [v0, v1], .row 22 1 v 1 [g0]])) ∨ (∃ g0 g1, i = .int .i64 2 ∧ St w0 [] wr (lay [.two 51 7 v0 n0 (sksV (marksS 10 0 n0)) g0 (n0 + 6) (sksV (marksS 10 0 (n0 + 6))), .two 51 7 v1 n1 (sksV (marksS 11 0 n1)) g1 (n1 + 6) (sksV (marksS 11 0 (n1 + 6))), .blk gL 22 [v0, v1], .row 22 1 v 2 [g0, g1]]))) (fun _ i _ => 2 - (intOf i).toNat)
      case atStart => exact .inl ⟨rfl, (H.nilRow 3 rfl _ _).push_mk rfl⟩
      case round =>
        clear H
        rcases hrel with ⟨rfl, H⟩ | ⟨g0, rfl, H⟩ | ⟨g0, g1, rfl, H⟩
        · obtain ⟨A, c, hv, -⟩ := row_form (H.row 0 rfl)
          have HV := Lib.hid hv
          clear hv
          have hcell := H.cell 2 rfl (o := 0) rfl
          rw [HV.out] at hcell
          replace H : St w0 [] wr (lay [.two 51 7 v0 n0 (sksV (marksS 10 0 n0)) v0 (n0 + 0) (sksV (marksS 10 0 (n0 + 0))), .row 51 7 v1 n1 (sksV (marksS 11 0 n1)), .blk gL 22 [v0, v1], .row 22 1 u5 0 []]) := (H.dup 0 rfl).upd_mk (by simp)
          go_wp2
          go_loopw [7, 8] (fun v i wr => ∃ q : Nat, q ≤ 6 ∧ i = .int .i64 q ∧ St w0 [] wr (lay [.two 51 7 v0 n0 (sksV (marksS 10 0 n0)) v (n0 + q) (sksV (marksS 10 0 (n0 + q))), .row 51 7 v1 n1 (sksV (marksS 11 0 n1)), .blk gL 22 [v0, v1], .row 22 1 u5 0 []])) (fun _ i _ => 6 - (intOf i).toNat)
          case atStart => exact ⟨0, by omega, rfl, by rw [← HV.out]; exact H⟩
          case round =>
            clear H hcell
            obtain ⟨q, hq, rfl, H⟩ := hrel
            have hcell := H.cell 2 rfl (o := 0) rfl
            rw [HV.out] at hcell
            by_cases hlq : q < 6
            · have hq1 : (q : Int) < 6 := by omega
              go_wp2_with fail
              refine (markS_h 10 (n0 + q) _ (by omega) (by omega) rfl (by omega)).mono ?_
              rintro e w2 ⟨x1, x2, x3, x4, x5, x6, x7, HM, rfl, hb2⟩
              have H2 := H.call hb2
              have hr2 := H2.two2 0 rfl
              clear hcell hq1
              go_wp2_with (at_builtin; refine hold_here ?_)
              refine Held.go ?_
              refine wpList_append_went _ rfl (.tmp 50) (.tmp 61) _ rfl 0 51 i0 _ 7 56 Try.underlying22 hi0 hz0 hz1 hz2 rfl (by omega) u7 (n0 + q) _ rfl (hr2.alloc _) ⟨w2.heap.size, 0, none⟩ 1 1 (skV (x1, x2, x3, x4, x5, x6, x7)) rfl (by omega) rfl (new_cells w2 _ _) (by simpa [sksV] using sksV_one [(x1, x2, x3, x4, x5, x6, x7)]) (by simp only [maxLen]; omega) (by omega) (by omega) ?_
              intro v3 w3 hown3 hwent3
              have H3 := ((((H2.alloc 4 rfl #[.int .u8 x1, .int .i64 x2, .int .u8 x3, .int .i64 x4, .int .i64 x5, .int .i64 x6, .int .i64 x7] 51).push_mk rfl).went 0 rfl hown3 hwent3 (sks_pre _ _ _ (by omega))).upd_mk (by simp)).front 4
              rw [HM.out] at H3
              have e1 : sksV (marksS 10 0 (n0 + q)) ++ skV (markS 10 (n0 + q)) = sksV (marksS 10 0 (n0 + (q + 1))) := by rw [← Nat.add_assoc, marksS_succ, sksV_append, Nat.zero_add]; simp [sksV]
              rw [e1] at H3
              clear hown3 hwent3 hr2 H2 H e1
              go_wp2
              go_roundw
              case rel => exact ⟨q + 1, by omega, by go_num, H3⟩
              case measure => simp [intOf]; omega
            · obtain rfl : q = 6 := by omega
              clear hcell
              obtain ⟨A7, c7, hv7, -⟩ := row_form (H.two2 0 rfl)
              subst hv7
              have hr3 := H.row 3 rfl
              go_wp2_with (at_builtin; refine hold_here ?_)
              refine Held.go ?_
              refine wpList_append_any _ rfl (.tmp 63) (.tmp 65) _ rfl 0 22 i1 _ 1 24 Try.underlying57 hi1 hy0 hy1 hy2 rfl (by omega) u5 0 _ rfl (hr3.alloc _) (some ⟨wr.heap.size, 0, none⟩) 1 1 [.slice A7 (n0 + 6) c7] rfl (rd_new0 wr [.slice A7 (n0 + 6) c7] _ 1 rfl) (by simp [Value.oneCell']) (by simp only [maxLen]; omega) (by omega) (by omega) ?_
              intro v3 w3 hown3 hg3 hat3
              have H3 := ((((H.alloc 4 rfl #[.slice A7 (n0 + 6) c7] 22).push_mk rfl).grow 3 rfl hown3 hg3 hat3).upd_mk (by simp)).front 4
              clear hr3 hown3 hg3 hat3 H
              go_wp2
              go_roundw
              case rel => exact ⟨_, H3⟩
              case measure => simp [intOf]
        · obtain ⟨A, c, hv, -⟩ := row_form (H.row 1 rfl)
          have HV := Lib.hid hv
          clear hv
          have hcell := H.cell 2 rfl (o := 1) rfl
          rw [HV.out] at hcell
          replace H : St w0 [] wr (lay [.two 51 7 v0 n0 (sksV (marksS 10 0 n0)) g0 (n0 + 6) (sksV (marksS 10 0 (n0 + 6))), .two 51 7 v1 n1 (sksV (marksS 11 0 n1)) v1 (n1 + 0) (sksV (marksS 11 0 (n1 + 0))), .blk gL 22 [v0, v1], .row 22 1 u5 1 [g0]]) := (H.dup 1 rfl).upd_mk (by simp)
          go_wp2
          go_loopw [7, 8] (fun v i wr => ∃ q : Nat, q ≤ 6 ∧ i = .int .i64 q ∧ St w0 [] wr (lay [.two 51 7 v0 n0 (sksV (marksS 10 0 n0)) g0 (n0 + 6) (sksV (marksS 10 0 (n0 + 6))), .two 51 7 v1 n1 (sksV (marksS 11 0 n1)) v (n1 + q) (sksV (marksS 11 0 (n1 + q))), .blk gL 22 [v0, v1], .row 22 1 u5 1 [g0]])) (fun _ i _ => 6 - (intOf i).toNat)
          case atStart => exact ⟨0, by omega, rfl, by rw [← HV.out]; exact H⟩
          case round =>
            clear H hcell
            obtain ⟨q, hq, rfl, H⟩ := hrel
            have hcell := H.cell 2 rfl (o := 1) rfl
            rw [HV.out] at hcell
            by_cases hlq : q < 6
            · have hq1 : (q : Int) < 6 := by omega
              go_wp2_with fail
              refine (markS_h 11 (n1 + q) _ (by omega) (by omega) rfl (by omega)).mono ?_
              rintro e w2 ⟨x1, x2, x3, x4, x5, x6, x7, HM, rfl, hb2⟩
              have H2 := H.call hb2
              have hr2 := H2.two2 1 rfl
              clear hcell hq1
              go_wp2_with (at_builtin; refine hold_here ?_)
              refine Held.go ?_
              refine wpList_append_went _ rfl (.tmp 50) (.tmp 61) _ rfl 0 51 i0 _ 7 56 Try.underlying22 hi0 hz0 hz1 hz2 rfl (by omega) u7 (n1 + q) _ rfl (hr2.alloc _) ⟨w2.heap.size, 0, none⟩ 1 1 (skV (x1, x2, x3, x4, x5, x6, x7)) rfl (by omega) rfl (new_cells w2 _ _) (by simpa [sksV] using sksV_one [(x1, x2, x3, x4, x5, x6, x7)]) (by simp only [maxLen]; omega) (by omega) (by omega) ?_
              intro v3 w3 hown3 hwent3
              have H3 := ((((H2.alloc 4 rfl #[.int .u8 x1, .int .i64 x2, .int .u8 x3, .int .i64 x4, .int .i64 x5, .int .i64 x6, .int .i64 x7] 51).push_mk rfl).went 1 rfl hown3 hwent3 (sks_pre _ _ _ (by omega))).upd_mk (by simp)).front 4
              rw [HM.out] at H3
              have e1 : sksV (marksS 11 0 (n1 + q)) ++ skV (markS 11 (n1 + q)) = sksV (marksS 11 0 (n1 + (q + 1))) := by rw [← Nat.add_assoc, marksS_succ, sksV_append, Nat.zero_add]; simp [sksV]
              rw [e1] at H3
              clear hown3 hwent3 hr2 H2 H e1
              go_wp2
              go_roundw
              case rel => exact ⟨q + 1, by omega, by go_num, H3⟩
              case measure => simp [intOf]; omega
            · obtain rfl : q = 6 := by omega
              clear hcell
              obtain ⟨A7, c7, hv7, -⟩ := row_form (H.two2 1 rfl)
              subst hv7
              have hr3 := H.row 3 rfl
              go_wp2_with (at_builtin; refine hold_here ?_)
              refine Held.go ?_
              refine wpList_append_any _ rfl (.tmp 63) (.tmp 65) _ rfl 0 22 i1 _ 1 24 Try.underlying57 hi1 hy0 hy1 hy2 rfl (by omega) u5 1 _ rfl (hr3.alloc _) (some ⟨wr.heap.size, 0, none⟩) 1 1 [.slice A7 (n1 + 6) c7] rfl (rd_new0 wr [.slice A7 (n1 + 6) c7] _ 1 rfl) (by simp [Value.oneCell']) (by simp only [maxLen]; omega) (by omega) (by omega) ?_
              intro v3 w3 hown3 hg3 hat3
              have H3 := ((((H.alloc 4 rfl #[.slice A7 (n1 + 6) c7] 22).push_mk rfl).grow 3 rfl hown3 hg3 hat3).upd_mk (by simp)).front 4
              clear hr3 hown3 hg3 hat3 H
              go_wp2
              go_roundw
              case rel => exact ⟨g0, _, H3⟩
              case measure => simp [intOf]
        · obtain ⟨AG, cG, hvG, -, hAG⟩ := row_form (H.row 3 rfl)
          subst hvG
          obtain ⟨gG, rfl, -⟩ := hAG (by omega)
          go_wp2
          go_loopw [9] (fun i wr => ∃ k : Nat, k ≤ 2 ∧ i = .int .i64 k ∧ St w0 [] wr (lay [.two 51 7 v0 n0 (sksV (marksS 10 0 n0)) g0 (n0 + 6) (sksV (marksS 10 0 (n0 + 6))), .two 51 7 v1 n1 (sksV (marksS 11 0 n1)) g1 (n1 + 6) (sksV (marksS 11 0 (n1 + 6))), .blk gL 22 [v0, v1], .row 22 1 (.slice (some ⟨gG, 0, none⟩) 2 cG) 2 [g0, g1]])) (fun i _ => 2 - (intOf i).toNat)
          case atStart => exact ⟨0, by omega, rfl, H⟩
          case round =>
            clear H
            obtain ⟨k, hk, rfl, H⟩ := hrel
            have hk3 : k = 0 ∨ k = 1 ∨ k = 2 := by omega
            rcases hk3 with rfl | rfl | rfl
            · obtain ⟨A, c, hv, -, hvA⟩ := row_form (H.two1 0 rfl)
              obtain ⟨Ak, ck, hvk, -, hvAk⟩ := row_form (H.two2 0 rfl)
              obtain ⟨gk, rfl, -⟩ := hvAk (by omega)
              have HV := Lib.hid hv
              have HVK := Lib.hid hvk
              clear hv hvk
              obtain ⟨pG, oG, hpG, -, hcG⟩ := (H.rd 3 rfl).flat (by omega) (by omega)
              injection hpG with hpG
              injection hpG with hpG hoG
              subst hpG hoG
              have c0 := hcG 0 _ rfl
              rw [Nat.zero_add, HVK.out] at c0
              clear hcG
              go_wp2
              go_loopw [10] (fun i wr => ∃ t : Nat, t ≤ n0 + 6 ∧ i = .int .i64 t ∧ St w0 [] wr (lay [.two 51 7 v0 n0 (sksV (marksS 10 0 n0)) g0 (n0 + 6) (sksV (marksS 10 0 (n0 + 6))), .two 51 7 v1 n1 (sksV (marksS 11 0 n1)) g1 (n1 + 6) (sksV (marksS 11 0 (n1 + 6))), .blk gL 22 [v0, v1], .row 22 1 (.slice (some ⟨gG, 0, none⟩) 2 cG) 2 [g0, g1]])) (fun i _ => n0 + 6 - (intOf i).toNat)
              case atStart => exact ⟨0, Nat.zero_le _, rfl, H⟩
              case round =>
                clear H c0
                obtain ⟨t, ht, rfl, H⟩ := hrel
                obtain ⟨pG, oG, hpG, -, hcG⟩ := (H.rd 3 rfl).flat (by omega) (by omega)
                injection hpG with hpG
                injection hpG with hpG hoG
                subst hpG hoG
                have c1 := hcG 0 _ rfl
                rw [Nat.zero_add, HVK.out] at c1
                clear hcG
                by_cases hlt : t < n0 + 6
                · have ht1 : (t : Int) < n0 + 6 := by omega
                  have hrk := H.two2 0 rfl
                  rw [HVK.out] at hrk
                  obtain ⟨⟨x1, x2, x3, x4, x5, x6, x7⟩, hm⟩ : ∃ x : SkT, x = markS 10 t := ⟨_, rfl⟩
                  have HM := Lib.hid hm
                  clear hm
                  obtain ⟨p9, o9, h9, b0, b1, b2, b3, b4, b5, b6⟩ := sk_cells (Rd.of_own hrk) (marksS_get hlt)
                  injection h9 with h9
                  injection h9 with h9 h8
                  subst h9 h8
                  rw [Nat.zero_add, ← HM.out] at b0 b1 b2 b3 b4 b5 b6
                  have c3 := H.cell 2 rfl (o := 0) rfl
                  rw [HV.out] at c3
                  have H1 := H.drew
                  clear hrk
                  go_wp2
                  have hw1 : IntKind.i64.wrap (0 + 10) = 10 := rfl
                  by_cases hln : t < n0
                  · have hrv := H.two1 0 rfl
                    rw [HV.out] at hrv
                    obtain ⟨gv, rfl, -⟩ := hvA (by omega)
                    obtain ⟨p9, o9, h9, d0, d1, d2, d3, d4, d5, d6⟩ := sk_cells (Rd.of_own hrv) (marksS_get hln)
                    injection h9 with h9
                    injection h9 with h9 h8
                    subst h9 h8
                    rw [Nat.zero_add, ← HM.out] at d0 d1 d2 d3 d4 d5 d6
                    have hb2' : decide ((t : Int) < n0) = true := by simp; omega
                    have hl1 : (t : Int) < n0 := by omega
                    clear hrv
                    replace c1 := drew_cell c1
                    replace c3 := drew_cell c3
                    have r1 : wr.drew.rangeAt gk (t * 7) ([.int .u8 x1, .int .i64 x2, .int .u8 x3, .int .i64 x4, .int .i64 x5, .int .i64 x6, .int .i64 x7] : List Value) := range_seven b0 b1 b2 b3 b4 b5 b6
                    clear b0 b1 b2 b3 b4 b5 b6
                    have r2 : wr.drew.rangeAt gv (t * 7) ([.int .u8 x1, .int .i64 x2, .int .u8 x3, .int .i64 x4, .int .i64 x5, .int .i64 x6, .int .i64 x7] : List Value) := range_seven d0 d1 d2 d3 d4 d5 d6
                    clear d0 d1 d2 d3 d4 d5 d6
                    refine wp_region_held_drew (S := fun w' : World => w'.cell? ⟨gG, 0, none⟩ = some (.slice (some ⟨gk, 0, none⟩) (n0 + 6) ck) ∧ w'.rangeAt gk (t * 7) ([.int .u8 x1, .int .i64 x2, .int .u8 x3, .int .i64 x4, .int .i64 x5, .int .i64 x6, .int .i64 x7] : List Value) ∧ w'.cell? ⟨gL, 0, none⟩ = some (.slice (some ⟨gv, 0, none⟩) n0 c) ∧ w'.rangeAt gv (t * 7) ([.int .u8 x1, .int .i64 x2, .int .u8 x3, .int .i64 x4, .int .i64 x5, .int .i64 x6, .int .i64 x7] : List Value)) (by kernel_rfl) ?_ (fun hHeld => ?_)
                    · exact ⟨c1, r1, c3, r2⟩
                    refine take_pure 0 (.slice (some ⟨gG, 0, none⟩) 2 cG) rfl (by kernel_rfl) (by kernel_rfl) (by kernel_rfl) (fun _ _ _ h => h) rfl (by intro w hSw; go_simp; try with_reducible rfl) (by assumption) ?_
                    try simp only [Act.put, List.setIfInBounds_toArray, List.set_cons_zero, List.set_cons_succ]
                    refine take_pure 1 (.int .i64 0) rfl (by kernel_rfl) (by kernel_rfl) (by kernel_rfl) (fun _ _ _ h => h) rfl (by intro w hSw; go_simp; try with_reducible rfl) (by assumption) ?_
                    try simp only [Act.put, List.setIfInBounds_toArray, List.set_cons_zero, List.set_cons_succ]
                    refine take_pure 2 (.pointer (some ⟨gG, 0, none⟩)) rfl (by kernel_rfl) (by kernel_rfl) (by kernel_rfl) (fun _ _ _ h => h) rfl (by intro w hSw; go_simp; try with_reducible rfl) (by assumption) ?_
                    try simp only [Act.put, List.setIfInBounds_toArray, List.set_cons_zero, List.set_cons_succ]
                    refine take_pure 3 (.slice (some ⟨gk, 0, none⟩) (n0 + 6) ck) rfl (by kernel_rfl) (by kernel_rfl) (by kernel_rfl) (fun _ _ _ h => h) rfl (by intro w h; have hc := h.1; clear h; go_simp; try with_reducible rfl) (by assumption) ?_
                    try simp only [Act.put, List.setIfInBounds_toArray, List.set_cons_zero, List.set_cons_succ]
                    refine take_pure 4 (.int .i64 (t : Int)) rfl (by kernel_rfl) (by kernel_rfl) (by kernel_rfl) (fun _ _ _ h => h) rfl (by intro w hSw; go_simp; try with_reducible rfl) (by assumption) ?_
                    try simp only [Act.put, List.setIfInBounds_toArray, List.set_cons_zero, List.set_cons_succ]
                    refine take_pure 5 (.pointer (some ⟨gk, t * 7, none⟩)) rfl (by kernel_rfl) (by kernel_rfl) (by kernel_rfl) (fun _ _ _ h => h) rfl (by intro w hSw; go_simp; try with_reducible rfl) (by assumption) ?_
                    try simp only [Act.put, List.setIfInBounds_toArray, List.set_cons_zero, List.set_cons_succ]
                    refine take_loadm 6 gk (t * 7) ([.int .u8 x1, .int .i64 x2, .int .u8 x3, .int .i64 x4, .int .i64 x5, .int .i64 x6, .int .i64 x7] : List Value) (fun w h => h.2.1) hU sk_size rfl (by kernel_rfl) (by kernel_rfl) (by kernel_rfl) (fun _ _ _ h => h) rfl rfl rfl rfl (by assumption) ?_
                    try simp only [Act.put, List.setIfInBounds_toArray, List.set_cons_zero, List.set_cons_succ]
                    refine take_pure 7 (.int .i64 0) rfl (by kernel_rfl) (by kernel_rfl) (by kernel_rfl) (fun _ _ _ h => h) rfl (by intro w hSw; go_simp; try with_reducible rfl) (by assumption) ?_
                    try simp only [Act.put, List.setIfInBounds_toArray, List.set_cons_zero, List.set_cons_succ]
                    refine take_pure 8 (.int .i64 10) rfl (by kernel_rfl) (by kernel_rfl) (by kernel_rfl) (fun _ _ _ h => h) rfl (by intro w hSw; go_simp; rfl) (by assumption) ?_
                    try simp only [Act.put, List.setIfInBounds_toArray, List.set_cons_zero, List.set_cons_succ]
                    refine take_pure 9 (.int .i64 (t : Int)) rfl (by kernel_rfl) (by kernel_rfl) (by kernel_rfl) (fun _ _ _ h => h) rfl (by intro w hSw; go_simp; try with_reducible rfl) (by assumption) ?_
                    try simp only [Act.put, List.setIfInBounds_toArray, List.set_cons_zero, List.set_cons_succ]
                    refine take_call 10 rfl (by kernel_rfl) (fun K hK => ?_)
                    try go_simp
                    try go_simp
                    refine (markS_h 10 t _ (by omega) (by omega) rfl rfl).mono ?_
                    rintro e w2 ⟨y1, y2, y3, y4, y5, y6, y7, HN, rfl, hb2⟩
                    have HE := HN.out.trans HM.out.symm
                    simp only [Prod.mk.injEq] at HE
                    obtain ⟨rfl, rfl, rfl, rfl, rfl, rfl, rfl⟩ := HE
                    have H2 := H1.call hb2
                    replace c1 := below_some hb2 c1
                    replace c3 := below_some hb2 c3
                    replace r1 := range_keep hb2 r1
                    replace r2 := range_keep hb2 r2
                    refine hK.out _ _ ?_ (fun hHeld => ?_)
                    · exact ⟨c1, r1, c3, r2⟩
                    clear hK K
                    try simp only [Act.put, List.setIfInBounds_toArray, List.set_cons_zero, List.set_cons_succ]
                    refine take_pure 11 (.bool false) rfl (by kernel_rfl) (by kernel_rfl) (by kernel_rfl) (fun _ _ _ h => h) rfl (by intro w hSw; go_simp; try with_reducible rfl) (by assumption) ?_
                    try simp only [Act.put, List.setIfInBounds_toArray, List.set_cons_zero, List.set_cons_succ]
                    refine take_pure 12 (.bool false) rfl (by kernel_rfl) (by kernel_rfl) (by kernel_rfl) (fun _ _ _ h => h) rfl (by intro w hSw; go_simp; try with_reducible rfl) (by assumption) ?_
                    try simp only [Act.put, List.setIfInBounds_toArray, List.set_cons_zero, List.set_cons_succ]
                    refine take_pure 13 (.int .i64 (t : Int)) rfl (by kernel_rfl) (by kernel_rfl) (by kernel_rfl) (fun _ _ _ h => h) rfl (by intro w hSw; go_simp; try with_reducible rfl) (by assumption) ?_
                    try simp only [Act.put, List.setIfInBounds_toArray, List.set_cons_zero, List.set_cons_succ]
                    refine take_pure 14 (.slice (some ⟨gL, 0, none⟩) 2 2) rfl (by kernel_rfl) (by kernel_rfl) (by kernel_rfl) (fun _ _ _ h => h) rfl (by intro w hSw; go_simp; try with_reducible rfl) (by assumption) ?_
                    try simp only [Act.put, List.setIfInBounds_toArray, List.set_cons_zero, List.set_cons_succ]
                    refine take_pure 15 (.int .i64 0) rfl (by kernel_rfl) (by kernel_rfl) (by kernel_rfl) (fun _ _ _ h => h) rfl (by intro w hSw; go_simp; try with_reducible rfl) (by assumption) ?_
                    try simp only [Act.put, List.setIfInBounds_toArray, List.set_cons_zero, List.set_cons_succ]
                    refine take_pure 16 (.pointer (some ⟨gL, 0, none⟩)) rfl (by kernel_rfl) (by kernel_rfl) (by kernel_rfl) (fun _ _ _ h => h) rfl (by intro w hSw; go_simp; try with_reducible rfl) (by assumption) ?_
                    try simp only [Act.put, List.setIfInBounds_toArray, List.set_cons_zero, List.set_cons_succ]
                    refine take_pure 17 (.slice (some ⟨gv, 0, none⟩) n0 c) rfl (by kernel_rfl) (by kernel_rfl) (by kernel_rfl) (fun _ _ _ h => h) rfl (by intro w h; have hc := h.2.2.1; clear h; go_simp; try with_reducible rfl) (by assumption) ?_
                    try simp only [Act.put, List.setIfInBounds_toArray, List.set_cons_zero, List.set_cons_succ]
                    refine take_pure 18 (.int .i64 (n0 : Int)) rfl (by kernel_rfl) (by kernel_rfl) (by kernel_rfl) (fun _ _ _ h => h) rfl (by intro w hSw; go_simp; try with_reducible rfl) (by assumption) ?_
                    try simp only [Act.put, List.setIfInBounds_toArray, List.set_cons_zero, List.set_cons_succ]
                    refine take_pure 19 (.bool true) rfl (by kernel_rfl) (by kernel_rfl) (by kernel_rfl) (fun _ _ _ h => h) rfl (by intro w hSw; go_simp; try with_reducible rfl) (by assumption) ?_
                    try simp only [Act.put, List.setIfInBounds_toArray, List.set_cons_zero, List.set_cons_succ]
                    refine take_pure 20 (.bool true) rfl (by kernel_rfl) (by kernel_rfl) (by kernel_rfl) (fun _ _ _ h => h) rfl (by intro w hSw; go_simp; try with_reducible rfl) (by assumption) ?_
                    try simp only [Act.put, List.setIfInBounds_toArray, List.set_cons_zero, List.set_cons_succ]
                    refine take_pure 21 (.slice (some ⟨gL, 0, none⟩) 2 2) rfl (by kernel_rfl) (by kernel_rfl) (by kernel_rfl) (fun _ _ _ h => h) rfl (by intro w hSw; go_simp; try with_reducible rfl) (by assumption) ?_
                    try simp only [Act.put, List.setIfInBounds_toArray, List.set_cons_zero, List.set_cons_succ]
                    refine take_pure 22 (.int .i64 0) rfl (by kernel_rfl) (by kernel_rfl) (by kernel_rfl) (fun _ _ _ h => h) rfl (by intro w hSw; go_simp; try with_reducible rfl) (by assumption) ?_
                    try simp only [Act.put, List.setIfInBounds_toArray, List.set_cons_zero, List.set_cons_succ]
                    refine take_pure 23 (.pointer (some ⟨gL, 0, none⟩)) rfl (by kernel_rfl) (by kernel_rfl) (by kernel_rfl) (fun _ _ _ h => h) rfl (by intro w hSw; go_simp; try with_reducible rfl) (by assumption) ?_
                    try simp only [Act.put, List.setIfInBounds_toArray, List.set_cons_zero, List.set_cons_succ]
                    refine take_pure 24 (.slice (some ⟨gv, 0, none⟩) n0 c) rfl (by kernel_rfl) (by kernel_rfl) (by kernel_rfl) (fun _ _ _ h => h) rfl (by intro w h; have hc := h.2.2.1; clear h; go_simp; try with_reducible rfl) (by assumption) ?_
                    try simp only [Act.put, List.setIfInBounds_toArray, List.set_cons_zero, List.set_cons_succ]
                    refine take_pure 25 (.int .i64 (t : Int)) rfl (by kernel_rfl) (by kernel_rfl) (by kernel_rfl) (fun _ _ _ h => h) rfl (by intro w hSw; go_simp; try with_reducible rfl) (by assumption) ?_
                    try simp only [Act.put, List.setIfInBounds_toArray, List.set_cons_zero, List.set_cons_succ]
                    refine take_pure 26 (.pointer (some ⟨gv, t * 7, none⟩)) rfl (by kernel_rfl) (by kernel_rfl) (by kernel_rfl) (fun _ _ _ h => h) rfl (by intro w hSw; go_simp; try with_reducible rfl) (by assumption) ?_
                    try simp only [Act.put, List.setIfInBounds_toArray, List.set_cons_zero, List.set_cons_succ]
                    refine take_loadm 27 gv (t * 7) ([.int .u8 y1, .int .i64 y2, .int .u8 y3, .int .i64 y4, .int .i64 y5, .int .i64 y6, .int .i64 y7] : List Value) (fun w h => h.2.2.2) hU sk_size rfl (by kernel_rfl) (by kernel_rfl) (by kernel_rfl) (fun _ _ _ h => h) rfl rfl rfl rfl (by assumption) ?_
                    try simp only [Act.put, List.setIfInBounds_toArray, List.set_cons_zero, List.set_cons_succ]
                    refine take_pure 28 (.slice (some ⟨gG, 0, none⟩) 2 cG) rfl (by kernel_rfl) (by kernel_rfl) (by kernel_rfl) (fun _ _ _ h => h) rfl (by intro w hSw; go_simp; try with_reducible rfl) (by assumption) ?_
                    try simp only [Act.put, List.setIfInBounds_toArray, List.set_cons_zero, List.set_cons_succ]
                    refine take_pure 29 (.int .i64 0) rfl (by kernel_rfl) (by kernel_rfl) (by kernel_rfl) (fun _ _ _ h => h) rfl (by intro w hSw; go_simp; try with_reducible rfl) (by assumption) ?_
                    try simp only [Act.put, List.setIfInBounds_toArray, List.set_cons_zero, List.set_cons_succ]
                    refine take_pure 30 (.pointer (some ⟨gG, 0, none⟩)) rfl (by kernel_rfl) (by kernel_rfl) (by kernel_rfl) (fun _ _ _ h => h) rfl (by intro w hSw; go_simp; try with_reducible rfl) (by assumption) ?_
                    try simp only [Act.put, List.setIfInBounds_toArray, List.set_cons_zero, List.set_cons_succ]
                    refine take_pure 31 (.slice (some ⟨gk, 0, none⟩) (n0 + 6) ck) rfl (by kernel_rfl) (by kernel_rfl) (by kernel_rfl) (fun _ _ _ h => h) rfl (by intro w h; have hc := h.1; clear h; go_simp; try with_reducible rfl) (by assumption) ?_
                    try simp only [Act.put, List.setIfInBounds_toArray, List.set_cons_zero, List.set_cons_succ]
                    refine take_pure 32 (.int .i64 (t : Int)) rfl (by kernel_rfl) (by kernel_rfl) (by kernel_rfl) (fun _ _ _ h => h) rfl (by intro w hSw; go_simp; try with_reducible rfl) (by assumption) ?_
                    try simp only [Act.put, List.setIfInBounds_toArray, List.set_cons_zero, List.set_cons_succ]
                    refine take_pure 33 (.pointer (some ⟨gk, t * 7, none⟩)) rfl (by kernel_rfl) (by kernel_rfl) (by kernel_rfl) (fun _ _ _ h => h) rfl (by intro w hSw; go_simp; try with_reducible rfl) (by assumption) ?_
                    try simp only [Act.put, List.setIfInBounds_toArray, List.set_cons_zero, List.set_cons_succ]
                    refine take_loadm 34 gk (t * 7) ([.int .u8 y1, .int .i64 y2, .int .u8 y3, .int .i64 y4, .int .i64 y5, .int .i64 y6, .int .i64 y7] : List Value) (fun w h => h.2.1) hU sk_size rfl (by kernel_rfl) (by kernel_rfl) (by kernel_rfl) (fun _ _ _ h => h) rfl rfl rfl rfl (by assumption) ?_
                    try simp only [Act.put, List.setIfInBounds_toArray, List.set_cons_zero, List.set_cons_succ]
                    refine take_pure 35 (.bool false) rfl (by kernel_rfl) (by kernel_rfl) (by kernel_rfl) (fun _ _ _ h => h) rfl (by intro w hSw; go_simp; try with_reducible rfl) (by assumption) ?_
                    try simp only [Act.put, List.setIfInBounds_toArray, List.set_cons_zero, List.set_cons_succ]
                    refine take_pure 36 (.bool false) rfl (by kernel_rfl) (by kernel_rfl) (by kernel_rfl) (fun _ _ _ h => h) rfl (by intro w hSw; go_simp; try with_reducible rfl) (by assumption) ?_
                    try simp only [Act.put, List.setIfInBounds_toArray, List.set_cons_zero, List.set_cons_succ]
                    refine take_pure 37 (.bool false) rfl (by kernel_rfl) (by kernel_rfl) (by kernel_rfl) (fun _ _ _ h => h) rfl (by intro w hSw; go_simp; try with_reducible rfl) (by assumption) ?_
                    try simp only [Act.put, List.setIfInBounds_toArray, List.set_cons_zero, List.set_cons_succ]
                    refine wpAnyH_done (by kernel_rfl) ?_ _
                    clear hHeld
                    clear r1 r2 c1 c3 ht1 hl1 hb2'
                    go_wp2
                    go_roundw
                    case rel => exact ⟨t + 1, by omega, by go_num, H2⟩
                    case measure => simp [intOf]; omega
                  · have hb2' : decide ((t : Int) < n0) = false := by simp; omega
                    have hl1 : ¬ (t : Int) < n0 := by omega
                    replace c1 := drew_cell c1
                    replace c3 := drew_cell c3
                    have r1 : wr.drew.rangeAt gk (t * 7) ([.int .u8 x1, .int .i64 x2, .int .u8 x3, .int .i64 x4, .int .i64 x5, .int .i64 x6, .int .i64 x7] : List Value) := range_seven b0 b1 b2 b3 b4 b5 b6
                    clear b0 b1 b2 b3 b4 b5 b6
                    refine wp_region_held_drew (S := fun w' : World => w'.cell? ⟨gG, 0, none⟩ = some (.slice (some ⟨gk, 0, none⟩) (n0 + 6) ck) ∧ w'.rangeAt gk (t * 7) ([.int .u8 x1, .int .i64 x2, .int .u8 x3, .int .i64 x4, .int .i64 x5, .int .i64 x6, .int .i64 x7] : List Value) ∧ w'.cell? ⟨gL, 0, none⟩ = some (.slice A n0 c)) (by kernel_rfl) ?_ (fun hHeld => ?_)
                    · exact ⟨c1, r1, c3⟩
                    refine take_pure 0 (.slice (some ⟨gG, 0, none⟩) 2 cG) rfl (by kernel_rfl) (by kernel_rfl) (by kernel_rfl) (fun _ _ _ h => h) rfl (by intro w hSw; go_simp; try with_reducible rfl) (by assumption) ?_
                    try simp only [Act.put, List.setIfInBounds_toArray, List.set_cons_zero, List.set_cons_succ]
                    refine take_pure 1 (.int .i64 0) rfl (by kernel_rfl) (by kernel_rfl) (by kernel_rfl) (fun _ _ _ h => h) rfl (by intro w hSw; go_simp; try with_reducible rfl) (by assumption) ?_
                    try simp only [Act.put, List.setIfInBounds_toArray, List.set_cons_zero, List.set_cons_succ]
                    refine take_pure 2 (.pointer (some ⟨gG, 0, none⟩)) rfl (by kernel_rfl) (by kernel_rfl) (by kernel_rfl) (fun _ _ _ h => h) rfl (by intro w hSw; go_simp; try with_reducible rfl) (by assumption) ?_
                    try simp only [Act.put, List.setIfInBounds_toArray, List.set_cons_zero, List.set_cons_succ]
                    refine take_pure 3 (.slice (some ⟨gk, 0, none⟩) (n0 + 6) ck) rfl (by kernel_rfl) (by kernel_rfl) (by kernel_rfl) (fun _ _ _ h => h) rfl (by intro w h; have hc := h.1; clear h; go_simp; try with_reducible rfl) (by assumption) ?_
                    try simp only [Act.put, List.setIfInBounds_toArray, List.set_cons_zero, List.set_cons_succ]
                    refine take_pure 4 (.int .i64 (t : Int)) rfl (by kernel_rfl) (by kernel_rfl) (by kernel_rfl) (fun _ _ _ h => h) rfl (by intro w hSw; go_simp; try with_reducible rfl) (by assumption) ?_
                    try simp only [Act.put, List.setIfInBounds_toArray, List.set_cons_zero, List.set_cons_succ]
                    refine take_pure 5 (.pointer (some ⟨gk, t * 7, none⟩)) rfl (by kernel_rfl) (by kernel_rfl) (by kernel_rfl) (fun _ _ _ h => h) rfl (by intro w hSw; go_simp; try with_reducible rfl) (by assumption) ?_
                    try simp only [Act.put, List.setIfInBounds_toArray, List.set_cons_zero, List.set_cons_succ]
                    refine take_loadm 6 gk (t * 7) ([.int .u8 x1, .int .i64 x2, .int .u8 x3, .int .i64 x4, .int .i64 x5, .int .i64 x6, .int .i64 x7] : List Value) (fun w h => h.2.1) hU sk_size rfl (by kernel_rfl) (by kernel_rfl) (by kernel_rfl) (fun _ _ _ h => h) rfl rfl rfl rfl (by assumption) ?_
                    try simp only [Act.put, List.setIfInBounds_toArray, List.set_cons_zero, List.set_cons_succ]
                    refine take_pure 7 (.int .i64 0) rfl (by kernel_rfl) (by kernel_rfl) (by kernel_rfl) (fun _ _ _ h => h) rfl (by intro w hSw; go_simp; try with_reducible rfl) (by assumption) ?_
                    try simp only [Act.put, List.setIfInBounds_toArray, List.set_cons_zero, List.set_cons_succ]
                    refine take_pure 8 (.int .i64 10) rfl (by kernel_rfl) (by kernel_rfl) (by kernel_rfl) (fun _ _ _ h => h) rfl (by intro w hSw; go_simp; rfl) (by assumption) ?_
                    try simp only [Act.put, List.setIfInBounds_toArray, List.set_cons_zero, List.set_cons_succ]
                    refine take_pure 9 (.int .i64 (t : Int)) rfl (by kernel_rfl) (by kernel_rfl) (by kernel_rfl) (fun _ _ _ h => h) rfl (by intro w hSw; go_simp; try with_reducible rfl) (by assumption) ?_
                    try simp only [Act.put, List.setIfInBounds_toArray, List.set_cons_zero, List.set_cons_succ]
                    refine take_call 10 rfl (by kernel_rfl) (fun K hK => ?_)
                    try go_simp
                    try go_simp
                    refine (markS_h 10 t _ (by omega) (by omega) rfl rfl).mono ?_
                    rintro e w2 ⟨y1, y2, y3, y4, y5, y6, y7, HN, rfl, hb2⟩
                    have HE := HN.out.trans HM.out.symm
                    simp only [Prod.mk.injEq] at HE
                    obtain ⟨rfl, rfl, rfl, rfl, rfl, rfl, rfl⟩ := HE
                    have H2 := H1.call hb2
                    replace c1 := below_some hb2 c1
                    replace c3 := below_some hb2 c3
                    replace r1 := range_keep hb2 r1
                    refine hK.out _ _ ?_ (fun hHeld => ?_)
                    · exact ⟨c1, r1, c3⟩
                    clear hK K
                    try simp only [Act.put, List.setIfInBounds_toArray, List.set_cons_zero, List.set_cons_succ]
                    refine take_pure 11 (.bool false) rfl (by kernel_rfl) (by kernel_rfl) (by kernel_rfl) (fun _ _ _ h => h) rfl (by intro w hSw; go_simp; try with_reducible rfl) (by assumption) ?_
                    try simp only [Act.put, List.setIfInBounds_toArray, List.set_cons_zero, List.set_cons_succ]
                    refine take_pure 12 (.bool false) rfl (by kernel_rfl) (by kernel_rfl) (by kernel_rfl) (fun _ _ _ h => h) rfl (by intro w hSw; go_simp; try with_reducible rfl) (by assumption) ?_
                    try simp only [Act.put, List.setIfInBounds_toArray, List.set_cons_zero, List.set_cons_succ]
                    refine take_pure 13 (.int .i64 (t : Int)) rfl (by kernel_rfl) (by kernel_rfl) (by kernel_rfl) (fun _ _ _ h => h) rfl (by intro w hSw; go_simp; try with_reducible rfl) (by assumption) ?_
                    try simp only [Act.put, List.setIfInBounds_toArray, List.set_cons_zero, List.set_cons_succ]
                    refine take_pure 14 (.slice (some ⟨gL, 0, none⟩) 2 2) rfl (by kernel_rfl) (by kernel_rfl) (by kernel_rfl) (fun _ _ _ h => h) rfl (by intro w hSw; go_simp; try with_reducible rfl) (by assumption) ?_
                    try simp only [Act.put, List.setIfInBounds_toArray, List.set_cons_zero, List.set_cons_succ]
                    refine take_pure 15 (.int .i64 0) rfl (by kernel_rfl) (by kernel_rfl) (by kernel_rfl) (fun _ _ _ h => h) rfl (by intro w hSw; go_simp; try with_reducible rfl) (by assumption) ?_
                    try simp only [Act.put, List.setIfInBounds_toArray, List.set_cons_zero, List.set_cons_succ]
                    refine take_pure 16 (.pointer (some ⟨gL, 0, none⟩)) rfl (by kernel_rfl) (by kernel_rfl) (by kernel_rfl) (fun _ _ _ h => h) rfl (by intro w hSw; go_simp; try with_reducible rfl) (by assumption) ?_
                    try simp only [Act.put, List.setIfInBounds_toArray, List.set_cons_zero, List.set_cons_succ]
                    refine take_pure 17 (.slice A n0 c) rfl (by kernel_rfl) (by kernel_rfl) (by kernel_rfl) (fun _ _ _ h => h) rfl (by intro w h; have hc := h.2.2; clear h; go_simp; try with_reducible rfl) (by assumption) ?_
                    try simp only [Act.put, List.setIfInBounds_toArray, List.set_cons_zero, List.set_cons_succ]
                    refine take_pure 18 (.int .i64 (n0 : Int)) rfl (by kernel_rfl) (by kernel_rfl) (by kernel_rfl) (fun _ _ _ h => h) rfl (by intro w hSw; go_simp; try with_reducible rfl) (by assumption) ?_
                    try simp only [Act.put, List.setIfInBounds_toArray, List.set_cons_zero, List.set_cons_succ]
                    refine take_pure 19 (.bool false) rfl (by kernel_rfl) (by kernel_rfl) (by kernel_rfl) (fun _ _ _ h => h) rfl (by intro w hSw; go_simp; try with_reducible rfl) (by assumption) ?_
                    try simp only [Act.put, List.setIfInBounds_toArray, List.set_cons_zero, List.set_cons_succ]
                    refine take_pure 20 (.bool false) rfl (by kernel_rfl) (by kernel_rfl) (by kernel_rfl) (fun _ _ _ h => h) rfl (by intro w hSw; go_simp; try with_reducible rfl) (by assumption) ?_
                    try simp only [Act.put, List.setIfInBounds_toArray, List.set_cons_zero, List.set_cons_succ]
                    refine take_skip 21 rfl (by kernel_rfl) (by kernel_rfl) (by kernel_rfl) (fun _ _ _ h => h) rfl (by assumption) ?_
                    try simp only [Act.put, List.setIfInBounds_toArray, List.set_cons_zero, List.set_cons_succ]
                    refine take_skip 22 rfl (by kernel_rfl) (by kernel_rfl) (by kernel_rfl) (fun _ _ _ h => h) rfl (by assumption) ?_
                    try simp only [Act.put, List.setIfInBounds_toArray, List.set_cons_zero, List.set_cons_succ]
                    refine take_skip 23 rfl (by kernel_rfl) (by kernel_rfl) (by kernel_rfl) (fun _ _ _ h => h) rfl (by assumption) ?_
                    try simp only [Act.put, List.setIfInBounds_toArray, List.set_cons_zero, List.set_cons_succ]
                    refine take_skip 24 rfl (by kernel_rfl) (by kernel_rfl) (by kernel_rfl) (fun _ _ _ h => h) rfl (by assumption) ?_
                    try simp only [Act.put, List.setIfInBounds_toArray, List.set_cons_zero, List.set_cons_succ]
                    refine take_skip 25 rfl (by kernel_rfl) (by kernel_rfl) (by kernel_rfl) (fun _ _ _ h => h) rfl (by assumption) ?_
                    try simp only [Act.put, List.setIfInBounds_toArray, List.set_cons_zero, List.set_cons_succ]
                    refine take_skip 26 rfl (by kernel_rfl) (by kernel_rfl) (by kernel_rfl) (fun _ _ _ h => h) rfl (by assumption) ?_
                    try simp only [Act.put, List.setIfInBounds_toArray, List.set_cons_zero, List.set_cons_succ]
                    refine take_skip 27 rfl (by kernel_rfl) (by kernel_rfl) (by kernel_rfl) (fun _ _ _ h => h) rfl (by assumption) ?_
                    try simp only [Act.put, List.setIfInBounds_toArray, List.set_cons_zero, List.set_cons_succ]
                    refine take_skip 28 rfl (by kernel_rfl) (by kernel_rfl) (by kernel_rfl) (fun _ _ _ h => h) rfl (by assumption) ?_
                    try simp only [Act.put, List.setIfInBounds_toArray, List.set_cons_zero, List.set_cons_succ]
                    refine take_skip 29 rfl (by kernel_rfl) (by kernel_rfl) (by kernel_rfl) (fun _ _ _ h => h) rfl (by assumption) ?_
                    try simp only [Act.put, List.setIfInBounds_toArray, List.set_cons_zero, List.set_cons_succ]
                    refine take_skip 30 rfl (by kernel_rfl) (by kernel_rfl) (by kernel_rfl) (fun _ _ _ h => h) rfl (by assumption) ?_
                    try simp only [Act.put, List.setIfInBounds_toArray, List.set_cons_zero, List.set_cons_succ]
                    refine take_skip 31 rfl (by kernel_rfl) (by kernel_rfl) (by kernel_rfl) (fun _ _ _ h => h) rfl (by assumption) ?_
                    try simp only [Act.put, List.setIfInBounds_toArray, List.set_cons_zero, List.set_cons_succ]
                    refine take_skip 32 rfl (by kernel_rfl) (by kernel_rfl) (by kernel_rfl) (fun _ _ _ h => h) rfl (by assumption) ?_
                    try simp only [Act.put, List.setIfInBounds_toArray, List.set_cons_zero, List.set_cons_succ]
                    refine take_skip 33 rfl (by kernel_rfl) (by kernel_rfl) (by kernel_rfl) (fun _ _ _ h => h) rfl (by assumption) ?_
                    try simp only [Act.put, List.setIfInBounds_toArray, List.set_cons_zero, List.set_cons_succ]
                    refine take_skip 34 rfl (by kernel_rfl) (by kernel_rfl) (by kernel_rfl) (fun _ _ _ h => h) rfl (by assumption) ?_
                    try simp only [Act.put, List.setIfInBounds_toArray, List.set_cons_zero, List.set_cons_succ]
                    refine take_skip 35 rfl (by kernel_rfl) (by kernel_rfl) (by kernel_rfl) (fun _ _ _ h => h) rfl (by assumption) ?_
                    try simp only [Act.put, List.setIfInBounds_toArray, List.set_cons_zero, List.set_cons_succ]
                    refine take_pure 36 (.bool false) rfl (by kernel_rfl) (by kernel_rfl) (by kernel_rfl) (fun _ _ _ h => h) rfl (by intro w hSw; go_simp; try with_reducible rfl) (by assumption) ?_
                    try simp only [Act.put, List.setIfInBounds_toArray, List.set_cons_zero, List.set_cons_succ]
                    refine take_pure 37 (.bool false) rfl (by kernel_rfl) (by kernel_rfl) (by kernel_rfl) (fun _ _ _ h => h) rfl (by intro w hSw; go_simp; try with_reducible rfl) (by assumption) ?_
                    try simp only [Act.put, List.setIfInBounds_toArray, List.set_cons_zero, List.set_cons_succ]
                    refine wpAnyH_done (by kernel_rfl) ?_ _
                    clear hHeld
                    clear r1 c1 c3 ht1 hl1 hb2'
                    go_wp2
                    go_roundw
                    case rel => exact ⟨t + 1, by omega, by go_num, H2⟩
                    case measure => simp [intOf]; omega
                · have ht1 : ¬ (t : Int) < n0 + 6 := by omega
                  go_wp2
                  go_roundw
                  case rel => exact ⟨1, by omega, rfl⟩
                  case measure => simp [intOf]
            · obtain ⟨A, c, hv, -, hvA⟩ := row_form (H.two1 1 rfl)
              obtain ⟨Ak, ck, hvk, -, hvAk⟩ := row_form (H.two2 1 rfl)
              obtain ⟨gk, rfl, -⟩ := hvAk (by omega)
              have HV := Lib.hid hv
              have HVK := Lib.hid hvk
              clear hv hvk
              obtain ⟨pG, oG, hpG, -, hcG⟩ := (H.rd 3 rfl).flat (by omega) (by omega)
              injection hpG with hpG
              injection hpG with hpG hoG
              subst hpG hoG
              have c0 := hcG 1 _ rfl
              rw [Nat.zero_add, HVK.out] at c0
              clear hcG
              go_wp2
              go_loopw [10] (fun i wr => ∃ t : Nat, t ≤ n1 + 6 ∧ i = .int .i64 t ∧ St w0 [] wr (lay [.two 51 7 v0 n0 (sksV (marksS 10 0 n0)) g0 (n0 + 6) (sksV (marksS 10 0 (n0 + 6))), .two 51 7 v1 n1 (sksV (marksS 11 0 n1)) g1 (n1 + 6) (sksV (marksS 11 0 (n1 + 6))), .blk gL 22 [v0, v1], .row 22 1 (.slice (some ⟨gG, 0, none⟩) 2 cG) 2 [g0, g1]])) (fun i _ => n1 + 6 - (intOf i).toNat)
              case atStart => exact ⟨0, Nat.zero_le _, rfl, H⟩
              case round =>
                clear H c0
                obtain ⟨t, ht, rfl, H⟩ := hrel
                obtain ⟨pG, oG, hpG, -, hcG⟩ := (H.rd 3 rfl).flat (by omega) (by omega)
                injection hpG with hpG
                injection hpG with hpG hoG
                subst hpG hoG
                have c1 := hcG 1 _ rfl
                rw [Nat.zero_add, HVK.out] at c1
                clear hcG
                by_cases hlt : t < n1 + 6
                · have ht1 : (t : Int) < n1 + 6 := by omega
                  have hrk := H.two2 1 rfl
                  rw [HVK.out] at hrk
                  obtain ⟨⟨x1, x2, x3, x4, x5, x6, x7⟩, hm⟩ : ∃ x : SkT, x = markS 11 t := ⟨_, rfl⟩
                  have HM := Lib.hid hm
                  clear hm
                  obtain ⟨p9, o9, h9, b0, b1, b2, b3, b4, b5, b6⟩ := sk_cells (Rd.of_own hrk) (marksS_get hlt)
                  injection h9 with h9
                  injection h9 with h9 h8
                  subst h9 h8
                  rw [Nat.zero_add, ← HM.out] at b0 b1 b2 b3 b4 b5 b6
                  have c3 := H.cell 2 rfl (o := 1) rfl
                  rw [HV.out] at c3
                  have H1 := H.drew
                  clear hrk
                  go_wp2
                  have hw1 : IntKind.i64.wrap (1 + 10) = 11 := rfl
                  by_cases hln : t < n1
                  · have hrv := H.two1 1 rfl
                    rw [HV.out] at hrv
                    obtain ⟨gv, rfl, -⟩ := hvA (by omega)
                    obtain ⟨p9, o9, h9, d0, d1, d2, d3, d4, d5, d6⟩ := sk_cells (Rd.of_own hrv) (marksS_get hln)
                    injection h9 with h9
                    injection h9 with h9 h8
                    subst h9 h8
                    rw [Nat.zero_add, ← HM.out] at d0 d1 d2 d3 d4 d5 d6
                    have hb2' : decide ((t : Int) < n1) = true := by simp; omega
                    have hl1 : (t : Int) < n1 := by omega
                    clear hrv
                    replace c1 := drew_cell c1
                    replace c3 := drew_cell c3
                    have r1 : wr.drew.rangeAt gk (t * 7) ([.int .u8 x1, .int .i64 x2, .int .u8 x3, .int .i64 x4, .int .i64 x5, .int .i64 x6, .int .i64 x7] : List Value) := range_seven b0 b1 b2 b3 b4 b5 b6
                    clear b0 b1 b2 b3 b4 b5 b6
                    have r2 : wr.drew.rangeAt gv (t * 7) ([.int .u8 x1, .int .i64 x2, .int .u8 x3, .int .i64 x4, .int .i64 x5, .int .i64 x6, .int .i64 x7] : List Value) := range_seven d0 d1 d2 d3 d4 d5 d6
                    clear d0 d1 d2 d3 d4 d5 d6
                    refine wp_region_held_drew (S := fun w' : World => w'.cell? ⟨gG, 1, none⟩ = some (.slice (some ⟨gk, 0, none⟩) (n1 + 6) ck) ∧ w'.rangeAt gk (t * 7) ([.int .u8 x1, .int .i64 x2, .int .u8 x3, .int .i64 x4, .int .i64 x5, .int .i64 x6, .int .i64 x7] : List Value) ∧ w'.cell? ⟨gL, 1, none⟩ = some (.slice (some ⟨gv, 0, none⟩) n1 c) ∧ w'.rangeAt gv (t * 7) ([.int .u8 x1, .int .i64 x2, .int .u8 x3, .int .i64 x4, .int .i64 x5, .int .i64 x6, .int .i64 x7] : List Value)) (by kernel_rfl) ?_ (fun hHeld => ?_)
                    · exact ⟨c1, r1, c3, r2⟩
                    refine take_pure 0 (.slice (some ⟨gG, 0, none⟩) 2 cG) rfl (by kernel_rfl) (by kernel_rfl) (by kernel_rfl) (fun _ _ _ h => h) rfl (by intro w hSw; go_simp; try with_reducible rfl) (by assumption) ?_
                    try simp only [Act.put, List.setIfInBounds_toArray, List.set_cons_zero, List.set_cons_succ]
                    refine take_pure 1 (.int .i64 1) rfl (by kernel_rfl) (by kernel_rfl) (by kernel_rfl) (fun _ _ _ h => h) rfl (by intro w hSw; go_simp; try with_reducible rfl) (by assumption) ?_
                    try simp only [Act.put, List.setIfInBounds_toArray, List.set_cons_zero, List.set_cons_succ]
                    refine take_pure 2 (.pointer (some ⟨gG, 1, none⟩)) rfl (by kernel_rfl) (by kernel_rfl) (by kernel_rfl) (fun _ _ _ h => h) rfl (by intro w hSw; go_simp; try with_reducible rfl) (by assumption) ?_
                    try simp only [Act.put, List.setIfInBounds_toArray, List.set_cons_zero, List.set_cons_succ]
                    refine take_pure 3 (.slice (some ⟨gk, 0, none⟩) (n1 + 6) ck) rfl (by kernel_rfl) (by kernel_rfl) (by kernel_rfl) (fun _ _ _ h => h) rfl (by intro w h; have hc := h.1; clear h; go_simp; try with_reducible rfl) (by assumption) ?_
                    try simp only [Act.put, List.setIfInBounds_toArray, List.set_cons_zero, List.set_cons_succ]
                    refine take_pure 4 (.int .i64 (t : Int)) rfl (by kernel_rfl) (by kernel_rfl) (by kernel_rfl) (fun _ _ _ h => h) rfl (by intro w hSw; go_simp; try with_reducible rfl) (by assumption) ?_
                    try simp only [Act.put, List.setIfInBounds_toArray, List.set_cons_zero, List.set_cons_succ]
                    refine take_pure 5 (.pointer (some ⟨gk, t * 7, none⟩)) rfl (by kernel_rfl) (by kernel_rfl) (by kernel_rfl) (fun _ _ _ h => h) rfl (by intro w hSw; go_simp; try with_reducible rfl) (by assumption) ?_
                    try simp only [Act.put, List.setIfInBounds_toArray, List.set_cons_zero, List.set_cons_succ]
                    refine take_loadm 6 gk (t * 7) ([.int .u8 x1, .int .i64 x2, .int .u8 x3, .int .i64 x4, .int .i64 x5, .int .i64 x6, .int .i64 x7] : List Value) (fun w h => h.2.1) hU sk_size rfl (by kernel_rfl) (by kernel_rfl) (by kernel_rfl) (fun _ _ _ h => h) rfl rfl rfl rfl (by assumption) ?_
                    try simp only [Act.put, List.setIfInBounds_toArray, List.set_cons_zero, List.set_cons_succ]
                    refine take_pure 7 (.int .i64 1) rfl (by kernel_rfl) (by kernel_rfl) (by kernel_rfl) (fun _ _ _ h => h) rfl (by intro w hSw; go_simp; try with_reducible rfl) (by assumption) ?_
                    try simp only [Act.put, List.setIfInBounds_toArray, List.set_cons_zero, List.set_cons_succ]
                    refine take_pure 8 (.int .i64 11) rfl (by kernel_rfl) (by kernel_rfl) (by kernel_rfl) (fun _ _ _ h => h) rfl (by intro w hSw; go_simp; rfl) (by assumption) ?_
                    try simp only [Act.put, List.setIfInBounds_toArray, List.set_cons_zero, List.set_cons_succ]
                    refine take_pure 9 (.int .i64 (t : Int)) rfl (by kernel_rfl) (by kernel_rfl) (by kernel_rfl) (fun _ _ _ h => h) rfl (by intro w hSw; go_simp; try with_reducible rfl) (by assumption) ?_
                    try simp only [Act.put, List.setIfInBounds_toArray, List.set_cons_zero, List.set_cons_succ]
                    refine take_call 10 rfl (by kernel_rfl) (fun K hK => ?_)
                    try go_simp
                    try go_simp
                    refine (markS_h 11 t _ (by omega) (by omega) rfl rfl).mono ?_
                    rintro e w2 ⟨y1, y2, y3, y4, y5, y6, y7, HN, rfl, hb2⟩
                    have HE := HN.out.trans HM.out.symm
                    simp only [Prod.mk.injEq] at HE
                    obtain ⟨rfl, rfl, rfl, rfl, rfl, rfl, rfl⟩ := HE
                    have H2 := H1.call hb2
                    replace c1 := below_some hb2 c1
                    replace c3 := below_some hb2 c3
                    replace r1 := range_keep hb2 r1
                    replace r2 := range_keep hb2 r2
                    refine hK.out _ _ ?_ (fun hHeld => ?_)
                    · exact ⟨c1, r1, c3, r2⟩
                    clear hK K
                    try simp only [Act.put, List.setIfInBounds_toArray, List.set_cons_zero, List.set_cons_succ]
                    refine take_pure 11 (.bool false) rfl (by kernel_rfl) (by kernel_rfl) (by kernel_rfl) (fun _ _ _ h => h) rfl (by intro w hSw; go_simp; try with_reducible rfl) (by assumption) ?_
                    try simp only [Act.put, List.setIfInBounds_toArray, List.set_cons_zero, List.set_cons_succ]
                    refine take_pure 12 (.bool false) rfl (by kernel_rfl) (by kernel_rfl) (by kernel_rfl) (fun _ _ _ h => h) rfl (by intro w hSw; go_simp; try with_reducible rfl) (by assumption) ?_
                    try simp only [Act.put, List.setIfInBounds_toArray, List.set_cons_zero, List.set_cons_succ]
                    refine take_pure 13 (.int .i64 (t : Int)) rfl (by kernel_rfl) (by kernel_rfl) (by kernel_rfl) (fun _ _ _ h => h) rfl (by intro w hSw; go_simp; try with_reducible rfl) (by assumption) ?_
                    try simp only [Act.put, List.setIfInBounds_toArray, List.set_cons_zero, List.set_cons_succ]
                    refine take_pure 14 (.slice (some ⟨gL, 0, none⟩) 2 2) rfl (by kernel_rfl) (by kernel_rfl) (by kernel_rfl) (fun _ _ _ h => h) rfl (by intro w hSw; go_simp; try with_reducible rfl) (by assumption) ?_
                    try simp only [Act.put, List.setIfInBounds_toArray, List.set_cons_zero, List.set_cons_succ]
                    refine take_pure 15 (.int .i64 1) rfl (by kernel_rfl) (by kernel_rfl) (by kernel_rfl) (fun _ _ _ h => h) rfl (by intro w hSw; go_simp; try with_reducible rfl) (by assumption) ?_
                    try simp only [Act.put, List.setIfInBounds_toArray, List.set_cons_zero, List.set_cons_succ]
                    refine take_pure 16 (.pointer (some ⟨gL, 1, none⟩)) rfl (by kernel_rfl) (by kernel_rfl) (by kernel_rfl) (fun _ _ _ h => h) rfl (by intro w hSw; go_simp; try with_reducible rfl) (by assumption) ?_
                    try simp only [Act.put, List.setIfInBounds_toArray, List.set_cons_zero, List.set_cons_succ]
                    refine take_pure 17 (.slice (some ⟨gv, 0, none⟩) n1 c) rfl (by kernel_rfl) (by kernel_rfl) (by kernel_rfl) (fun _ _ _ h => h) rfl (by intro w h; have hc := h.2.2.1; clear h; go_simp; try with_reducible rfl) (by assumption) ?_
                    try simp only [Act.put, List.setIfInBounds_toArray, List.set_cons_zero, List.set_cons_succ]
                    refine take_pure 18 (.int .i64 (n1 : Int)) rfl (by kernel_rfl) (by kernel_rfl) (by kernel_rfl) (fun _ _ _ h => h) rfl (by intro w hSw; go_simp; try with_reducible rfl) (by assumption) ?_
                    try simp only [Act.put, List.setIfInBounds_toArray, List.set_cons_zero, List.set_cons_succ]
                    refine take_pure 19 (.bool true) rfl (by kernel_rfl) (by kernel_rfl) (by kernel_rfl) (fun _ _ _ h => h) rfl (by intro w hSw; go_simp; try with_reducible rfl) (by assumption) ?_
                    try simp only [Act.put, List.setIfInBounds_toArray, List.set_cons_zero, List.set_cons_succ]
                    refine take_pure 20 (.bool true) rfl (by kernel_rfl) (by kernel_rfl) (by kernel_rfl) (fun _ _ _ h => h) rfl (by intro w hSw; go_simp; try with_reducible rfl) (by assumption) ?_
                    try simp only [Act.put, List.setIfInBounds_toArray, List.set_cons_zero, List.set_cons_succ]
                    refine take_pure 21 (.slice (some ⟨gL, 0, none⟩) 2 2) rfl (by kernel_rfl) (by kernel_rfl) (by kernel_rfl) (fun _ _ _ h => h) rfl (by intro w hSw; go_simp; try with_reducible rfl) (by assumption) ?_
                    try simp only [Act.put, List.setIfInBounds_toArray, List.set_cons_zero, List.set_cons_succ]
                    refine take_pure 22 (.int .i64 1) rfl (by kernel_rfl) (by kernel_rfl) (by kernel_rfl) (fun _ _ _ h => h) rfl (by intro w hSw; go_simp; try with_reducible rfl) (by assumption) ?_
                    try simp only [Act.put, List.setIfInBounds_toArray, List.set_cons_zero, List.set_cons_succ]
                    refine take_pure 23 (.pointer (some ⟨gL, 1, none⟩)) rfl (by kernel_rfl) (by kernel_rfl) (by kernel_rfl) (fun _ _ _ h => h) rfl (by intro w hSw; go_simp; try with_reducible rfl) (by assumption) ?_
                    try simp only [Act.put, List.setIfInBounds_toArray, List.set_cons_zero, List.set_cons_succ]
                    refine take_pure 24 (.slice (some ⟨gv, 0, none⟩) n1 c) rfl (by kernel_rfl) (by kernel_rfl) (by kernel_rfl) (fun _ _ _ h => h) rfl (by intro w h; have hc := h.2.2.1; clear h; go_simp; try with_reducible rfl) (by assumption) ?_
                    try simp only [Act.put, List.setIfInBounds_toArray, List.set_cons_zero, List.set_cons_succ]
                    refine take_pure 25 (.int .i64 (t : Int)) rfl (by kernel_rfl) (by kernel_rfl) (by kernel_rfl) (fun _ _ _ h => h) rfl (by intro w hSw; go_simp; try with_reducible rfl) (by assumption) ?_
                    try simp only [Act.put, List.setIfInBounds_toArray, List.set_cons_zero, List.set_cons_succ]
                    refine take_pure 26 (.pointer (some ⟨gv, t * 7, none⟩)) rfl (by kernel_rfl) (by kernel_rfl) (by kernel_rfl) (fun _ _ _ h => h) rfl (by intro w hSw; go_simp; try with_reducible rfl) (by assumption) ?_
                    try simp only [Act.put, List.setIfInBounds_toArray, List.set_cons_zero, List.set_cons_succ]
                    refine take_loadm 27 gv (t * 7) ([.int .u8 y1, .int .i64 y2, .int .u8 y3, .int .i64 y4, .int .i64 y5, .int .i64 y6, .int .i64 y7] : List Value) (fun w h => h.2.2.2) hU sk_size rfl (by kernel_rfl) (by kernel_rfl) (by kernel_rfl) (fun _ _ _ h => h) rfl rfl rfl rfl (by assumption) ?_
                    try simp only [Act.put, List.setIfInBounds_toArray, List.set_cons_zero, List.set_cons_succ]
                    refine take_pure 28 (.slice (some ⟨gG, 0, none⟩) 2 cG) rfl (by kernel_rfl) (by kernel_rfl) (by kernel_rfl) (fun _ _ _ h => h) rfl (by intro w hSw; go_simp; try with_reducible rfl) (by assumption) ?_
                    try simp only [Act.put, List.setIfInBounds_toArray, List.set_cons_zero, List.set_cons_succ]
                    refine take_pure 29 (.int .i64 1) rfl (by kernel_rfl) (by kernel_rfl) (by kernel_rfl) (fun _ _ _ h => h) rfl (by intro w hSw; go_simp; try with_reducible rfl) (by assumption) ?_
                    try simp only [Act.put, List.setIfInBounds_toArray, List.set_cons_zero, List.set_cons_succ]
                    refine take_pure 30 (.pointer (some ⟨gG, 1, none⟩)) rfl (by kernel_rfl) (by kernel_rfl) (by kernel_rfl) (fun _ _ _ h => h) rfl (by intro w hSw; go_simp; try with_reducible rfl) (by assumption) ?_
                    try simp only [Act.put, List.setIfInBounds_toArray, List.set_cons_zero, List.set_cons_succ]
                    refine take_pure 31 (.slice (some ⟨gk, 0, none⟩) (n1 + 6) ck) rfl (by kernel_rfl) (by kernel_rfl) (by kernel_rfl) (fun _ _ _ h => h) rfl (by intro w h; have hc := h.1; clear h; go_simp; try with_reducible rfl) (by assumption) ?_
                    try simp only [Act.put, List.setIfInBounds_toArray, List.set_cons_zero, List.set_cons_succ]
                    refine take_pure 32 (.int .i64 (t : Int)) rfl (by kernel_rfl) (by kernel_rfl) (by kernel_rfl) (fun _ _ _ h => h) rfl (by intro w hSw; go_simp; try with_reducible rfl) (by assumption) ?_
                    try simp only [Act.put, List.setIfInBounds_toArray, List.set_cons_zero, List.set_cons_succ]
                    refine take_pure 33 (.pointer (some ⟨gk, t * 7, none⟩)) rfl (by kernel_rfl) (by kernel_rfl) (by kernel_rfl) (fun _ _ _ h => h) rfl (by intro w hSw; go_simp; try with_reducible rfl) (by assumption) ?_
                    try simp only [Act.put, List.setIfInBounds_toArray, List.set_cons_zero, List.set_cons_succ]
                    refine take_loadm 34 gk (t * 7) ([.int .u8 y1, .int .i64 y2, .int .u8 y3, .int .i64 y4, .int .i64 y5, .int .i64 y6, .int .i64 y7] : List Value) (fun w h => h.2.1) hU sk_size rfl (by kernel_rfl) (by kernel_rfl) (by kernel_rfl) (fun _ _ _ h => h) rfl rfl rfl rfl (by assumption) ?_
                    try simp only [Act.put, List.setIfInBounds_toArray, List.set_cons_zero, List.set_cons_succ]
                    refine take_pure 35 (.bool false) rfl (by kernel_rfl) (by kernel_rfl) (by kernel_rfl) (fun _ _ _ h => h) rfl (by intro w hSw; go_simp; try with_reducible rfl) (by assumption) ?_
                    try simp only [Act.put, List.setIfInBounds_toArray, List.set_cons_zero, List.set_cons_succ]
                    refine take_pure 36 (.bool false) rfl (by kernel_rfl) (by kernel_rfl) (by kernel_rfl) (fun _ _ _ h => h) rfl (by intro w hSw; go_simp; try with_reducible rfl) (by assumption) ?_
                    try simp only [Act.put, List.setIfInBounds_toArray, List.set_cons_zero, List.set_cons_succ]
                    refine take_pure 37 (.bool false) rfl (by kernel_rfl) (by kernel_rfl) (by kernel_rfl) (fun _ _ _ h => h) rfl (by intro w hSw; go_simp; try with_reducible rfl) (by assumption) ?_
                    try simp only [Act.put, List.setIfInBounds_toArray, List.set_cons_zero, List.set_cons_succ]
                    refine wpAnyH_done (by kernel_rfl) ?_ _
                    clear hHeld
                    clear r1 r2 c1 c3 ht1 hl1 hb2'
                    go_wp2
                    go_roundw
                    case rel => exact ⟨t + 1, by omega, by go_num, H2⟩
                    case measure => simp [intOf]; omega
                  · have hb2' : decide ((t : Int) < n1) = false := by simp; omega
                    have hl1 : ¬ (t : Int) < n1 := by omega
                    replace c1 := drew_cell c1
                    replace c3 := drew_cell c3
                    have r1 : wr.drew.rangeAt gk (t * 7) ([.int .u8 x1, .int .i64 x2, .int .u8 x3, .int .i64 x4, .int .i64 x5, .int .i64 x6, .int .i64 x7] : List Value) := range_seven b0 b1 b2 b3 b4 b5 b6
                    clear b0 b1 b2 b3 b4 b5 b6
                    refine wp_region_held_drew (S := fun w' : World => w'.cell? ⟨gG, 1, none⟩ = some (.slice (some ⟨gk, 0, none⟩) (n1 + 6) ck) ∧ w'.rangeAt gk (t * 7) ([.int .u8 x1, .int .i64 x2, .int .u8 x3, .int .i64 x4, .int .i64 x5, .int .i64 x6, .int .i64 x7] : List Value) ∧ w'.cell? ⟨gL, 1, none⟩ = some (.slice A n1 c)) (by kernel_rfl) ?_ (fun hHeld => ?_)
                    · exact ⟨c1, r1, c3⟩
                    refine take_pure 0 (.slice (some ⟨gG, 0, none⟩) 2 cG) rfl (by kernel_rfl) (by kernel_rfl) (by kernel_rfl) (fun _ _ _ h => h) rfl (by intro w hSw; go_simp; try with_reducible rfl) (by assumption) ?_
                    try simp only [Act.put, List.setIfInBounds_toArray, List.set_cons_zero, List.set_cons_succ]
                    refine take_pure 1 (.int .i64 1) rfl (by kernel_rfl) (by kernel_rfl) (by kernel_rfl) (fun _ _ _ h => h) rfl (by intro w hSw; go_simp; try with_reducible rfl) (by assumption) ?_
                    try simp only [Act.put, List.setIfInBounds_toArray, List.set_cons_zero, List.set_cons_succ]
                    refine take_pure 2 (.pointer (some ⟨gG, 1, none⟩)) rfl (by kernel_rfl) (by kernel_rfl) (by kernel_rfl) (fun _ _ _ h => h) rfl (by intro w hSw; go_simp; try with_reducible rfl) (by assumption) ?_
                    try simp only [Act.put, List.setIfInBounds_toArray, List.set_cons_zero, List.set_cons_succ]
                    refine take_pure 3 (.slice (some ⟨gk, 0, none⟩) (n1 + 6) ck) rfl (by kernel_rfl) (by kernel_rfl) (by kernel_rfl) (fun _ _ _ h => h) rfl (by intro w h; have hc := h.1; clear h; go_simp; try with_reducible rfl) (by assumption) ?_
                    try simp only [Act.put, List.setIfInBounds_toArray, List.set_cons_zero, List.set_cons_succ]
                    refine take_pure 4 (.int .i64 (t : Int)) rfl (by kernel_rfl) (by kernel_rfl) (by kernel_rfl) (fun _ _ _ h => h) rfl (by intro w hSw; go_simp; try with_reducible rfl) (by assumption) ?_
                    try simp only [Act.put, List.setIfInBounds_toArray, List.set_cons_zero, List.set_cons_succ]
                    refine take_pure 5 (.pointer (some ⟨gk, t * 7, none⟩)) rfl (by kernel_rfl) (by kernel_rfl) (by kernel_rfl) (fun _ _ _ h => h) rfl (by intro w hSw; go_simp; try with_reducible rfl) (by assumption) ?_
                    try simp only [Act.put, List.setIfInBounds_toArray, List.set_cons_zero, List.set_cons_succ]
                    refine take_loadm 6 gk (t * 7) ([.int .u8 x1, .int .i64 x2, .int .u8 x3, .int .i64 x4, .int .i64 x5, .int .i64 x6, .int .i64 x7] : List Value) (fun w h => h.2.1) hU sk_size rfl (by kernel_rfl) (by kernel_rfl) (by kernel_rfl) (fun _ _ _ h => h) rfl rfl rfl rfl (by assumption) ?_
                    try simp only [Act.put, List.setIfInBounds_toArray, List.set_cons_zero, List.set_cons_succ]
                    refine take_pure 7 (.int .i64 1) rfl (by kernel_rfl) (by kernel_rfl) (by kernel_rfl) (fun _ _ _ h => h) rfl (by intro w hSw; go_simp; try with_reducible rfl) (by assumption) ?_
                    try simp only [Act.put, List.setIfInBounds_toArray, List.set_cons_zero, List.set_cons_succ]
                    refine take_pure 8 (.int .i64 11) rfl (by kernel_rfl) (by kernel_rfl) (by kernel_rfl) (fun _ _ _ h => h) rfl (by intro w hSw; go_simp; rfl) (by assumption) ?_
                    try simp only [Act.put, List.setIfInBounds_toArray, List.set_cons_zero, List.set_cons_succ]
                    refine take_pure 9 (.int .i64 (t : Int)) rfl (by kernel_rfl) (by kernel_rfl) (by kernel_rfl) (fun _ _ _ h => h) rfl (by intro w hSw; go_simp; try with_reducible rfl) (by assumption) ?_
                    try simp only [Act.put, List.setIfInBounds_toArray, List.set_cons_zero, List.set_cons_succ]
                    refine take_call 10 rfl (by kernel_rfl) (fun K hK => ?_)
                    try go_simp
                    try go_simp
                    refine (markS_h 11 t _ (by omega) (by omega) rfl rfl).mono ?_
                    rintro e w2 ⟨y1, y2, y3, y4, y5, y6, y7, HN, rfl, hb2⟩
                    have HE := HN.out.trans HM.out.symm
                    simp only [Prod.mk.injEq] at HE
                    obtain ⟨rfl, rfl, rfl, rfl, rfl, rfl, rfl⟩ := HE
                    have H2 := H1.call hb2
                    replace c1 := below_some hb2 c1
                    replace c3 := below_some hb2 c3
                    replace r1 := range_keep hb2 r1
                    refine hK.out _ _ ?_ (fun hHeld => ?_)
                    · exact ⟨c1, r1, c3⟩
                    clear hK K
                    try simp only [Act.put, List.setIfInBounds_toArray, List.set_cons_zero, List.set_cons_succ]
                    refine take_pure 11 (.bool false) rfl (by kernel_rfl) (by kernel_rfl) (by kernel_rfl) (fun _ _ _ h => h) rfl (by intro w hSw; go_simp; try with_reducible rfl) (by assumption) ?_
                    try simp only [Act.put, List.setIfInBounds_toArray, List.set_cons_zero, List.set_cons_succ]
                    refine take_pure 12 (.bool false) rfl (by kernel_rfl) (by kernel_rfl) (by kernel_rfl) (fun _ _ _ h => h) rfl (by intro w hSw; go_simp; try with_reducible rfl) (by assumption) ?_
                    try simp only [Act.put, List.setIfInBounds_toArray, List.set_cons_zero, List.set_cons_succ]
                    refine take_pure 13 (.int .i64 (t : Int)) rfl (by kernel_rfl) (by kernel_rfl) (by kernel_rfl) (fun _ _ _ h => h) rfl (by intro w hSw; go_simp; try with_reducible rfl) (by assumption) ?_
                    try simp only [Act.put, List.setIfInBounds_toArray, List.set_cons_zero, List.set_cons_succ]
                    refine take_pure 14 (.slice (some ⟨gL, 0, none⟩) 2 2) rfl (by kernel_rfl) (by kernel_rfl) (by kernel_rfl) (fun _ _ _ h => h) rfl (by intro w hSw; go_simp; try with_reducible rfl) (by assumption) ?_
                    try simp only [Act.put, List.setIfInBounds_toArray, List.set_cons_zero, List.set_cons_succ]
                    refine take_pure 15 (.int .i64 1) rfl (by kernel_rfl) (by kernel_rfl) (by kernel_rfl) (fun _ _ _ h => h) rfl (by intro w hSw; go_simp; try with_reducible rfl) (by assumption) ?_
                    try simp only [Act.put, List.setIfInBounds_toArray, List.set_cons_zero, List.set_cons_succ]
                    refine take_pure 16 (.pointer (some ⟨gL, 1, none⟩)) rfl (by kernel_rfl) (by kernel_rfl) (by kernel_rfl) (fun _ _ _ h => h) rfl (by intro w hSw; go_simp; try with_reducible rfl) (by assumption) ?_
                    try simp only [Act.put, List.setIfInBounds_toArray, List.set_cons_zero, List.set_cons_succ]
                    refine take_pure 17 (.slice A n1 c) rfl (by kernel_rfl) (by kernel_rfl) (by kernel_rfl) (fun _ _ _ h => h) rfl (by intro w h; have hc := h.2.2; clear h; go_simp; try with_reducible rfl) (by assumption) ?_
                    try simp only [Act.put, List.setIfInBounds_toArray, List.set_cons_zero, List.set_cons_succ]
                    refine take_pure 18 (.int .i64 (n1 : Int)) rfl (by kernel_rfl) (by kernel_rfl) (by kernel_rfl) (fun _ _ _ h => h) rfl (by intro w hSw; go_simp; try with_reducible rfl) (by assumption) ?_
                    try simp only [Act.put, List.setIfInBounds_toArray, List.set_cons_zero, List.set_cons_succ]
                    refine take_pure 19 (.bool false) rfl (by kernel_rfl) (by kernel_rfl) (by kernel_rfl) (fun _ _ _ h => h) rfl (by intro w hSw; go_simp; try with_reducible rfl) (by assumption) ?_
                    try simp only [Act.put, List.setIfInBounds_toArray, List.set_cons_zero, List.set_cons_succ]
                    refine take_pure 20 (.bool false) rfl (by kernel_rfl) (by kernel_rfl) (by kernel_rfl) (fun _ _ _ h => h) rfl (by intro w hSw; go_simp; try with_reducible rfl) (by assumption) ?_
                    try simp only [Act.put, List.setIfInBounds_toArray, List.set_cons_zero, List.set_cons_succ]
                    refine take_skip 21 rfl (by kernel_rfl) (by kernel_rfl) (by kernel_rfl) (fun _ _ _ h => h) rfl (by assumption) ?_
                    try simp only [Act.put, List.setIfInBounds_toArray, List.set_cons_zero, List.set_cons_succ]
                    refine take_skip 22 rfl (by kernel_rfl) (by kernel_rfl) (by kernel_rfl) (fun _ _ _ h => h) rfl (by assumption) ?_
                    try simp only [Act.put, List.setIfInBounds_toArray, List.set_cons_zero, List.set_cons_succ]
                    refine take_skip 23 rfl (by kernel_rfl) (by kernel_rfl) (by kernel_rfl) (fun _ _ _ h => h) rfl (by assumption) ?_
                    try simp only [Act.put, List.setIfInBounds_toArray, List.set_cons_zero, List.set_cons_succ]
                    refine take_skip 24 rfl (by kernel_rfl) (by kernel_rfl) (by kernel_rfl) (fun _ _ _ h => h) rfl (by assumption) ?_
                    try simp only [Act.put, List.setIfInBounds_toArray, List.set_cons_zero, List.set_cons_succ]
                    refine take_skip 25 rfl (by kernel_rfl) (by kernel_rfl) (by kernel_rfl) (fun _ _ _ h => h) rfl (by assumption) ?_
                    try simp only [Act.put, List.setIfInBounds_toArray, List.set_cons_zero, List.set_cons_succ]
                    refine take_skip 26 rfl (by kernel_rfl) (by kernel_rfl) (by kernel_rfl) (fun _ _ _ h => h) rfl (by assumption) ?_
                    try simp only [Act.put, List.setIfInBounds_toArray, List.set_cons_zero, List.set_cons_succ]
                    refine take_skip 27 rfl (by kernel_rfl) (by kernel_rfl) (by kernel_rfl) (fun _ _ _ h => h) rfl (by assumption) ?_
                    try simp only [Act.put, List.setIfInBounds_toArray, List.set_cons_zero, List.set_cons_succ]
                    refine take_skip 28 rfl (by kernel_rfl) (by kernel_rfl) (by kernel_rfl) (fun _ _ _ h => h) rfl (by assumption) ?_
                    try simp only [Act.put, List.setIfInBounds_toArray, List.set_cons_zero, List.set_cons_succ]
                    refine take_skip 29 rfl (by kernel_rfl) (by kernel_rfl) (by kernel_rfl) (fun _ _ _ h => h) rfl (by assumption) ?_
                    try simp only [Act.put, List.setIfInBounds_toArray, List.set_cons_zero, List.set_cons_succ]
                    refine take_skip 30 rfl (by kernel_rfl) (by kernel_rfl) (by kernel_rfl) (fun _ _ _ h => h) rfl (by assumption) ?_
                    try simp only [Act.put, List.setIfInBounds_toArray, List.set_cons_zero, List.set_cons_succ]
                    refine take_skip 31 rfl (by kernel_rfl) (by kernel_rfl) (by kernel_rfl) (fun _ _ _ h => h) rfl (by assumption) ?_
                    try simp only [Act.put, List.setIfInBounds_toArray, List.set_cons_zero, List.set_cons_succ]
                    refine take_skip 32 rfl (by kernel_rfl) (by kernel_rfl) (by kernel_rfl) (fun _ _ _ h => h) rfl (by assumption) ?_
                    try simp only [Act.put, List.setIfInBounds_toArray, List.set_cons_zero, List.set_cons_succ]
                    refine take_skip 33 rfl (by kernel_rfl) (by kernel_rfl) (by kernel_rfl) (fun _ _ _ h => h) rfl (by assumption) ?_
                    try simp only [Act.put, List.setIfInBounds_toArray, List.set_cons_zero, List.set_cons_succ]
                    refine take_skip 34 rfl (by kernel_rfl) (by kernel_rfl) (by kernel_rfl) (fun _ _ _ h => h) rfl (by assumption) ?_
                    try simp only [Act.put, List.setIfInBounds_toArray, List.set_cons_zero, List.set_cons_succ]
                    refine take_skip 35 rfl (by kernel_rfl) (by kernel_rfl) (by kernel_rfl) (fun _ _ _ h => h) rfl (by assumption) ?_
                    try simp only [Act.put, List.setIfInBounds_toArray, List.set_cons_zero, List.set_cons_succ]
                    refine take_pure 36 (.bool false) rfl (by kernel_rfl) (by kernel_rfl) (by kernel_rfl) (fun _ _ _ h => h) rfl (by intro w hSw; go_simp; try with_reducible rfl) (by assumption) ?_
                    try simp only [Act.put, List.setIfInBounds_toArray, List.set_cons_zero, List.set_cons_succ]
                    refine take_pure 37 (.bool false) rfl (by kernel_rfl) (by kernel_rfl) (by kernel_rfl) (fun _ _ _ h => h) rfl (by intro w hSw; go_simp; try with_reducible rfl) (by assumption) ?_
                    try simp only [Act.put, List.setIfInBounds_toArray, List.set_cons_zero, List.set_cons_succ]
                    refine wpAnyH_done (by kernel_rfl) ?_ _
                    clear hHeld
                    clear r1 c1 c3 ht1 hl1 hb2'
                    go_wp2
                    go_roundw
                    case rel => exact ⟨t + 1, by omega, by go_num, H2⟩
                    case measure => simp [intOf]; omega
                · have ht1 : ¬ (t : Int) < n1 + 6 := by omega
                  go_wp2
                  go_roundw
                  case rel => exact ⟨2, by omega, rfl⟩
                  case measure => simp [intOf]
            · go_wp2
              go_ret
              exact ⟨rfl, H.below⟩
end Go.Proofs.Ytgfhnbjpdhdhgaa
