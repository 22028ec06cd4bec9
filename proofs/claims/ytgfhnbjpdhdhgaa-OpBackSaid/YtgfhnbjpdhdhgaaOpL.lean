/- Dropping handle 5, as bytes: 'lives' of layer 20. -/
import Derived.Test.YtgfhnbjpdhdhgaaOpD
import Derived.Test.YtgfhnbjpdhdhgaaKitO
namespace Go.Proofs.Ytgfhnbjpdhdhgaa
open Go.RowKit
set_option linter.unusedVariables false

theorem load_guard {P : Program} {ops : Array Oper} {rest : List Oper} {o : Oper} {a : Act} {w : World} {Q : Exit → Act → World → Prop} (hw : Region.wanted o (yielded ops a.tmps) = true) (ty : TypeId) (x : Operand) (ho : o.op = .load ty x)
    (g : Nat) (hx : a.eval x = .pointer (some ⟨g, 0, none⟩)) (t : TypeId) (cs : Array Value) (fr : Nat × Nat) (d : TypeDesc) (hg : w.heap[g]? = some (.cells cs t fr))
    (hu : P.underlying ty = some d) (hd : (match d with | .struct _ | .array _ _ => true | _ => false) = true) (hi : (P.info? ty).map (·.size) = some cs.size)
    (h : wpList P ops Q rest (a.put o.dst (.agg cs)) w) : wpList P ops Q (o :: rest) a w := by
  unfold wpList
  rw [if_pos hw]
  exact .inl (wp_load_row ty x ho g hx t cs fr d hg hu hd hi h)

theorem lv_dec : decR (encB 10 5 0 0 0 [] []) = ⟨10, 5, 0, 0, 0, [], [], 32, 0⟩ := by kernel_rfl
theorem lv_len : (encB 10 5 0 0 0 [] []).length = 32 := by kernel_rfl
theorem lv_0 : (encB 10 5 0 0 0 [] [])[0]? = some 10 := by kernel_rfl
theorem lv_9 : (encB 10 5 0 0 0 [] [])[9]? = some 5 := by kernel_rfl
theorem encode_drop (w : World) : Calls Try.prog 29 #[.agg #[.int .u8 10, .int .i64 5, .int .u8 0, .int .i64 0, .int .i64 0, .slice none 0 0, .slice none 0 0]] w fun e w' => ∃ v, e = .returned (.tuple #[v, .int .i64 0]) ∧ OwnB w' w.heap.size v (encB 10 5 0 0 0 [] []) ∧ Below w.heap.size w w' :=
  encode_s 10 5 0 0 0 none 0 0 none 0 0 [] [] w Rd.none_ Rd.none_ (by omega) (by omega)

set_option maxHeartbeats 1000000 in
theorem lives_s (w : World) : Calls Try.prog 19 #[] w fun e w' => e = .returned (.bool true) ∧ Below w.heap.size w w' := by
  obtain ⟨L, HL⟩ : ∃ L, Hid (encB 10 5 0 0 0 [] [] = L) := ⟨_, rfl⟩
  have H0 := St.start_lay w []
  go_enter Try.func19, Try.ntmps19
  go_wp2_with fail
  refine (encode_drop w).mono ?_
  rintro e w1 ⟨v1, rfl, ho1, hb1⟩
  have H := (H0.pushOwnB 0 rfl ho1 hb1).push_mk rfl
  replace H := H.shape_row 0 rfl (n' := 32) (xs' := L.map vb) lv_len (by rw [HL.out])
  clear H0 ho1 hb1
  obtain ⟨A1, c1, rfl, hc1, hA1⟩ := row_form (H.row 0 rfl)
  obtain ⟨g1, rfl, -⟩ := hA1 (by omega)
  clear hA1
  go_wp2_with fail
  refine (decode_s _ 32 c1 L w1 (H.rd 0 rfl) hc1 (by omega)).mono ?_
  rintro e w2 ⟨v5, v6, rfl, HN⟩
  replace H := H.also HN
  clear HN
  rw [← HL.out, lv_dec] at H
  rw [← HL.out, lv_dec]
  replace H : St w [] w2 (lay [.row 5 1 (.slice (some ⟨g1, 0, none⟩) 32 c1) 32 ((encB 10 5 0 0 0 [] []).map vb), .row 5 1 v5 0 [], .row 5 1 v6 0 []]) := H
  have b0 := World.ownsRow.cellAt (H.row 0 rfl) 0 (by omega)
  have b9 := World.ownsRow.cellAt (H.row 0 rfl) 9 (by omega)
  rw [List.getElem?_map, lv_0] at b0
  rw [List.getElem?_map, lv_9] at b9
  obtain ⟨A5, d5, rfl, -⟩ := row_form (H.row 1 rfl)
  obtain ⟨A6, d6, rfl, -⟩ := row_form (H.row 2 rfl)
  clear HL
  generalize (encB 10 5 0 0 0 [] []).map vb = LL at H
  replace b0 : w2.cell? ⟨g1, 0, none⟩ = some (.int .u8 10) := b0
  replace b9 : w2.cell? ⟨g1, 9, none⟩ = some (.int .u8 5) := b9
  have hg1 := (World.ownsRow.lt (H.row 0 rfl) g1 rfl).2
  go_wp2
  go_ret
  exact ⟨rfl, (H.below).trans ((Below.refl _ _).alloc (by have := H.low.size; omega) _)⟩
end Go.Proofs.Ytgfhnbjpdhdhgaa
