/- script.hex and the document's hex. -/
import Derived.Test.YtenmlkgamlafpaaDoorScA
import Derived.Test.YtenmlkgamlafpaaDoorHeld2

namespace Go.Proofs.YtenmlkgamlafpaaDoor
open Go.RowKit
set_option linter.unusedVariables false
set_option maxRecDepth 100000

theorem make_row (w : World) (c : Nat) (hc : c ≤ 140737488355328) :
    (Instr.makeSlice 26 (.int .i64 0) (.int .i64 (c : Int))).run Tryd.prog w = .ok (.slice (some ⟨w.heap.size, 0, none⟩) 0 c) (w.alloc (.cells (madeCells #[.int .u8 0] c) 5)) ∧ (w.alloc (.cells (madeCells #[.int .u8 0] c) 5)).ownsRow w.heap.size 5 1 (.slice (some ⟨w.heap.size, 0, none⟩) 0 c) 0 [] := by
  obtain ⟨i0, hi0, hz0, hz1, hz2⟩ := info_parts u8_info
  have h := run_make (P := Tryd.prog) w 26 5 i0 (.int .u8 0) Tryd.underlying26 hi0 hz0 .i64 .i64 0 (c : Int) (Int.le_refl _) (by omega) (by rw [hz2]; omega) (by omega)
  simp only [Int.toNat_zero, Int.toNat_natCast] at h
  rw [hz1, Nat.mul_one] at h
  exact ⟨h, World.ownsRow_made w _ c (Nat.le_refl _) (by simp only [maxLen]; omega) (by have := size_madeCells #[(.int .u8 0 : Value)] c; simpa using this)⟩

theorem dig_val (x : Nat) (hx : x < 16) (h : x < ({ data := #[48, 49, 50, 51, 52, 53, 54, 55, 56, 57, 97, 98, 99, 100, 101, 102] } : ByteArray).size) : ({ data := #[48, 49, 50, 51, 52, 53, 54, 55, 56, 57, 97, 98, 99, 100, 101, 102] } : ByteArray)[x]'h = dig16 x := by
  match x, hx with
  | 0, _ => rfl
  | 1, _ => rfl
  | 2, _ => rfl
  | 3, _ => rfl
  | 4, _ => rfl
  | 5, _ => rfl
  | 6, _ => rfl
  | 7, _ => rfl
  | 8, _ => rfl
  | 9, _ => rfl
  | 10, _ => rfl
  | 11, _ => rfl
  | 12, _ => rfl
  | 13, _ => rfl
  | 14, _ => rfl
  | 15, _ => rfl
  | x + 16, h => omega

set_option maxHeartbeats 4000000 in
theorem hex_s (A : Option Addr) (n c : Nat) (l : List UInt8) (w : World) (hR : Rd w 1 A n (l.map vb)) (hn : n ≤ 1048576) :
    Calls Tryd.prog 40 #[.slice A n c] w fun e w' => e = .returned (tv (hexB l)) ∧ Below w.heap.size w w' := by
  obtain ⟨i0, hi0, hz0, hz1, hz2⟩ := info_parts u8_info
  have hl : l.length = n := by have := hR.1; simpa using this
  have HL := Lib.hid hl
  have HR := Lib.hid hR
  clear hl hR
  by_cases h0 : n = 0
  · have hnil : l = [] := List.eq_nil_of_length_eq_zero (by rw [HL.out]; exact h0)
    subst hnil h0
    go_enter Tryd.func40, Tryd.ntmps40
    go_wp2
    go_ret
    exact ⟨rfl, Below.refl _ _⟩
  have hne : ((n : Int) == 0) = false := by simpa using h0
  have hB : hexB l = hexR l := if_neg (fun e => h0 (by rw [← HL.out, e]; rfl))
  have HB := Lib.hid hB
  clear hB h0
  have hcN : 2 * n ≤ 140737488355328 := by omega
  obtain ⟨hmk, hown⟩ := make_row w (2 * n) hcN
  rw [show ((2 * n : Nat) : Int) = 2 * (n : Int) by omega] at hmk
  have wm : IntKind.i64.wrap (2 * (n : Int)) = 2 * (n : Int) := IntWalk.i64_in _ (by omega)
  have H := ((St.start_lay w []).pushRow 0 rfl ((Below.refl _ _).alloc (Nat.le_refl _) _) hown).push_mk rfl
  clear hown
  go_enter Tryd.func40, Tryd.ntmps40
  go_upto_region 4 with (fail)
  refine absorb_wp H ?_
  clear H hmk wm hcN
  intro w2 H
  generalize w.heap.size = g0 at H ⊢
  obtain ⟨v, hv⟩ : ∃ v, Value.slice (some ⟨g0, 0, none⟩) 0 (2 * n) = v := ⟨_, rfl⟩
  rw [hv] at H ⊢
  replace H : St w [] w2 (lay [.row 5 1 v (2 * 0) ((hexR (l.take 0)).map vb)]) := H
  clear hv
  go_wp2
  go_loopw [3, 15] (fun v i wr => ∃ k : Nat, k ≤ n ∧ i = .int .i64 (k : Int) ∧ St w [] wr (lay [.row 5 1 v (2 * k) ((hexR (l.take k)).map vb)])) (fun v i _ => n - (intOf i).toNat)
  case atStart => exact ⟨0, Nat.zero_le _, rfl, H⟩
  case round =>
    clear H
    obtain ⟨k, hk, rfl, H⟩ := hrel
    by_cases hlt : k < n
    · obtain ⟨b, hb⟩ : ∃ b, l[k]? = some b := ⟨_, List.getElem?_eq_getElem (by rw [HL.out]; exact hlt)⟩
      have HBv := Lib.hid hb
      obtain ⟨p, q, rfl, -, hc⟩ := HR.out.flat (by omega) (by omega)
      have cx := H.below.cell (p := ⟨p, q + k, none⟩) (World.block_lt_of_cell? w _ (hc k (vb b) (by rw [List.getElem?_map, hb]; rfl)))
      rw [hc k (vb b) (by rw [List.getElem?_map, hb]; rfl)] at cx
      change wr.cell? ⟨p, q + k, none⟩ = some (.int .u8 (b.toNat : Int)) at cx
      have hb1 : (b.toNat : Int) ≤ 255 := by have := b.toNat_lt; omega
      obtain ⟨x1, hx1⟩ : ∃ x, b.toNat / 16 = x := ⟨_, rfl⟩
      obtain ⟨x2, hx2⟩ : ∃ x, b.toNat % 16 = x := ⟨_, rfl⟩
      have l1 : x1 < 16 := by have := b.toNat_lt; omega
      have l2 : x2 < 16 := by omega
      have l1' : (x1 : Int) < 16 := by omega
      have l2' : (x2 : Int) < 16 := by omega
      have d1 : (b.toNat : Int) / 16 = (x1 : Int) := by omega
      have d1t : Int.tdiv (b.toNat : Int) 16 = (x1 : Int) := by rw [Int.tdiv_eq_ediv_of_nonneg (by omega)]; omega
      have d2t : Int.tmod (b.toNat : Int) 16 = (x2 : Int) := by rw [Int.tmod_eq_emod_of_nonneg (by omega)]; omega
      have ww1 : IntKind.u8.wrap (x1 : Int) = (x1 : Int) := IntWalk.u8_in _ (by omega)
      have ww2 : IntKind.u8.wrap (x2 : Int) = (x2 : Int) := IntWalk.u8_in _ (by omega)
      have d2 := and15 b
      rw [hx2] at d2
      have d3 := dig_val x1 l1
      have d4 := dig_val x2 l2
      have HX1 := Lib.hid hx1
      have HX2 := Lib.hid hx2
      clear hx1 hx2 l1 l2
      have hki : (k : Int) < n := by omega
      clear hc hb
      go_wp2
      have HU := H
      replace H := H.drew
      refine wp_region_held_drew (S := fun w' : World => True) (by kernel_rfl) ?_ (fun hHeld => ?_)
      · exact trivial
      refine takeV 0 rfl (by intro w h; clear h; go_simp; try with_reducible rfl) (by kernel_rfl) (by kernel_rfl) (by kernel_rfl) (by exact fun _ _ _ h => h) (by rfl) (by assumption) ?_
      try simp only [Act.put, List.setIfInBounds_toArray, List.set_cons_zero, List.set_cons_succ]
      refine takeV 1 rfl (by intro w h; clear h; go_simp; try with_reducible rfl) (by kernel_rfl) (by kernel_rfl) (by kernel_rfl) (by exact fun _ _ _ h => h) (by rfl) (by assumption) ?_
      try simp only [Act.put, List.setIfInBounds_toArray, List.set_cons_zero, List.set_cons_succ]
      refine takeV 2 rfl (by intro w h; clear h; go_simp; try with_reducible rfl) (by kernel_rfl) (by kernel_rfl) (by kernel_rfl) (by exact fun _ _ _ h => h) (by rfl) (by assumption) ?_
      try simp only [Act.put, List.setIfInBounds_toArray, List.set_cons_zero, List.set_cons_succ]
      refine takeV 3 rfl (by intro w h; clear h; go_simp; try with_reducible rfl) (by kernel_rfl) (by kernel_rfl) (by kernel_rfl) (by exact fun _ _ _ h => h) (by rfl) (by assumption) ?_
      try simp only [Act.put, List.setIfInBounds_toArray, List.set_cons_zero, List.set_cons_succ]
      refine takeV 4 rfl (by intro w h; clear h; go_simp; try with_reducible rfl) (by kernel_rfl) (by kernel_rfl) (by kernel_rfl) (by exact fun _ _ _ h => h) (by rfl) (by assumption) ?_
      try simp only [Act.put, List.setIfInBounds_toArray, List.set_cons_zero, List.set_cons_succ]
      refine takeV 5 rfl (by intro w h; clear h; go_simp; try with_reducible rfl) (by kernel_rfl) (by kernel_rfl) (by kernel_rfl) (by exact fun _ _ _ h => h) (by rfl) (by assumption) ?_
      try simp only [Act.put, List.setIfInBounds_toArray, List.set_cons_zero, List.set_cons_succ]
      refine takeV 6 rfl (by intro w h; clear h; go_simp; try with_reducible rfl) (by kernel_rfl) (by kernel_rfl) (by kernel_rfl) (by exact fun _ _ _ h => h) (by rfl) (by assumption) ?_
      try simp only [Act.put, List.setIfInBounds_toArray, List.set_cons_zero, List.set_cons_succ]
      refine take_call 7 rfl (by kernel_rfl) (fun K hK => ?_)
      go_simp
      replace H := (HU.allocAt 1 rfl _ rfl #[vb (dig16 x1), vb (dig16 x2)] 5 |>.push_mk rfl).drew
      clear HU
      refine hK.out _ _ ?_ (fun hHeld => ?_)
      · exact trivial
      clear hK K
      try simp only [Act.put, List.setIfInBounds_toArray, List.set_cons_zero, List.set_cons_succ]
      refine take_call 8 rfl (by kernel_rfl) (fun K hK => ?_)
      refine step_append_any _ rfl (.tmp 19) (.tmp 26) _ rfl 0 5 i0 _ 1 1 Tryd.underlying26 hi0 hz0 hz1 hz2 rfl (by omega) u3 (2 * k) ((hexR (l.take k)).map vb) rfl (H.row 0 rfl) (some ⟨_, 0, none⟩) 2 2 [vb (dig16 x1), vb (dig16 x2)] rfl (H.rdBlkS 1 rfl 1 2 rfl) (by intro u hu; simp at hu; rcases hu with rfl | rfl <;> rfl) (by simp only [maxLen]; omega) (by omega) (by omega) ?_
      intro v3 w9 hown hg hat
      replace H := ((H.grow 0 rfl hown hg hat).upd_mk (by simp)).front 1
      refine hK.out _ _ ?_ (fun hHeld => ?_)
      · exact trivial
      clear hK K hown hg hat
      try simp only [Act.put, List.setIfInBounds_toArray, List.set_cons_zero, List.set_cons_succ]
      refine takeV 9 rfl (by intro w h; clear h; go_simp; try with_reducible rfl) (by kernel_rfl) (by kernel_rfl) (by kernel_rfl) (by exact fun _ _ _ h => h) (by rfl) (by assumption) ?_
      try simp only [Act.put, List.setIfInBounds_toArray, List.set_cons_zero, List.set_cons_succ]
      refine wpAnyH_done (by kernel_rfl) ?_ _
      clear hHeld
      have HS : Hid ((hexR (l.take k)).map vb ++ [vb (dig16 x1), vb (dig16 x2)] = (hexR (l.take (k + 1))).map vb) := by
        unfold Hid
        rw [List.take_add_one, HBv.out]
        show _ = (hexR (l.take k ++ [b])).map vb
        rw [hexR_snoc, List.map_append, HX1.out, HX2.out]; rfl
      replace H : St w [] w9 (lay [.row 5 1 v3 (2 * k + 2) ((hexR (l.take k)).map vb ++ [vb (dig16 x1), vb (dig16 x2)])]) := H
      rw [HS.out] at H
      go_wp2
      go_roundw
      case rel => exact ⟨k + 1, by omega, by go_num, by rw [show 2 * (k + 1) = 2 * k + 2 by omega]; exact H⟩
      case measure => simp [intOf]; omega
    · obtain rfl : k = n := by omega
      have hki : ¬ (k : Int) < k := by omega
      have HT : Hid (hexR (l.take k) = hexB l) := by unfold Hid; rw [List.take_of_length_le (by rw [HL.out]; exact Nat.le_refl _), HB.out]
      rw [HT.out] at H
      obtain ⟨A1, c1, rfl, -, -⟩ := row_form (H.row 0 rfl)
      have hcv := conv_t (c := c1) (H.rd 0 rfl)
      go_wp2
      go_ret
      exact ⟨rfl, H.below⟩

set_option maxHeartbeats 4000000 in
theorem refHex_s (A : Option Addr) (n c : Nat) (l : List UInt8) (w : World) (hR : Rd w 1 A n (l.map vb)) (hn : n ≤ 1048576) :
    Calls Tryd.prog 35 #[.slice A n c] w fun e w' => e = .returned (tv (hexB l)) ∧ Below w.heap.size w w' := by
  obtain ⟨i0, hi0, hz0, hz1, hz2⟩ := info_parts u8_info
  have hl : l.length = n := by have := hR.1; simpa using this
  have HL := Lib.hid hl
  have HR := Lib.hid hR
  clear hl hR
  by_cases h0 : n = 0
  · have hnil : l = [] := List.eq_nil_of_length_eq_zero (by rw [HL.out]; exact h0)
    subst hnil h0
    go_enter Tryd.func35, Tryd.ntmps35
    go_wp2
    go_ret
    exact ⟨rfl, Below.refl _ _⟩
  have hne : ((n : Int) == 0) = false := by simpa using h0
  have hB : hexB l = hexR l := if_neg (fun e => h0 (by rw [← HL.out, e]; rfl))
  have HB := Lib.hid hB
  clear hB h0
  have H := (St.start_lay w []).nilRow 0 rfl 5 1 |>.push_mk rfl
  replace H : St w [] w (lay [.row 5 1 (.slice none 0 0) (2 * 0) ((hexR (l.take 0)).map vb)]) := H
  go_enter Tryd.func35, Tryd.ntmps35
  go_wp2
  go_loopw [4, 5] (fun v i wr => ∃ k : Nat, k ≤ n ∧ i = .int .i64 (k : Int) ∧ St w [] wr (lay [.row 5 1 v (2 * k) ((hexR (l.take k)).map vb)])) (fun v i _ => n - (intOf i).toNat)
  case atStart => exact ⟨0, Nat.zero_le _, rfl, H⟩
  case round =>
    clear H
    obtain ⟨k, hk, rfl, H⟩ := hrel
    by_cases hlt : k < n
    · obtain ⟨b, hb⟩ : ∃ b, l[k]? = some b := ⟨_, List.getElem?_eq_getElem (by rw [HL.out]; exact hlt)⟩
      have HBv := Lib.hid hb
      obtain ⟨p, q, rfl, -, hc⟩ := HR.out.flat (by omega) (by omega)
      have HCX : Hid (∀ w' E, St w [] w' E → w'.cell? ⟨p, q + k, none⟩ = some (.int .u8 (b.toNat : Int))) := fun w' E h => (h.below.cell (p := ⟨p, q + k, none⟩) (World.block_lt_of_cell? w _ (hc k (vb b) (by rw [List.getElem?_map, hb]; rfl)))).trans (hc k (vb b) (by rw [List.getElem?_map, hb]; rfl))
      have hb1 : (b.toNat : Int) ≤ 255 := by have := b.toNat_lt; omega
      obtain ⟨x1, hx1⟩ : ∃ x, b.toNat / 16 = x := ⟨_, rfl⟩
      obtain ⟨x2, hx2⟩ : ∃ x, b.toNat % 16 = x := ⟨_, rfl⟩
      have l1 : x1 < 16 := by have := b.toNat_lt; omega
      have l2 : x2 < 16 := by omega
      have l1' : (x1 : Int) < 16 := by omega
      have l2' : (x2 : Int) < 16 := by omega
      have d1 : (b.toNat : Int) / 16 = (x1 : Int) := by omega
      have d1t : Int.tdiv (b.toNat : Int) 16 = (x1 : Int) := by rw [Int.tdiv_eq_ediv_of_nonneg (by omega)]; omega
      have d2t : Int.tmod (b.toNat : Int) 16 = (x2 : Int) := by rw [Int.tmod_eq_emod_of_nonneg (by omega)]; omega
      have ww1 : IntKind.u8.wrap (x1 : Int) = (x1 : Int) := IntWalk.u8_in _ (by omega)
      have ww2 : IntKind.u8.wrap (x2 : Int) = (x2 : Int) := IntWalk.u8_in _ (by omega)
      have d2 := and15 b
      rw [hx2] at d2
      have d3 := dig_val x1 l1
      have d4 := dig_val x2 l2
      have HX1 := Lib.hid hx1
      have HX2 := Lib.hid hx2
      clear hx1 hx2 l1 l2
      have hki : (k : Int) < n := by omega
      clear hc hb
      go_wp2
      have HU := H
      replace H := H.drew
      refine wp_region_held_drew (S := fun w' : World => w'.cell? ⟨p, q + k, none⟩ = some (.int .u8 (b.toNat : Int))) (by kernel_rfl) ?_ (fun hHeld => ?_)
      · exact HCX.out _ _ H
      refine takeV 0 rfl (by intro w h; clear h; go_simp; try with_reducible rfl) (by kernel_rfl) (by kernel_rfl) (by kernel_rfl) (by exact fun _ _ _ h => h) (by rfl) (by assumption) ?_
      try simp only [Act.put, List.setIfInBounds_toArray, List.set_cons_zero, List.set_cons_succ]
      refine takeV 1 rfl (by intro w h; clear h; go_simp; try with_reducible rfl) (by kernel_rfl) (by kernel_rfl) (by kernel_rfl) (by exact fun _ _ _ h => h) (by rfl) (by assumption) ?_
      try simp only [Act.put, List.setIfInBounds_toArray, List.set_cons_zero, List.set_cons_succ]
      refine takeV 2 rfl (by intro w h; clear h; go_simp; try with_reducible rfl) (by kernel_rfl) (by kernel_rfl) (by kernel_rfl) (by exact fun _ _ _ h => h) (by rfl) (by assumption) ?_
      try simp only [Act.put, List.setIfInBounds_toArray, List.set_cons_zero, List.set_cons_succ]
      refine takeV 3 rfl (by intro w h; clear h; go_simp; try with_reducible rfl) (by kernel_rfl) (by kernel_rfl) (by kernel_rfl) (by exact fun _ _ _ h => h) (by rfl) (by assumption) ?_
      try simp only [Act.put, List.setIfInBounds_toArray, List.set_cons_zero, List.set_cons_succ]
      refine takeV 4 rfl (by intro w h; clear h; go_simp; try with_reducible rfl) (by kernel_rfl) (by kernel_rfl) (by kernel_rfl) (by exact fun _ _ _ h => h) (by rfl) (by assumption) ?_
      try simp only [Act.put, List.setIfInBounds_toArray, List.set_cons_zero, List.set_cons_succ]
      refine takeV 5 rfl (by intro w h; have hc := h; clear h; go_simp; try with_reducible rfl) (by kernel_rfl) (by kernel_rfl) (by kernel_rfl) (by exact fun _ _ _ h => h) (by rfl) (by assumption) ?_
      try simp only [Act.put, List.setIfInBounds_toArray, List.set_cons_zero, List.set_cons_succ]
      refine takeV 6 rfl (by intro w h; clear h; go_simp; try with_reducible rfl) (by kernel_rfl) (by kernel_rfl) (by kernel_rfl) (by exact fun _ _ _ h => h) (by rfl) (by assumption) ?_
      try simp only [Act.put, List.setIfInBounds_toArray, List.set_cons_zero, List.set_cons_succ]
      refine takeV 7 rfl (by intro w h; clear h; go_simp; try with_reducible rfl) (by kernel_rfl) (by kernel_rfl) (by kernel_rfl) (by exact fun _ _ _ h => h) (by rfl) (by assumption) ?_
      try simp only [Act.put, List.setIfInBounds_toArray, List.set_cons_zero, List.set_cons_succ]
      refine takeV 8 rfl (by intro w h; clear h; go_simp; try with_reducible rfl) (by kernel_rfl) (by kernel_rfl) (by kernel_rfl) (by exact fun _ _ _ h => h) (by rfl) (by assumption) ?_
      try simp only [Act.put, List.setIfInBounds_toArray, List.set_cons_zero, List.set_cons_succ]
      refine takeV 9 rfl (by intro w h; clear h; go_simp; try with_reducible rfl) (by kernel_rfl) (by kernel_rfl) (by kernel_rfl) (by exact fun _ _ _ h => h) (by rfl) (by assumption) ?_
      try simp only [Act.put, List.setIfInBounds_toArray, List.set_cons_zero, List.set_cons_succ]
      refine takeV 10 rfl (by intro w h; clear h; go_simp; try with_reducible rfl) (by kernel_rfl) (by kernel_rfl) (by kernel_rfl) (by exact fun _ _ _ h => h) (by rfl) (by assumption) ?_
      try simp only [Act.put, List.setIfInBounds_toArray, List.set_cons_zero, List.set_cons_succ]
      refine takeV 11 rfl (by intro w h; clear h; go_simp; try with_reducible rfl) (by kernel_rfl) (by kernel_rfl) (by kernel_rfl) (by exact fun _ _ _ h => h) (by rfl) (by assumption) ?_
      try simp only [Act.put, List.setIfInBounds_toArray, List.set_cons_zero, List.set_cons_succ]
      refine takeV 12 rfl (by intro w h; have hc := h; clear h; go_simp; try with_reducible rfl) (by kernel_rfl) (by kernel_rfl) (by kernel_rfl) (by exact fun _ _ _ h => h) (by rfl) (by assumption) ?_
      try simp only [Act.put, List.setIfInBounds_toArray, List.set_cons_zero, List.set_cons_succ]
      refine takeV 13 rfl (by intro w h; clear h; go_simp; try with_reducible rfl) (by kernel_rfl) (by kernel_rfl) (by kernel_rfl) (by exact fun _ _ _ h => h) (by rfl) (by assumption) ?_
      try simp only [Act.put, List.setIfInBounds_toArray, List.set_cons_zero, List.set_cons_succ]
      refine takeV 14 rfl (by intro w h; clear h; go_simp; try with_reducible rfl) (by kernel_rfl) (by kernel_rfl) (by kernel_rfl) (by exact fun _ _ _ h => h) (by rfl) (by assumption) ?_
      try simp only [Act.put, List.setIfInBounds_toArray, List.set_cons_zero, List.set_cons_succ]
      refine take_call 15 rfl (by kernel_rfl) (fun K hK => ?_)
      go_simp
      replace H := (HU.allocAt 1 rfl _ rfl #[vb (dig16 x1), vb (dig16 x2)] 5 |>.push_mk rfl).drew
      clear HU
      refine hK.out _ _ ?_ (fun hHeld => ?_)
      · exact HCX.out _ _ H
      clear hK K
      try simp only [Act.put, List.setIfInBounds_toArray, List.set_cons_zero, List.set_cons_succ]
      refine take_call 16 rfl (by kernel_rfl) (fun K hK => ?_)
      refine step_append_any _ rfl (.tmp 15) (.tmp 30) _ rfl 0 5 i0 _ 1 1 Tryd.underlying26 hi0 hz0 hz1 hz2 rfl (by omega) u4 (2 * k) ((hexR (l.take k)).map vb) rfl (H.row 0 rfl) (some ⟨_, 0, none⟩) 2 2 [vb (dig16 x1), vb (dig16 x2)] rfl (H.rdBlkS 1 rfl 1 2 rfl) (by intro u hu; simp at hu; rcases hu with rfl | rfl <;> rfl) (by simp only [maxLen]; omega) (by omega) (by omega) ?_
      intro v3 w9 hown hg hat
      replace H := ((H.grow 0 rfl hown hg hat).upd_mk (by simp)).front 1
      refine hK.out _ _ ?_ (fun hHeld => ?_)
      · exact HCX.out _ _ H
      clear hK K hown hg hat
      try simp only [Act.put, List.setIfInBounds_toArray, List.set_cons_zero, List.set_cons_succ]
      refine takeV 17 rfl (by intro w h; clear h; go_simp; try with_reducible rfl) (by kernel_rfl) (by kernel_rfl) (by kernel_rfl) (by exact fun _ _ _ h => h) (by rfl) (by assumption) ?_
      try simp only [Act.put, List.setIfInBounds_toArray, List.set_cons_zero, List.set_cons_succ]
      refine wpAnyH_done (by kernel_rfl) ?_ _
      clear hHeld
      have HS : Hid ((hexR (l.take k)).map vb ++ [vb (dig16 x1), vb (dig16 x2)] = (hexR (l.take (k + 1))).map vb) := by
        unfold Hid
        rw [List.take_add_one, HBv.out]
        show _ = (hexR (l.take k ++ [b])).map vb
        rw [hexR_snoc, List.map_append, HX1.out, HX2.out]; rfl
      replace H : St w [] w9 (lay [.row 5 1 v3 (2 * k + 2) ((hexR (l.take k)).map vb ++ [vb (dig16 x1), vb (dig16 x2)])]) := H
      rw [HS.out] at H
      go_wp2
      go_roundw
      case rel => exact ⟨k + 1, by omega, by go_num, by rw [show 2 * (k + 1) = 2 * k + 2 by omega]; exact H⟩
      case measure => simp [intOf]; omega
    · obtain rfl : k = n := by omega
      have hki : ¬ (k : Int) < k := by omega
      have HT : Hid (hexR (l.take k) = hexB l) := by unfold Hid; rw [List.take_of_length_le (by rw [HL.out]; exact Nat.le_refl _), HB.out]
      rw [HT.out] at H
      obtain ⟨A1, c1, rfl, -, -⟩ := row_form (H.row 0 rfl)
      have hcv := conv_t (c := c1) (H.rd 0 rfl)
      go_wp2
      go_ret
      exact ⟨rfl, H.below⟩

end Go.Proofs.YtenmlkgamlafpaaDoor
