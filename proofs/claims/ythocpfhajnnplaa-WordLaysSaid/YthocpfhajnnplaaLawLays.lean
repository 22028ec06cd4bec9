/- The law WordLays, walked: every word. -/
import Derived.Test.YthocpfhajnnplaaRows
import Derived.Test.YthocpfhajnnplaaLib
import Derived.Test.YthocpfhajnnplaaKitB
import Derived.Test.YthocpfhajnnplaaHeap
import Derived.Test.YthocpfhajnnplaaApart
import Derived.Test.YthocpfhajnnplaaLay
import Derived.Test.YthocpfhajnnplaaWLay
import Derived.Test.YthocpfhajnnplaaWLayLE
import Derived.Test.YthocpfhajnnplaaRefLay
namespace Go.Proofs.Ythocpfhajnnplaa
open Go.RowKit
set_option linter.unusedVariables false

set_option maxRecDepth 100000 in
set_option maxHeartbeats 1000000 in
theorem wordLays_walk (x : UInt64) (w : World) :
    Calls Try.prog 5 #[.int .u64 (x.toNat : Int)] w fun e w' => e = .returned (.bool true) ∧ Below w.heap.size w w' := by
  have hx : x.toNat < 2 ^ 64 := x.toNat_lt
  generalize x.toNat = X at hx ⊢
  obtain ⟨Y, hy⟩ : ∃ Y : Nat, Y = X % 4294967296 := ⟨_, rfl⟩
  have hyb : Y < 2 ^ 32 := by omega
  have hyb2 : Y < 2 ^ 64 := by omega
  have hXy : (X : Int) % 4294967296 = (Y : Int) := by omega
  have hy' : (Y : Int) ≤ 4294967295 := by omega
  have hx' : (X : Int) ≤ 18446744073709551615 := by omega
  have Rx := Lib.hid hx
  have Ry := Lib.hid hyb
  have Ry2 := Lib.hid hyb2
  clear hx hyb hyb2 hy
  go_enter Try.func5, Try.ntmps5
  have H0 := St.start w
  go_wp2_with fail
  refine (lay_u32 Y _ Ry.out).mono ?_
  rintro e w1 ⟨v1, rfl, ho, hb⟩
  have H1 := H0.push ho hb
  obtain ⟨A1, n1, c1, rfl, hn, -⟩ := ho.shape
  have hl1 : n1 ≤ 8 := by rw [hn.out, beL_length]; omega
  clear H0 ho hb hn
  go_wp2_with fail
  refine (lay_s32 Y _ Ry.out).mono ?_
  rintro e w2 ⟨v2, rfl, ho, hb⟩
  have H2 := H1.push ho hb
  obtain ⟨A2, n2, c2, rfl, hn, -⟩ := ho.shape
  have hl2 : n2 ≤ 8 := by rw [hn.out, beL_length]; omega
  clear H1 ho hb hn
  go_wp2_with fail
  refine (layLE_u32 Y _ Ry.out).mono ?_
  rintro e w3 ⟨v3, rfl, ho, hb⟩
  have H3 := H2.push ho hb
  obtain ⟨A3, n3, c3, rfl, hn, -⟩ := ho.shape
  have hl3 : n3 ≤ 8 := by rw [hn.out, leL_length]; omega
  clear H2 ho hb hn
  go_wp2_with fail
  refine (layLE_s32 Y _ Ry.out).mono ?_
  rintro e w4 ⟨v4, rfl, ho, hb⟩
  have H4 := H3.push ho hb
  obtain ⟨A4, n4, c4, rfl, hn, -⟩ := ho.shape
  have hl4 : n4 ≤ 8 := by rw [hn.out, leL_length]; omega
  clear H3 ho hb hn
  go_wp2_with fail
  refine (lay_u64 X _ Rx.out).mono ?_
  rintro e w5 ⟨v5, rfl, ho, hb⟩
  have H5 := H4.push ho hb
  obtain ⟨A5, n5, c5, rfl, hn, -⟩ := ho.shape
  have hl5 : n5 ≤ 8 := by rw [hn.out, beL_length]; omega
  clear H4 ho hb hn
  go_wp2_with fail
  refine (lay_l64 X _ Rx.out).mono ?_
  rintro e w6 ⟨v6, rfl, ho, hb⟩
  have H6 := H5.push ho hb
  obtain ⟨A6, n6, c6, rfl, hn, -⟩ := ho.shape
  have hl6 : n6 ≤ 8 := by rw [hn.out, beL_length]; omega
  clear H5 ho hb hn
  go_wp2_with fail
  refine (layLE_u64 X _ Rx.out).mono ?_
  rintro e w7 ⟨v7, rfl, ho, hb⟩
  have H7 := H6.push ho hb
  obtain ⟨A7, n7, c7, rfl, hn, -⟩ := ho.shape
  have hl7 : n7 ≤ 8 := by rw [hn.out, leL_length]; omega
  clear H6 ho hb hn
  go_wp2_with fail
  refine (layLE_l64 X _ Rx.out).mono ?_
  rintro e w8 ⟨v8, rfl, ho, hb⟩
  have H8 := H7.push ho hb
  obtain ⟨A8, n8, c8, rfl, hn, -⟩ := ho.shape
  have hl8 : n8 ≤ 8 := by rw [hn.out, leL_length]; omega
  clear H7 ho hb hn
  have hL : LR (w8.alloc (.cells #[.slice A1 n1 c1, .slice A2 n2 c2, .slice A3 n3 c3, .slice A4 n4 c4, .slice A5 n5 c5, .slice A6 n6 c6, .slice A7 n7 c7, .slice A8 n8 c8] 22)) w8.heap.size 8 8 [.slice A1 n1 c1, .slice A2 n2 c2, .slice A3 n3 c3, .slice A4 n4 c4, .slice A5 n5 c5, .slice A6 n6 c6, .slice A7 n7 c7, .slice A8 n8 c8] := LR.lit _ _ _ rfl (by omega)
  have H8' := H8.call ((Below.refl _ _).alloc (Nat.le_refl _) (.cells #[.slice A1 n1 c1, .slice A2 n2 c2, .slice A3 n3 c3, .slice A4 n4 c4, .slice A5 n5 c5, .slice A6 n6 c6, .slice A7 n7 c7, .slice A8 n8 c8] 22))
  clear H8
  go_wp2_with fail
  refine (refLay_any Y 4 (by rfl) _ Ry2.out (by omega) (by omega)).mono ?_
  rintro e w9 ⟨v9, rfl, ho, hb⟩
  have H9 := H8'.push ho hb
  have hL := hL.below hb
  obtain ⟨A9, n9, c9, rfl, hn, -⟩ := ho.shape
  have hl9 : n9 ≤ 8 := by rw [hn.out, beL_length]; omega
  clear H8' ho hb hn
  go_wp2_with fail
  refine (refLay_any Y 4 (by rfl) _ Ry2.out (by omega) (by omega)).mono ?_
  rintro e w10 ⟨v10, rfl, ho, hb⟩
  have H10 := H9.push ho hb
  have hL := hL.below hb
  obtain ⟨A10, n10, c10, rfl, hn, -⟩ := ho.shape
  have hl10 : n10 ≤ 8 := by rw [hn.out, beL_length]; omega
  clear H9 ho hb hn
  go_wp2_with fail
  refine (refLayLE_any Y 4 (by rfl) _ Ry2.out (by omega)).mono ?_
  rintro e w11 ⟨v11, rfl, ho, hb⟩
  have H11 := H10.push ho hb
  have hL := hL.below hb
  obtain ⟨A11, n11, c11, rfl, hn, -⟩ := ho.shape
  have hl11 : n11 ≤ 8 := by rw [hn.out, leL_length]; omega
  clear H10 ho hb hn
  go_wp2_with fail
  refine (refLayLE_any Y 4 (by rfl) _ Ry2.out (by omega)).mono ?_
  rintro e w12 ⟨v12, rfl, ho, hb⟩
  have H12 := H11.push ho hb
  have hL := hL.below hb
  obtain ⟨A12, n12, c12, rfl, hn, -⟩ := ho.shape
  have hl12 : n12 ≤ 8 := by rw [hn.out, leL_length]; omega
  clear H11 ho hb hn
  go_wp2_with fail
  refine (refLay_any X 8 (by rfl) _ Rx.out (by omega) (by omega)).mono ?_
  rintro e w13 ⟨v13, rfl, ho, hb⟩
  have H13 := H12.push ho hb
  have hL := hL.below hb
  obtain ⟨A13, n13, c13, rfl, hn, -⟩ := ho.shape
  have hl13 : n13 ≤ 8 := by rw [hn.out, beL_length]; omega
  clear H12 ho hb hn
  go_wp2_with fail
  refine (refLay_any X 8 (by rfl) _ Rx.out (by omega) (by omega)).mono ?_
  rintro e w14 ⟨v14, rfl, ho, hb⟩
  have H14 := H13.push ho hb
  have hL := hL.below hb
  obtain ⟨A14, n14, c14, rfl, hn, -⟩ := ho.shape
  have hl14 : n14 ≤ 8 := by rw [hn.out, beL_length]; omega
  clear H13 ho hb hn
  go_wp2_with fail
  refine (refLayLE_any X 8 (by rfl) _ Rx.out (by omega)).mono ?_
  rintro e w15 ⟨v15, rfl, ho, hb⟩
  have H15 := H14.push ho hb
  have hL := hL.below hb
  obtain ⟨A15, n15, c15, rfl, hn, -⟩ := ho.shape
  have hl15 : n15 ≤ 8 := by rw [hn.out, leL_length]; omega
  clear H14 ho hb hn
  go_wp2_with fail
  refine (refLayLE_any X 8 (by rfl) _ Rx.out (by omega)).mono ?_
  rintro e w16 ⟨v16, rfl, ho, hb⟩
  have H16 := H15.push ho hb
  have hL := hL.below hb
  obtain ⟨A16, n16, c16, rfl, hn, -⟩ := ho.shape
  have hl16 : n16 ≤ 8 := by rw [hn.out, leL_length]; omega
  clear H15 ho hb hn
  have hM : LR (w16.alloc (.cells #[.slice A9 n9 c9, .slice A10 n10 c10, .slice A11 n11 c11, .slice A12 n12 c12, .slice A13 n13 c13, .slice A14 n14 c14, .slice A15 n15 c15, .slice A16 n16 c16] 22)) w16.heap.size 8 8 [.slice A9 n9 c9, .slice A10 n10 c10, .slice A11 n11 c11, .slice A12 n12 c12, .slice A13 n13 c13, .slice A14 n14 c14, .slice A15 n15 c15, .slice A16 n16 c16] := LR.lit _ _ _ rfl (by omega)
  have hL := hL.below ((Below.refl _ _).alloc (Nat.le_refl _) (.cells #[.slice A9 n9 c9, .slice A10 n10 c10, .slice A11 n11 c11, .slice A12 n12 c12, .slice A13 n13 c13, .slice A14 n14 c14, .slice A15 n15 c15, .slice A16 n16 c16] 22))
  have H17 := H16.call ((Below.refl _ _).alloc (Nat.le_refl _) (.cells #[.slice A9 n9 c9, .slice A10 n10 c10, .slice A11 n11 c11, .slice A12 n12 c12, .slice A13 n13 c13, .slice A14 n14 c14, .slice A15 n15 c15, .slice A16 n16 c16] 22))
  clear H16
  obtain ⟨ps, hps, H18⟩ := H17.name
  obtain ⟨gs, hgs, hL'⟩ := hL.name
  obtain ⟨ms, hms, hM'⟩ := hM.name
  clear H17 hL hM
  simp only [List.nil_append, List.cons_append] at hps
  have pair : ∀ k, k < 8 → ∃ A n c A' n' c' l, n ≤ 8 ∧ n' ≤ 8 ∧ ps[k]? = some (.slice A n c, l) ∧ ps[8 + k]? = some (.slice A' n' c', l) ∧ gs.getD k (.slice none 0 0) = .slice A n c ∧ ms.getD k (.slice none 0 0) = .slice A' n' c' := by
    intro k hk
    subst hps hgs hms
    have hc : k = 0 ∨ k = 1 ∨ k = 2 ∨ k = 3 ∨ k = 4 ∨ k = 5 ∨ k = 6 ∨ k = 7 := by omega
    rcases hc with rfl | rfl | rfl | rfl | rfl | rfl | rfl | rfl
    · exact ⟨A1, n1, c1, A9, n9, c9, _, hl1, hl9, rfl, rfl, rfl, rfl⟩
    · exact ⟨A2, n2, c2, A10, n10, c10, _, hl2, hl10, rfl, rfl, rfl, rfl⟩
    · exact ⟨A3, n3, c3, A11, n11, c11, _, hl3, hl11, rfl, rfl, rfl, rfl⟩
    · exact ⟨A4, n4, c4, A12, n12, c12, _, hl4, hl12, rfl, rfl, rfl, rfl⟩
    · exact ⟨A5, n5, c5, A13, n13, c13, _, hl5, hl13, rfl, rfl, rfl, rfl⟩
    · exact ⟨A6, n6, c6, A14, n14, c14, _, hl6, hl14, rfl, rfl, rfl, rfl⟩
    · exact ⟨A7, n7, c7, A15, n15, c15, _, hl7, hl15, rfl, rfl, rfl, rfl⟩
    · exact ⟨A8, n8, c8, A16, n16, c16, _, hl8, hl16, rfl, rfl, rfl, rfl⟩
  have PR := Lib.hid pair
  have HPS := Lib.hid hps
  have HGS := Lib.hid hgs
  clear pair hps hgs hms
  go_wp2
  go_loopw [7] (fun i wr => ∃ k : Nat, k ≤ 8 ∧ i = .int .i64 k ∧ St w wr ps ∧ LR wr w8.heap.size 8 8 gs ∧ LR wr w16.heap.size 8 8 ms) (fun i _ => 8 - (intOf i).toNat)
  case atStart => exact ⟨0, Nat.zero_le _, rfl, H18, hL', hM'⟩
  case round =>
    clear H18 hL' hM'
    obtain ⟨k, hk, rfl, H, hL, hM⟩ := hrel
    by_cases hlt : k < 8
    · obtain ⟨A, n, c, A', n', c', l, hn, hn', hp1, hp2, hv1, hv2⟩ := PR.out k hlt
      have hc1 := hL.cell hlt
      have hc2 := hM.cell hlt
      rw [hv1] at hc1
      rw [hv2] at hc2
      have hr1 := H.rd k hp1
      have hr2 := H.rd (8 + k) hp2
      clear hv1 hv2 hp1 hp2
      have hk8 : (k : Int) < 8 := by omega
      go_wp2
      go_quiet ((go_at_call 12; exact Calls.quiet_of (sameBytes_quiet A A' n n' c c' l l _ hr1 hr2 (by omega) (by omega) rfl)))
      go_wp2
      go_roundw
      case rel => exact ⟨k + 1, by omega, by go_num, H.drewN _, hL, hM⟩
      case measure => simp [intOf]; omega
    · clear hM
      go_wp2_with fail
      have hp := HPS.out
      refine (apartBytes_list H (ps.take 8) (List.range 8) (by decide) (by subst hp; rfl) 8 _ 8 gs hL (by subst hp; exact HGS.out) (by subst hp; rfl) (by omega) ?_).mono ?_
      · intro p hm
        subst hp
        simp only [List.take_succ_cons, List.take_zero, List.mem_cons, List.not_mem_nil, or_false] at hm
        rcases hm with rfl | rfl | rfl | rfl | rfl | rfl | rfl | rfl <;> simp only [beL_length, leL_length] <;> omega
      rintro e w14 ⟨rfl, hb14⟩
      go_wp2
      go_ret
      exact ⟨rfl, hb14⟩
end Go.Proofs.Ythocpfhajnnplaa
