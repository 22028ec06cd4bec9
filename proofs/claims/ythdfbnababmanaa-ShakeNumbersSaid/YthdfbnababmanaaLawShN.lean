/- The law ShakeNumbers, walked. -/
import Derived.Test.YthdfbnababmanaaShPad
namespace Go.Proofs.Ythdfbnababmanaa
open Go.RowKit
set_option linter.unusedVariables false

theorem leftI_le (N : Int) (h : N ≤ 9223372036854775807) : (leftI N).length ≤ 9 := by
  unfold leftI
  split
  · simp
  · exact leftB_le (by omega)
theorem rightI_le (N : Int) (h : N ≤ 9223372036854775807) : (rightI N).length ≤ 9 := by
  unfold rightI rightB
  split
  · simp
  · have := numB_le (n := N.toNat) (by omega); simp; omega
theorem strB_le (l : List UInt8) (h : l.length ≤ 140737488351232) : (strB l).length ≤ l.length + 9 := by
  unfold strB
  have := leftB_le (n := 8 * l.length) (by omega)
  simp; omega
theorem padI_le (l : List UInt8) (W : Int) : (padI l W).length ≤ l.length + 9 + 256 := by
  unfold padI
  split
  · rename_i h
    obtain ⟨h1, h2⟩ := h
    have h3 := leftB_le (n := W.toNat) (by omega)
    have h4 : padN l W.toNat < W.toNat := Nat.mod_lt _ (by omega)
    unfold padB
    simp; omega
  · simp

set_option maxRecDepth 100000 in
set_option maxHeartbeats 4000000 in
theorem shakeNumbers_walk (N : Int) (A : Option Addr) (n c : Nat) (l : List UInt8) (W : Int) (w : World) (hN1 : -9223372036854775808 ≤ N) (hN2 : N ≤ 9223372036854775807) (hR : Rd w 1 A n (l.map vb)) (hn : n ≤ 140737488351232) (hW1 : -9223372036854775808 ≤ W) (hW2 : W ≤ 9223372036854775807) :
    Calls Try.prog 3 #[.int .i64 N, .slice A n c, .int .i64 W] w fun e w' => e = .returned (.bool true) ∧ Below w.heap.size w w' := by
  have hl : l.length = n := by simpa using hR.1
  have q1 := leftI_le N hN2
  have q2 := rightI_le N hN2
  have q3 := strB_le l (by omega)
  have q4 := padI_le l W
  rw [hl] at q3 q4
  have HL := Lib.hid hl
  have HQ := Lib.hid (And.intro q1 (And.intro q2 (And.intro q3 q4)))
  clear hl q1 q2 q3 q4 hN1 hW1
  have H := St.start_lay w []
  go_enter Try.func3, Try.ntmps3
  go_wp2_with fail
  refine (lentBytes_any A n c l w hR (by omega)).mono ?_
  rintro e w2 ⟨v0, rfl, ho, hb2⟩
  obtain ⟨gF, cF, rfl, hcF, -, -⟩ := ho.lent HL.out
  replace H := (H.pushOwnB 0 rfl ho hb2).push_mk rfl
  have LX : Hid ((l ++ marksB 7 0 6).length = n + 6) := by unfold Hid; rw [List.length_append, marksB_length, HL.out]
  replace H := H.shape_row 0 rfl LX.out rfl
  clear ho hb2 LX
  generalize hX : l ++ marksB 7 0 6 = X at H
  have HX := Lib.hid hX
  clear hX
  replace H : St w [] w2 (lay [.row 5 1 (.slice (some ⟨gF, 0, none⟩) (n + 6) cF) (n + 6) (X.map vb)]) := H
  have kn : (n : Int) ≤ cF := by omega
  have qn : ¬ cF = 0 := by omega
  go_wp2_with fail
  refine (left_s N _ hN2).mono ?_
  rintro e wx ⟨v1, rfl, ho, hb⟩
  obtain ⟨LL, HLL⟩ : ∃ L, Hid (leftI N = L) := ⟨_, rfl⟩
  rw [HLL.out] at ho
  replace H := (H.pushOwnB 1 rfl ho hb).push_mk rfl
  obtain ⟨A1, c1, rfl, -⟩ := row_form (H.row 1 rfl)
  clear ho hb
  replace H : St w [] wx (lay [.row 5 1 (.slice (some ⟨gF, 0, none⟩) (n + 6) cF) (n + 6) (X.map vb), .row 5 1 (.slice A1 LL.length c1) LL.length (LL.map vb)]) := H
  go_wp2_with fail
  refine (right_s N _ hN2).mono ?_
  rintro e wx ⟨v2, rfl, ho, hb⟩
  obtain ⟨LR, HLR⟩ : ∃ L, Hid (rightI N = L) := ⟨_, rfl⟩
  rw [HLR.out] at ho
  replace H := (H.pushOwnB 2 rfl ho hb).push_mk rfl
  obtain ⟨A2, c2, rfl, -⟩ := row_form (H.row 2 rfl)
  clear ho hb
  replace H : St w [] wx (lay [.row 5 1 (.slice (some ⟨gF, 0, none⟩) (n + 6) cF) (n + 6) (X.map vb), .row 5 1 (.slice A1 LL.length c1) LL.length (LL.map vb), .row 5 1 (.slice A2 LR.length c2) LR.length (LR.map vb)]) := H
  go_wp2_with fail
  refine (string_s _ n cF l _ (Rd.front (k := marksB 7 0 6) (m := n + 6) (by rw [HX.out]; exact H.rd 0 rfl) HL.out (by omega)) hn).mono ?_
  rintro e wx ⟨v3, rfl, ho, hb⟩
  obtain ⟨LS, HLS⟩ : ∃ L, Hid (strB l = L) := ⟨_, rfl⟩
  rw [HLS.out] at ho
  replace H := (H.pushOwnB 3 rfl ho hb).push_mk rfl
  obtain ⟨A3, c3, rfl, -⟩ := row_form (H.row 3 rfl)
  clear ho hb
  replace H : St w [] wx (lay [.row 5 1 (.slice (some ⟨gF, 0, none⟩) (n + 6) cF) (n + 6) (X.map vb), .row 5 1 (.slice A1 LL.length c1) LL.length (LL.map vb), .row 5 1 (.slice A2 LR.length c2) LR.length (LR.map vb), .row 5 1 (.slice A3 LS.length c3) LS.length (LS.map vb)]) := H
  go_wp2_with fail
  refine (pad_s _ n cF l W _ (Rd.front (k := marksB 7 0 6) (m := n + 6) (by rw [HX.out]; exact H.rd 0 rfl) HL.out (by omega)) hn).mono ?_
  rintro e wx ⟨v4, rfl, ho, hb⟩
  obtain ⟨LP, HLP⟩ : ∃ L, Hid (padI l W = L) := ⟨_, rfl⟩
  rw [HLP.out] at ho
  replace H := (H.pushOwnB 4 rfl ho hb).push_mk rfl
  obtain ⟨A4, c4, rfl, -⟩ := row_form (H.row 4 rfl)
  clear ho hb
  replace H : St w [] wx (lay [.row 5 1 (.slice (some ⟨gF, 0, none⟩) (n + 6) cF) (n + 6) (X.map vb), .row 5 1 (.slice A1 LL.length c1) LL.length (LL.map vb), .row 5 1 (.slice A2 LR.length c2) LR.length (LR.map vb), .row 5 1 (.slice A3 LS.length c3) LS.length (LS.map vb), .row 5 1 (.slice A4 LP.length c4) LP.length (LP.map vb)]) := H
  go_wp2_with fail
  refine (string_s _ n cF l _ (Rd.front (k := marksB 7 0 6) (m := n + 6) (by rw [HX.out]; exact H.rd 0 rfl) HL.out (by omega)) hn).mono ?_
  rintro e wx ⟨v5, rfl, ho, hb⟩
  rw [HLS.out] at ho
  replace H := (H.pushOwnB 5 rfl ho hb).push_mk rfl
  obtain ⟨A5, c5, rfl, -⟩ := row_form (H.row 5 rfl)
  clear ho hb
  replace H : St w [] wx (lay [.row 5 1 (.slice (some ⟨gF, 0, none⟩) (n + 6) cF) (n + 6) (X.map vb), .row 5 1 (.slice A1 LL.length c1) LL.length (LL.map vb), .row 5 1 (.slice A2 LR.length c2) LR.length (LR.map vb), .row 5 1 (.slice A3 LS.length c3) LS.length (LS.map vb), .row 5 1 (.slice A4 LP.length c4) LP.length (LP.map vb), .row 5 1 (.slice A5 LS.length c5) LS.length (LS.map vb)]) := H
  go_wp2_with fail
  refine (refLeft_s N _ hN2).mono ?_
  rintro e wx ⟨v6, rfl, ho, hb⟩
  rw [HLL.out] at ho
  replace H := (H.pushOwnB 6 rfl ho hb).push_mk rfl
  obtain ⟨A6, c6, rfl, -⟩ := row_form (H.row 6 rfl)
  clear ho hb
  replace H : St w [] wx (lay [.row 5 1 (.slice (some ⟨gF, 0, none⟩) (n + 6) cF) (n + 6) (X.map vb), .row 5 1 (.slice A1 LL.length c1) LL.length (LL.map vb), .row 5 1 (.slice A2 LR.length c2) LR.length (LR.map vb), .row 5 1 (.slice A3 LS.length c3) LS.length (LS.map vb), .row 5 1 (.slice A4 LP.length c4) LP.length (LP.map vb), .row 5 1 (.slice A5 LS.length c5) LS.length (LS.map vb), .row 5 1 (.slice A6 LL.length c6) LL.length (LL.map vb)]) := H
  go_wp2_with fail
  refine (refRight_s N _ hN2).mono ?_
  rintro e wx ⟨v7, rfl, ho, hb⟩
  rw [HLR.out] at ho
  replace H := (H.pushOwnB 7 rfl ho hb).push_mk rfl
  obtain ⟨A7, c7, rfl, -⟩ := row_form (H.row 7 rfl)
  clear ho hb
  replace H : St w [] wx (lay [.row 5 1 (.slice (some ⟨gF, 0, none⟩) (n + 6) cF) (n + 6) (X.map vb), .row 5 1 (.slice A1 LL.length c1) LL.length (LL.map vb), .row 5 1 (.slice A2 LR.length c2) LR.length (LR.map vb), .row 5 1 (.slice A3 LS.length c3) LS.length (LS.map vb), .row 5 1 (.slice A4 LP.length c4) LP.length (LP.map vb), .row 5 1 (.slice A5 LS.length c5) LS.length (LS.map vb), .row 5 1 (.slice A6 LL.length c6) LL.length (LL.map vb), .row 5 1 (.slice A7 LR.length c7) LR.length (LR.map vb)]) := H
  go_wp2_with fail
  refine (refPad_s A n c l W _ (H.arg0 hR) hn).mono ?_
  rintro e wx ⟨v8, rfl, ho, hb⟩
  rw [HLP.out] at ho
  replace H := (H.pushOwnB 8 rfl ho hb).push_mk rfl
  obtain ⟨A8, c8, rfl, -⟩ := row_form (H.row 8 rfl)
  clear ho hb
  replace H : St w [] wx (lay [.row 5 1 (.slice (some ⟨gF, 0, none⟩) (n + 6) cF) (n + 6) (X.map vb), .row 5 1 (.slice A1 LL.length c1) LL.length (LL.map vb), .row 5 1 (.slice A2 LR.length c2) LR.length (LR.map vb), .row 5 1 (.slice A3 LS.length c3) LS.length (LS.map vb), .row 5 1 (.slice A4 LP.length c4) LP.length (LP.map vb), .row 5 1 (.slice A5 LS.length c5) LS.length (LS.map vb), .row 5 1 (.slice A6 LL.length c6) LL.length (LL.map vb), .row 5 1 (.slice A7 LR.length c7) LR.length (LR.map vb), .row 5 1 (.slice A8 LP.length c8) LP.length (LP.map vb)]) := H
  go_wp2_with fail
  have f1 := b_bne (errI N)
  have f2 := b_bne (padE W)
  go_wp2_with fail
  refine (keptBytes_yes _ A (n + 6) n cF c X l _ (H.rd 0 rfl) (H.arg0 hR) (by omega) (by omega) HX.out.symm).mono ?_
  rintro e wx ⟨rfl, hbx⟩
  replace H := H.call hbx
  clear hbx f1 f2
  go_wp2_with fail
  refine (over_st H 0 rfl (by omega)).mono ?_
  rintro e wx ⟨rfl, H'⟩
  replace H := H'.upd_mk (by simp)
  clear H'
  have HM : Hid ((marksB 9 0 (n + 6)).length = n + 6) := marksB_length _ _ _
  generalize marksB 9 0 (n + 6) = Y at H HM
  have z1 : LL.length ≤ 9223372036854775807 := by rw [← HLL.out]; have := HQ.out.1; omega
  have z2 : LR.length ≤ 9223372036854775807 := by rw [← HLR.out]; have := HQ.out.2.1; omega
  have z3 : LS.length ≤ 9223372036854775807 := by rw [← HLS.out]; have := HQ.out.2.2.1; omega
  have z4 : LP.length ≤ 9223372036854775807 := by rw [← HLP.out]; have := HQ.out.2.2.2; omega
  replace H : St w [] wx (lay [.row 5 1 (.slice (some ⟨gF, 0, none⟩) (n + 6) cF) (n + 6) (Y.map vb), .row 5 1 (.slice A1 LL.length c1) LL.length (LL.map vb), .row 5 1 (.slice A2 LR.length c2) LR.length (LR.map vb), .row 5 1 (.slice A3 LS.length c3) LS.length (LS.map vb), .row 5 1 (.slice A4 LP.length c4) LP.length (LP.map vb), .row 5 1 (.slice A5 LS.length c5) LS.length (LS.map vb), .row 5 1 (.slice A6 LL.length c6) LL.length (LL.map vb), .row 5 1 (.slice A7 LR.length c7) LR.length (LR.map vb), .row 5 1 (.slice A8 LP.length c8) LP.length (LP.map vb)]) := H
  go_wp2_with fail
  refine (sameBytes_quiet A1 A6 LL.length LL.length c1 c6 LL LL _ (H.rd 1 rfl) (H.rd 6 rfl) z1 z1 rfl).mono ?_
  rintro e wx ⟨rfl, q, rfl⟩
  replace H := H.drewN q
  generalize World.drewN _ q = wx at H ⊢
  go_wp2_with fail
  refine (sameBytes_quiet A2 A7 LR.length LR.length c2 c7 LR LR _ (H.rd 2 rfl) (H.rd 7 rfl) z2 z2 rfl).mono ?_
  rintro e wx ⟨rfl, q, rfl⟩
  replace H := H.drewN q
  generalize World.drewN _ q = wx at H ⊢
  go_wp2_with fail
  refine (refString_s A n c l _ (H.arg0 hR) hn).mono ?_
  rintro e wx ⟨v9, rfl, ho, hb⟩
  rw [HLS.out] at ho
  replace H := (H.pushOwnB 9 rfl ho hb).push_mk rfl
  obtain ⟨A9, c9, rfl, -⟩ := row_form (H.row 9 rfl)
  clear ho hb
  replace H : St w [] wx (lay [.row 5 1 (.slice (some ⟨gF, 0, none⟩) (n + 6) cF) (n + 6) (Y.map vb), .row 5 1 (.slice A1 LL.length c1) LL.length (LL.map vb), .row 5 1 (.slice A2 LR.length c2) LR.length (LR.map vb), .row 5 1 (.slice A3 LS.length c3) LS.length (LS.map vb), .row 5 1 (.slice A4 LP.length c4) LP.length (LP.map vb), .row 5 1 (.slice A5 LS.length c5) LS.length (LS.map vb), .row 5 1 (.slice A6 LL.length c6) LL.length (LL.map vb), .row 5 1 (.slice A7 LR.length c7) LR.length (LR.map vb), .row 5 1 (.slice A8 LP.length c8) LP.length (LP.map vb), .row 5 1 (.slice A9 LS.length c9) LS.length (LS.map vb)]) := H
  go_wp2_with fail
  refine (sameBytes_quiet A3 A9 LS.length LS.length c3 c9 LS LS _ (H.rd 3 rfl) (H.rd 9 rfl) z3 z3 rfl).mono ?_
  rintro e wx ⟨rfl, q, rfl⟩
  replace H := H.drewN q
  generalize World.drewN _ q = wx at H ⊢
  go_wp2_with fail
  refine (sameBytes_quiet A4 A8 LP.length LP.length c4 c8 LP LP _ (H.rd 4 rfl) (H.rd 8 rfl) z4 z4 rfl).mono ?_
  rintro e wx ⟨rfl, q, rfl⟩
  replace H := H.drewN q
  generalize World.drewN _ q = wx at H ⊢
  go_wp2_with fail
  refine (sameBytes_quiet A5 A3 LS.length LS.length c5 c3 LS LS _ (H.rd 5 rfl) (H.rd 3 rfl) z3 z3 rfl).mono ?_
  rintro e wx ⟨rfl, q, rfl⟩
  replace H := H.drewN q
  generalize World.drewN _ q = wx at H ⊢
  go_wp2_with fail
  replace H := H.shape_row 0 rfl (n' := Y.length) (xs' := Y.map vb) HM.out.symm rfl
  refine (apart_st H [(.slice (some ⟨gF, 0, none⟩) (n + 6) cF, Y), (.slice A1 LL.length c1, LL), (.slice A2 LR.length c2, LR), (.slice A3 LS.length c3, LS), (.slice A4 LP.length c4, LP), (.slice A5 LS.length c5, LS)] id (fun i j _ _ h => h) ?_ 6 rfl (by omega) ?_ _ rfl).mono ?_
  · intro i p hp
    match i, hp with
    | 0, hp => cases hp; rfl
    | 1, hp => cases hp; rfl
    | 2, hp => cases hp; rfl
    | 3, hp => cases hp; rfl
    | 4, hp => cases hp; rfl
    | 5, hp => cases hp; rfl
    | i + 6, hp => simp at hp
  · intro p hp
    have h0 := HM.out
    have h1 := HQ.out.1
    have h2 := HQ.out.2.1
    have h3 := HQ.out.2.2.1
    have h4 := HQ.out.2.2.2
    rw [HLL.out] at h1
    rw [HLR.out] at h2
    rw [HLS.out] at h3
    rw [HLP.out] at h4
    simp only [List.mem_cons, List.not_mem_nil, or_false] at hp
    rcases hp with rfl | rfl | rfl | rfl | rfl | rfl <;> simp only <;> omega
  rintro e wz ⟨rfl, hbz⟩
  go_wp2_with fail
  go_ret
  exact ⟨rfl, hbz⟩
end Go.Proofs.Ythdfbnababmanaa
