/- The document's Permute without a ledger, walked. -/
import Derived.Test.YtoodgdcpkkfdgaaKecRF
import Derived.Test.YtoodgdcpkkfdgaaHeld
namespace Go.Proofs.Ytoodgdcpkkfdgaa
open Go.RowKit
set_option linter.unusedVariables false

theorem refNoteTimes_none (k s n : Int) (w : World) : Calls Try.prog 34 #[.pointer none, .agg #[.int .u8 k, .int .i64 s], .int .i64 n] w fun e w' => e = .returned (.tuple #[]) ∧ Below w.heap.size w w' := by
  go_enter Try.func34, Try.ntmps34
  go_wp2
  refine bodyPost_ret (results_none rfl _ _ _) rfl ⟨rfl, ?_⟩
  exact (Below.refl _ _).alloc (Nat.le_refl _) _
theorem refNote_none (k s : Int) (w : World) : Calls Try.prog 27 #[.pointer none, .agg #[.int .u8 k, .int .i64 s]] w fun e w' => e = .returned (.tuple #[]) ∧ Below w.heap.size w w' := by
  have H := St.start_lay w []
  go_enter Try.func27, Try.ntmps27
  go_wp2_with fail
  refine (refNoteTimes_none k s 1 _).mono ?_
  rintro e w1 ⟨rfl, hb1⟩
  go_wp2
  go_end0
  exact ⟨rfl, ((H.call ((Below.refl _ _).alloc (Nat.le_refl _) _)).call hb1).below⟩

set_option maxHeartbeats 2000000 in
theorem refPermute_none (s : List UInt64) (hs : Hid (s.length = 25)) (w : World) :
    Calls Try.prog 14 #[.pointer none, .agg (s.map u64v).toArray] w fun e w' => e = .returned (.agg ((kPerm s).map u64v).toArray) ∧ Below w.heap.size w w' := by
  have H0 := St.start_lay w []
  go_enter Try.func14, Try.ntmps14
  go_wp2_with fail
  refine absorb_calls (H0 |>.allocAt 0 rfl w.heap.size rfl _ _ |>.push_mk rfl |>.allocAt 1 rfl (w.heap.size + 1) (by simp) _ _ |>.push_mk rfl) ?_
  intro w1 H1
  clear H0
  generalize w.heap.size + 1 = g2 at H1 ⊢
  generalize w.heap.size = g1 at H1 ⊢
  refine (refNote_none 3 200 _).mono ?_
  rintro e w2 ⟨rfl, hb2⟩
  have H2 := H1.call hb2
  clear H1 hb2
  go_wp2
  go_loopw [5] (fun i wr => ∃ k : Nat, k ≤ 24 ∧ i = .int .i64 k ∧ St w [] wr (lay [.blk g1 24 ((kPermTo s k).map u64v), .blk g2 24 ((List.replicate 25 0).map u64v)])) (fun i _ => 24 - (intOf i).toNat)
  case atStart => exact ⟨0, by omega, rfl, H2⟩
  case round =>
    clear H2
    obtain ⟨k, hk, rfl, Hk⟩ := hrel
    by_cases hlt : k < 24
    · have HX : Hid ((kPermTo s k).length = 25) := by have := kPermTo_length s k; rw [hs.out] at this; exact this
      have HP : Hid (kPermTo s (k + 1) = kRound (kPermTo s k) (at64 kConsts k)) := rfl
      have HE := Lib.hid (rRound_eq (kPermTo s k) (at64 kConsts k) HX.out)
      have HY : Hid ((kRound (kPermTo s k) (at64 kConsts k)).length = 25) := by unfold Hid; rw [kRound_length, HX.out]
      generalize kPermTo s k = X at *
      generalize kRound X (at64 kConsts k) = Y at *
      have hk1 : (k : Int) < 24 := by omega
      have hU := Try.underlying24
      have hl : (Try.prog.info? 24).map (·.size) = some (X.map u64v).length := by rw [state24_size]; simp [HX.out]
      have H := Hk.drew
      go_wp2
      refine wp_region_held_drew (S := fun _ => True) (by kernel_rfl) trivial (fun hHeld => ?_)
      refine take_pure 1 (.int .i64 k) rfl (by kernel_rfl) (by kernel_rfl) (by kernel_rfl) (fun _ _ _ h => h) rfl (by intro w hSw; go_simp; try with_reducible rfl) trivial ?_
      try simp only [Act.put, List.setIfInBounds_toArray, List.set_cons_zero, List.set_cons_succ]
      refine wpAnyH_ready (rs := [0, 2]) (by kernel_rfl) (by simp) (AllReadyH.cons (drop_at rfl) (fun K hK => ?_) (AllReadyH.cons (drop_at rfl) (fun K hK => ?_) AllReadyH.nil))
      · rw [if_pos (by rfl)]
        refine wp_load_mid _ _ rfl g1 0 rfl (X.map u64v) _ (H.range 0 rfl) hU rfl hl ?_
        refine hK.out _ _ trivial (fun hHeld => ?_)
        clear hK K
        try simp only [Act.put, List.setIfInBounds_toArray, List.set_cons_zero, List.set_cons_succ]
        refine take_call 2 rfl (by kernel_rfl) (fun K hK => ?_)
        try go_simp
        refine (constant_any k hlt _).mono ?_
        rintro e w5 ⟨rfl, nq, rfl⟩
        replace H := H.drewN nq
        refine hK.out _ _ trivial (fun hHeld => ?_)
        clear hK K
        try simp only [Act.put, List.setIfInBounds_toArray, List.set_cons_zero, List.set_cons_succ]
        refine take_call 3 rfl (by kernel_rfl) (fun K hK => ?_)
        try go_simp
        replace H := Hk.drewN (1 + nq)
        refine (round_s X (at64 kConsts k) HX.out _).mono ?_
        rintro e w6 ⟨rfl, hb6⟩
        replace H := H.call hb6
        clear hb6
        rw [HE.out]
        refine hK.out _ _ trivial (fun hHeld => ?_)
        clear hK K
        try simp only [Act.put, List.setIfInBounds_toArray, List.set_cons_zero, List.set_cons_succ]
        refine take_call 4 rfl (by kernel_rfl) (fun K hK => ?_)
        rw [if_pos (by rfl)]
        refine wp_store_mid _ _ _ rfl g1 0 (Y.map u64v).toArray rfl rfl (there_eq (H.there 0 rfl) (by simp [HX.out, HY.out])) (by rw [state24_size]; simp [HY.out]) (all_oneCell_toArray (u64_one _)) ?_
        replace H := (H.storeAll 0 rfl (vs := Y.map u64v) (by simp [HX.out, HY.out])).upd_mk (by simp)
        refine hK.out _ _ trivial (fun hHeld => ?_)
        clear hK K
        try simp only [Act.put, List.setIfInBounds_toArray, List.set_cons_zero, List.set_cons_succ]
        refine wpAnyH_done (by kernel_rfl) ?_ _
        go_wp2
        go_roundw
        case rel => exact ⟨k + 1, by omega, by go_num, by rw [HP.out]; exact H⟩
        case measure => simp [intOf]; omega
      · try go_simp
        refine (constant_any k hlt _).mono ?_
        rintro e w5 ⟨rfl, nq, rfl⟩
        replace H := H.drewN nq
        refine hK.out _ _ trivial (fun hHeld => ?_)
        clear hK K
        try simp only [Act.put, List.setIfInBounds_toArray, List.set_cons_zero, List.set_cons_succ]
        refine take_call 0 rfl (by kernel_rfl) (fun K hK => ?_)
        rw [if_pos (by rfl)]
        refine wp_load_mid _ _ rfl g1 0 rfl (X.map u64v) _ (H.range 0 rfl) hU rfl hl ?_
        refine hK.out _ _ trivial (fun hHeld => ?_)
        clear hK K
        try simp only [Act.put, List.setIfInBounds_toArray, List.set_cons_zero, List.set_cons_succ]
        refine take_call 3 rfl (by kernel_rfl) (fun K hK => ?_)
        try go_simp
        replace H := Hk.drewN (1 + nq)
        refine (round_s X (at64 kConsts k) HX.out _).mono ?_
        rintro e w6 ⟨rfl, hb6⟩
        replace H := H.call hb6
        clear hb6
        rw [HE.out]
        refine hK.out _ _ trivial (fun hHeld => ?_)
        clear hK K
        try simp only [Act.put, List.setIfInBounds_toArray, List.set_cons_zero, List.set_cons_succ]
        refine take_call 4 rfl (by kernel_rfl) (fun K hK => ?_)
        rw [if_pos (by rfl)]
        refine wp_store_mid _ _ _ rfl g1 0 (Y.map u64v).toArray rfl rfl (there_eq (H.there 0 rfl) (by simp [HX.out, HY.out])) (by rw [state24_size]; simp [HY.out]) (all_oneCell_toArray (u64_one _)) ?_
        replace H := (H.storeAll 0 rfl (vs := Y.map u64v) (by simp [HX.out, HY.out])).upd_mk (by simp)
        refine hK.out _ _ trivial (fun hHeld => ?_)
        clear hK K
        try simp only [Act.put, List.setIfInBounds_toArray, List.set_cons_zero, List.set_cons_succ]
        refine wpAnyH_done (by kernel_rfl) ?_ _
        go_wp2
        go_roundw
        case rel => exact ⟨k + 1, by omega, by go_num, by rw [HP.out]; exact H⟩
        case measure => simp [intOf]; omega
    · obtain rfl : k = 24 := by omega
      rw [show ((24:Nat):Int) = 24 from rfl]
      have HX : Hid ((kPermTo s 24).length = 25) := by have := kPermTo_length s 24; rw [hs.out] at this; exact this
      have HE : Hid (kPermTo s 24 = kPerm s) := rfl
      rw [HE.out] at Hk HX
      go_wp2_with (first | (refine wpList_load_row rfl 24 (.tmp 3) rfl g1 rfl _ _ _ _ (Hk.blk 0 rfl) Try.underlying24 rfl (by rw [state24_size]; simp [HX.out]) ?_) | (refine wpList_store_mid rfl 24 (.tmp 4) (.tmp 17) rfl g2 0 _ rfl rfl (there_eq (Hk.there 1 rfl) (by simp [HX.out])) (by rw [state24_size]; simp [HX.out]) (all_oneCell_toArray (u64_one _)) ?_))
      have H4 := (Hk.storeAll 1 rfl (vs := (kPerm s).map u64v) (by simp [HX.out])).upd_mk (by simp)
      exact bodyPost_ret (results_cell_row rfl _ _ g2 24 ((kPerm s).map u64v).toArray _ _ rfl (H4.blk 1 rfl) Try.underlying24 rfl (by rw [state24_size]; simp [HX.out])) rfl ⟨rfl, H4.below⟩
end Go.Proofs.Ytoodgdcpkkfdgaa
