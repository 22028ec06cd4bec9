/- SHA-256: a state's form, walked; its length; a copy; back to the beginning. -/
import Derived.Test.YtcnphkmcgefjoaaSh2L
namespace Go.Proofs.Ytcnphkmcgefjoaa
open Go.RowKit
set_option linter.unusedVariables false
set_option maxRecDepth 100000

attribute [local irreducible] comp2 hTo

def form2 (M : List UInt8) : List UInt8 := laid4 (h2 M) 8 ++ beL 8 M.length ++ w2' M
theorem form2_length (M : List UInt8) : (form2 M).length = 104 := by
  unfold form2
  rw [List.length_append, List.length_append, laid4_length (by rw [h2_length]; omega), beL_length, w2_length]

section
variable {w0 w : World} {F0 : List Nat} {E : Env}

set_option maxHeartbeats 4000000 in
theorem sh2Form_s (g : Nat) (M : List UInt8) (H : St w0 F0 w E) (j k : Nat) (hj : E j = some (.blk g 77 (sh2S M))) (hk : E k = none) (hn : M.length ≤ 281474976710656) :
    Calls Try.prog 22 #[lptr g] w fun e w' => ∃ v, e = .returned v ∧ St w0 F0 w' (upd E k (.row 5 1 v 104 ((form2 M).map vb))) := by
  obtain ⟨i0, hi0, hz0, hz1, hz2⟩ := info_parts u8_info
  have HI0 := Lib.hid (⟨hi0, hz0, hz1, hz2⟩ : _ ∧ _ ∧ _ ∧ _)
  clear hi0 hz0 hz1 hz2
  obtain ⟨F, HF, -, -, hback⟩ := H.frame1 j hj
  have HB := Lib.hid hback
  have HJ := Lib.hid hj
  have HK := Lib.hid hk
  replace HF := HF.as1
  clear H hback hj hk
  have c0 := HF.cell 0 rfl (shVs_made (h2_length M) (w2_length M))
  go_enter Try.func22, Try.ntmps22
  go_wp2_with fail
  refine (sh2None_no g w c0).mono ?_
  rintro e w1 ⟨rfl, rfl⟩
  unfold lptr
  have H : St w F w (lay [.blk g 77 (sh2S M)]) := HF
  clear HF c0
  have HC8 : Hid (∀ w' X, St w F w' X → X 0 = some (.blk g 77 (sh2S M)) → w'.cell? ⟨g, 8, none⟩ = some (.int .i64 (M.length : Int))) := fun w' X h hX => h.cell 0 hX (shVs_n (h2_length M))
  go_upto_region 3 with fail
  replace H := H.drew
  refine wp_region_held_drew (S := fun w' : World => w'.cell? ⟨g, 8, none⟩ = some (.int .i64 (M.length : Int))) (by kernel_rfl) ?_ (fun hHeld => ?_)
  · exact HC8.out _ _ H rfl
  refine takeV 0 rfl (by intro w h; clear h; go_simp; try with_reducible rfl) (by kernel_rfl) (by kernel_rfl) (by kernel_rfl) (by exact fun _ _ _ h => h) (by rfl) (by assumption) ?_
  try simp only [Act.put, List.setIfInBounds_toArray, List.set_cons_zero, List.set_cons_succ]
  refine takeV 2 rfl (by intro w h; clear h; go_simp; try with_reducible rfl) (by kernel_rfl) (by kernel_rfl) (by kernel_rfl) (by exact fun _ _ _ h => h) (by rfl) (by assumption) ?_
  try simp only [Act.put, List.setIfInBounds_toArray, List.set_cons_zero, List.set_cons_succ]
  refine takeV 3 rfl (by intro w h; clear h; go_simp; try with_reducible rfl) (by kernel_rfl) (by kernel_rfl) (by kernel_rfl) (by exact fun _ _ _ h => h) (by rfl) (by assumption) ?_
  try simp only [Act.put, List.setIfInBounds_toArray, List.set_cons_zero, List.set_cons_succ]
  refine takeV 4 rfl (by intro w h; clear h; go_simp; try with_reducible rfl) (by kernel_rfl) (by kernel_rfl) (by kernel_rfl) (by exact fun _ _ _ h => h) (by rfl) (by assumption) ?_
  try simp only [Act.put, List.setIfInBounds_toArray, List.set_cons_zero, List.set_cons_succ]
  refine takeV 5 rfl (by intro w h; have hc := h; clear h; go_simp; try with_reducible rfl) (by kernel_rfl) (by kernel_rfl) (by kernel_rfl) (by exact fun _ _ _ h => h) (by rfl) (by assumption) ?_
  try simp only [Act.put, List.setIfInBounds_toArray, List.set_cons_zero, List.set_cons_succ]
  refine takeV 6 rfl (by intro w h; clear h; go_simp; try with_reducible rfl) (by kernel_rfl) (by kernel_rfl) (by kernel_rfl) (by exact fun _ _ _ h => h) (by rfl) (by assumption) ?_
  try simp only [Act.put, List.setIfInBounds_toArray, List.set_cons_zero, List.set_cons_succ]
  refine take_call 1 rfl (by kernel_rfl) (fun K hK => ?_)
  try go_simp
  refine (sh2Words_s g (h2 M) _ _ H 0 rfl (h2_length M)).mono ?_
  rintro e wa ⟨v1, rfl, ho, hb⟩
  unfold OwnB at ho
  rw [laid4_length (by rw [h2_length]; omega)] at ho
  replace H := (H.pushRow 1 rfl hb ho).push_mk rfl
  clear ho hb
  obtain ⟨A1, c1, rfl, -, -⟩ := row_form (H.row 1 rfl)
  refine hK.out _ _ ?_ (fun hHeld => ?_)
  · exact HC8.out _ _ H rfl
  clear hK K
  try simp only [Act.put, List.setIfInBounds_toArray, List.set_cons_zero, List.set_cons_succ]
  rw [show IntKind.u64.wrap (M.length : Int) = (M.length : Int) from IntWalk.u64_in _ (by omega)]
  refine take_call 7 rfl (by kernel_rfl) (fun K hK => ?_)
  try go_simp
  refine (lay_u64 M.length _ (by omega)).mono ?_
  rintro e wb ⟨v2, rfl, ho, hb⟩
  unfold OwnB at ho
  rw [beL_length] at ho
  replace H := (H.pushRow 2 rfl hb ho).push_mk rfl
  clear ho hb
  obtain ⟨A2, c2, rfl, -, -⟩ := row_form (H.row 2 rfl)
  refine hK.out _ _ ?_ (fun hHeld => ?_)
  · exact HC8.out _ _ H rfl
  clear hK K
  try simp only [Act.put, List.setIfInBounds_toArray, List.set_cons_zero, List.set_cons_succ]
  refine take_call 8 rfl (by kernel_rfl) (fun K hK => ?_)
  obtain ⟨hi0, hz0, hz1, hz2⟩ := HI0.out
  refine step_append_any _ (by rfl) (.tmp 7) (.tmp 13) _ (by rfl) 0 5 i0 (.int .u8 0) 1 1 Try.underlying22 hi0 hz0 hz1 hz2 rfl (by omega) (.slice A1 (4 * 8) c1) (4 * 8) ((laid4 (h2 M) 8).map vb) (by rfl) (H.row 1 rfl) A2 8 c2 ((beL 8 M.length).map vb) (by rfl) (H.rd 2 rfl) (vb_one _) (by simp only [maxLen]; omega) (by omega) (Nat.zero_le _) ?_
  intro v3 w5 hown hg2 hat
  replace H := ((H.grow 1 rfl hown hg2 hat).upd_mk (by simp)).front 2
  refine hK.out _ _ (HC8.out _ _ H rfl) (fun hHeld => ?_)
  clear hK K hown hg2 hat hi0 hz0 hz1 hz2
  try simp only [Act.put, List.setIfInBounds_toArray, List.set_cons_zero, List.set_cons_succ]
  refine takeV 9 rfl (by intro w h; clear h; go_simp; try with_reducible rfl) (by kernel_rfl) (by kernel_rfl) (by kernel_rfl) (by exact fun _ _ _ h => h) (by rfl) (by assumption) ?_
  try simp only [Act.put, List.setIfInBounds_toArray, List.set_cons_zero, List.set_cons_succ]
  refine wpAnyH_done (by kernel_rfl) ?_ _
  clear hHeld
  rw [← List.map_append] at H
  obtain ⟨A1, c1, rfl, -, -⟩ := row_form (H.row 1 rfl)
  replace H : St w F w5 (lay [.blk g 77 (sh2S M), .row 5 1 (.slice A1 40 c1) 40 ((laid4 (h2 M) 8 ++ beL 8 M.length).map vb)]) := H
  go_wp2_with (at_builtin; refine hold_here' ?_)
  refine Lib.hid ?_
  obtain ⟨hi0, hz0, hz1, hz2⟩ := HI0.out
  refine wpList_append_any _ rfl (.tmp 15) (.tmp 19) _ rfl 0 5 i0 _ 1 1 Try.underlying22 hi0 hz0 hz1 hz2 rfl (by omega) (.slice A1 40 c1) 40 ((laid4 (h2 M) 8 ++ beL 8 M.length).map vb) rfl (H.row 1 rfl) (some ⟨g, 9, none⟩) 64 64 ((w2' M).map vb) rfl (H.shRd 0 rfl (h2_length M) (w2_length M)) (vb_one _) (by simp only [maxLen]; omega) (by omega) (by omega) ?_
  intro v6 w6 hown6 hg6 hat6
  replace H := (H.grow 1 rfl hown6 hg6 hat6).upd_mk (by simp)
  rw [← List.map_append] at H
  clear hown6 hg6 hat6 hi0 hz0 hz1 hz2
  have H2 : St w F w6 (lay [.blk g 77 (sh2S M), .row 5 1 v6 104 ((form2 M).map vb)]) := H
  clear H
  obtain ⟨A6, c6, rfl, -, -⟩ := row_form (H2.row 1 rfl)
  go_wp2
  go_ret
  have H3 := St.one_more2 HJ.out HK.out HB.out H2
  rw [upd_id HJ.out] at H3
  exact ⟨_, rfl, H3⟩

set_option maxHeartbeats 1000000 in
theorem sh2Len_s (g : Nat) (M : List UInt8) (H : St w0 F0 w E) (j : Nat) (hj : E j = some (.blk g 77 (sh2S M))) :
    Calls Try.prog 27 #[lptr g] w fun e w' => e = .returned (.int .i64 (M.length : Int)) ∧ w = w' := by
  have c0 := H.cell j hj (shVs_made (h2_length M) (w2_length M))
  have c8 := H.cell j hj (shVs_n (n := M.length) (b := w2' M) (h2_length M))
  clear H hj
  go_enter Try.func27, Try.ntmps27
  go_wp2_with fail
  refine (sh2None_no g w c0).mono ?_
  rintro e w1 ⟨rfl, rfl⟩
  unfold lptr
  go_wp2
  go_ret
  exact ⟨rfl, rfl⟩

set_option maxHeartbeats 1000000 in
theorem sh2Clone_s (g : Nat) (M : List UInt8) (H : St w0 F0 w E) (j k : Nat) (hj : E j = some (.blk g 77 (sh2S M))) (hk : E k = none) :
    Calls Try.prog 33 #[lptr g] w fun e w' => ∃ g', e = .returned (.tuple #[lptr g', .int .i64 0]) ∧ St w0 F0 w' (upd E k (.blk g' 77 (sh2S M))) := by
  have c0 := H.cell j hj (shVs_made (h2_length M) (w2_length M))
  have hz0 := zero_sh
  have HJ := Lib.hid hj
  have HK := Lib.hid hk
  clear hj hk
  go_enter Try.func33, Try.ntmps33
  go_wp2_with fail
  refine (sh2None_no g w c0).mono ?_
  rintro e w1 ⟨rfl, rfl⟩
  unfold lptr
  go_wp2_with (first | (with_reducible refine hold_store 77 (.tmp 4) (.tmp 9) (by rfl) ?_) | (refine wpList_load_row rfl 77 (.tmp 8) rfl g rfl _ _ _ _ (H.blk j HJ.out) Try.underlying77 rfl (by rw [sh_size]; simp [sh2S_length]) ?_))
  refine Lib.hid ?_
  refine absorb_list (H.allocAt k HK.out w.heap.size rfl shZ.toArray 77) ?_
  clear H c0
  intro w3 H
  generalize w.heap.size = gt at H ⊢
  refine wpList_store_mid rfl 77 (.tmp 4) (.tmp 9) rfl gt 0 (sh2S M).toArray rfl rfl (by have ht := H.there k upd_same; rw [List.size_toArray, sh2S_length]; exact ht) (by rw [sh_size, List.size_toArray, sh2S_length]) (all_oneCell_toArray (sh2S_one M)) ?_
  have H2 := H.storeAll k upd_same (vs := sh2S M) (by rw [sh2S_length]; rfl)
  rw [upd_upd] at H2
  show wpList Try.prog _ _ [] _ (w3.setCells gt 0 (sh2S M))
  generalize w3.setCells gt 0 (sh2S M) = w4 at H2 ⊢
  go_wp2
  go_ret2
  exact ⟨_, rfl, H2⟩

end
end Go.Proofs.Ytcnphkmcgefjoaa
