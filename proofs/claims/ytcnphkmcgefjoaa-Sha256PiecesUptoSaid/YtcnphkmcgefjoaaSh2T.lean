/- SHA-256: back to the beginning, walked. -/
import Derived.Test.YtcnphkmcgefjoaaSh2F
namespace Go.Proofs.Ytcnphkmcgefjoaa
open Go.RowKit
set_option linter.unusedVariables false
set_option maxRecDepth 100000
attribute [local irreducible] comp2 hTo
section
variable {w0 w : World} {F0 : List Nat} {E : Env}
set_option maxHeartbeats 1000000 in
theorem sh2Reset_s (g : Nat) (M : List UInt8) (H : St w0 F0 w E) (j : Nat) (hj : E j = some (.blk g 77 (sh2S M))) :
    Calls Try.prog 35 #[lptr g] w fun e w' => e = .returned (.int .i64 0) ∧ St w0 F0 w' (upd E j (.blk g 77 (sh2S []))) := by
  obtain ⟨F, HF, -, -, hback⟩ := H.frame1 j hj
  have HB := Lib.hid hback
  replace HF := HF.as1
  clear H hback hj
  have c0 := HF.cell 0 rfl (shVs_made (h2_length M) (w2_length M))
  go_enter Try.func35, Try.ntmps35
  go_wp2_with fail
  refine (sh2None_no g w c0).mono ?_
  rintro e w1 ⟨rfl, rfl⟩
  unfold lptr
  go_wp2_with fail
  refine (sh2New_s HF 1 rfl).mono ?_
  rintro e w2 ⟨g', rfl, H1⟩
  have H : St w F w2 (lay [.blk g 77 (sh2S M), .blk g' 77 (sh2S [])]) := H1.push_mk rfl
  clear H1 HF c0
  unfold lptr
  go_wp2_with (first | (with_reducible refine hold_store 77 (.tmp 9) (.tmp 8) (by rfl) ?_) | (refine wpList_load_row rfl 77 (.tmp 7) rfl g' rfl _ _ _ _ (H.blk 1 rfl) Try.underlying77 rfl (by rw [sh_size]; simp [sh2S_length]) ?_))
  refine Lib.hid ?_
  refine wpList_store_mid rfl 77 (.tmp 9) (.tmp 8) rfl g 0 (sh2S []).toArray rfl rfl (by have ht := H.there 0 rfl; rw [sh2S_length] at ht; rw [List.size_toArray, sh2S_length]; exact ht) (by rw [sh_size, List.size_toArray, sh2S_length]) (all_oneCell_toArray (sh2S_one [])) ?_
  have H2 := ((H.storeAll 0 rfl (vs := sh2S []) (by rw [sh2S_length, sh2S_length])).upd_mk (by simp)).front 1
  show wpList Try.prog _ _ [] _ (w2.setCells g 0 (sh2S []))
  generalize w2.setCells g 0 (sh2S []) = w4 at H2 ⊢
  go_wp2
  go_ret
  exact ⟨rfl, HB.out _ _ (H2.to1 rfl)⟩
end
end Go.Proofs.Ytcnphkmcgefjoaa
