/- The document's Bytes and From, walked. -/
import Derived.Test.YtoodgdcpkkfdgaaKecL
import Derived.Test.YtoodgdcpkkfdgaaKecBack
namespace Go.Proofs.Ytoodgdcpkkfdgaa
open Go.RowKit
set_option linter.unusedVariables false

theorem kBytes_get (s : List UInt64) (k : Nat) (hk : k < 8 * s.length) : (kBytes s)[k]? = some (UInt8.ofNat ((at64 s (k / 8)).toNat / 256 ^ (k % 8))) := by
  have h := flat_get s (k / 8) (k % 8) (by omega) (by omega)
  rw [show 8 * (k / 8) + k % 8 = k by omega, leL_get (by omega)] at h
  exact h
theorem quo8 (k : Nat) : (k : Int).tdiv 8 = ((k / 8 : Nat) : Int) := by
  rw [Int.tdiv_eq_ediv_of_nonneg (Int.natCast_nonneg _)]; rfl
theorem rem8 (k : Nat) : (k : Int).tmod 8 = ((k % 8 : Nat) : Int) := by
  rw [Int.tmod_eq_emod_of_nonneg (Int.natCast_nonneg _)]; rfl

set_option maxHeartbeats 2000000 in
theorem refBytes_s (s : List UInt64) (hs : Hid (s.length = 25)) (w : World) :
    Calls Try.prog 8 #[.agg (s.map u64v).toArray] w fun e w' => e = .returned (.agg ((kBytes s).map vb).toArray) ∧ Below w.heap.size w w' := by
  have HB := Lib.hid (kBytes_length s hs.out)
  go_enter Try.func8, Try.ntmps8
  have hz0 := zero_bytes
  go_wp2
  clear hz0
  refine absorb_wp (St.start_lay w [] |>.allocAt 0 rfl w.heap.size rfl _ _ |>.push_mk rfl |>.allocAt 1 rfl (w.heap.size + 1) (by simp) _ _ |>.push_mk rfl |>.allocAt 2 rfl (w.heap.size + 1 + 1) (by simp) _ _ |>.push_mk rfl) ?_
  intro w3 H3
  generalize w.heap.size + 1 + 1 = g3 at H3 ⊢
  generalize w.heap.size + 1 = g2 at H3 ⊢
  generalize w.heap.size = g1 at H3 ⊢
  go_loopw [4] (fun i wr => ∃ k : Nat, k ≤ 200 ∧ i = .int .i64 k ∧ St w [] wr (lay [.blk g1 24 (s.map u64v), .blk g2 26 (zb 200), .blk g3 26 ((wideTo (kBytes s) k).map vb)])) (fun i _ => 200 - (intOf i).toNat)
  case atStart => exact ⟨0, by omega, rfl, by rw [wideTo_zero]; exact H3⟩
  case round =>
    clear H3
    obtain ⟨k, hk, rfl, Hk⟩ := hrel
    by_cases hlt : k < 200
    · have HG := Lib.hid (kBytes_get s k (by rw [hs.out]; omega))
      obtain ⟨x, hx⟩ : ∃ x, Hid (at64 s (k / 8) = x) := ⟨_, rfl⟩
      have a0 := (Hk.cell 0 rfl (u64_get (l := s) (k := k / 8) (by rw [hs.out]; omega)))
      rw [hx.out] at a0 HG
      have HL : Hid ((wideTo (kBytes s) k).length = 200) := wideTo_length _ k hk (by rw [HB.out]; omega)
      have HN := Lib.hid (wideTo_succ (kBytes s) k _ hlt HG.out)
      obtain ⟨u, hu⟩ : ∃ u, ((wideTo (kBytes s) k).map vb)[k]? = some u := ⟨_, List.getElem?_eq_getElem (by rw [List.length_map, HL.out]; exact hlt)⟩
      have b0 := Hk.cell 2 rfl hu
      have bf := Hk.free 2 rfl k
      have e1 := quo8 k
      have e2 := rem8 k
      obtain ⟨q, hq⟩ : ∃ q, Hid (k / 8 = q) := ⟨_, rfl⟩
      obtain ⟨m, hm⟩ : ∃ m, Hid (k % 8 = m) := ⟨_, rfl⟩
      have hm7 : (m : Int) ≤ 7 := by have := hm.out; omega
      have hq25 : (q : Int) < 25 := by have := hq.out; omega
      rw [hq.out] at e1 a0
      rw [hm.out] at e2 HG HN
      have hk1 : (k : Int) < 200 := by omega
      clear hu
      go_wp2
      go_roundw
      case rel => exact ⟨k + 1, by omega, by go_num, by rw [byte_eq]; have h := (Hk.store 2 rfl (o := k) (u := vb (UInt8.ofNat (x.toNat / 256 ^ m)))).upd_mk (by simp); rw [← List.map_set, HN.out] at h; exact h⟩
      case measure => simp [intOf]; omega
    · obtain rfl : k = 200 := by omega
      rw [wideTo_end _ 200 (.inr rfl) (by omega) (by rw [HB.out]; omega)] at Hk
      have HW : wide (kBytes s) = kBytes s := by unfold wide; rw [List.take_of_length_le (by rw [HB.out]; omega), HB.out]; simp
      rw [HW] at Hk
      clear HW
      rw [show ((200:Nat):Int) = 200 from rfl]
      go_wp2_with (first | (refine wpList_load_row rfl 26 (.tmp 3) rfl g3 rfl _ _ _ _ (Hk.blk 2 rfl) Try.underlying26 rfl (by rw [bytes_size]; simp [HB.out]) ?_) | (refine wpList_store_mid rfl 26 (.tmp 2) (.tmp 20) rfl g2 0 _ rfl rfl (there_eq (Hk.there 1 rfl) (by simp [HB.out, zb_length])) (by rw [bytes_size]; simp [HB.out]) (all_oneCell_toArray (vb_one _)) ?_))
      have H4 := (Hk.storeAll 1 rfl (vs := (kBytes s).map vb) (by simp [HB.out, zb_length])).upd_mk (by simp)
      exact bodyPost_ret (results_cell_row rfl _ _ g2 26 ((kBytes s).map vb).toArray _ _ rfl (H4.blk 1 rfl) Try.underlying26 rfl (by rw [bytes_size]; simp [HB.out])) rfl ⟨rfl, H4.below⟩
end Go.Proofs.Ytoodgdcpkkfdgaa
