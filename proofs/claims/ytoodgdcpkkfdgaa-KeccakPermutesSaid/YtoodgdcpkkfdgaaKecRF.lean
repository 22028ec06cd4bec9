/- The document's From, walked. -/
import Derived.Test.YtoodgdcpkkfdgaaKecRB
import Derived.Test.YtoodgdcpkkfdgaaKecR
namespace Go.Proofs.Ytoodgdcpkkfdgaa
open Go.RowKit
set_option linter.unusedVariables false

def kPart (b : List UInt8) (k : Nat) : List UInt64 := (List.range 25).map fun (i : Nat) => UInt64.ofNat (leTo b (8 * i) (min 8 (k - 8 * i)))
theorem kPart_length (b : List UInt8) (k : Nat) : (kPart b k).length = 25 := by simp [kPart]
theorem kPart_zero (b : List UInt8) : kPart b 0 = List.replicate 25 0 := by
  unfold kPart
  simp only [Nat.zero_sub, Nat.min_zero, leTo]
  rw [List.map_const']; simp
theorem kPart_end (b : List UInt8) : kPart b 200 = kFrom b := by
  unfold kPart kFrom
  apply List.map_congr_left
  intro i hi
  have := List.mem_range.1 hi
  rw [show min 8 (200 - 8 * i) = 8 by omega]
theorem kPart_get (b : List UInt8) (k : Nat) (hk : k < 200) : at64 (kPart b k) (k / 8) = UInt64.ofNat (leTo b (8 * (k / 8 : Nat)) (k % 8)) := by
  unfold kPart at64
  rw [List.getD_eq_getElem?_getD, List.getElem?_map, List.getElem?_range (by omega)]
  simp only [Option.map_some, Option.getD_some]
  rw [show min 8 (k - 8 * (k / 8)) = k % 8 by omega]
theorem kPart_succ (b : List UInt8) (k : Nat) (hk : k < 200) : (kPart b k).set (k / 8) (UInt64.ofNat (leTo b (8 * (k / 8 : Nat)) (k % 8 + 1))) = kPart b (k + 1) := by
  unfold kPart
  apply List.ext_getElem
  · simp
  · intro i h1 h2
    have hi : i < 25 := by simpa using h2
    rw [List.getElem_set]
    simp only [List.getElem_map, List.getElem_range]
    split
    · rename_i h; subst h; rw [show min 8 (k + 1 - 8 * (k / 8)) = k % 8 + 1 by omega]
    · rename_i h; rw [show min 8 (k + 1 - 8 * i) = min 8 (k - 8 * i) by omega]

theorem lane_step (b : List UInt8) (a : Int) (m : Nat) (v : UInt8) (x : UInt64) (hx : x = UInt64.ofNat (leTo b a m)) (hv : byteAt b (a + m) = v.toNat) (hm : m ≤ 7) :
    IntKind.u64.wrap (↑x.toNat + IntKind.u64.wrap (IntKind.u64.wrap ↑v.toNat * 2 ^ (8 * m))) = ((UInt64.ofNat (leTo b a (m + 1))).toNat : Int) := by
  have h1 := leTo_lt b a m
  have h2 := leTo_lt b a (m + 1)
  have h3 : 256 ^ m ≤ 256 ^ 7 := Nat.pow_le_pow_right (by omega) hm
  have h4 : 256 ^ (m + 1) ≤ 256 ^ 8 := Nat.pow_le_pow_right (by omega) (by omega)
  have h5 : leTo b a (m + 1) = leTo b a m + v.toNat * 256 ^ m := by rw [← hv]; rfl
  have h6 : x.toNat = leTo b a m := by
    rw [hx, UInt64.toNat_ofNat', Nat.mod_eq_of_lt]
    exact Nat.lt_of_lt_of_le h1 (Nat.le_trans h3 (by decide))
  have h7 : (UInt64.ofNat (leTo b a (m + 1))).toNat = leTo b a (m + 1) := by
    rw [UInt64.toNat_ofNat', Nat.mod_eq_of_lt]
    exact Nat.lt_of_lt_of_le h2 (Nat.le_trans h4 (by decide))
  have hv8 := v.toNat_lt
  have e8 : ((2 : Int) ^ (8 * m)) = ((256 ^ m : Nat) : Int) := by rw [show (256 : Nat) ^ m = 2 ^ (8 * m) by rw [Nat.pow_mul], Int.natCast_pow]; rfl
  rw [h7, h6, IntWalk.u64_in (v.toNat : Int) (by omega), e8]
  rw [show ((v.toNat : Int) * ((256 ^ m : Nat) : Int)) = ((v.toNat * 256 ^ m : Nat) : Int) by simp]
  have h9 : leTo b a m + v.toNat * 256 ^ m < 256 ^ 8 := by rw [← h5]; exact Nat.lt_of_lt_of_le h2 h4
  generalize v.toNat * 256 ^ m = z at *
  rw [IntWalk.u64_in (z : Int) (by simp at h9; omega), IntWalk.u64_in _ (by simp at h9; omega), h5]
  simp

set_option maxHeartbeats 2000000 in
theorem refFrom_s (b : List UInt8) (hb : Hid (b.length = 200)) (w : World) :
    Calls Try.prog 20 #[.agg (b.map vb).toArray] w fun e w' => e = .returned (.agg ((kFrom b).map u64v).toArray) ∧ Below w.heap.size w w' := by
  go_enter Try.func20, Try.ntmps20
  go_wp2
  refine absorb_wp (St.start_lay w [] |>.allocAt 0 rfl w.heap.size rfl _ _ |>.push_mk rfl |>.allocAt 1 rfl (w.heap.size + 1) (by simp) _ _ |>.push_mk rfl |>.allocAt 2 rfl (w.heap.size + 1 + 1) (by simp) _ _ |>.push_mk rfl) ?_
  intro w3 H3
  generalize w.heap.size + 1 + 1 = g3 at H3 ⊢
  generalize w.heap.size + 1 = g2 at H3 ⊢
  generalize w.heap.size = g1 at H3 ⊢
  go_loopw [4] (fun i wr => ∃ k : Nat, k ≤ 200 ∧ i = .int .i64 k ∧ St w [] wr (lay [.blk g1 26 (b.map vb), .blk g2 24 ((List.replicate 25 0).map u64v), .blk g3 24 ((kPart b k).map u64v)])) (fun i _ => 200 - (intOf i).toNat)
  case atStart => exact ⟨0, by omega, rfl, by rw [kPart_zero]; exact H3⟩
  case round =>
    clear H3
    obtain ⟨k, hk, rfl, Hk⟩ := hrel
    by_cases hlt : k < 200
    · have HG := Lib.hid (kPart_get b k hlt)
      have HN := Lib.hid (kPart_succ b k hlt)
      obtain ⟨v, hv⟩ : ∃ v, b[k]? = some v := ⟨_, List.getElem?_eq_getElem (by rw [hb.out]; exact hlt)⟩
      have a0 := (Hk.drew.cell 0 rfl (o := k) (u := vb v) (by rw [List.getElem?_map, hv]; rfl))
      obtain ⟨x, hx⟩ : ∃ x, Hid (at64 (kPart b k) (k / 8) = x) := ⟨_, rfl⟩
      have b0 := (Hk.drew.cell 2 rfl (u64_get (l := kPart b k) (k := k / 8) (by rw [kPart_length]; omega)))
      have bf := Hk.drew.free 2 rfl (k / 8)
      rw [hx.out] at b0 HG
      have e1 := quo8 k
      have e2 := rem8 k
      obtain ⟨q, hq⟩ : ∃ q, Hid (k / 8 = q) := ⟨_, rfl⟩
      obtain ⟨m, hm⟩ : ∃ m, Hid (k % 8 = m) := ⟨_, rfl⟩
      have hm7 : (m : Int) ≤ 7 := by have := hm.out; omega
      have hq25 : (q : Int) < 25 := by have := hq.out; omega
      rw [hq.out] at e1 b0 bf HG HN
      rw [hm.out] at e2 HG HN
      have hk1 : (k : Int) < 200 := by omega
      have HV : Hid _ := lane_step b (8 * (q : Int)) m v x HG.out (by rw [show (8 * (q : Int) + (m : Int)) = (k : Int) by have := hq.out; have := hm.out; omega]; exact byteAt_nat hv) (by omega)
      clear hv
      go_wp2
      go_region
      have h := (Hk.store 2 rfl (o := q) (u := u64v (UInt64.ofNat (leTo b (8 * (q : Int)) (m + 1))))).upd_mk (by simp)
      rw [u64_set, HN.out] at h
      rw [HV.out]
      have H5 : St w [] (wr.setCell ⟨g3, q, none⟩ (.int .u64 ((UInt64.ofNat (leTo b (8 * (q : Int)) (m + 1))).toNat : Int))).drew _ := h.drew
      clear h HV HG HN a0 b0 bf
      go_wp2
      go_roundw
      case rel => exact ⟨k + 1, by omega, by go_num, H5⟩
      case measure => simp [intOf]; omega
    · obtain rfl : k = 200 := by omega
      rw [kPart_end] at Hk
      rw [show ((200:Nat):Int) = 200 from rfl]
      go_wp2_with (first | (refine wpList_load_row rfl 24 (.tmp 3) rfl g3 rfl _ _ _ _ (Hk.blk 2 rfl) Try.underlying24 rfl (by rw [state24_size]; simp [kFrom_length]) ?_) | (refine wpList_store_mid rfl 24 (.tmp 2) (.tmp 25) rfl g2 0 _ rfl rfl (there_eq (Hk.there 1 rfl) (by simp [kFrom_length])) (by rw [state24_size]; simp [kFrom_length]) (all_oneCell_toArray (u64_one _)) ?_))
      have H4 := (Hk.storeAll 1 rfl (vs := (kFrom b).map u64v) (by simp [kFrom_length])).upd_mk (by simp)
      exact bodyPost_ret (results_cell_row rfl _ _ g2 24 ((kFrom b).map u64v).toArray _ _ rfl (H4.blk 1 rfl) Try.underlying24 rfl (by rw [state24_size]; simp [kFrom_length])) rfl ⟨rfl, H4.below⟩
end Go.Proofs.Ytoodgdcpkkfdgaa
