/- Lanes and bytes, the program's way, walked. -/
import Derived.Test.YtgjlclihgpahbaaKecP
import Derived.Test.YtgjlclihgpahbaaWLayLE
import Derived.Test.YtgjlclihgpahbaaTakeLE
namespace Go.Proofs.Ytgjlclihgpahbaa
open Go.RowKit
set_option linter.unusedVariables false

def kBytesTo (s : List UInt64) (k : Nat) : List UInt8 := (s.take k).flatMap (fun x => leL 8 x.toNat) ++ List.replicate (200 - 8 * k) 0
def kBytes (s : List UInt64) : List UInt8 := s.flatMap fun x => leL 8 x.toNat
def kFromTo (b : List UInt8) (k : Nat) : List UInt64 := (List.range k).map (fun (i : Nat) => UInt64.ofNat (leTo b (8 * i) 8)) ++ List.replicate (25 - k) 0
def kFrom (b : List UInt8) : List UInt64 := (List.range 25).map fun (i : Nat) => UInt64.ofNat (leTo b (8 * i) 8)
theorem flat_len (s : List UInt64) : (s.flatMap fun x => leL 8 x.toNat).length = 8 * s.length := by
  induction s with
  | nil => rfl
  | cons a s ih => rw [List.flatMap_cons, List.length_append, ih, leL_length, List.length_cons]; omega
theorem kBytesTo_length (s : List UInt64) (k : Nat) (hs : s.length = 25) (hk : k ≤ 25) : (kBytesTo s k).length = 200 := by
  unfold kBytesTo; rw [List.length_append, flat_len, List.length_take, List.length_replicate]; omega
theorem kBytesTo_succ (s : List UInt64) (k : Nat) (hs : s.length = 25) (hk : k < 25) : splice ((kBytesTo s k).map vb) (8 * k) ((leL 8 (at64 s k).toNat).map vb) = (kBytesTo s (k + 1)).map vb := by
  have hl : ((s.take k).flatMap (fun x => leL 8 x.toNat)).length = 8 * k := by rw [flat_len, List.length_take]; omega
  unfold splice
  rw [List.length_map, leL_length, ← List.map_take, ← List.map_drop, ← List.map_append, ← List.map_append]
  congr 1
  unfold kBytesTo
  rw [List.take_append_of_le_length (by omega), List.take_of_length_le (by omega), List.drop_append, List.drop_of_length_le (by omega), hl, List.nil_append,
    List.take_add_one, List.getElem?_eq_getElem (by omega), List.flatMap_append, List.append_assoc]
  congr 1
  simp [at64, hs, hk]
  omega
theorem kBytesTo_end (s : List UInt64) (hs : s.length = 25) : kBytesTo s 25 = kBytes s := by
  unfold kBytesTo kBytes
  rw [List.take_of_length_le (by omega)]; simp
theorem heap_alloc3 (w : World) (A B C : Obj) : (((w.alloc A).alloc B).alloc C).heap[w.heap.size]? = some A := by
  rw [heap_alloc_old _ _ (by simp; omega), heap_alloc_old _ _ (by simp), heap_alloc_new]
def zb (n : Nat) : List Value := List.replicate n (.int .u8 0)
theorem zb_length (n : Nat) : (zb n).length = n := by simp [zb]
theorem zero_bytes (w : World) : (zeroValue 69).run Try.prog w = .ok (.agg (zb 200).toArray) w := by kernel_rfl
theorem kBytesTo_zero (s : List UInt64) : (kBytesTo s 0).map vb = zb 200 := by
  unfold kBytesTo zb; rw [List.take_zero, List.flatMap_nil, List.nil_append, List.map_replicate]; rfl
theorem bytes_size : (Try.prog.info? 69).map (·.size) = some 200 := by kernel_rfl
theorem u8_size : (Try.prog.info? 5).map (·.size) = some 1 := by kernel_rfl

set_option maxHeartbeats 2000000 in
theorem bytes_s (s : List UInt64) (hs : s.length = 25) (w : World) :
    Calls Try.prog 51 #[.agg (s.map u64v).toArray] w fun e w' => e = .returned (.agg ((kBytes s).map vb).toArray) ∧ Below w.heap.size w w' := by
  have HS := Lib.hid hs
  have HE := Lib.hid (kBytesTo_end s hs)
  clear hs
  go_enter Try.func51, Try.ntmps51
  have hz0 := zero_bytes
  go_wp2_with (refine wpList_load_row rfl 93 (.tmp 1) rfl w.heap.size rfl 93 (s.map u64v).toArray (0, 0) _ (heap_alloc3 _ _ _ _) Try.underlying93 rfl (by rw [state_size]; simp [HS.out]) ?_)
  clear hz0
  refine absorb_wp (St.start_lay w [] |>.allocAt 0 rfl w.heap.size rfl _ _ |>.push_mk rfl |>.allocAt 1 rfl (w.heap.size + 1) (by simp) _ _ |>.push_mk rfl |>.allocAt 2 rfl (w.heap.size + 1 + 1) (by simp) _ _ |>.push_mk rfl) ?_
  intro w3 H3
  generalize w.heap.size + 1 + 1 = g3 at H3 ⊢
  generalize w.heap.size + 1 = g2 at H3 ⊢
  generalize w.heap.size = g1 at H3 ⊢
  go_loopw [7] (fun i wr => ∃ k : Nat, k ≤ 25 ∧ i = .int .i64 k ∧ St w [] wr (lay [.blk g1 93 (s.map u64v), .blk g2 69 (zb 200), .blk g3 69 ((kBytesTo s k).map vb)])) (fun i _ => 25 - (intOf i).toNat)
  case atStart => exact ⟨0, by omega, rfl, by rw [kBytesTo_zero]; exact H3⟩
  case round =>
    clear H3
    obtain ⟨k, hk, rfl, Hk⟩ := hrel
    by_cases hlt : k < 25
    · have hz := u64_get (l := s) (k := k) (by rw [HS.out]; exact hlt)
      have hz2 := run_index_agg (P := Try.prog) 93 91 25 (s.map u64v).toArray k (.int .u64 ((at64 s k).toNat : Int)) Try.underlying93 u64_size u64_notAgg hlt (by simpa using hz)
      have HL : Hid ((kBytesTo s k).length = 200) := kBytesTo_length s k HS.out (by omega)
      have HN := Lib.hid (kBytesTo_succ s k HS.out hlt)
      clear hz
      have hk1 : (k : Int) < 25 := by omega
      go_wp2
      clear hz2
      generalize at64 s k = x at *
      have hk2 : IntKind.i64.wrap (8 * (k : Int)) = 8 * (k : Int) := IntWalk.i64_in _ (by omega)
      have hk3 : (0 : Int) ≤ 8 * (k : Int) := by omega
      have hk4 : 8 * (k : Int) ≤ 200 := by omega
      have hk5 : (8 * (k : Int)).toNat = 8 * k := by omega
      go_region_held3 (fun _ => True) (trivial) ((first | (go_at_call 58; refine (layLE_u64 x.toNat _ x.toNat_lt).mono ?_; rintro e w4 ⟨v4, rfl, ho4, hb4⟩; obtain ⟨A4, n4, c4, rfl, hn4, hr4⟩ := ho4.shape; obtain rfl : n4 = 8 := (by rw [hn4.out, leL_length]); obtain ⟨ad4, rfl, -, hs4⟩ := hr4.2 (by omega)) | (refine step_copy_st rfl (.tmp 13) (.tmp 15) _ _ rfl 5 Try.underlying27 u8_size _ _ _ _ _ _ (by rfl) (by rfl) ((Hk.drew).call hb4) 2 g3 (8 * k) _ _ (by rfl) ((leL 8 x.toNat).map vb) (by rw [List.length_map, leL_length]; show 8 = min 8 (200 - 8 * k); omega) (fun _ => ⟨by rfl, ad4, by rfl, hs4⟩) (by rw [List.length_map, List.length_map, HL.out, leL_length]; omega) (vb_one _) ?_; intro w5 H5)))
      go_wp2
      go_roundw
      case rel => exact ⟨k + 1, by omega, by go_num, by have h := H5.upd_mk (by simp); rw [HN.out] at h; exact h⟩
      case measure => simp [intOf]; omega
    · obtain rfl : k = 25 := by omega
      have HL : Hid ((kBytesTo s 25).length = 200) := kBytesTo_length s 25 HS.out (by omega)
      go_wp2_with (first | (refine wpList_load_row rfl 69 (.tmp 3) rfl g3 rfl _ _ _ _ (Hk.blk 2 rfl) Try.underlying69 rfl (by rw [bytes_size]; simp [HL.out]) ?_) | (refine wpList_store_mid rfl 69 (.tmp 2) (.tmp 18) rfl g2 0 _ rfl rfl (by have h := Hk.there 1 rfl; simpa [HL.out, zb_length] using h) (by rw [bytes_size]; simp [HL.out]) (all_oneCell_toArray (vb_one _)) ?_))
      have H4 := (Hk.storeAll 1 rfl (vs := (kBytesTo s 25).map vb) (by simp [HL.out, zb_length])).upd_mk (by simp)
      exact bodyPost_ret (results_cell_row rfl _ _ g2 69 ((kBytesTo s 25).map vb).toArray _ _ rfl (H4.blk 1 rfl) Try.underlying69 rfl (by rw [bytes_size]; simp [HL.out])) rfl ⟨by rw [HE.out], H4.below⟩
end Go.Proofs.Ytgjlclihgpahbaa
