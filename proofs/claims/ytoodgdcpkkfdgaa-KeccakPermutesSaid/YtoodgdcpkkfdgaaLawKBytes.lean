/- The law KeccakBytes, walked. -/
import Derived.Test.YtoodgdcpkkfdgaaKecRF
import Derived.Test.YtoodgdcpkkfdgaaHeld
namespace Go.Proofs.Ytoodgdcpkkfdgaa
open Go.RowKit
set_option linter.unusedVariables false

set_option maxHeartbeats 2000000 in
theorem state_s (A : Option Addr) (n c : Nat) (p : List UInt8) (w : World) (ha : Rd w 1 A n (p.map vb)) (hn : n ≤ 140737488355328) :
    Calls Try.prog 7 #[.slice A n c] w fun e w' => e = .returned (.agg ((kFrom (wide p)).map u64v).toArray) ∧ Below w.heap.size w w' := by
  have hl : p.length = n := by simpa using ha.1
  have HL := Lib.hid hl
  clear hl
  have hz0 := zero_bytes
  go_enter Try.func7, Try.ntmps7
  go_wp2
  clear hz0
  refine absorb_wp (St.start_lay w [] |>.allocAt 0 rfl w.heap.size rfl _ _ |>.push_mk rfl |>.allocAt 1 rfl (w.heap.size + 1) (by simp) _ _ |>.push_mk rfl) ?_
  intro w3 H3
  generalize w.heap.size + 1 = g2 at H3 ⊢
  generalize hg1 : w.heap.size = g1 at H3 ⊢
  clear hg1
  go_loopw [4] (fun i wr => ∃ k : Nat, k ≤ n ∧ k ≤ 200 ∧ i = .int .i64 k ∧ St w [] wr (lay [.blk g1 24 ((List.replicate 25 0).map u64v), .blk g2 26 ((wideTo p k).map vb)])) (fun i _ => 200 - (intOf i).toNat)
  case atStart => exact ⟨0, by omega, by omega, rfl, by rw [wideTo_zero]; exact H3⟩
  case round =>
    clear H3
    obtain ⟨k, hk, hk2, rfl, Hk⟩ := hrel
    by_cases hlt' : k < n ∧ k < 200
    · obtain ⟨hlt, hlt2⟩ := hlt'
      · obtain ⟨b, o, rfl, -, hc⟩ := (Hk.arg0 ha).flat (by omega) (by omega)
        obtain ⟨x, hx⟩ : ∃ x, p[k]? = some x := ⟨_, List.getElem?_eq_getElem (by rw [HL.out]; exact hlt)⟩
        have a0 := hc k (vb x) (by rw [List.getElem?_map, hx]; rfl)
        clear hc
        have HW : Hid ((wideTo p k).length = 200) := wideTo_length p k hk2 (by rw [HL.out]; omega)
        have HN := Lib.hid (wideTo_succ p k x hlt2 hx)
        obtain ⟨u, hu⟩ : ∃ u, ((wideTo p k).map vb)[k]? = some u := ⟨_, List.getElem?_eq_getElem (by rw [List.length_map, HW.out]; exact hlt2)⟩
        have b0 := Hk.cell 1 rfl hu
        have bf := Hk.free 1 rfl k
        clear hu hx
        have hk3 : (k : Int) < n := by omega
        have hk4 : (k : Int) < 200 := by omega
        go_wp2
        go_roundw
        case rel => exact ⟨k + 1, by omega, by omega, by go_num, by have h := (Hk.store 1 rfl (o := k) (u := vb x)).upd_mk (by simp); rw [← List.map_set, HN.out] at h; exact h⟩
        case measure => simp [intOf]; omega
    · have HE := wideTo_end p k (by rw [HL.out]; omega) hk2 (by rw [HL.out]; omega)
      rw [HE] at Hk
      have hor : k = n ∨ (k < n ∧ k = 200) := by omega
      clear hlt' HE
      rcases hor with rfl | ⟨h1, rfl⟩
      all_goals
        go_wp2_with (refine wpList_load_row rfl 26 (.tmp 3) rfl g2 rfl _ _ _ _ (Hk.blk 1 rfl) Try.underlying26 rfl (by rw [bytes_size]; simp [wide_length]) ?_)
        refine (refFrom_s (wide p) (wide_length p) _).mono ?_
        rintro e w4 ⟨rfl, hb4⟩
        have H4 := Hk.call hb4
        go_wp2_with (refine wpList_store_mid rfl 24 (.tmp 2) (.tmp 22) rfl g1 0 _ rfl rfl (there_eq (H4.there 0 rfl) (by simp [kFrom_length])) (by rw [state24_size]; simp [kFrom_length]) (all_oneCell_toArray (u64_one _)) ?_)
        have H5 := (H4.storeAll 0 rfl (vs := (kFrom (wide p)).map u64v) (by simp [kFrom_length])).upd_mk (by simp)
        exact bodyPost_ret (results_cell_row rfl _ _ g1 24 ((kFrom (wide p)).map u64v).toArray _ _ rfl (H5.blk 0 rfl) Try.underlying24 rfl (by rw [state24_size]; simp [kFrom_length])) rfl ⟨rfl, H5.below⟩
attribute [local irreducible] kBytes kFrom
theorem state_h (A : Option Addr) (n c : Nat) (p : List UInt8) (w : World) (ha : Rd w 1 A n (p.map vb)) (hn : n ≤ 140737488355328) :
    Calls Try.prog 7 #[.slice A n c] w fun e w' => ∃ s : List UInt64, Hid (s.length = 25) ∧ e = .returned (.agg (s.map u64v).toArray) ∧ Below w.heap.size w w' :=
  (state_s A n c p w ha hn).mono fun _ _ ⟨h1, h2⟩ => ⟨_, kFrom_length _, h1, h2⟩

set_option maxHeartbeats 2000000 in
theorem keccakBytes_walk (A : Option Addr) (n c : Nat) (p : List UInt8) (w : World) (hp : Rd w 1 A n (p.map vb)) (hn0 : n ≤ 140737488351232) :
    Calls Try.prog 3 #[.slice A n c] w fun e w' => e = .returned (.bool true) ∧ Below w.heap.size w w' := by
  have hn : n ≤ 140737488355328 := by omega
  clear hn0
  have H0 := St.start_lay w []
  go_enter Try.func3, Try.ntmps3
  go_wp2_with fail
  refine (state_h A n c p _ hp hn).mono ?_
  rintro e w2 ⟨s, Ls, rfl, hb2⟩
  have H2 := H0.call hb2
  clear H0 hb2
  go_wp2_with (first | (refine wpList_store_mid rfl 24 (.tmp 3) (.tmp 6) rfl w2.heap.size 0 _ rfl rfl (there_new _ _ _ _ (by simp [Ls.out])) (by rw [state24_size]; simp [Ls.out]) (all_oneCell_toArray (u64_one _)) ?_; refine absorb_list (H2.allocAt 0 rfl w2.heap.size rfl _ _ |>.push_mk rfl |>.storeAll 0 rfl (vs := s.map u64v) (by simp [Ls.out]) |>.upd_mk (by simp)) ?_; intro w3 H3) | (refine wpList_load_row rfl 24 (.tmp 3) rfl w2.heap.size rfl _ _ _ _ (H3.blk 0 rfl) Try.underlying24 rfl (by rw [state24_size]; simp [Ls.out]) ?_))
  clear H2
  generalize w2.heap.size = g1 at H3 ⊢
  refine (refBytes_s s Ls _).mono ?_
  rintro e w4 ⟨rfl, hb4⟩
  have H4 := H3.call hb4
  clear H3 hb4
  have LB := Lib.hid (kBytes_length s Ls.out)
  have hz0 := zero_bytes
  go_wp2_with (refine wpList_store_mid rfl 26 (.tmp 4) (.tmp 8) rfl w4.heap.size 0 _ rfl rfl (there_new _ _ _ _ (by simp [LB.out, zb_length])) (by rw [bytes_size]; simp [LB.out]) (all_oneCell_toArray (vb_one _)) ?_; refine absorb_list (H4.allocAt 1 rfl w4.heap.size rfl _ _ |>.push_mk rfl |>.storeAll 1 rfl (vs := (kBytes s).map vb) (by simp [LB.out, zb_length]) |>.upd_mk (by simp)) ?_; intro w5 H5)
  clear H4 hz0
  generalize w4.heap.size = g2 at H5 ⊢
  replace H5 : St w [] w5 (lay [.blk g1 24 (s.map u64v), .blk g2 26 ((kBytes s).map vb)]) := H5
  have hss := eq_u64 29 25 Try.underlying29 s s Ls.out Ls.out
  have hbb := eq_u8 26 200 Try.underlying26 (kBytes s) (kBytes s) LB.out LB.out
  rw [decide_eq_true rfl] at hss hbb
  have hu1 := Try.underlying24
  have hu2 := Try.underlying26
  have hl1 : (Try.prog.info? 24).map (·.size) = some (s.map u64v).length := by rw [state24_size]; simp [Ls.out]
  have hl2 : (Try.prog.info? 26).map (·.size) = some ((kBytes s).map vb).length := by rw [bytes_size]; simp [LB.out]
  have H := H5.drew
  clear H5
  refine wp_region_held_drew (S := fun w' : World => w'.rangeAt g1 0 (s.map u64v) ∧ w'.rangeAt g2 0 ((kBytes s).map vb)) (by kernel_rfl) ?_ (fun hHeld => ?_)
  · exact ⟨H.range 0 rfl, H.range 1 rfl⟩
  refine take_load 0 g1 (s.map u64v) (fun w h => h.1) hu1 hl1 rfl (by kernel_rfl) (by kernel_rfl) (by kernel_rfl) (fun _ _ _ h => h) rfl rfl rfl rfl (by assumption) ?_
  try simp only [Act.put, List.setIfInBounds_toArray, List.set_cons_zero, List.set_cons_succ]
  refine take_load 2 g2 ((kBytes s).map vb) (fun w h => h.2) hu2 hl2 rfl (by kernel_rfl) (by kernel_rfl) (by kernel_rfl) (fun _ _ _ h => h) rfl rfl rfl rfl (by assumption) ?_
  try simp only [Act.put, List.setIfInBounds_toArray, List.set_cons_zero, List.set_cons_succ]
  refine take_call 1 rfl (by kernel_rfl) (fun K hK => ?_)
  try go_simp
  refine (bytes_h s Ls _).mono ?_
  rintro e w12 ⟨rfl, hb12⟩
  replace H := H.call hb12
  clear hb12
  refine hK.out _ _ ?_ (fun hHeld => ?_)
  · exact ⟨H.range 0 rfl, H.range 1 rfl⟩
  clear hK K
  try simp only [Act.put, List.setIfInBounds_toArray, List.set_cons_zero, List.set_cons_succ]
  refine take_pure 3 (.bool true) rfl (by kernel_rfl) (by kernel_rfl) (by kernel_rfl) (fun _ _ _ h => h) rfl (by intro w hSw; go_simp; try with_reducible rfl) (by assumption) ?_
  try simp only [Act.put, List.setIfInBounds_toArray, List.set_cons_zero, List.set_cons_succ]
  refine take_pure 4 (.bool true) rfl (by kernel_rfl) (by kernel_rfl) (by kernel_rfl) (fun _ _ _ h => h) rfl (by intro w hSw; go_simp; try with_reducible rfl) (by assumption) ?_
  try simp only [Act.put, List.setIfInBounds_toArray, List.set_cons_zero, List.set_cons_succ]
  refine take_load 5 g2 ((kBytes s).map vb) (fun w h => h.2) hu2 hl2 rfl (by kernel_rfl) (by kernel_rfl) (by kernel_rfl) (fun _ _ _ h => h) rfl rfl rfl rfl (by assumption) ?_
  try simp only [Act.put, List.setIfInBounds_toArray, List.set_cons_zero, List.set_cons_succ]
  refine take_load 7 g1 (s.map u64v) (fun w h => h.1) hu1 hl1 rfl (by kernel_rfl) (by kernel_rfl) (by kernel_rfl) (fun _ _ _ h => h) rfl rfl rfl rfl (by assumption) ?_
  try simp only [Act.put, List.setIfInBounds_toArray, List.set_cons_zero, List.set_cons_succ]
  refine take_call 6 rfl (by kernel_rfl) (fun K hK => ?_)
  try go_simp
  refine (from_b s Ls _).mono ?_
  rintro e w12 ⟨rfl, hb12⟩
  replace H := H.call hb12
  clear hb12
  refine hK.out _ _ ?_ (fun hHeld => ?_)
  · exact ⟨H.range 0 rfl, H.range 1 rfl⟩
  clear hK K
  try simp only [Act.put, List.setIfInBounds_toArray, List.set_cons_zero, List.set_cons_succ]
  refine take_pure 8 (.bool true) rfl (by kernel_rfl) (by kernel_rfl) (by kernel_rfl) (fun _ _ _ h => h) rfl (by intro w hSw; go_simp; try with_reducible rfl) (by assumption) ?_
  try simp only [Act.put, List.setIfInBounds_toArray, List.set_cons_zero, List.set_cons_succ]
  refine take_pure 9 (.bool true) rfl (by kernel_rfl) (by kernel_rfl) (by kernel_rfl) (fun _ _ _ h => h) rfl (by intro w hSw; go_simp; try with_reducible rfl) (by assumption) ?_
  try simp only [Act.put, List.setIfInBounds_toArray, List.set_cons_zero, List.set_cons_succ]
  refine take_pure 10 (.bool true) rfl (by kernel_rfl) (by kernel_rfl) (by kernel_rfl) (fun _ _ _ h => h) rfl (by intro w hSw; go_simp; try with_reducible rfl) (by assumption) ?_
  try simp only [Act.put, List.setIfInBounds_toArray, List.set_cons_zero, List.set_cons_succ]
  refine wpAnyH_done (by kernel_rfl) ?_ _
  go_wp2_with fail
  go_ret
  exact ⟨rfl, H.below⟩
end Go.Proofs.Ytoodgdcpkkfdgaa
