/- What the document's examples say of layer 7: awake, runs. -/
import Derived.Test.YtoodgdcpkkfdgaaKecL
namespace Go.Proofs.Ytoodgdcpkkfdgaa
open Go.RowKit
set_option linter.unusedVariables false

set_option maxHeartbeats 400000 in
theorem runs_s (n : Nat) (w : World) (hn : n ≤ 1000) :
    Calls Try.prog 17 #[.int .i64 (n : Int)] w fun e w' => ∃ v, e = .returned v ∧ w'.ownsRow w.heap.size 63 3 v (if n = 0 then [] else [((3 : Int), (200 : Int), (n : Int))]).length (runsV (if n = 0 then [] else [(3, 200, (n : Int))])) ∧ Below w.heap.size w w' := by
  by_cases h : n = 0
  · subst h
    go_enter Try.func17, Try.ntmps17
    go_wp2
    go_ret
    exact ⟨_, rfl, World.ownsRow_nil _ _ _ _, Below.refl _ _⟩
  · simp only [if_neg h]
    have h1 : ¬ (n : Int) < 1 := by omega
    clear h
    go_enter Try.func17, Try.ntmps17
    go_wp2
    go_ret
    refine ⟨_, rfl, ?_, (Below.refl _ _).alloc (Nat.le_refl _) _⟩
    exact World.ownsRow_lit w #[.int .u8 3, .int .i64 200, .int .i64 (n : Int)] 1 (Nat.le_refl _) (by simp [maxLen]) rfl

def kZero : List UInt64 := List.replicate 25 0
def kOne : List UInt64 := kPerm kZero
def kTwo : List UInt64 := kPerm kOne
theorem kOne_length : kOne.length = 25 := kPermTo_length kZero 24
theorem kTwo_length : kTwo.length = 25 := by unfold kTwo kPerm; rw [kPermTo_length, kOne_length]
theorem kOne_0 : at64 kOne 0 = 0xf1258f7940e1dde7 := by decide +kernel
theorem kOne_1 : at64 kOne 1 = 0x84d5ccf933c0478a := by decide +kernel
theorem kOne_24 : at64 kOne 24 = 0xeaf1ff7b5ceca249 := by decide +kernel
theorem kOne_eq : kOne = [17376452488221285863, 9571781953733019530, 15391093639620504046, 13624874521033984333, 10027350355371872343, 18417369716475457492, 10448040663659726788, 10113917136857017974, 12479658147685402012, 3500241080921619556, 16959053435453822517, 12224711289652453635, 9342009439668884831, 4879704952849025062, 140226327413610143, 424854978622500449, 7259519967065370866, 7004910057750291985, 13293599522548616907, 10105770293752443592, 10668034807192757780, 1747952066141424100, 1654286879329379778, 8500057116360352059, 16929593379567477321] := by decide +kernel
theorem kTwo_0 : at64 kTwo 0 = 0x2d5c954df96ecb3c := by
  unfold kTwo; rw [kOne_eq]; decide +kernel
def kTwin : List UInt64 := [0, 0x0102, 0, 0, 0, 0, 0, 0, 0, 0, 0, 0, 0, 0, 0, 0, 0, 0, 0, 0, 0, 0, 0, 0, 0]
theorem kTwin_8 : (kBytes kTwin)[8]? = some 2 := by decide +kernel
theorem kTwin_9 : (kBytes kTwin)[9]? = some 1 := by decide +kernel
theorem kTwin_10 : (kBytes kTwin)[10]? = some 0 := by decide +kernel
theorem kBytes_length (s : List UInt64) (h : s.length = 25) : (kBytes s).length = 200 := by unfold kBytes; rw [flat_len, h]
theorem kPerm_length (s : List UInt64) : (kPerm s).length = s.length := kPermTo_length s 24
attribute [local irreducible] kPerm kBytes kOne kTwo

set_option maxHeartbeats 2000000 in
theorem awake_s (w : World) : Calls Try.prog 18 #[] w fun e w' => e = .returned (.bool true) ∧ Below w.heap.size w w' := by
  have H0 := ((St.start_lay w []).ledNil 0 rfl).push_mk rfl
  go_enter Try.func18, Try.ntmps18
  go_wp2_with fail
  refine (permute_s (.pointer none) none 0 kZero H0 0 rfl (LGood.none _) (by omega) rfl).mono ?_
  rintro e w1 ⟨rfl, H1⟩
  replace H1 := H1.upd_mk (by simp)
  have e1 : kPerm kZero = kOne := by unfold kOne; rfl
  rw [e1]
  clear e1
  have L1 := Lib.hid kOne_length
  go_wp2_with (first
    | (refine wpList_store_mid rfl 29 (.tmp 1) (.tmp 5) rfl w1.heap.size 0 _ rfl rfl (there_new _ _ _ _ (by simp [L1.out])) (by rw [state_size]; simp [L1.out]) (all_oneCell_toArray (u64_one _)) ?_; refine absorb_list (H1.allocAt 1 rfl w1.heap.size rfl _ _ |>.push_mk rfl |>.storeAll 1 rfl (vs := kOne.map u64v) (by simp [L1.out]) |>.upd_mk (by simp)) ?_; intro w2 H2)
    | (refine wpList_load_row rfl 29 (.tmp 1) rfl w1.heap.size rfl _ _ _ _ (H2.blk 1 rfl) Try.underlying29 rfl (by rw [state_size]; simp [L1.out]) ?_))
  clear H1
  generalize w1.heap.size = g1 at H2 ⊢
  refine (permute_s (.pointer none) none 0 kOne H2 0 rfl (LGood.none _) (by omega) L1.out).mono ?_
  rintro e w3 ⟨rfl, H3⟩
  replace H3 := H3.upd_mk (by simp)
  clear H2
  have e2 : kPerm kOne = kTwo := by unfold kTwo; rfl
  rw [e2]
  clear e2
  have L2 := Lib.hid kTwo_length
  go_wp2_with (refine wpList_store_mid rfl 29 (.tmp 2) (.tmp 7) rfl w3.heap.size 0 _ rfl rfl (there_new _ _ _ _ (by simp [L2.out])) (by rw [state_size]; simp [L2.out]) (all_oneCell_toArray (u64_one _)) ?_; refine absorb_list (H3.allocAt 2 rfl w3.heap.size rfl _ _ |>.push_mk rfl |>.storeAll 2 rfl (vs := kTwo.map u64v) (by simp [L2.out]) |>.upd_mk (by simp)) ?_; intro w4 H4)
  clear H3
  generalize w3.heap.size = g2 at H4 ⊢
  refine (bytes_s kTwin rfl _).mono ?_
  rintro e w5 ⟨rfl, hb5⟩
  have H5 := H4.call hb5
  clear H4 hb5
  have L3 := Lib.hid (kBytes_length kTwin rfl)
  have c8 := Lib.hid kTwin_8
  have c9 := Lib.hid kTwin_9
  have c10 := Lib.hid kTwin_10
  generalize kBytes kTwin = bs at *
  have hz0 := zero_bytes
  go_wp2_with (refine wpList_store_mid rfl 26 (.tmp 3) (.tmp 9) rfl w5.heap.size 0 _ rfl rfl (there_new _ _ _ _ (by simp [L3.out, zb_length])) (by rw [bytes_size]; simp [L3.out]) (all_oneCell_toArray (vb_one _)) ?_; refine absorb_list (H5.allocAt 3 rfl w5.heap.size rfl _ _ |>.push_mk rfl |>.storeAll 3 rfl (vs := bs.map vb) (by simp [L3.out, zb_length]) |>.upd_mk (by simp)) ?_; intro w6 H6; have a0 : w6.cell? ⟨g1, 0, none⟩ = some (.int .u64 17376452488221285863) := (H6.cell 1 rfl (u64_get (by rw [L1.out]; omega))).trans (by rw [kOne_0]; rfl); have a1 : w6.cell? ⟨g1, 1, none⟩ = some (.int .u64 9571781953733019530) := (H6.cell 1 rfl (u64_get (by rw [L1.out]; omega))).trans (by rw [kOne_1]; rfl); have a2 : w6.cell? ⟨g1, 24, none⟩ = some (.int .u64 16929593379567477321) := (H6.cell 1 rfl (u64_get (by rw [L1.out]; omega))).trans (by rw [kOne_24]; rfl); have a3 : w6.cell? ⟨g2, 0, none⟩ = some (.int .u64 3268651591693945660) := (H6.cell 2 rfl (u64_get (by rw [L2.out]; omega))).trans (by rw [kTwo_0]; rfl); have b8 : w6.cell? ⟨w5.heap.size, 8, none⟩ = some (.int .u8 2) := H6.cell 3 rfl (by rw [List.getElem?_map, c8.out]; rfl); have b9 : w6.cell? ⟨w5.heap.size, 9, none⟩ = some (.int .u8 1) := H6.cell 3 rfl (by rw [List.getElem?_map, c9.out]; rfl); have b10 : w6.cell? ⟨w5.heap.size, 10, none⟩ = some (.int .u8 0) := H6.cell 3 rfl (by rw [List.getElem?_map, c10.out]; rfl))
  go_ret
  exact ⟨rfl, H6.below⟩
end Go.Proofs.Ytoodgdcpkkfdgaa
