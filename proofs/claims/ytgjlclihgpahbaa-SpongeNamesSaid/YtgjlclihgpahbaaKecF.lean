/- The program's From, walked. -/
import Derived.Test.YtgjlclihgpahbaaKecB
namespace Go.Proofs.Ytgjlclihgpahbaa
open Go.RowKit
set_option linter.unusedVariables false

theorem kFromTo_length (b : List UInt8) (k : Nat) (hk : k ≤ 25) : (kFromTo b k).length = 25 := by simp [kFromTo]; omega
theorem kFromTo_succ (b : List UInt8) (k : Nat) (hk : k < 25) : (kFromTo b k).set k (UInt64.ofNat (leTo b (8 * k) 8)) = kFromTo b (k + 1) := by
  unfold kFromTo
  rw [List.set_append_right _ _ (by simp), List.range_succ, List.map_append, List.append_assoc, show 25 - k = (25 - (k + 1)) + 1 by omega, List.replicate_succ]
  simp
theorem kFrom_length (b : List UInt8) : (kFrom b).length = 25 := by simp [kFrom]
theorem kFromTo_end (b : List UInt8) : kFromTo b 25 = kFrom b := by simp [kFromTo, kFrom]
theorem le_back (b : List UInt8) (a : Int) : ((UInt64.ofNat (leTo b a 8)).toNat : Int) = ((leTo b a 8 : Nat) : Int) := by
  have h := leTo_lt b a 8
  rw [UInt64.toNat_ofNat', Nat.mod_eq_of_lt (by simpa using h)]
theorem takeLE_q (A : Option Addr) (n c : Nat) (b : List UInt8) (a : Int) (w : World) (y : UInt64) (h : Rd w 1 A n (b.map vb)) (hn : n ≤ 140737488355328) (hy : Hid (UInt64.ofNat (leTo b a 8) = y)) :
    Calls Try.prog 62 #[.slice A n c, .int .i64 a] w fun e w' => e = .returned (.int .u64 (y.toNat : Int)) ∧ w = w' := by
  refine (takeLE_u64 A n c b a w h hn).mono ?_
  rintro e w' ⟨rfl, rfl⟩
  rw [← hy.out, le_back]
  exact ⟨rfl, rfl⟩
theorem St.blkRd {w0 w : World} {F0 : List Nat} {E : Env} {g n : Nat} {T : TypeId} {cs : List Value} (H : St w0 F0 w E) (k : Nat) (hk : E k = some (.blk g T cs)) (hn : cs.length = n) : Rd w 1 (some ⟨g, 0, none⟩) n cs :=
  ⟨by omega, fun _ => ⟨_, rfl, H.lt k hk, fun j u hu => by rw [Addr.add_mid, Nat.zero_add]; exact H.cell k hk hu⟩⟩

set_option maxHeartbeats 2000000 in
theorem from_s (b : List UInt8) (hb : b.length = 200) (w : World) :
    Calls Try.prog 53 #[.agg (b.map vb).toArray] w fun e w' => e = .returned (.agg ((kFrom b).map u64v).toArray) ∧ Below w.heap.size w w' := by
  have HS := Lib.hid hb
  have HE := Lib.hid (kFromTo_end b)
  clear hb
  go_enter Try.func53, Try.ntmps53
  go_wp2
  refine absorb_wp (St.start_lay w [] |>.allocAt 0 rfl w.heap.size rfl _ _ |>.push_mk rfl |>.allocAt 1 rfl (w.heap.size + 1) (by simp) _ _ |>.push_mk rfl |>.allocAt 2 rfl (w.heap.size + 1 + 1) (by simp) _ _ |>.push_mk rfl) ?_
  intro w3 H3
  generalize w.heap.size + 1 + 1 = g3 at H3 ⊢
  generalize w.heap.size + 1 = g2 at H3 ⊢
  generalize w.heap.size = g1 at H3 ⊢
  go_loopw [5] (fun i wr => ∃ k : Nat, k ≤ 25 ∧ i = .int .i64 k ∧ St w [] wr (lay [.blk g1 69 (b.map vb), .blk g2 93 ((List.replicate 25 0).map u64v), .blk g3 93 ((kFromTo b k).map u64v)])) (fun i _ => 25 - (intOf i).toNat)
  case atStart => exact ⟨0, by omega, rfl, H3⟩
  case round =>
    clear H3
    obtain ⟨k, hk, rfl, Hk⟩ := hrel
    by_cases hlt : k < 25
    · have HL : Hid ((kFromTo b k).length = 25) := kFromTo_length b k (by omega)
      obtain ⟨y, hy, HN⟩ : ∃ y : UInt64, Hid (UInt64.ofNat (leTo b (8 * k) 8) = y) ∧ Hid ((kFromTo b k).set k y = kFromTo b (k + 1)) := ⟨_, rfl, kFromTo_succ b k hlt⟩
      have hk1 : (k : Int) < 25 := by omega
      obtain ⟨u, hu⟩ : ∃ u, ((kFromTo b k).map u64v)[k]? = some u := ⟨_, u64_get (by rw [HL.out]; omega)⟩
      have a0 := Hk.cell 2 rfl hu
      have af := Hk.free 2 rfl k
      clear hu
      go_wp2_with fail
      refine (takeLE_q _ _ _ b _ _ y (Hk.blkRd 0 rfl (by rw [List.length_map, HS.out])) (by omega) hy).mono ?_
      rintro e w4 ⟨rfl, rfl⟩
      go_wp2
      go_roundw
      case rel => exact ⟨k + 1, by omega, by go_num, by have h := (Hk.store 2 rfl (o := k) (u := u64v y)).upd_mk (by simp); rw [u64_set, HN.out] at h; exact h⟩
      case measure => simp [intOf]; omega
    · obtain rfl : k = 25 := by omega
      have HL : Hid ((kFromTo b 25).length = 25) := kFromTo_length b 25 (by omega)
      go_wp2_with (first | (refine wpList_load_row rfl 93 (.tmp 3) rfl g3 rfl _ _ _ _ (Hk.blk 2 rfl) Try.underlying93 rfl (by rw [state_size]; simp [HL.out]) ?_) | (refine wpList_store_mid rfl 93 (.tmp 2) (.tmp 15) rfl g2 0 _ rfl rfl (by have h := Hk.there 1 rfl; simpa [HL.out] using h) (by rw [state_size]; simp [HL.out]) (all_oneCell_toArray (u64_one _)) ?_))
      have H4 := (Hk.storeAll 1 rfl (vs := (kFromTo b 25).map u64v) (by simp [HL.out])).upd_mk (by simp)
      exact bodyPost_ret (results_cell_row rfl _ _ g2 93 ((kFromTo b 25).map u64v).toArray _ _ rfl (H4.blk 1 rfl) Try.underlying93 rfl (by rw [state_size]; simp [HL.out])) rfl ⟨by rw [HE.out], H4.below⟩
end Go.Proofs.Ytgjlclihgpahbaa
