/- The program's round constants, walked. -/
import Derived.Test.YtgjlclihgpahbaaKecW
namespace Go.Proofs.Ytgjlclihgpahbaa
open Go.RowKit
set_option linter.unusedVariables false

theorem con_size : (Try.prog.info? 101).map (·.size) = some 24 := by kernel_rfl
theorem u8_lfsr (r : UInt8) : bits .xor .u8 ((r.toNat : Int) * 2 % 256) (bits .and .u8 113 (-((r.toNat : Int) / 128) % 256)) = ((lfsr r).toNat : Int) := by
  have H : ∀ n : Fin 256, bits .xor .u8 ((n.val : Int) * 2 % 256) (bits .and .u8 113 (-((n.val : Int) / 128) % 256)) = ((lfsr (UInt8.ofNat n.val)).toNat : Int) := by decide +kernel
  have h := H ⟨r.toNat, r.toNat_lt⟩
  simpa using h
theorem con_bit (r : UInt8) (m : Nat) (hm : m < 7) : IntKind.u64.wrap (IntKind.u64.wrap (bits .and .u8 (r.toNat : Int) 1) * 2 ^ min (IntKind.u64.wrap (IntKind.u64.wrap (2 ^ m) - 1)).toNat 64) =
    (((r &&& 1).toUInt64 <<< UInt64.ofNat (2 ^ m - 1)).toNat : Int) := by
  have H : ∀ n : Fin 256, ∀ m : Fin 7, IntKind.u64.wrap (IntKind.u64.wrap (bits .and .u8 (n.val : Int) 1) * 2 ^ min (IntKind.u64.wrap (IntKind.u64.wrap (2 ^ m.val) - 1)).toNat 64) =
    (((UInt8.ofNat n.val &&& 1).toUInt64 <<< UInt64.ofNat (2 ^ m.val - 1)).toNat : Int) := by decide +kernel
  have h := H ⟨r.toNat, r.toNat_lt⟩ ⟨m, hm⟩
  simpa using h

set_option maxHeartbeats 1000000 in
theorem constants_s (w : World) :
    Calls Try.prog 59 #[] w fun e w' => e = .returned (.agg (kConsts.map u64v).toArray) ∧ Below w.heap.size w w' := by
  go_enter Try.func59, Try.ntmps59
  go_wp2
  refine absorb_wp (St.start_lay w [] |>.allocAt 0 rfl w.heap.size rfl _ _ |>.push_mk rfl |>.allocAt 1 rfl (w.heap.size + 1) (by simp) _ _ |>.push_mk rfl) ?_
  intro w3 H3
  generalize w.heap.size + 1 = g2 at H3 ⊢
  generalize w.heap.size = g1 at H3 ⊢
  go_loopw [2, 5] (fun r i wr => ∃ k : Nat, k ≤ 24 ∧ i = .int .i64 k ∧ r = .int .u8 ((kConI k).2.toNat : Int) ∧ St w [] wr (lay [.blk g1 101 ((List.replicate 24 0).map u64v), .blk g2 101 ((kConI k).1.map u64v)])) (fun _ i _ => 24 - (intOf i).toNat)
  case atStart => exact ⟨0, by omega, rfl, rfl, H3⟩
  case round =>
    clear H3
    obtain ⟨k, hk, rfl, rfl, Hk⟩ := hrel
    by_cases hlt : k < 24
    · have hk1 : (k : Int) < 24 := by omega
      go_wp2
      go_loopw [2, 8] (fun r j wr => ∃ m : Nat, m ≤ 7 ∧ j = .int .i64 m ∧ r = .int .u8 ((kConJ k (kConI k) m).2.toNat : Int) ∧ St w [] wr (lay [.blk g1 101 ((List.replicate 24 0).map u64v), .blk g2 101 ((kConJ k (kConI k) m).1.map u64v)])) (fun _ j _ => 7 - (intOf j).toNat)
      case atStart => exact ⟨0, by omega, rfl, rfl, Hk⟩
      case round =>
        clear Hk
        obtain ⟨m, hm, rfl, rfl, Hk⟩ := hrel
        have HL := Lib.hid (kConJ_length k (kConI k) m)
        by_cases hlm : m < 7
        · have a0 := Hk.cell 1 rfl (u64_get (k := k) (by rw [HL.out, kConI_length]; exact hlt))
          have af := Hk.free 1 rfl k
          have hm1 : (m : Int) < 7 := by omega
          go_wp2
          refine region_quiet_tail 12 (by kernel_rfl) (by kernel_rfl) ?_
          simp only [List.take_succ_cons, List.take_zero, List.drop_succ_cons, List.drop_zero]
          repeat (go_big_quiet_step (fail))
          refine wpQuiet_nil ?_
          intro nq
          go_wp2
          go_roundw
          case rel => exact ⟨m + 1, by omega, by go_num, by rw [u8_lfsr]; rfl, by rw [con_bit _ _ hlm, or64]; exact by have h := ((Hk.drewN nq).store 1 rfl (o := k) (u := u64v (at64 (kConJ k (kConI k) m).1 k ||| ((kConJ k (kConI k) m).2 &&& 1).toUInt64 <<< UInt64.ofNat (2 ^ m - 1)))).upd_mk (by simp); rw [u64_set] at h; exact h⟩
          case measure => simp [intOf]; omega
        · obtain rfl : m = 7 := by omega
          go_wp2
          go_roundw
          case rel => exact ⟨k + 1, by omega, by go_num, rfl, Hk⟩
          case measure => simp [intOf]; omega
    · obtain rfl : k = 24 := by omega
      have HC := Lib.hid kConI_24
      go_wp2_with (first | (refine wpList_load_row rfl 101 (.tmp 1) rfl g2 rfl _ _ _ _ (Hk.blk 1 rfl) Try.underlying101 rfl (by rw [con_size]; simp [kConI_length]) ?_) | (refine wpList_store_mid rfl 101 (.tmp 0) (.tmp 32) rfl g1 0 _ rfl rfl (by simpa [kConI_length] using Hk.there 0 rfl) (by rw [con_size]; simp [kConI_length]) (all_oneCell_toArray (u64_one _)) ?_))
      have H4 := (Hk.storeAll 0 rfl (vs := (kConI 24).1.map u64v) (by simp [kConI_length])).upd_mk (by simp)
      exact bodyPost_ret (results_cell_row rfl _ _ g1 101 ((kConI 24).1.map u64v).toArray _ _ rfl (H4.blk 0 rfl) Try.underlying101 rfl (by rw [con_size]; simp [kConI_length])) rfl ⟨by rw [HC.out], H4.below⟩
end Go.Proofs.Ytgjlclihgpahbaa
