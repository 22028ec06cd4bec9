/- SHA-256: turned words, the table, walked. -/
import Derived.Test.YtcnphkmcgefjoaaSh2P
import Derived.Test.YtcnphkmcgefjoaaTurn
import Derived.Test.YtcnphkmcgefjoaaSep
namespace Go.Proofs.Ytcnphkmcgefjoaa
open Go.RowKit
set_option linter.unusedVariables false
set_option maxRecDepth 100000

theorem right_any (x : UInt32) (n : Nat) (h1 : 1 ≤ n) (h2 : n < 32) (N : Int) (hN : N = n) (w : World) :
    Calls Try.prog 70 #[.int .u32 (x.toNat : Int), .int .i64 N] w fun e w' => e = .returned (.int .u32 ((ror32 x n).toNat : Int)) ∧ ∃ q, w' = w.drewN q := by
  subst hN
  have hc := turn_u32 x.toNat (32 - (n : Int)) w x.toNat_lt
  rw [show ((32 - (n : Int)) % 32).toNat = 32 - n by omega, ← ror32_toNat x n h2 h1] at hc
  have HC := Lib.hid hc
  clear hc
  go_enter Try.func70, Try.ntmps70
  go_wp2_with fail
  refine HC.out.mono ?_
  rintro e w1 ⟨rfl, q, rfl⟩
  go_wp2
  go_ret
  exact ⟨rfl, q, rfl⟩

theorem right_q (x : UInt32) (n : Nat) (h1 : 1 ≤ n) (h2 : n < 32) (N : Int) (hN : N = n) (w : World) (q : Nat) :
    Calls Try.prog 70 #[.int .u32 (x.toNat : Int), .int .i64 N] (w.drewN q) fun e w' => e = .returned (.int .u32 ((ror32 x n).toNat : Int)) ∧ ∃ m, w' = w.drewN m :=
  (right_any x n h1 h2 N hN (w.drewN q)).mono fun e w' h => ⟨h.1, by obtain ⟨m, rfl⟩ := h.2; exact ⟨q + m, by rw [World.drewN_drewN]⟩⟩

theorem rq_2 (x : UInt32) (w : World) (q : Nat) : Calls Try.prog 70 #[.int .u32 (x.toNat : Int), .int .i64 2] (w.drewN q) fun e w' => e = .returned (.int .u32 ((ror32 x 2).toNat : Int)) ∧ ∃ m, w' = w.drewN m :=
  right_q x 2 (by omega) (by omega) 2 rfl w q
theorem rq_6 (x : UInt32) (w : World) (q : Nat) : Calls Try.prog 70 #[.int .u32 (x.toNat : Int), .int .i64 6] (w.drewN q) fun e w' => e = .returned (.int .u32 ((ror32 x 6).toNat : Int)) ∧ ∃ m, w' = w.drewN m :=
  right_q x 6 (by omega) (by omega) 6 rfl w q
theorem rq_7 (x : UInt32) (w : World) (q : Nat) : Calls Try.prog 70 #[.int .u32 (x.toNat : Int), .int .i64 7] (w.drewN q) fun e w' => e = .returned (.int .u32 ((ror32 x 7).toNat : Int)) ∧ ∃ m, w' = w.drewN m :=
  right_q x 7 (by omega) (by omega) 7 rfl w q
theorem rq_11 (x : UInt32) (w : World) (q : Nat) : Calls Try.prog 70 #[.int .u32 (x.toNat : Int), .int .i64 11] (w.drewN q) fun e w' => e = .returned (.int .u32 ((ror32 x 11).toNat : Int)) ∧ ∃ m, w' = w.drewN m :=
  right_q x 11 (by omega) (by omega) 11 rfl w q
theorem rq_13 (x : UInt32) (w : World) (q : Nat) : Calls Try.prog 70 #[.int .u32 (x.toNat : Int), .int .i64 13] (w.drewN q) fun e w' => e = .returned (.int .u32 ((ror32 x 13).toNat : Int)) ∧ ∃ m, w' = w.drewN m :=
  right_q x 13 (by omega) (by omega) 13 rfl w q
theorem rq_17 (x : UInt32) (w : World) (q : Nat) : Calls Try.prog 70 #[.int .u32 (x.toNat : Int), .int .i64 17] (w.drewN q) fun e w' => e = .returned (.int .u32 ((ror32 x 17).toNat : Int)) ∧ ∃ m, w' = w.drewN m :=
  right_q x 17 (by omega) (by omega) 17 rfl w q
theorem rq_18 (x : UInt32) (w : World) (q : Nat) : Calls Try.prog 70 #[.int .u32 (x.toNat : Int), .int .i64 18] (w.drewN q) fun e w' => e = .returned (.int .u32 ((ror32 x 18).toNat : Int)) ∧ ∃ m, w' = w.drewN m :=
  right_q x 18 (by omega) (by omega) 18 rfl w q
theorem rq_19 (x : UInt32) (w : World) (q : Nat) : Calls Try.prog 70 #[.int .u32 (x.toNat : Int), .int .i64 19] (w.drewN q) fun e w' => e = .returned (.int .u32 ((ror32 x 19).toNat : Int)) ∧ ∃ m, w' = w.drewN m :=
  right_q x 19 (by omega) (by omega) 19 rfl w q
theorem rq_22 (x : UInt32) (w : World) (q : Nat) : Calls Try.prog 70 #[.int .u32 (x.toNat : Int), .int .i64 22] (w.drewN q) fun e w' => e = .returned (.int .u32 ((ror32 x 22).toNat : Int)) ∧ ∃ m, w' = w.drewN m :=
  right_q x 22 (by omega) (by omega) 22 rfl w q
theorem rq_25 (x : UInt32) (w : World) (q : Nat) : Calls Try.prog 70 #[.int .u32 (x.toNat : Int), .int .i64 25] (w.drewN q) fun e w' => e = .returned (.int .u32 ((ror32 x 25).toNat : Int)) ∧ ∃ m, w' = w.drewN m :=
  right_q x 25 (by omega) (by omega) 25 rfl w q

theorem tab_size : (Try.prog.info? 103).map (·.size) = some 64 := by kernel_rfl

def kTabV : List Value := [.int .u32 1116352408, .int .u32 1899447441, .int .u32 3049323471, .int .u32 3921009573, .int .u32 961987163, .int .u32 1508970993, .int .u32 2453635748, .int .u32 2870763221, .int .u32 3624381080, .int .u32 310598401, .int .u32 607225278, .int .u32 1426881987, .int .u32 1925078388, .int .u32 2162078206, .int .u32 2614888103, .int .u32 3248222580, .int .u32 3835390401, .int .u32 4022224774, .int .u32 264347078, .int .u32 604807628, .int .u32 770255983, .int .u32 1249150122, .int .u32 1555081692, .int .u32 1996064986, .int .u32 2554220882, .int .u32 2821834349, .int .u32 2952996808, .int .u32 3210313671, .int .u32 3336571891, .int .u32 3584528711, .int .u32 113926993, .int .u32 338241895, .int .u32 666307205, .int .u32 773529912, .int .u32 1294757372, .int .u32 1396182291, .int .u32 1695183700, .int .u32 1986661051, .int .u32 2177026350, .int .u32 2456956037, .int .u32 2730485921, .int .u32 2820302411, .int .u32 3259730800, .int .u32 3345764771, .int .u32 3516065817, .int .u32 3600352804, .int .u32 4094571909, .int .u32 275423344, .int .u32 430227734, .int .u32 506948616, .int .u32 659060556, .int .u32 883997877, .int .u32 958139571, .int .u32 1322822218, .int .u32 1537002063, .int .u32 1747873779, .int .u32 1955562222, .int .u32 2024104815, .int .u32 2227730452, .int .u32 2361852424, .int .u32 2428436474, .int .u32 2756734187, .int .u32 3204031479, .int .u32 3329325298]
theorem kTabV_eq : kTab2.map u32v = kTabV := by kernel_rfl

theorem zeros32 : (List.replicate 64 (0 : UInt32)).map u32v = List.replicate 64 (.int .u32 0) := by rw [List.map_replicate]; rfl

set_option maxHeartbeats 1000000 in
theorem table_s (w : World) : Calls Try.prog 68 #[] w fun e w' => e = .returned (.agg (kTab2.map u32v).toArray) ∧ Below w.heap.size w w' := by
  go_enter Try.func68, Try.ntmps68
  go_upto_region 1 with fail
  refine absorb_wp (St.start_lay w [] |>.allocAt 0 rfl w.heap.size rfl _ _ |>.push_mk rfl) ?_
  intro w3 H3
  generalize w.heap.size = g1 at H3 ⊢
  replace H3 : St w [] w3 (lay [.blk g1 103 (List.replicate 64 (.int .u32 0))]) := H3
  have ht : w3.there g1 0 kTabV.toArray.size := by have := H3.there 0 rfl; rw [List.length_replicate] at this; exact this
  have h1 : kTabV.toArray.all (·.oneCell') = true := all_oneCell_toArray (by rw [← kTabV_eq]; exact u32_one _)
  go_wp2_with (refine wpList_store_mid rfl 103 (.tmp 0) (.tmp 1) rfl g1 0 kTabV.toArray rfl rfl ht (by rw [tab_size]; rfl) h1 ?_)
  have H4 := (H3.storeAll 0 rfl (vs := kTabV) rfl).upd_mk (by simp)
  exact bodyPost_ret (results_cell_row rfl _ _ g1 103 kTabV.toArray _ _ rfl (H4.blk 0 rfl) Try.underlying103 rfl (by rw [tab_size]; rfl)) rfl ⟨by rw [kTabV_eq], H4.below⟩
end Go.Proofs.Ytcnphkmcgefjoaa
