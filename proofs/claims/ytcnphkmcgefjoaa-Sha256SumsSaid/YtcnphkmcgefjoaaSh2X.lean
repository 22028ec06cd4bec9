/- The document's SHA-256: turned words, the table, the first words, walked. -/
import Derived.Test.YtcnphkmcgefjoaaSh2V
import Derived.Test.YtcnphkmcgefjoaaLedR
namespace Go.Proofs.Ytcnphkmcgefjoaa
open Go.RowKit
set_option linter.unusedVariables false
set_option maxRecDepth 100000

theorem ror_or (x : UInt32) (n : Nat) (h1 : 1 ≤ n) (h2 : n < 32) : bits .or .u32 ((x.toNat : Int) / 2 ^ n) ((x.toNat : Int) * 2 ^ (32 - n) % 4294967296) = ((ror32 x n).toNat : Int) := by
  have e1 : (x.toNat : Int) / 2 ^ n = ((x.toNat / 2 ^ n : Nat) : Int) := by rw [Int.natCast_ediv, Int.natCast_pow]; rfl
  have e2 : (x.toNat : Int) * 2 ^ (32 - n) % 4294967296 = ((x.toNat * 2 ^ (32 - n) % 2 ^ 32 : Nat) : Int) := by
    rw [Int.natCast_emod, Int.natCast_mul, Int.natCast_pow, show ((2 ^ 32 : Nat) : Int) = 4294967296 from rfl]; rfl
  have hx := x.toNat_lt
  have hr := rotN_or 32 x.toNat (32 - n) (by omega) hx
  rw [show 32 - (32 - n) = n by omega] at hr
  have h3 : x.toNat / 2 ^ n < 2 ^ 32 := Nat.lt_of_le_of_lt (Nat.div_le_self _ _) hx
  rw [e1, e2, u32_or_nat _ _ h3 (Nat.mod_lt _ (by decide)), Nat.or_comm, hr, ror32_toNat x n h2 h1]

theorem rr_2 (x : UInt32) (w : World) (q : Nat) : Calls Try.prog 77 #[.int .u32 (x.toNat : Int), .int .i64 2] (w.drewN q) fun e w' => e = .returned (.int .u32 ((ror32 x 2).toNat : Int)) ∧ ∃ m, w' = w.drewN m := by
  have hv := ror_or x 2 (by omega) (by omega)
  rw [show ((2 : Int) ^ 2) = 4 from rfl, show ((2 : Int) ^ (32 - 2)) = 1073741824 from rfl] at hv
  have HV := Lib.hid hv
  clear hv
  generalize hw : w.drewN q = w1
  have HW := Lib.hid hw
  clear hw
  go_enter Try.func77, Try.ntmps77
  go_wp2
  go_quiet (fail)
  go_wp2
  go_ret
  exact ⟨by rw [HV.out]; rfl, by rw [← HW.out]; exact ⟨_, World.drewN_drewN _ _ _⟩⟩

theorem rr_6 (x : UInt32) (w : World) (q : Nat) : Calls Try.prog 77 #[.int .u32 (x.toNat : Int), .int .i64 6] (w.drewN q) fun e w' => e = .returned (.int .u32 ((ror32 x 6).toNat : Int)) ∧ ∃ m, w' = w.drewN m := by
  have hv := ror_or x 6 (by omega) (by omega)
  rw [show ((2 : Int) ^ 6) = 64 from rfl, show ((2 : Int) ^ (32 - 6)) = 67108864 from rfl] at hv
  have HV := Lib.hid hv
  clear hv
  generalize hw : w.drewN q = w1
  have HW := Lib.hid hw
  clear hw
  go_enter Try.func77, Try.ntmps77
  go_wp2
  go_quiet (fail)
  go_wp2
  go_ret
  exact ⟨by rw [HV.out]; rfl, by rw [← HW.out]; exact ⟨_, World.drewN_drewN _ _ _⟩⟩

theorem rr_7 (x : UInt32) (w : World) (q : Nat) : Calls Try.prog 77 #[.int .u32 (x.toNat : Int), .int .i64 7] (w.drewN q) fun e w' => e = .returned (.int .u32 ((ror32 x 7).toNat : Int)) ∧ ∃ m, w' = w.drewN m := by
  have hv := ror_or x 7 (by omega) (by omega)
  rw [show ((2 : Int) ^ 7) = 128 from rfl, show ((2 : Int) ^ (32 - 7)) = 33554432 from rfl] at hv
  have HV := Lib.hid hv
  clear hv
  generalize hw : w.drewN q = w1
  have HW := Lib.hid hw
  clear hw
  go_enter Try.func77, Try.ntmps77
  go_wp2
  go_quiet (fail)
  go_wp2
  go_ret
  exact ⟨by rw [HV.out]; rfl, by rw [← HW.out]; exact ⟨_, World.drewN_drewN _ _ _⟩⟩

theorem rr_11 (x : UInt32) (w : World) (q : Nat) : Calls Try.prog 77 #[.int .u32 (x.toNat : Int), .int .i64 11] (w.drewN q) fun e w' => e = .returned (.int .u32 ((ror32 x 11).toNat : Int)) ∧ ∃ m, w' = w.drewN m := by
  have hv := ror_or x 11 (by omega) (by omega)
  rw [show ((2 : Int) ^ 11) = 2048 from rfl, show ((2 : Int) ^ (32 - 11)) = 2097152 from rfl] at hv
  have HV := Lib.hid hv
  clear hv
  generalize hw : w.drewN q = w1
  have HW := Lib.hid hw
  clear hw
  go_enter Try.func77, Try.ntmps77
  go_wp2
  go_quiet (fail)
  go_wp2
  go_ret
  exact ⟨by rw [HV.out]; rfl, by rw [← HW.out]; exact ⟨_, World.drewN_drewN _ _ _⟩⟩

theorem rr_13 (x : UInt32) (w : World) (q : Nat) : Calls Try.prog 77 #[.int .u32 (x.toNat : Int), .int .i64 13] (w.drewN q) fun e w' => e = .returned (.int .u32 ((ror32 x 13).toNat : Int)) ∧ ∃ m, w' = w.drewN m := by
  have hv := ror_or x 13 (by omega) (by omega)
  rw [show ((2 : Int) ^ 13) = 8192 from rfl, show ((2 : Int) ^ (32 - 13)) = 524288 from rfl] at hv
  have HV := Lib.hid hv
  clear hv
  generalize hw : w.drewN q = w1
  have HW := Lib.hid hw
  clear hw
  go_enter Try.func77, Try.ntmps77
  go_wp2
  go_quiet (fail)
  go_wp2
  go_ret
  exact ⟨by rw [HV.out]; rfl, by rw [← HW.out]; exact ⟨_, World.drewN_drewN _ _ _⟩⟩

theorem rr_17 (x : UInt32) (w : World) (q : Nat) : Calls Try.prog 77 #[.int .u32 (x.toNat : Int), .int .i64 17] (w.drewN q) fun e w' => e = .returned (.int .u32 ((ror32 x 17).toNat : Int)) ∧ ∃ m, w' = w.drewN m := by
  have hv := ror_or x 17 (by omega) (by omega)
  rw [show ((2 : Int) ^ 17) = 131072 from rfl, show ((2 : Int) ^ (32 - 17)) = 32768 from rfl] at hv
  have HV := Lib.hid hv
  clear hv
  generalize hw : w.drewN q = w1
  have HW := Lib.hid hw
  clear hw
  go_enter Try.func77, Try.ntmps77
  go_wp2
  go_quiet (fail)
  go_wp2
  go_ret
  exact ⟨by rw [HV.out]; rfl, by rw [← HW.out]; exact ⟨_, World.drewN_drewN _ _ _⟩⟩

theorem rr_18 (x : UInt32) (w : World) (q : Nat) : Calls Try.prog 77 #[.int .u32 (x.toNat : Int), .int .i64 18] (w.drewN q) fun e w' => e = .returned (.int .u32 ((ror32 x 18).toNat : Int)) ∧ ∃ m, w' = w.drewN m := by
  have hv := ror_or x 18 (by omega) (by omega)
  rw [show ((2 : Int) ^ 18) = 262144 from rfl, show ((2 : Int) ^ (32 - 18)) = 16384 from rfl] at hv
  have HV := Lib.hid hv
  clear hv
  generalize hw : w.drewN q = w1
  have HW := Lib.hid hw
  clear hw
  go_enter Try.func77, Try.ntmps77
  go_wp2
  go_quiet (fail)
  go_wp2
  go_ret
  exact ⟨by rw [HV.out]; rfl, by rw [← HW.out]; exact ⟨_, World.drewN_drewN _ _ _⟩⟩

theorem rr_19 (x : UInt32) (w : World) (q : Nat) : Calls Try.prog 77 #[.int .u32 (x.toNat : Int), .int .i64 19] (w.drewN q) fun e w' => e = .returned (.int .u32 ((ror32 x 19).toNat : Int)) ∧ ∃ m, w' = w.drewN m := by
  have hv := ror_or x 19 (by omega) (by omega)
  rw [show ((2 : Int) ^ 19) = 524288 from rfl, show ((2 : Int) ^ (32 - 19)) = 8192 from rfl] at hv
  have HV := Lib.hid hv
  clear hv
  generalize hw : w.drewN q = w1
  have HW := Lib.hid hw
  clear hw
  go_enter Try.func77, Try.ntmps77
  go_wp2
  go_quiet (fail)
  go_wp2
  go_ret
  exact ⟨by rw [HV.out]; rfl, by rw [← HW.out]; exact ⟨_, World.drewN_drewN _ _ _⟩⟩

theorem rr_22 (x : UInt32) (w : World) (q : Nat) : Calls Try.prog 77 #[.int .u32 (x.toNat : Int), .int .i64 22] (w.drewN q) fun e w' => e = .returned (.int .u32 ((ror32 x 22).toNat : Int)) ∧ ∃ m, w' = w.drewN m := by
  have hv := ror_or x 22 (by omega) (by omega)
  rw [show ((2 : Int) ^ 22) = 4194304 from rfl, show ((2 : Int) ^ (32 - 22)) = 1024 from rfl] at hv
  have HV := Lib.hid hv
  clear hv
  generalize hw : w.drewN q = w1
  have HW := Lib.hid hw
  clear hw
  go_enter Try.func77, Try.ntmps77
  go_wp2
  go_quiet (fail)
  go_wp2
  go_ret
  exact ⟨by rw [HV.out]; rfl, by rw [← HW.out]; exact ⟨_, World.drewN_drewN _ _ _⟩⟩

theorem rr_25 (x : UInt32) (w : World) (q : Nat) : Calls Try.prog 77 #[.int .u32 (x.toNat : Int), .int .i64 25] (w.drewN q) fun e w' => e = .returned (.int .u32 ((ror32 x 25).toNat : Int)) ∧ ∃ m, w' = w.drewN m := by
  have hv := ror_or x 25 (by omega) (by omega)
  rw [show ((2 : Int) ^ 25) = 33554432 from rfl, show ((2 : Int) ^ (32 - 25)) = 128 from rfl] at hv
  have HV := Lib.hid hv
  clear hv
  generalize hw : w.drewN q = w1
  have HW := Lib.hid hw
  clear hw
  go_enter Try.func77, Try.ntmps77
  go_wp2
  go_quiet (fail)
  go_wp2
  go_ret
  exact ⟨by rw [HV.out]; rfl, by rw [← HW.out]; exact ⟨_, World.drewN_drewN _ _ _⟩⟩

set_option maxHeartbeats 1000000 in
theorem refTable_s (w : World) : Calls Try.prog 76 #[] w fun e w' => e = .returned (.agg (kTab2.map u32v).toArray) ∧ Below w.heap.size w w' := by
  go_enter Try.func76, Try.ntmps76
  go_upto_region 1 with fail
  refine absorb_wp (St.start_lay w [] |>.allocAt 0 rfl w.heap.size rfl _ _ |>.push_mk rfl) ?_
  intro w3 H3
  generalize w.heap.size = g1 at H3 ⊢
  replace H3 : St w [] w3 (lay [.blk g1 103 (List.replicate 64 (.int .u32 0))]) := H3
  have ht : w3.there g1 0 kTabV.toArray.size := by have := H3.there 0 rfl; rw [List.length_replicate] at this; exact this
  have h1 : kTabV.toArray.all (·.oneCell') = true := all_oneCell_toArray (by rw [← kTabV_eq]; exact u32_one _)
  go_wp2_with (with_reducible refine hold_store 103 (.tmp 0) (.tmp 1) (by rfl) ?_)
  refine Lib.hid ?_
  refine wpList_store_mid rfl 103 (.tmp 0) (.tmp 1) rfl g1 0 kTabV.toArray rfl rfl ht (by rw [tab_size]; rfl) h1 ?_
  have H4 := (H3.storeAll 0 rfl (vs := kTabV) rfl).upd_mk (by simp)
  show wpList Try.prog _ _ [] _ (w3.setCells g1 0 kTabV)
  go_wp2
  exact bodyPost_ret (results_cell_row rfl _ _ g1 103 kTabV.toArray _ _ rfl (H4.blk 0 rfl) Try.underlying103 rfl (by rw [tab_size]; rfl)) rfl ⟨by rw [kTabV_eq], H4.below⟩

def hBegV : List Value := [.int .u32 1779033703, .int .u32 3144134277, .int .u32 1013904242, .int .u32 2773480762, .int .u32 1359893119, .int .u32 2600822924, .int .u32 528734635, .int .u32 1541459225]
theorem hBegV_eq : hBeg2.map u32v = hBegV := by kernel_rfl

set_option maxHeartbeats 1000000 in
theorem refBegin_s (w : World) : Calls Try.prog 71 #[] w fun e w' => e = .returned (.agg (hBeg2.map u32v).toArray) ∧ Below w.heap.size w w' := by
  go_enter Try.func71, Try.ntmps71
  go_upto_region 1 with fail
  refine absorb_wp (St.start_lay w [] |>.allocAt 0 rfl w.heap.size rfl _ _ |>.push_mk rfl) ?_
  intro w3 H3
  generalize w.heap.size = g1 at H3 ⊢
  replace H3 : St w [] w3 (lay [.blk g1 40 (List.replicate 8 (.int .u32 0))]) := H3
  have ht : w3.there g1 0 hBegV.toArray.size := by have := H3.there 0 rfl; rw [List.length_replicate] at this; exact this
  have h1 : hBegV.toArray.all (·.oneCell') = true := all_oneCell_toArray (by rw [← hBegV_eq]; exact u32_one _)
  go_wp2_with (with_reducible refine hold_store 40 (.tmp 0) (.tmp 1) (by rfl) ?_)
  refine Lib.hid ?_
  refine wpList_store_mid rfl 40 (.tmp 0) (.tmp 1) rfl g1 0 hBegV.toArray rfl rfl ht (by rw [h8size]; rfl) h1 ?_
  have H4 := (H3.storeAll 0 rfl (vs := hBegV) rfl).upd_mk (by simp)
  show wpList Try.prog _ _ [] _ (w3.setCells g1 0 hBegV)
  go_wp2
  exact bodyPost_ret (results_cell_row rfl _ _ g1 40 hBegV.toArray _ _ rfl (H4.blk 0 rfl) Try.underlying40 rfl (by rw [h8size]; rfl)) rfl ⟨by rw [hBegV_eq], H4.below⟩
end Go.Proofs.Ytcnphkmcgefjoaa
