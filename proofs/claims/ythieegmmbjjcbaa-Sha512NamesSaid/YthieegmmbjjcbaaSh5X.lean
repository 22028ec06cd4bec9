/- The document's SHA-512: turned words, the tables, walked. -/
import Derived.Test.YthieegmmbjjcbaaSh5R
namespace Go.Proofs.Ythieegmmbjjcbaa
open Go.RowKit
set_option linter.unusedVariables false
set_option maxRecDepth 100000

theorem wrapu' (x : Int) : IntKind.u64.wrap x = x % 18446744073709551616 := rfl

theorem ror_or (x : UInt64) (n : Nat) (h1 : 1 ≤ n) (h2 : n < 64) : bits .or .u64 ((x.toNat : Int) / 2 ^ n) ((x.toNat : Int) * 2 ^ (64 - n) % 18446744073709551616) = ((ror64 x n).toNat : Int) := by
  have e1 : (x.toNat : Int) / 2 ^ n = ((x.toNat / 2 ^ n : Nat) : Int) := by rw [Int.natCast_ediv, Int.natCast_pow]; rfl
  have e2 : (x.toNat : Int) * 2 ^ (64 - n) % 18446744073709551616 = ((x.toNat * 2 ^ (64 - n) % 2 ^ 64 : Nat) : Int) := by
    rw [Int.natCast_emod, Int.natCast_mul, Int.natCast_pow, show ((2 ^ 64 : Nat) : Int) = 18446744073709551616 from rfl]; rfl
  have hx := x.toNat_lt
  have hr := rotN_or 64 x.toNat (64 - n) (by omega) hx
  rw [show 64 - (64 - n) = n by omega] at hr
  have h3 : x.toNat / 2 ^ n < 2 ^ 64 := Nat.lt_of_le_of_lt (Nat.div_le_self _ _) hx
  rw [e1, e2, u64_or_nat _ _ h3 (Nat.mod_lt _ (by decide)), Nat.or_comm, hr, ror64_toNat x n h2 h1]

theorem rr_1 (x : UInt64) (w : World) (q : Nat) : Calls Try.prog 56 #[.int .u64 (x.toNat : Int), .int .u64 1] (w.drewN q) fun e w' => e = .returned (.int .u64 ((ror64 x 1).toNat : Int)) ∧ ∃ m, w' = w.drewN m := by
  have hv := ror_or x 1 (by omega) (by omega)
  rw [show ((2 : Int) ^ 1) = 2 from rfl, show ((2 : Int) ^ (64 - 1)) = 9223372036854775808 from rfl, ← wrapu'] at hv
  have HV := Lib.hid hv
  clear hv
  generalize hw : w.drewN q = w1
  have HW := Lib.hid hw
  clear hw
  go_enter Try.func56, Try.ntmps56
  go_wp2
  go_ret
  exact ⟨by rw [HV.out]; rfl, by rw [← HW.out]; exact ⟨_, rfl⟩⟩

theorem rr_8 (x : UInt64) (w : World) (q : Nat) : Calls Try.prog 56 #[.int .u64 (x.toNat : Int), .int .u64 8] (w.drewN q) fun e w' => e = .returned (.int .u64 ((ror64 x 8).toNat : Int)) ∧ ∃ m, w' = w.drewN m := by
  have hv := ror_or x 8 (by omega) (by omega)
  rw [show ((2 : Int) ^ 8) = 256 from rfl, show ((2 : Int) ^ (64 - 8)) = 72057594037927936 from rfl, ← wrapu'] at hv
  have HV := Lib.hid hv
  clear hv
  generalize hw : w.drewN q = w1
  have HW := Lib.hid hw
  clear hw
  go_enter Try.func56, Try.ntmps56
  go_wp2
  go_ret
  exact ⟨by rw [HV.out]; rfl, by rw [← HW.out]; exact ⟨_, rfl⟩⟩

theorem rr_14 (x : UInt64) (w : World) (q : Nat) : Calls Try.prog 56 #[.int .u64 (x.toNat : Int), .int .u64 14] (w.drewN q) fun e w' => e = .returned (.int .u64 ((ror64 x 14).toNat : Int)) ∧ ∃ m, w' = w.drewN m := by
  have hv := ror_or x 14 (by omega) (by omega)
  rw [show ((2 : Int) ^ 14) = 16384 from rfl, show ((2 : Int) ^ (64 - 14)) = 1125899906842624 from rfl, ← wrapu'] at hv
  have HV := Lib.hid hv
  clear hv
  generalize hw : w.drewN q = w1
  have HW := Lib.hid hw
  clear hw
  go_enter Try.func56, Try.ntmps56
  go_wp2
  go_ret
  exact ⟨by rw [HV.out]; rfl, by rw [← HW.out]; exact ⟨_, rfl⟩⟩

theorem rr_18 (x : UInt64) (w : World) (q : Nat) : Calls Try.prog 56 #[.int .u64 (x.toNat : Int), .int .u64 18] (w.drewN q) fun e w' => e = .returned (.int .u64 ((ror64 x 18).toNat : Int)) ∧ ∃ m, w' = w.drewN m := by
  have hv := ror_or x 18 (by omega) (by omega)
  rw [show ((2 : Int) ^ 18) = 262144 from rfl, show ((2 : Int) ^ (64 - 18)) = 70368744177664 from rfl, ← wrapu'] at hv
  have HV := Lib.hid hv
  clear hv
  generalize hw : w.drewN q = w1
  have HW := Lib.hid hw
  clear hw
  go_enter Try.func56, Try.ntmps56
  go_wp2
  go_ret
  exact ⟨by rw [HV.out]; rfl, by rw [← HW.out]; exact ⟨_, rfl⟩⟩

theorem rr_19 (x : UInt64) (w : World) (q : Nat) : Calls Try.prog 56 #[.int .u64 (x.toNat : Int), .int .u64 19] (w.drewN q) fun e w' => e = .returned (.int .u64 ((ror64 x 19).toNat : Int)) ∧ ∃ m, w' = w.drewN m := by
  have hv := ror_or x 19 (by omega) (by omega)
  rw [show ((2 : Int) ^ 19) = 524288 from rfl, show ((2 : Int) ^ (64 - 19)) = 35184372088832 from rfl, ← wrapu'] at hv
  have HV := Lib.hid hv
  clear hv
  generalize hw : w.drewN q = w1
  have HW := Lib.hid hw
  clear hw
  go_enter Try.func56, Try.ntmps56
  go_wp2
  go_ret
  exact ⟨by rw [HV.out]; rfl, by rw [← HW.out]; exact ⟨_, rfl⟩⟩

theorem rr_28 (x : UInt64) (w : World) (q : Nat) : Calls Try.prog 56 #[.int .u64 (x.toNat : Int), .int .u64 28] (w.drewN q) fun e w' => e = .returned (.int .u64 ((ror64 x 28).toNat : Int)) ∧ ∃ m, w' = w.drewN m := by
  have hv := ror_or x 28 (by omega) (by omega)
  rw [show ((2 : Int) ^ 28) = 268435456 from rfl, show ((2 : Int) ^ (64 - 28)) = 68719476736 from rfl, ← wrapu'] at hv
  have HV := Lib.hid hv
  clear hv
  generalize hw : w.drewN q = w1
  have HW := Lib.hid hw
  clear hw
  go_enter Try.func56, Try.ntmps56
  go_wp2
  go_ret
  exact ⟨by rw [HV.out]; rfl, by rw [← HW.out]; exact ⟨_, rfl⟩⟩

theorem rr_34 (x : UInt64) (w : World) (q : Nat) : Calls Try.prog 56 #[.int .u64 (x.toNat : Int), .int .u64 34] (w.drewN q) fun e w' => e = .returned (.int .u64 ((ror64 x 34).toNat : Int)) ∧ ∃ m, w' = w.drewN m := by
  have hv := ror_or x 34 (by omega) (by omega)
  rw [show ((2 : Int) ^ 34) = 17179869184 from rfl, show ((2 : Int) ^ (64 - 34)) = 1073741824 from rfl, ← wrapu'] at hv
  have HV := Lib.hid hv
  clear hv
  generalize hw : w.drewN q = w1
  have HW := Lib.hid hw
  clear hw
  go_enter Try.func56, Try.ntmps56
  go_wp2
  go_ret
  exact ⟨by rw [HV.out]; rfl, by rw [← HW.out]; exact ⟨_, rfl⟩⟩

theorem rr_39 (x : UInt64) (w : World) (q : Nat) : Calls Try.prog 56 #[.int .u64 (x.toNat : Int), .int .u64 39] (w.drewN q) fun e w' => e = .returned (.int .u64 ((ror64 x 39).toNat : Int)) ∧ ∃ m, w' = w.drewN m := by
  have hv := ror_or x 39 (by omega) (by omega)
  rw [show ((2 : Int) ^ 39) = 549755813888 from rfl, show ((2 : Int) ^ (64 - 39)) = 33554432 from rfl, ← wrapu'] at hv
  have HV := Lib.hid hv
  clear hv
  generalize hw : w.drewN q = w1
  have HW := Lib.hid hw
  clear hw
  go_enter Try.func56, Try.ntmps56
  go_wp2
  go_ret
  exact ⟨by rw [HV.out]; rfl, by rw [← HW.out]; exact ⟨_, rfl⟩⟩

theorem rr_41 (x : UInt64) (w : World) (q : Nat) : Calls Try.prog 56 #[.int .u64 (x.toNat : Int), .int .u64 41] (w.drewN q) fun e w' => e = .returned (.int .u64 ((ror64 x 41).toNat : Int)) ∧ ∃ m, w' = w.drewN m := by
  have hv := ror_or x 41 (by omega) (by omega)
  rw [show ((2 : Int) ^ 41) = 2199023255552 from rfl, show ((2 : Int) ^ (64 - 41)) = 8388608 from rfl, ← wrapu'] at hv
  have HV := Lib.hid hv
  clear hv
  generalize hw : w.drewN q = w1
  have HW := Lib.hid hw
  clear hw
  go_enter Try.func56, Try.ntmps56
  go_wp2
  go_ret
  exact ⟨by rw [HV.out]; rfl, by rw [← HW.out]; exact ⟨_, rfl⟩⟩

theorem rr_61 (x : UInt64) (w : World) (q : Nat) : Calls Try.prog 56 #[.int .u64 (x.toNat : Int), .int .u64 61] (w.drewN q) fun e w' => e = .returned (.int .u64 ((ror64 x 61).toNat : Int)) ∧ ∃ m, w' = w.drewN m := by
  have hv := ror_or x 61 (by omega) (by omega)
  rw [show ((2 : Int) ^ 61) = 2305843009213693952 from rfl, show ((2 : Int) ^ (64 - 61)) = 8 from rfl, ← wrapu'] at hv
  have HV := Lib.hid hv
  clear hv
  generalize hw : w.drewN q = w1
  have HW := Lib.hid hw
  clear hw
  go_enter Try.func56, Try.ntmps56
  go_wp2
  go_ret
  exact ⟨by rw [HV.out]; rfl, by rw [← HW.out]; exact ⟨_, rfl⟩⟩

set_option maxHeartbeats 1000000 in
theorem refTable_s (w : World) : Calls Try.prog 54 #[] w fun e w' => e = .returned (.agg (kTab5.map u64v).toArray) ∧ Below w.heap.size w w' := by
  have hz0 := zero80
  go_enter Try.func54, Try.ntmps54
  go_upto_region 1 with fail
  refine absorb_wp (St.start_lay w [] |>.allocAt 0 rfl w.heap.size rfl _ _ |>.push_mk rfl) ?_
  intro w3 H3
  generalize w.heap.size = g1 at H3 ⊢
  replace H3 : St w [] w3 (lay [.blk g1 80 (List.replicate 80 (.int .u64 0))]) := H3
  have ht : w3.there g1 0 kTabV.toArray.size := by have := H3.there 0 rfl; rw [List.length_replicate] at this; exact this
  have h1 : kTabV.toArray.all (·.oneCell') = true := all_oneCell_toArray (by rw [← kTabV_eq]; exact u64_one _)
  go_wp2_with (first | (refine wpList_build rfl (.agg kTabV.toArray) rfl (by kernel_rfl) ?_) | (with_reducible refine hold_store 80 (.tmp 0) (.tmp 1) (by rfl) ?_))
  refine Lib.hid ?_
  refine wpList_store_mid rfl 80 (.tmp 0) (.tmp 1) rfl g1 0 kTabV.toArray (by rfl) (by rfl) ht (by rw [tab_size]; rfl) h1 ?_
  have H4 := (H3.storeAll 0 rfl (vs := kTabV) rfl).upd_mk (by simp)
  show wpList Try.prog _ _ [] _ (w3.setCells g1 0 kTabV)
  go_wp2
  exact bodyPost_ret (results_cell_row rfl _ _ g1 80 kTabV.toArray _ _ rfl (H4.blk 0 rfl) Try.underlying80 rfl (by rw [tab_size]; rfl)) rfl ⟨by rw [kTabV_eq], H4.below⟩

set_option maxHeartbeats 1000000 in
theorem refBegin_s (w : World) : Calls Try.prog 50 #[] w fun e w' => e = .returned (.agg (hBeg5.map u64v).toArray) ∧ Below w.heap.size w w' := by
  have hz0 := zero80
  go_enter Try.func50, Try.ntmps50
  go_upto_region 1 with fail
  refine absorb_wp (St.start_lay w [] |>.allocAt 0 rfl w.heap.size rfl _ _ |>.push_mk rfl) ?_
  intro w3 H3
  generalize w.heap.size = g1 at H3 ⊢
  replace H3 : St w [] w3 (lay [.blk g1 69 (List.replicate 8 (.int .u64 0))]) := H3
  have ht : w3.there g1 0 hBegV.toArray.size := by have := H3.there 0 rfl; rw [List.length_replicate] at this; exact this
  have h1 : hBegV.toArray.all (·.oneCell') = true := all_oneCell_toArray (by rw [← hBegV_eq]; exact u64_one _)
  go_wp2_with (first | (refine wpList_build rfl (.agg hBegV.toArray) rfl (by kernel_rfl) ?_) | (with_reducible refine hold_store 69 (.tmp 0) (.tmp 1) (by rfl) ?_))
  refine Lib.hid ?_
  refine wpList_store_mid rfl 69 (.tmp 0) (.tmp 1) rfl g1 0 hBegV.toArray (by rfl) (by rfl) ht (by rw [a8_size]; rfl) h1 ?_
  have H4 := (H3.storeAll 0 rfl (vs := hBegV) rfl).upd_mk (by simp)
  show wpList Try.prog _ _ [] _ (w3.setCells g1 0 hBegV)
  go_wp2
  exact bodyPost_ret (results_cell_row rfl _ _ g1 69 hBegV.toArray _ _ rfl (H4.blk 0 rfl) Try.underlying69 rfl (by rw [a8_size]; rfl)) rfl ⟨by rw [hBegV_eq], H4.below⟩
end Go.Proofs.Ythieegmmbjjcbaa
