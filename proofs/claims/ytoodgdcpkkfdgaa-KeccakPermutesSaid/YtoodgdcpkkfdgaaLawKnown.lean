/- The law KeccakKnown, walked. -/
import Derived.Test.YtoodgdcpkkfdgaaKecA
namespace Go.Proofs.Ytoodgdcpkkfdgaa
open Go.RowKit
set_option linter.unusedVariables false

def kFar : List UInt8 := List.replicate 199 0 ++ [128]
theorem kFar_eq : (zb 200).set 199 (.int .u8 128) = kFar.map vb := by unfold zb kFar; rfl
theorem zb_199 : (zb 200)[199]? = some (.int .u8 0) := by unfold zb; rfl
theorem kFar_length : kFar.length = 200 := by unfold kFar; rw [List.length_append, List.length_replicate]; rfl
theorem kFar_24 : at64 (kFrom kFar) 24 = 9223372036854775808 := by decide +kernel
theorem kFar_0 : at64 (kFrom kFar) 0 = 0 := by decide +kernel
theorem kBytes_zero : kBytes kZero = List.replicate 200 0 := by decide +kernel
theorem zb_eq : zb 200 = (List.replicate 200 (0 : UInt8)).map vb := by unfold zb; rw [List.map_replicate]; rfl
theorem runs_one (w : World) :
    Calls Try.prog 17 #[.int .i64 1] w fun e w' => ∃ v, e = .returned v ∧ w'.ownsRow w.heap.size 63 3 v 1 (runsV [(3, 200, 1)]) ∧ Below w.heap.size w w' := runs_s 1 w (by omega)
theorem sameRuns_yes (A B : Option Addr) (n m c d : Nat) (xs ys : List RunT) (w : World) (ha : Rd w 3 A n (runsV xs)) (hb : Rd w 3 B m (runsV ys)) (hn : xs.length = n) (hm : ys.length = m) (hl : n ≤ 1000000000) (h : xs = ys) :
    Calls Try.prog 15 #[.slice A n c, .slice B m d] w fun e w' => e = .returned (.bool true) ∧ Below w.heap.size w w' := by
  subst hn hm h
  exact (sameRuns_any A B c d xs xs ha hb hl hl).mono fun _ _ ⟨h1, k, h2⟩ => ⟨by rw [h1]; simp, by rw [h2]; exact bdrewN (Below.refl _ _) k⟩
attribute [local irreducible] kPerm kBytes kOne kTwo kFrom

set_option maxHeartbeats 2000000 in
theorem keccakKnown_walk (w : World) : Calls Try.prog 6 #[] w fun e w' => e = .returned (.bool true) ∧ Below w.heap.size w w' := by
  have H0 := St.start_lay w []
  go_enter Try.func6, Try.ntmps6
  go_wp2_with fail
  refine (ledger_new H0 0 rfl).mono ?_
  rintro e w1 ⟨l, rfl, H1⟩
  replace H1 := H1.push_mk rfl
  clear H0
  go_wp2_with fail
  refine (permute_s l (some []) 0 kZero H1 0 rfl LGood.nil (by omega) rfl).mono ?_
  rintro e w2 ⟨rfl, H2⟩
  replace H2 := H2.upd_mk (by simp)
  clear H1
  have hz0 := zero_bytes
  have hz1 := zb_199
  have hz2 := kFar_eq
  go_wp2_with (refine wpList_load_row rfl 26 (.tmp 2) rfl w2.heap.size rfl 26 _ (0, 0) _ (heap_alloc_new _ _) Try.underlying26 rfl (by rw [bytes_size]; simp [kFar_length]) ?_)
  refine (from_s kFar kFar_length _).mono ?_
  rintro e w3 ⟨rfl, hb3⟩
  have H3 := (H2.allocAt 1 rfl w2.heap.size rfl _ _ |>.push_mk rfl).call hb3
  clear H2 hb3 hz1 hz2
  have c24 := Lib.hid kFar_24
  have c0 := Lib.hid kFar_0
  have L1 := Lib.hid (kFrom_length kFar)
  generalize kFrom kFar = K at *
  go_wp2_with (refine wpList_store_mid rfl 29 (.tmp 3) (.tmp 10) rfl w3.heap.size 0 _ rfl rfl (there_new _ _ _ _ (by simp [L1.out])) (by rw [state_size]; simp [L1.out]) (all_oneCell_toArray (u64_one _)) ?_; refine absorb_list (H3.allocAt 2 rfl w3.heap.size rfl _ _ |>.push_mk rfl |>.storeAll 2 rfl (vs := K.map u64v) (by simp [L1.out]) |>.upd_mk (by simp)) ?_; intro w4 H4)
  clear H3
  generalize w3.heap.size = g3 at H4 ⊢
  refine (awake_s _).mono ?_
  rintro e w5 ⟨rfl, hb5⟩
  have H5 := H4.call hb5
  clear H4 hb5
  go_wp2_with fail
  refine (ledger_runs 1 H5 0 rfl (LGood.nil.noted 3 200 1 (by omega)) (by omega) 3 rfl).mono ?_
  rintro e w6 ⟨v6, rfl, H6⟩
  replace H6 := H6.push_mk rfl
  clear H5
  obtain ⟨A6, d6, rfl, -, -⟩ := row_shape (H6.row 3 rfl)
  go_wp2_with fail
  refine (runs_one _).mono ?_
  rintro e w7 ⟨v7, rfl, ho7, hb7⟩
  have H7 := (H6.pushRow 4 rfl hb7 ho7).push_mk rfl
  clear H6 hb7
  obtain ⟨A7, d7, rfl, -, -⟩ := row_shape (H7.row 4 rfl)
  go_wp2_with fail
  refine (sameRuns_yes A6 A7 _ 1 d6 d7 [(3, 200, 1)] [(3, 200, 1)] _ (H7.rd 3 rfl) (H7.rd 4 rfl) rfl rfl (by show 1 ≤ 1000000000; omega) rfl).mono ?_
  rintro e w8 ⟨rfl, hb8⟩
  have H8 := H7.call hb8
  clear H7 hb8 ho7
  have a24 : w8.cell? ⟨g3, 24, none⟩ = some (.int .u64 9223372036854775808) := (H8.cell 2 rfl (u64_get (by rw [L1.out]; omega))).trans (by rw [c24.out]; rfl)
  have a0 : w8.cell? ⟨g3, 0, none⟩ = some (.int .u64 0) := (H8.cell 2 rfl (u64_get (by rw [L1.out]; omega))).trans (by rw [c0.out]; rfl)
  go_wp2_with fail
  refine (bytes_s kZero rfl _).mono ?_
  rintro e w9 ⟨rfl, hb9⟩
  have H9 := H8.call hb9
  clear H8 hb9 a24 a0
  rw [kBytes_zero, ← zb_eq]
  have hq : ∀ w, (Op.equalIn 10000 26 (.agg (zb 200).toArray) (.agg (zb 200).toArray)).run Try.prog w = .ok true w := fun w => by
    rw [zb_eq, eq_u8 _ 200 Try.underlying26 _ _ List.length_replicate List.length_replicate w]; simp
  go_wp2
  go_ret
  exact ⟨rfl, H9.below⟩
end Go.Proofs.Ytoodgdcpkkfdgaa
