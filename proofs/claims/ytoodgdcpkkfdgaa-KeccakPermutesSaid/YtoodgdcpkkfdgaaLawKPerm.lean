/- The law KeccakPermutes, walked. -/
import Derived.Test.YtoodgdcpkkfdgaaLawKBytes
import Derived.Test.YtoodgdcpkkfdgaaLawKnown
import Derived.Test.YtoodgdcpkkfdgaaKecRP
import Derived.Test.YtoodgdcpkkfdgaaPick
namespace Go.Proofs.Ytoodgdcpkkfdgaa
open Go.RowKit
set_option linter.unusedVariables false

theorem wpList_load_guard {P : Program} {ops : Array Oper} {rest : List Oper} {o : Oper} {a : Act} {w : World} {Q : Exit → Act → World → Prop} (hw : Region.wanted o (yielded ops a.tmps) = true) (ty : TypeId) (x : Operand) (ho : o.op = .load ty x)
    (g : Nat) (hx : a.eval x = .pointer (some ⟨g, 0, none⟩)) (t : TypeId) (cs : Array Value) (fr : Nat × Nat) (d : TypeDesc) (hg : w.heap[g]? = some (.cells cs t fr))
    (hu : P.underlying ty = some d) (hd : (match d with | .struct _ | .array _ _ => true | _ => false) = true) (hi : (P.info? ty).map (·.size) = some cs.size)
    (h : wpList P ops Q rest (a.put o.dst (.agg cs)) w) : wpList P ops Q (o :: rest) a w := by
  unfold wpList
  rw [if_pos hw]
  exact .inl (wp_load_row ty x ho g hx t cs fr d hg hu hd hi h)

def kTimes (s : List UInt64) (k : Nat) : List UInt64 := iter (fun s _ => kPerm s) s k
theorem kTimes_length (s : List UInt64) (k : Nat) : (kTimes s k).length = s.length := iter_length _ _ (fun l i => kPerm_length l) _
def kRuns (k : Nat) : List RunT := if k = 0 then [] else [(3, 200, (k : Int))]
theorem kRuns_succ (k : Nat) : kNote (some (kRuns k)) = some (kRuns (k + 1)) := by
  unfold kRuns kNote
  cases k with
  | zero => rfl
  | succ k => simp [noted]
theorem kRuns_zero : kRuns 0 = [] := rfl
theorem kRuns_len (k : Nat) : (kRuns k).length ≤ 1000000000 := by unfold kRuns; split <;> simp
theorem runs_k (k : Nat) (w : World) (hk : k ≤ 1000) :
    Calls Try.prog 17 #[.int .i64 (k : Int)] w fun e w' => ∃ v, e = .returned v ∧ w'.ownsRow w.heap.size 63 3 v (kRuns k).length (runsV (kRuns k)) ∧ Below w.heap.size w w' := runs_s k w hk
theorem kRuns_good (k : Nat) (hk : k ≤ 1000) : LGood (some (kRuns k)) k := by
  induction k with
  | zero => exact LGood.nil
  | succ k ih => have h := (ih (by omega)).noted 3 200 1 (by omega); rw [show (some (kRuns k)).map (fun rs => noted rs 3 200 1) = some (kRuns (k + 1)) from kRuns_succ k] at h; simpa using h
attribute [local irreducible] kPerm kBytes kFrom kRuns

set_option maxHeartbeats 4000000 in
theorem keccakPermutes_walk (A : Option Addr) (n c : Nat) (p : List UInt8) (times : Int) (w : World) (hp : Rd w 1 A n (p.map vb)) (hn0 : n ≤ 140737488351232) (ht1 : -9223372036854775808 ≤ times) (ht2 : times ≤ 9223372036854775807) :
    Calls Try.prog 4 #[.slice A n c, .int .i64 times] w fun e w' => e = .returned (.bool true) ∧ Below w.heap.size w w' := by
  have hn : n ≤ 140737488355328 := by omega
  clear hn0
  have H0 := ((St.start_lay w []).ledNil 0 rfl).push_mk rfl
  go_enter Try.func4, Try.ntmps4
  go_wp2_with fail
  refine (state_h A n c p _ hp hn).mono ?_
  rintro e w2 ⟨s, Ls, rfl, hb2⟩
  have H2 := H0.call hb2
  clear H0 hb2
  go_wp2_with (refine wpList_store_mid rfl 24 (.tmp 5) (.tmp 12) rfl w2.heap.size 0 _ rfl rfl (there_new _ _ _ _ (by simp [Ls.out])) (by rw [state24_size]; simp [Ls.out]) (all_oneCell_toArray (u64_one _)) ?_; refine absorb_list (H2.allocAt 1 rfl w2.heap.size rfl _ _ |>.push_mk rfl |>.storeAll 1 rfl (vs := s.map u64v) (by simp [Ls.out]) |>.upd_mk (by simp)) ?_; intro w3 H3)
  clear H2
  generalize w2.heap.size = g1 at H3 ⊢
  refine (pick_any times 4 _ ht1 ht2 (by omega) (by omega) rfl).mono ?_
  rintro e w4 ⟨⟨m, hm4, -, rfl⟩, rfl⟩
  go_wp2_with fail
  refine (ledger_new H3 2 rfl).mono ?_
  rintro e w5 ⟨l, rfl, H5⟩
  replace H5 := H5.push_mk rfl
  clear H3
  go_wp2_with (first | (refine wpList_load_row rfl 24 (.tmp 5) rfl g1 rfl _ _ _ _ (H5.blk 1 rfl) Try.underlying24 rfl (by rw [state24_size]; simp [Ls.out]) ?_) | (refine wpList_store_mid rfl 29 (.tmp 8) (.tmp 16) rfl w5.heap.size 0 _ rfl rfl (there_new _ _ _ _ (by simp [Ls.out])) (by rw [state_size]; simp [Ls.out]) (all_oneCell_toArray (u64_one _)) ?_; refine absorb_list (H5.allocAt 3 rfl w5.heap.size rfl _ _ |>.push_mk rfl |>.storeAll 3 rfl (vs := s.map u64v) (by simp [Ls.out]) |>.upd_mk (by simp)) ?_; intro w6 H6))
  clear H5
  generalize w5.heap.size = g2 at H6 ⊢
  go_loopw [9] (fun i wr => ∃ k : Nat, k ≤ m ∧ i = .int .i64 k ∧ St w [] wr (lay [led (.pointer none) none, .blk g1 24 ((kTimes s k).map u64v), led l (some (kRuns k)), .blk g2 29 ((kTimes s k).map u64v)])) (fun i _ => m - (intOf i).toNat)
  case atStart => exact ⟨0, by omega, rfl, by rw [kRuns_zero]; exact H6⟩
  case round =>
    clear H6
    obtain ⟨k, hk, rfl, Hk⟩ := hrel
    by_cases hlt : k < m
    · have HG := Lib.hid (kRuns_good k (by omega))
      have HR := Lib.hid (kRuns_succ k)
      have HX : Hid ((kTimes s k).length = 25) := by have := kTimes_length s k; rw [Ls.out] at this; exact this
      have HY : Hid ((kPerm (kTimes s k)).length = 25) := by unfold Hid; rw [kPerm_length, HX.out]
      have HN : Hid (kPerm (kTimes s k) = kTimes s (k + 1)) := rfl
      generalize kTimes s k = X at *
      obtain ⟨Y, ey⟩ : ∃ Y, Hid (kPerm X = Y) := ⟨_, rfl⟩
      rw [ey.out] at HY HN
      have hk1 : (k : Int) < m := by omega
      go_wp2_with (refine wpList_load_row rfl 29 (.tmp 8) rfl g2 rfl _ _ _ _ (Hk.blk 3 rfl) Try.underlying29 rfl (by rw [state_size]; simp [HX.out]) ?_)
      refine (permute_s (.pointer none) none 0 X Hk 0 rfl (LGood.none _) (by omega) HX.out).mono ?_
      rintro e w7 ⟨rfl, H7⟩
      replace H7 := H7.upd_mk (by simp)
      clear Hk
      rw [ey.out]
      go_wp2_with (first | (refine wpList_store_mid rfl 29 (.tmp 10) (.tmp 23) rfl w7.heap.size 0 _ rfl rfl (there_new _ _ _ _ (by simp [HY.out])) (by rw [state_size]; simp [HY.out]) (all_oneCell_toArray (u64_one _)) ?_; refine absorb_list (H7.allocAt 4 rfl w7.heap.size rfl _ _ |>.push_mk rfl |>.storeAll 4 rfl (vs := Y.map u64v) (by simp [HY.out]) |>.upd_mk (by simp)) ?_; intro w8 H8) | (refine wpList_load_row rfl 29 (.tmp 8) rfl g2 rfl _ _ _ _ (H8.blk 3 rfl) Try.underlying29 rfl (by rw [state_size]; simp [HX.out]) ?_))
      clear H7
      generalize w7.heap.size = g3 at H8 ⊢
      refine (permute_s l (some (kRuns k)) k X H8 2 rfl HG.out (by omega) HX.out).mono ?_
      rintro e w9 ⟨rfl, H9⟩
      replace H9 := H9.upd_mk (by simp)
      clear H8
      rw [ey.out]
      rw [HR.out] at H9
      go_wp2_with (first | (refine wpList_store_mid rfl 29 (.tmp 8) (.tmp 26) rfl g2 0 _ rfl rfl (there_eq (H9.there 3 rfl) (by simp [HX.out, HY.out])) (by rw [state_size]; simp [HY.out]) (all_oneCell_toArray (u64_one _)) ?_; refine absorb_list (H9.storeAll 3 rfl (vs := Y.map u64v) (by simp [HX.out, HY.out]) |>.upd_mk (by simp)) ?_; intro w10 H10) | (refine wpList_load_row rfl 24 (.tmp 5) rfl g1 rfl _ _ _ _ (H10.blk 1 rfl) Try.underlying24 rfl (by rw [state24_size]; simp [HX.out]) ?_))
      clear H9
      refine (refPermute_none X HX _).mono ?_
      rintro e w11 ⟨rfl, hb11⟩
      have H11 := H10.call hb11
      clear H10 hb11
      rw [ey.out]
      have hYY := eq_u64 29 25 Try.underlying29 Y Y HY.out HY.out
      rw [decide_eq_true rfl] at hYY
      go_wp2_with (first | (refine wpList_store_mid rfl 24 (.tmp 5) (.tmp 28) rfl g1 0 _ rfl rfl (there_eq (H11.there 1 rfl) (by simp [HX.out, HY.out])) (by rw [state24_size]; simp [HY.out]) (all_oneCell_toArray (u64_one _)) ?_; refine absorb_list (H11.storeAll 1 rfl (vs := Y.map u64v) (by simp [HX.out, HY.out]) |>.upd_mk (by simp)) ?_; intro w12 H12) | (refine wpList_load_row rfl 29 (.tmp 8) rfl g2 rfl _ _ _ _ (H12.blk 3 rfl) Try.underlying29 rfl (by rw [state_size]; simp [HY.out]) ?_) | (refine wpList_load_row rfl 24 (.tmp 5) rfl g1 rfl _ _ _ _ (H12.blk 1 rfl) Try.underlying24 rfl (by rw [state24_size]; simp [HY.out]) ?_) | (refine wpList_load_row rfl 29 (.tmp 10) rfl g3 rfl _ _ _ _ (H12.blk 4 rfl) Try.underlying29 rfl (by rw [state_size]; simp [HY.out]) ?_) | (refine wpList_load_guard (by rfl) 29 (.tmp 10) rfl g3 rfl _ _ _ _ (H12.blk 4 rfl) Try.underlying29 rfl (by rw [state_size]; simp [HY.out]) ?_) | (refine wpList_load_guard (by rfl) 29 (.tmp 8) rfl g2 rfl _ _ _ _ (H12.blk 3 rfl) Try.underlying29 rfl (by rw [state_size]; simp [HY.out]) ?_))
      go_roundw
      case rel => exact ⟨k + 1, by omega, by go_num, by rw [← HN.out]; exact H12.front 4⟩
      case measure => simp [intOf]; omega
    · obtain rfl : k = m := by omega
      go_wp2_with fail
      refine (ledger_runs k Hk 2 rfl (kRuns_good k (by omega)) (by omega) 4 rfl).mono ?_
      rintro e w7 ⟨v7, rfl, H7⟩
      replace H7 := H7.push_mk rfl
      clear Hk
      obtain ⟨A7, d7, rfl, -, -⟩ := row_shape (H7.row 4 rfl)
      go_wp2_with fail
      refine (runs_k k _ (by omega)).mono ?_
      rintro e w8 ⟨v8, rfl, ho8, hb8⟩
      have H8 := (H7.pushRow 5 rfl hb8 ho8).push_mk rfl
      clear H7 hb8 ho8
      obtain ⟨A8, d8, rfl, -, -⟩ := row_shape (H8.row 5 rfl)
      go_wp2_with fail
      refine (sameRuns_yes A7 A8 _ _ d7 d8 (kRuns k) (kRuns k) _ (H8.rd 4 rfl) (H8.rd 5 rfl) rfl rfl (kRuns_len k) rfl).mono ?_
      rintro e w9 ⟨rfl, hb9⟩
      have H9 := H8.call hb9
      go_wp2
      go_ret
      exact ⟨rfl, H9.below⟩
end Go.Proofs.Ytoodgdcpkkfdgaa
