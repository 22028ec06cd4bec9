/- Sums of any row, NaNs too: eighth.Sums. -/
import Derived.Test.YtpmgklmgaienhaaEiAwake
import Derived.Test.YtpmgklmgaienhaaFlo
namespace Go.Proofs.Ytpmgklmgaienhaa
open Go.RowKit
set_option linter.unusedVariables false

theorem absF_root : ∀ c, c < 8 → absF (rootRe c) = some (rootRe c) ∧ absF (rootIm c) = some (rootIm c) := by
  have h : ∀ c ∈ List.range 8, absF (rootRe c) = some (rootRe c) ∧ absF (rootIm c) = some (rootIm c) := by decide +kernel
  exact fun c hc => h c (List.mem_range.2 hc)
theorem absF_zero : absF 0 = some 0 := by decide +kernel
theorem cix_lt (k j : Nat) : cix k j < 8 := by unfold cix; omega
/-- the sums, up to which NaN they are -/
def sumA (k : Nat) (x : List Nat) : Nat → Option Nat × Option Nat
  | 0 => (some 0, some 0)
  | n + 1 => (opA .add (sumA k x n).1 (opA .mul (absF (x.getD n 0)) (some (rootRe (cix k n)))), opA .add (sumA k x n).2 (opA .mul (absF (x.getD n 0)) (some (rootIm (cix k n)))))
def SumIs (k : Nat) (x : List Nat) (n : Nat) (z : Nat × Nat) : Prop := absF z.1 = (sumA k x n).1 ∧ absF z.2 = (sumA k x n).2
theorem cellsTo_congr {k : Nat} {S T : Nat → Nat × Nat} (h : ∀ i, i < k → S i = T i) : cellsTo k S = cellsTo k T := by
  unfold cellsTo
  refine List.map_congr_left fun i hi => ?_
  split
  · rename_i hk; rw [h i hk]
  · rfl

set_option maxRecDepth 100000 in
set_option maxHeartbeats 4000000 in
theorem sums_a (A : Option Addr) (n c : Nat) (x : List Nat) (w : World) (hR : Rd w 1 A n (x.map fv)) (hn : n ≤ 1000000) :
    Calls Try.prog 60 #[.slice A n c] w fun e w' => ∃ S : Nat → Nat × Nat, (∀ k, k < 8 → SumIs k x n (S k)) ∧ e = .returned (.agg (cellsTo 8 S).toArray) ∧ Below w.heap.size w w' := by
  have hl : x.length = n := by simpa using hR.1
  have HL := Lib.hid hl
  clear hl
  have H0 := St.start_lay w []
  go_enter Try.func60, Try.ntmps60
  have HA := H0.allocAt 0 rfl w.heap.size rfl (cellsTo 0 fun _ => (0, 0)).toArray 76 |>.push_mk rfl |>.allocAt 1 rfl (w.heap.size + 1) (by simp) (cellsTo 0 fun _ => (0, 0)).toArray 76 |>.push_mk rfl
  go_wp2
  refine absorb_wp HA ?_
  clear HA H0
  intro w3 H
  generalize w.heap.size + 1 = g2 at H ⊢
  generalize w.heap.size = g1 at H ⊢
  replace H : St w [] w3 (lay [.blk g1 76 (cellsTo 0 fun _ => (0, 0)), .blk g2 76 (cellsTo 0 fun _ => (0, 0))]) := H
  go_loopw [12] (fun i wr => ∃ (k : Nat) (S : Nat → Nat × Nat), k ≤ 8 ∧ i = .int .i64 k ∧ Hid (∀ i, i < k → SumIs i x n (S i)) ∧ St w [] wr (lay [.blk g1 76 (cellsTo 0 fun _ => (0, 0)), .blk g2 76 (cellsTo k S)])) (fun i _ => 8 - (intOf i).toNat)
  case atStart => exact ⟨0, fun _ => (0, 0), by omega, rfl, fun i h => by omega, H⟩
  case round =>
    clear H
    obtain ⟨k, S, hk, rfl, HS, H⟩ := hrel
    by_cases hk8 : k < 8
    · have hk1 : (k : Int) < 8 := by omega
      go_wp2
      go_loopw [5, 6, 17] (fun r i q wr => ∃ (j R I : Nat), j ≤ n ∧ q = .int .i64 j ∧ r = .float .f64 R ∧ i = .float .f64 I ∧ Hid (SumIs k x j (R, I)) ∧ St w [] wr (lay [.blk g1 76 (cellsTo 0 fun _ => (0, 0)), .blk g2 76 (cellsTo k S)])) (fun _ _ q _ => n - (intOf q).toNat)
      case atStart => exact ⟨0, 0, 0, Nat.zero_le _, rfl, rfl, rfl, ⟨absF_zero, absF_zero⟩, H⟩
      case round =>
        clear H
        obtain ⟨j, R, I, hj, rfl, rfl, rfl, HSJ, H⟩ := hrel
        by_cases hlt : j < n
        · obtain ⟨v, hv⟩ : ∃ v, x[j]? = some v := ⟨_, List.getElem?_eq_getElem (by rw [HL.out]; exact hlt)⟩
          obtain ⟨p, n1, m1, e1⟩ := run_float_any (P := Try.prog) wr .mul rfl 25 v (rootRe (cix k j))
          obtain ⟨q, n2, m2, e2⟩ := run_float_any (P := Try.prog) (wr.drewN n1) .mul rfl 25 v (rootIm (cix k j))
          obtain ⟨r, n3, m3, e3⟩ := run_float_any (P := Try.prog) (wr.drewN (n1 + n2)) .add rfl 25 R p
          obtain ⟨i, n4, m4, e4⟩ := run_float_any (P := Try.prog) (wr.drewN (n1 + n2 + n3)) .add rfl 25 I q
          have hnew : SumIs k x (j + 1) (r, i) := by
            obtain ⟨s1, s2⟩ := HSJ.out
            obtain ⟨c1, c2⟩ := absF_root (cix k j) (cix_lt k j)
            have hg : x.getD j 0 = v := by rw [List.getD_eq_getElem?_getD, hv]; rfl
            refine ⟨?_, ?_⟩
            · show absF r = opA .add (sumA k x j).1 (opA .mul (absF (x.getD j 0)) (some (rootRe (cix k j))))
              rw [hg, e3, e1, s1, c1]
            · show absF i = opA .add (sumA k x j).2 (opA .mul (absF (x.getD j 0)) (some (rootIm (cix k j))))
              rw [hg, e4, e2, s2, c2]
          obtain ⟨ad, hA, -, hc⟩ := (H.arg0 hR).2 (by omega)
          subst hA
          have hcv := hc j (fv v) (by rw [List.getElem?_map, hv]; rfl)
          have hj1 : (j : Int) < n := by omega
          obtain ⟨z, hz⟩ : ∃ z : Nat, (j : Int) % 8 = (z : Int) := ⟨((j : Int) % 8).toNat, by omega⟩
          have hz8 : z < 8 := by omega
          have hcx : cix k j = ((-(z : Int) * (k : Int)) % 8).toNat := by unfold cix; rw [hz]
          have b1 : bits BinOp.and IntKind.i64 (j : Int) 7 = (z : Int) := by rw [i64_and7, hz]
          clear hz
          have hb : -56 ≤ -(z : Int) * (k : Int) ∧ -(z : Int) * (k : Int) ≤ 0 := mul_in hz8 hk8
          obtain ⟨y, hy⟩ : ∃ y, -(z : Int) * (k : Int) = y := ⟨_, rfl⟩
          rw [hy] at hcx hb
          have HN := Lib.hid hnew
          clear e1 e2 e3 e4 hv hc hnew
          go_wp2_with fail
          refine (root_s y wr).mono ?_
          rintro e w4 ⟨rfl, rfl⟩
          rw [← hcx]
          have HCX := Lib.hid hcx
          have HY := Lib.hid hy
          clear hcx hy b1
          go_wp2
          go_roundw
          case rel => exact ⟨j + 1, r, i, by omega, by go_num, rfl, rfl, HN.out, H.drewN _⟩
          case measure => simp [intOf]; omega
        · obtain rfl : n = j := by omega
          have hj1 : ¬ (n : Int) < n := by omega
          obtain ⟨T, hT⟩ : ∃ T : Nat → Nat × Nat, T = fun i => if i = k then (R, I) else S i := ⟨_, rfl⟩
          have hTk : T k = (R, I) := by rw [hT]; simp
          have hTS : ∀ i, i < k → S i = T i := fun i hi => by rw [hT]; simp [show i ≠ k by omega]
          have HT : Hid (∀ i, i < k + 1 → SumIs i x n (T i)) := by
            intro i hi
            by_cases hik : i = k
            · subst hik; rw [hTk]; exact HSJ.out
            · rw [← hTS i (by omega)]; exact HS.out i (by omega)
          rw [cellsTo_congr hTS] at H
          clear hT hTS
          have c1 := H.cell 1 rfl (o := k) (u := (cellsTo k T)[k]'(by rw [cellsTo_length]; exact hk8)) (List.getElem?_eq_getElem _)
          have c2 := H.free 1 rfl k
          have hst := fun (a : Addr) (re im : Nat) (m : Mode) (w : World) => run_store Try.prog w a (.complex .f64 re im) m rfl
          have H2 := (H.store 1 rfl (o := k) (u := .complex .f64 R I)).upd_mk (by simp)
          have e1 := cellsTo_set T hk8
          rw [hTk] at e1
          replace H2 : St w [] (wr.setCell ⟨g2, k, none⟩ (.complex .f64 R I)) (lay [.blk g1 76 (cellsTo 0 fun _ => (0, 0)), .blk g2 76 ((cellsTo k T).set k (.complex .f64 R I))]) := H2
          rw [e1] at H2
          generalize (cellsTo k T)[k]'(by rw [cellsTo_length]; exact hk8) = old at c1
          clear e1 hTk
          go_wp2
          go_roundw
          case rel => exact ⟨k + 1, T, by omega, by go_num, HT, H2⟩
          case measure => simp [intOf]; omega
    · obtain rfl : k = 8 := by omega
      have hb := H.blk 1 rfl
      have ht := H.there 0 rfl
      rw [cellsTo_length] at ht
      have HZ := (H.storeAll 0 rfl (vs := cellsTo 8 S) (by rw [cellsTo_length, cellsTo_length])).upd_mk (by simp)
      go_wp2_with (first | (refine wpList_load_row rfl 76 (.tmp 3) rfl g2 rfl _ _ _ _ hb Try.underlying76 rfl (by simp only [List.size_toArray, cellsTo_length]; exact c8_size) ?_) | (refine wpList_store_mid rfl 76 (.tmp 2) (.tmp 49) rfl g1 0 (cellsTo 8 S).toArray rfl rfl (by simp only [List.size_toArray, cellsTo_length]; exact ht) (by simp only [List.size_toArray, cellsTo_length]; exact c8_size) (all_oneCell_toArray (cells_one 8 S)) ?_))
      exact bodyPost_ret (results_cell_row rfl _ _ g1 76 _ _ _ rfl (HZ.blk 0 rfl) Try.underlying76 rfl (by simp only [List.size_toArray, cellsTo_length]; exact c8_size)) rfl ⟨S, HS.out, rfl, HZ.below⟩
end Go.Proofs.Ytpmgklmgaienhaa
