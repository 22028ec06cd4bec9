/- Sums of a row, where every step is a number: eighth.Sums. -/
import Derived.Test.YtpmgklmgaienhaaEiRoot
import Derived.Laws.FloatArith
import Derived.Deep.MidRow
namespace Go.Proofs.Ytpmgklmgaienhaa
open Go.RowKit
set_option linter.unusedVariables false

abbrev fv (b : Nat) : Value := .float .f64 b
/-- how many eighths: -(j & 7) * k -/
def cix (k j : Nat) : Nat := ((-((j : Int) % 8) * (k : Int)) % 8).toNat
def stepO (k j v : Nat) (ri : Nat × Nat) : Option (Nat × Nat) :=
  (floatBits .mul .f64 v (rootRe (cix k j))).bind fun p => (floatBits .mul .f64 v (rootIm (cix k j))).bind fun q => (floatBits .add .f64 ri.1 p).bind fun r => (floatBits .add .f64 ri.2 q).bind fun i => some (r, i)
def sumTo (k : Nat) (x : List Nat) : Nat → Option (Nat × Nat)
  | 0 => some (0, 0)
  | n + 1 => (sumTo k x n).bind (stepO k n (x.getD n 0))
theorem sumTo_some {k : Nat} {x : List Nat} (n d : Nat) (h : (sumTo k x (n + d)).isSome = true) : (sumTo k x n).isSome = true := by
  induction d with
  | zero => exact h
  | succ d ih =>
    refine ih ?_
    rw [← Nat.add_assoc] at h
    unfold sumTo at h
    cases h1 : sumTo k x (n + d) with
    | none => rw [h1] at h; simp at h
    | some y => rfl
theorem sumTo_step {k : Nat} {x : List Nat} {n m R I : Nat} (h0 : sumTo k x m = some (R, I)) (hmn : m < n) (h : (sumTo k x n).isSome = true) {v : Nat} (hv : x[m]? = some v) :
    ∃ p q r i, floatBits .mul .f64 v (rootRe (cix k m)) = some p ∧ floatBits .mul .f64 v (rootIm (cix k m)) = some q ∧ floatBits .add .f64 R p = some r ∧ floatBits .add .f64 I q = some i ∧ sumTo k x (m + 1) = some (r, i) := by
  have h1 := sumTo_some (k := k) (x := x) (m + 1) (n - (m + 1)) (by rw [show m + 1 + (n - (m + 1)) = n by omega]; exact h)
  have e : sumTo k x (m + 1) = stepO k m v (R, I) := by
    show (sumTo k x m).bind _ = _
    rw [h0, List.getD_eq_getElem?_getD, hv]
    rfl
  rw [e] at h1 ⊢
  unfold stepO at h1 ⊢
  cases a : floatBits .mul .f64 v (rootRe (cix k m)) with
  | none => rw [a] at h1; simp at h1
  | some p =>
    cases b : floatBits .mul .f64 v (rootIm (cix k m)) with
    | none => rw [a, b] at h1; simp at h1
    | some q =>
      rw [a, b] at h1
      simp only [Option.bind_some] at h1 ⊢
      cases c : floatBits .add .f64 R p with
      | none => rw [c] at h1; simp at h1
      | some r =>
        cases d : floatBits .add .f64 I q with
        | none => rw [c, d] at h1; simp at h1
        | some i => exact ⟨p, q, r, i, rfl, rfl, c, d, by simp⟩
def cellsTo (k : Nat) (S : Nat → Nat × Nat) : List Value := (List.range 8).map fun j => if j < k then .complex .f64 (S j).1 (S j).2 else .complex .f64 0 0
theorem cellsTo_length (k : Nat) (S : Nat → Nat × Nat) : (cellsTo k S).length = 8 := by simp [cellsTo]
theorem cellsTo_set {k : Nat} (S : Nat → Nat × Nat) (h : k < 8) : (cellsTo k S).set k (.complex .f64 (S k).1 (S k).2) = cellsTo (k + 1) S := by
  refine List.ext_getElem? fun i => ?_
  rw [List.getElem?_set]
  by_cases hi : k = i
  · subst hi
    rw [if_pos rfl, if_pos (by rw [cellsTo_length]; exact h)]
    simp [cellsTo, h]
  · rw [if_neg hi]
    simp only [cellsTo, List.getElem?_map]
    by_cases h8 : i < 8
    · rw [List.getElem?_range h8]
      simp only [Option.map_some]
      by_cases hik : i < k
      · rw [if_pos hik, if_pos (by omega)]
      · rw [if_neg hik, if_neg (by omega)]
    · rw [List.getElem?_eq_none (by simp; omega)]; rfl
theorem c8_size : (Try.prog.info? 76).map (·.size) = some 8 := by kernel_rfl
theorem cells_one (k : Nat) (S : Nat → Nat × Nat) : ∀ v ∈ cellsTo k S, v.oneCell' = true := by
  intro v hv
  obtain ⟨j, -, rfl⟩ := List.mem_map.1 hv
  split <;> rfl

theorem mul_in {z k : Nat} (hz : z < 8) (hk : k < 8) : -56 ≤ -(z : Int) * (k : Int) ∧ -(z : Int) * (k : Int) ≤ 0 := by
  have h : z * k ≤ 7 * 8 := Nat.mul_le_mul (by omega) (by omega)
  have e : -(z : Int) * (k : Int) = -((z * k : Nat) : Int) := by rw [Int.neg_mul, Int.natCast_mul]
  rw [e]
  omega

set_option maxRecDepth 100000 in
set_option maxHeartbeats 4000000 in
theorem sums_s (A : Option Addr) (n c : Nat) (x : List Nat) (S : Nat → Nat × Nat) (w : World) (hR : Rd w 1 A n (x.map fv)) (hn : n ≤ 1000000) (hS : ∀ k, k < 8 → sumTo k x n = some (S k)) :
    Calls Try.prog 60 #[.slice A n c] w fun e w' => e = .returned (.agg (cellsTo 8 S).toArray) ∧ Below w.heap.size w w' := by
  have hl : x.length = n := by simpa using hR.1
  have HL := Lib.hid hl
  have HS := Lib.hid hS
  clear hl hS
  have H0 := St.start_lay w []
  go_enter Try.func60, Try.ntmps60
  have HA := H0.allocAt 0 rfl w.heap.size rfl (cellsTo 0 S).toArray 76 |>.push_mk rfl |>.allocAt 1 rfl (w.heap.size + 1) (by simp) (cellsTo 0 S).toArray 76 |>.push_mk rfl
  go_wp2
  refine absorb_wp HA ?_
  clear HA H0
  intro w3 H
  generalize w.heap.size + 1 = g2 at H ⊢
  generalize w.heap.size = g1 at H ⊢
  replace H : St w [] w3 (lay [.blk g1 76 (cellsTo 0 S), .blk g2 76 (cellsTo 0 S)]) := H
  go_loopw [12] (fun i wr => ∃ k : Nat, k ≤ 8 ∧ i = .int .i64 k ∧ St w [] wr (lay [.blk g1 76 (cellsTo 0 S), .blk g2 76 (cellsTo k S)])) (fun i _ => 8 - (intOf i).toNat)
  case atStart => exact ⟨0, by omega, rfl, H⟩
  case round =>
    clear H
    obtain ⟨k, hk, rfl, H⟩ := hrel
    by_cases hk8 : k < 8
    · have hk1 : (k : Int) < 8 := by omega
      have hsk := HS.out k hk8
      have HSK := Lib.hid hsk
      clear hsk
      go_wp2
      go_loopw [5, 6, 17] (fun r i q wr => ∃ (j R I : Nat), j ≤ n ∧ q = .int .i64 j ∧ r = .float .f64 R ∧ i = .float .f64 I ∧ Hid (sumTo k x j = some (R, I)) ∧ St w [] wr (lay [.blk g1 76 (cellsTo 0 S), .blk g2 76 (cellsTo k S)])) (fun _ _ q _ => n - (intOf q).toNat)
      case atStart => exact ⟨0, 0, 0, Nat.zero_le _, rfl, rfl, rfl, rfl, H⟩
      case round =>
        clear H
        obtain ⟨j, R, I, hj, rfl, rfl, rfl, HSJ, H⟩ := hrel
        by_cases hlt : j < n
        · obtain ⟨v, hv⟩ : ∃ v, x[j]? = some v := ⟨_, List.getElem?_eq_getElem (by rw [HL.out]; exact hlt)⟩
          obtain ⟨p, q, r, i, e1, e2, e3, e4, e5⟩ := sumTo_step HSJ.out hlt (by rw [HSK.out]; rfl) hv
          obtain ⟨ad, hA, -, hc⟩ := (H.arg0 hR).2 (by omega)
          subst hA
          have hcv := hc j (fv v) (by rw [List.getElem?_map, hv]; rfl)
          have m1 := fun (t : TypeId) (w : World) => run_float_arith (P := Try.prog) w .mul t .f64 _ _ _ e1
          have m2 := fun (t : TypeId) (w : World) => run_float_arith (P := Try.prog) w .mul t .f64 _ _ _ e2
          have m3 := fun (t : TypeId) (w : World) => run_float_arith (P := Try.prog) w .add t .f64 _ _ _ e3
          have m4 := fun (t : TypeId) (w : World) => run_float_arith (P := Try.prog) w .add t .f64 _ _ _ e4
          have hj1 : (j : Int) < n := by omega
          obtain ⟨z, hz⟩ : ∃ z : Nat, (j : Int) % 8 = (z : Int) := ⟨((j : Int) % 8).toNat, by omega⟩
          have hz8 : z < 8 := by omega
          have hcx : cix k j = ((-(z : Int) * (k : Int)) % 8).toNat := by unfold cix; rw [hz]
          have b1 : bits BinOp.and IntKind.i64 (j : Int) 7 = (z : Int) := by rw [i64_and7, hz]
          have HZ := Lib.hid hz
          clear hz
          have hb : -56 ≤ -(z : Int) * (k : Int) ∧ -(z : Int) * (k : Int) ≤ 0 := mul_in hz8 hk8
          obtain ⟨y, hy⟩ : ∃ y, -(z : Int) * (k : Int) = y := ⟨_, rfl⟩
          rw [hy] at hcx hb
          have HE5 := Lib.hid e5
          have HV := Lib.hid hv
          clear e1 e2 e3 e4 e5 hv hc HZ
          go_wp2_with fail
          refine (root_s y wr).mono ?_
          rintro e w4 ⟨rfl, rfl⟩
          rw [← hcx]
          have HCX := Lib.hid hcx
          have HY := Lib.hid hy
          clear hcx hy b1
          go_wp2
          go_roundw
          case rel => exact ⟨j + 1, r, i, by omega, by go_num, rfl, rfl, HE5.out, H⟩
          case measure => simp [intOf]; omega
        · obtain rfl : n = j := by omega
          have hj1 : ¬ (n : Int) < n := by omega
          have hSk : (S k) = (R, I) := by
            have h1 := HSJ.out
            rw [HSK.out] at h1
            injection h1
          have c1 := H.cell 1 rfl (o := k) (u := (cellsTo k S)[k]'(by rw [cellsTo_length]; exact hk8)) (List.getElem?_eq_getElem _)
          have c2 := H.free 1 rfl k
          have hst := fun (a : Addr) (re im : Nat) (m : Mode) (w : World) => run_store Try.prog w a (.complex .f64 re im) m rfl
          have H2 := (H.store 1 rfl (o := k) (u := .complex .f64 R I)).upd_mk (by simp)
          have e1 := cellsTo_set S hk8
          rw [hSk] at e1
          replace H2 : St w [] (wr.setCell ⟨g2, k, none⟩ (.complex .f64 R I)) (lay [.blk g1 76 (cellsTo 0 S), .blk g2 76 ((cellsTo k S).set k (.complex .f64 R I))]) := H2
          rw [e1] at H2
          generalize (cellsTo k S)[k]'(by rw [cellsTo_length]; exact hk8) = old at c1
          clear e1 hSk
          go_wp2
          go_roundw
          case rel => exact ⟨k + 1, by omega, by go_num, H2⟩
          case measure => simp [intOf]; omega
    · obtain rfl : k = 8 := by omega
      have hb := H.blk 1 rfl
      have ht := H.there 0 rfl
      rw [cellsTo_length] at ht
      have HZ := (H.storeAll 0 rfl (vs := cellsTo 8 S) (by rw [cellsTo_length, cellsTo_length])).upd_mk (by simp)
      go_wp2_with (first | (refine wpList_load_row rfl 76 (.tmp 3) rfl g2 rfl _ _ _ _ hb Try.underlying76 rfl (by simp only [List.size_toArray, cellsTo_length]; exact c8_size) ?_) | (refine wpList_store_mid rfl 76 (.tmp 2) (.tmp 49) rfl g1 0 (cellsTo 8 S).toArray rfl rfl (by simp only [List.size_toArray, cellsTo_length]; exact ht) (by simp only [List.size_toArray, cellsTo_length]; exact c8_size) (all_oneCell_toArray (cells_one 8 S)) ?_))
      exact bodyPost_ret (results_cell_row rfl _ _ g1 76 _ _ _ rfl (HZ.blk 0 rfl) Try.underlying76 rfl (by simp only [List.size_toArray, cellsTo_length]; exact c8_size)) rfl ⟨rfl, HZ.below⟩
end Go.Proofs.Ytpmgklmgaienhaa
