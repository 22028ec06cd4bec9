/- The law EighthSums, walked. -/
import Derived.Test.YtgaghggnjemgoaaEiSummed
namespace Go.Proofs.Ytgaghggnjemgoaa
open Go.RowKit
set_option linter.unusedVariables false
set_option maxRecDepth 100000

/-- what is written over -/
def ovr1 (z : Nat) : Nat := (floatBits .sub .f64 (floatOfInt .f64 (z : Int)) 4609434218613702656).getD 0
def ovrs (k : Nat) : List Nat := (List.range k).map fun i => ovr1 (i % 5)
theorem ovr1_some {z : Nat} (h : z < 5) : floatBits .sub .f64 (floatOfInt .f64 (z : Int)) 4609434218613702656 = some (ovr1 z) := by
  have hh : ∀ i ∈ List.range 5, floatBits .sub .f64 (floatOfInt .f64 (i : Int)) 4609434218613702656 = some (ovr1 i) := by decide +kernel
  exact hh z (List.mem_range.2 h)
theorem ovrs_succ (k : Nat) : ovrs (k + 1) = ovrs k ++ [ovr1 (k % 5)] := by simp [ovrs, List.range_succ]
theorem ovrs_length (k : Nat) : (ovrs k).length = k := by simp [ovrs]
theorem ovrs_step {l : List Nat} {k : Nat} (hk : k < l.length) : (ovrs k ++ l.drop k).set k (ovr1 (k % 5)) = ovrs (k + 1) ++ l.drop (k + 1) := by
  rw [ovrs_succ, List.set_append_right _ _ (by simp [ovrs_length]), ovrs_length, Nat.sub_self, List.drop_eq_getElem_cons hk, List.set_cons_zero, List.append_assoc, List.singleton_append]
theorem ovrs_zero : ovrs 0 = [] := rfl
attribute [irreducible] ovr1 ovrs
theorem Rd.takeR {w : World} {A : Option Addr} {n k : Nat} {l : List Nat} (h : Rd w 1 A n (l.map rv)) (hk : k ≤ n) : Rd w 1 A k ((l.take k).map rv) := by
  have hl := h.1
  rw [List.length_map] at hl
  refine ⟨by simp; omega, fun hn => ?_⟩
  obtain ⟨ad, rfl, hb, hc⟩ := h.2 (by omega)
  refine ⟨ad, rfl, hb, fun j u hu => hc j u ?_⟩
  rw [List.map_take, List.getElem?_take] at hu
  split at hu
  · exact hu
  · cases hu

set_option maxHeartbeats 4000000 in
theorem eighthSums_walk (A : Option Addr) (n c : Nat) (l : List UInt64) (w : World) (hR : Rd w 1 A n (l.map uv)) (hb0 : n * 8 ≤ 140737488351232) (hnc : n ≤ c) :
    Calls Try.prog 5 #[.slice A n c] w fun e w' => e = .returned (.bool true) ∧ Below w.heap.size w w' := by
  have H := St.start_lay w []
  have hl : l.length = n := by simpa using hR.1
  have HX : Hid ((numsTo l n).length = n) := numsTo_length (by omega)
  clear hl hnc
  go_enter Try.func5, Try.ntmps5
  by_cases hbig : 3000 < n
  · have h3 : decide ((n : Int) > 3000) = true := by simp; omega
    go_wp2
    go_ret
    exact ⟨rfl, H.below⟩
  have h3 : decide ((n : Int) > 3000) = false := by simp; omega
  go_wp2_with fail
  refine (floats_s A n c l w hR hb0).mono ?_
  rintro e w1 ⟨v1, rfl, ho, hb⟩
  generalize numsTo l n = X at ho HX
  unfold OwnR at ho
  rw [HX.out] at ho
  replace H := (H.pushRow 0 rfl hb ho).push_mk rfl
  clear hb ho hR
  obtain ⟨AX, cX, rfl, -, -⟩ := row_form (H.row 0 rfl)
  have rX := H.rd 0 rfl
  go_wp2_with fail
  refine (lentR_any AX n cX X w1 rX (by omega)).mono ?_
  rintro e w2 ⟨v2, rfl, ho, hb⟩
  have hN : (X ++ marksR 6).length = n + 6 := by rw [List.length_append, HX.out, marksR_length]
  unfold OwnR at ho
  rw [hN] at ho
  replace H := (H.pushRow 1 rfl hb ho).push_mk rfl
  have HN := Lib.hid hN
  clear hb ho rX hN
  obtain ⟨A4, c4, rfl, hc4, hg4⟩ := row_form (H.row 1 rfl)
  obtain ⟨g4, rfl, -⟩ := hg4 (by omega)
  have rX := H.rd 0 rfl
  have rF := H.rd 1 rfl
  have rO : Rd w2 1 (some ⟨g4, 0, none⟩) n (X.map rv) := by
    have h := rF.takeR (k := n) (by omega)
    rwa [List.take_left' HX.out] at h
  have RX := Lib.hid rX
  have RO := Lib.hid rO
  have RF := Lib.hid rF
  have C4 : (n : Int) ≤ c4 := by omega
  clear rX rO rF hc4
  go_wp2_with fail
  refine (summed_s (some ⟨g4, 0, none⟩) AX n _ cX X w2 RO.out RX.out (by omega)).mono ?_
  rintro e w3 ⟨rfl, hb⟩
  have hS := H.call hb
  go_wp2_with fail
  refine (keptR_yes (some ⟨g4, 0, none⟩) AX n (n + 6) _ cX X w3 (RF.out.below hb) (RX.out.below hb) (by omega)).mono ?_
  rintro e w4 ⟨rfl, hb4⟩
  replace H := hS.call hb4
  clear hb hb4 hS RX RO RF
  go_wp2
  clear hg4
  have hL : Hid ((X ++ marksR 6).length = n + 6) := HN
  replace H : St w [] w4 (lay [.row 22 1 (.slice AX n cX) n (X.map rv), .row 22 1 (.slice (some ⟨g4, 0, none⟩) (n + 6) c4) (n + 6) ((X ++ marksR 6).map rv)]) := H
  generalize X ++ marksR 6 = L at H hL HN
  go_loopw [6] (fun i wr => ∃ k : Nat, k ≤ n ∧ i = .int .i64 (k : Int) ∧ St w [] wr (lay [.row 22 1 (.slice AX n cX) n (X.map rv), .row 22 1 (.slice (some ⟨g4, 0, none⟩) (n + 6) c4) (n + 6) ((ovrs k ++ L.drop k).map rv)])) (fun i _ => n - (intOf i).toNat)
  case atStart => exact ⟨0, Nat.zero_le _, rfl, by simpa [ovrs_zero] using H⟩
  case round =>
    clear H
    obtain ⟨k, hk, rfl, H⟩ := hrel
    by_cases hlt : k < n
    · have HT := Lib.hid (ovrs_step (l := L) (k := k) (by rw [hL.out]; omega))
      obtain ⟨u, hu⟩ : ∃ u, ((ovrs k ++ L.drop k).map rv)[k]? = some u := ⟨_, List.getElem?_eq_getElem (by rw [List.length_map, List.length_append, ovrs_length, List.length_drop, hL.out]; omega)⟩
      have hc := World.ownsRow.cellAt (H.row 1 rfl) k (by omega)
      rw [hu] at hc
      have hf := World.ownsRow.frozenAt (H.row 1 rfl) k
      have hk1 : (k : Int) < n := by omega
      obtain ⟨z, hz⟩ : ∃ z, k % 5 = z := ⟨_, rfl⟩
      have hz5 : z < 5 := by omega
      have hm := ovr1_some hz5
      have m1 := fun (t : TypeId) (w : World) => run_float_arith (P := Try.prog) w .sub t .f64 _ _ _ hm
      have b1 : Int.tmod (k : Int) 5 = (z : Int) := by rw [Int.tmod_eq_emod_of_nonneg (by omega)]; omega
      have hst := fun (a : Addr) (b : Nat) (m : Mode) (w : World) => run_store Try.prog w a (.float .f64 b) m rfl
      rw [hz] at HT
      clear hu hm hz
      go_wp2
      go_roundw
      case rel => exact ⟨k + 1, by omega, by go_num, by rw [← HT.out, List.map_set]; exact (H.rowStore 1 rfl (o := k) (u := rv (ovr1 z))).upd_mk (by simp)⟩
      case measure => simp [intOf]; omega
    · obtain rfl : k = n := by omega
      have hk1 : ¬ (k : Int) < k := by omega
      have rO : Rd wr 1 (some ⟨g4, 0, none⟩) k ((ovrs k).map rv) := by
        have h := (H.rd 1 rfl).takeR (k := k) (by omega)
        rwa [List.take_left' (ovrs_length k)] at h
      have RO := Lib.hid rO
      clear rO
      generalize ovrs k = Y at RO
      go_wp2_with fail
      refine (copyR_any (some ⟨g4, 0, none⟩) k _ Y wr RO.out (by omega)).mono ?_
      rintro e w5 ⟨v5, rfl, ho, hb⟩
      have hY : Y.length = k := by have h := RO.out.1; simp at h; omega
      unfold OwnR at ho
      rw [hY] at ho
      have RO5 := Lib.hid (RO.out.below hb)
      replace H := (H.pushRow 2 rfl hb ho).push_mk rfl
      clear hb ho hY
      obtain ⟨A5, c5, rfl, -, -⟩ := row_form (H.row 2 rfl)
      go_wp2_with fail
      refine (summed_s (some ⟨g4, 0, none⟩) A5 k _ c5 Y w5 RO5.out (H.rd 2 rfl) (by omega)).mono ?_
      rintro e w6 ⟨rfl, hb⟩
      replace H := H.call hb
      go_wp2
      go_ret
      exact ⟨rfl, H.below⟩
end Go.Proofs.Ytgaghggnjemgoaa
