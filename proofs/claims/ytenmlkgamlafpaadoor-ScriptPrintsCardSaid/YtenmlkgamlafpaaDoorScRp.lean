/- The document's Print. -/
import Derived.Test.YtenmlkgamlafpaaDoorScRl

namespace Go.Proofs.YtenmlkgamlafpaaDoor
open Go.RowKit
set_option linter.unusedVariables false
set_option maxRecDepth 100000

theorem skOf_has (s : OpR) : (skOf s).2.2.2.2.2.1 + (skOf s).2.2.2.2.2.2 = (hasN s : Int) ∧ 0 ≤ (skOf s).2.2.2.2.2.1 ∧ 0 ≤ (skOf s).2.2.2.2.2.2 := by
  have h5 := uses_sku s.k 4
  have h6 := uses_sku s.k 5
  unfold skOf hasN qI
  simp only
  by_cases a : 4 ∈ usesOf s.k
  · rw [if_pos a, if_pos (h5.1 a)]
    by_cases b : 5 ∈ usesOf s.k
    · rw [if_pos b, if_pos (h6.1 b)]; omega
    · rw [if_neg b, if_neg (fun e => b (h6.2 e))]; omega
  · rw [if_neg a, if_neg (fun e => a (h5.2 e))]
    by_cases b : 5 ∈ usesOf s.k
    · rw [if_pos b, if_pos (h6.1 b)]; omega
    · rw [if_neg b, if_neg (fun e => b (h6.2 e))]; omega

set_option maxHeartbeats 8000000 in
theorem refPrint_s (A : Option Addr) (n c : Nat) (l : List OpR) (w : World) (hR : Rd w 7 A n (opsV l)) (hok : ∀ s ∈ l, s.Ok w) (ht : Tab w) (hn : n ≤ 1599289640354) :
    Calls Tryd.prog 6 #[.slice A n c] w fun e w' => e = .returned (.tuple #[tv (printT l), .int .i64 (printE l)]) ∧ Below w.heap.size w w' := by
  have hl : l.length = n := by have := hR.1; rw [opsV_length] at this; omega
  have HL := Lib.hid hl
  have HR := Lib.hid hR
  have HOK := Lib.hid hok
  have HT := Lib.hid ht
  clear hl hR hok ht
  have HIN : Hid (∀ s ∈ l, s.In) := fun s hs => (HOK.out s hs).isIn
  have hsb : Hid (∀ j, j ≤ 4096 → sumH (l.take j) ≤ 1152921504574881792) := fun j hj => by
    have h := sumH_bound (l := l.take j) (fun s hs => ⟨(HOK.out s (List.mem_of_mem_take hs)).ba, (HOK.out s (List.mem_of_mem_take hs)).bb⟩)
    have h3 : (l.take j).length ≤ 4096 := by rw [List.length_take]; omega
    have h4 : (l.take j).length * 281474976702464 ≤ 4096 * 281474976702464 := Nat.mul_le_mul_right _ h3
    omega
  have H0 := St.start_lay w []
  go_enter Tryd.func6, Tryd.ntmps6
  go_wp2
  go_loopw [4, 5] (fun v i wr => ∃ (j : Nat) (t : Int), j ≤ n ∧ v = .int .i64 t ∧ i = .int .i64 (j : Int) ∧ Hid (j ≤ 4096 → t = (sumH (l.take j) : Int)) ∧ St w [] wr (lay [])) (fun _ i _ => n - (intOf i).toNat)
  case atStart => exact ⟨0, 0, Nat.zero_le _, rfl, rfl, fun _ => rfl, H0⟩
  case round =>
    clear H0
    obtain ⟨j, t, hj, rfl, rfl, HTT, H⟩ := hrel
    by_cases hlt : j < n
    · obtain ⟨x, hx⟩ : ∃ r, l[j]? = some r := ⟨_, List.getElem?_eq_getElem (by rw [HL.out]; exact hlt)⟩
      obtain ⟨p, q, rfl, a0, a1, a2, a3, a4, a5, a6, hlt2⟩ := op_cells7 (H.arg0 HR.out) hx
      have HX := Lib.hid hx
      have hji : (j : Int) < n := by omega
      clear hx
      go_wp2_with fail
      refine (refOf_h x _).mono ?_
      rintro e w2 ⟨x1, x2, x3, x4, x5, x6, x7, HM, rfl, hb⟩
      replace H := H.call hb
      clear a0 a1 a2 a3 a4 a5 a6 hb
      obtain ⟨t1, ht1⟩ : ∃ t1, IntKind.i64.wrap (t + x6) = t1 := ⟨_, rfl⟩
      obtain ⟨t2, ht2⟩ : ∃ t2, IntKind.i64.wrap (t1 + x7) = t2 := ⟨_, rfl⟩
      have HT2 : Hid (j + 1 ≤ 4096 → t2 = (sumH (l.take (j + 1)) : Int)) := fun h => by
        have h1 := HTT.out (by omega)
        have h2 := sumH_take HX.out
        obtain ⟨h3, h4, h5⟩ := skOf_has x
        rw [← HM.out] at h3 h4 h5
        simp only at h3 h4 h5
        have h6 := hsb.out (j + 1) h
        rw [IntWalk.i64_in _ (by omega)] at ht1
        subst ht1
        rw [IntWalk.i64_in _ (by omega)] at ht2
        omega
      go_wp2
      go_roundw
      case rel => exact ⟨j + 1, t2, by omega, rfl, by go_num, HT2, H.call ((Below.refl _ _).alloc (Nat.le_refl _) _)⟩
      case measure => simp [intOf]; omega
    · obtain rfl : j = n := by omega
      have hji : ¬ (j : Int) < j := by omega
      have hall : l.take j = l := List.take_of_length_le (by rw [HL.out]; exact Nat.le_refl _)
      have hex : j ≤ 4096 → t = (sumH l : Int) := fun h => by have := HTT.out h; rw [hall] at this; exact this
      have HEX := Lib.hid hex
      clear hall hex HTT
      by_cases h1 : j ≤ 4096
      rotate_left
      · have hd : decide ((j : Int) > 4096) = true := by simp; omega
        obtain ⟨e1, e2⟩ := fits_no_len (l := l) (by rw [HL.out]; exact h1)
        have E1 := Lib.hid e1
        have E2 := Lib.hid e2
        clear e1 e2 h1
        go_wp2
        go_ret2
        exact ⟨by rw [E1.out, E2.out]; rfl, H.below⟩
      have hd : decide ((j : Int) > 4096) = false := by simp; omega
      have ht0 := HEX.out h1
      subst ht0
      by_cases h2 : sumH l ≤ 1048576
      rotate_left
      · have hd2 : decide ((sumH l : Int) > 1048576) = true := by simp; omega
        obtain ⟨e1, e2⟩ := fits_no_sum (l := l) h2
        have E1 := Lib.hid e1
        have E2 := Lib.hid e2
        clear e1 e2 h2
        go_wp2
        go_ret2
        exact ⟨by rw [E1.out, E2.out]; rfl, H.below⟩
      have hd2 : decide ((sumH l : Int) > 1048576) = false := by simp; omega
      obtain ⟨e1, e2⟩ := fits_yes (l := l) (by rw [HL.out]; exact h1) h2
      have E1 := Lib.hid e1
      have E2 := Lib.hid e2
      have HS := Lib.hid h2
      clear e1 e2 h2
      go_wp2
      go_loopw [7, 8] (fun v i wr => ∃ k : Nat, k ≤ j ∧ v = tv (textB (l.take k)) ∧ i = .int .i64 (k : Int) ∧ St w [] wr (lay [])) (fun _ i _ => j - (intOf i).toNat)
      case atStart => exact ⟨0, Nat.zero_le _, rfl, rfl, H⟩
      case round =>
        clear H
        obtain ⟨k, hk, rfl, rfl, H⟩ := hrel
        by_cases hltk : k < j
        · obtain ⟨x, hx⟩ : ∃ r, l[k]? = some r := ⟨_, List.getElem?_eq_getElem (by rw [HL.out]; exact hltk)⟩
          obtain ⟨p, q, rfl, a0, a1, a2, a3, a4, a5, a6, hlt2⟩ := op_cells7 (H.arg0 HR.out) hx
          have HX := Lib.hid hx
          have hmem := List.mem_of_getElem? hx
          have okx := Lib.hid (HOK.out x hmem)
          have hhx : hasN x ≤ 1048576 := by have h1 := sumH_mem hmem; have h2 := HS.out; omega
          have hacc := acc_le HIN.out HS.out (j := k) (by omega)
          have hll := line_le (HIN.out x hmem)
          have HNL : Hid (textB (l.take k) ++ lineB x ++ [10] = textB (l.take (k + 1))) := by unfold Hid; rw [textB_take hx, List.append_assoc]
          have hki : (k : Int) < j := by omega
          clear hx
          obtain ⟨T, hT⟩ : ∃ T, textB (l.take k) = T := ⟨_, rfl⟩
          rw [hT] at hacc HNL ⊢
          clear hT
          go_wp2_with fail
          refine (refLine_s x _ (HIN.out x hmem) (H.arg0 okx.out.ra) (H.arg0 okx.out.rb) hhx (HT.out.st H)).mono ?_
          rintro e w7 ⟨rfl, hb⟩
          replace H := H.call hb
          clear hb a0 a1 a2 a3 a4 a5 a6 hmem
          obtain ⟨M, hM⟩ : ∃ M, lineB x = M := ⟨_, rfl⟩
          rw [hM] at hll HNL ⊢
          clear hM
          have hca := fun w => cat_s T M w (by omega)
          have hcb : ∀ w, (binOp BinOp.add 9 (tv (T ++ M)) (.string { data := #[10] })).run Tryd.prog w = .ok (tv (T ++ M ++ [10])) w := fun w => cat_s (T ++ M) [10] w (by simp only [List.length_append, List.length_cons, List.length_nil]; omega)
          go_wp2
          go_roundw
          case rel => exact ⟨k + 1, by omega, by rw [← HNL.out]; simp, by go_num, H⟩
          case measure => simp [intOf]; omega
        · obtain rfl : k = j := by omega
          have hki : ¬ (k : Int) < k := by omega
          have hall : l.take k = l := List.take_of_length_le (by rw [HL.out]; exact Nat.le_refl _)
          rw [hall]
          clear hall
          go_wp2
          go_ret2
          exact ⟨by rw [E1.out, E2.out]; rfl, H.below⟩

end Go.Proofs.YtenmlkgamlafpaaDoor
