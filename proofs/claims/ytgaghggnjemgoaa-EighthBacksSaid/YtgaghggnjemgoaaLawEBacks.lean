/- The law EighthBacks, walked. -/
import Derived.Test.YtgaghggnjemgoaaEiBack
import Derived.Test.YtgaghggnjemgoaaEiSummed
namespace Go.Proofs.Ytgaghggnjemgoaa
open Go.RowKit
set_option linter.unusedVariables false
set_option maxRecDepth 100000

attribute [local irreducible] rowF
theorem cellsTo_get (S : Nat → Nat × Nat) {k : Nat} (h : k < 8) : (cellsTo (k + 1) S)[k]? = some (.complex .f64 (S k).1 (S k).2) := by
  rw [← cellsTo_set S h, List.getElem?_set_self (by rw [cellsTo_length]; exact h)]
set_option maxHeartbeats 4000000 in
theorem eighthBacks_walk (A : Option Addr) (n c : Nat) (l : List UInt64) (B : Option Addr) (m d : Nat) (l2 : List UInt64) (w : World) (hA : Rd w 1 A n (l.map uv)) (hn : n * 8 ≤ 140737488351232) (hnc : n ≤ c) (hB : Rd w 1 B m (l2.map uv)) (hm : m * 8 ≤ 140737488351232) (hmd : m ≤ d) :
    Calls Try.prog 4 #[.slice A n c, .slice B m d] w fun e w' => e = .returned (.bool true) ∧ Below w.heap.size w w' := by
  have H := St.start_lay w []
  have hl : l.length = n := by simpa using hA.1
  have hk : l2.length = m := by simpa using hB.1
  have HX : Hid ((numsTo l n).length = n) := numsTo_length (by omega)
  have HY : Hid ((numsTo l2 m).length = m) := numsTo_length (by omega)
  have HB := Lib.hid hB
  clear hl hk hnc hmd hB
  go_enter Try.func4, Try.ntmps4
  go_wp2_with fail
  refine (floats_s A n c l w hA hn).mono ?_
  rintro e w1 ⟨v1, rfl, ho, hb⟩
  unfold OwnR at ho
  rw [HX.out] at ho
  generalize numsTo l n = X at ho HX
  replace H := (H.pushRow 0 rfl hb ho).push_mk rfl
  have HB1 := Lib.hid (HB.out.below hb)
  clear hb ho hA HB
  obtain ⟨A1, c1, rfl, -, -⟩ := row_form (H.row 0 rfl)
  go_wp2_with fail
  refine (floats_s B m d l2 w1 HB1.out hm).mono ?_
  rintro e w2 ⟨v2, rfl, ho, hb⟩
  unfold OwnR at ho
  rw [HY.out] at ho
  generalize numsTo l2 m = Y at ho HY
  replace H := (H.pushRow 1 rfl hb ho).push_mk rfl
  clear hb ho HB1
  obtain ⟨A2, c2, rfl, -, -⟩ := row_form (H.row 1 rfl)
  have h1 := H
  have HA := H.allocAt 2 rfl w2.heap.size rfl (cellsTo 0 fun _ => (0, 0)).toArray 32 |>.push_mk rfl |>.allocAt 3 rfl (w2.heap.size + 1) (by simp) #[fv 0, fv 0, fv 0, fv 0, fv 0, fv 0, fv 0, fv 0] 33 |>.push_mk rfl |>.allocAt 4 rfl (w2.heap.size + 2) (by simp) #[fv 0, fv 0, fv 0, fv 0, fv 0, fv 0, fv 0, fv 0] 33 |>.push_mk rfl
  clear H h1
  go_wp2
  refine absorb_wp HA ?_
  clear HA
  intro w3 H
  generalize w2.heap.size + 2 = gd at H ⊢
  generalize w2.heap.size + 1 = gc at H ⊢
  generalize w2.heap.size = gs at H ⊢
  replace H : St w [] w3 (lay [.row 22 1 (.slice A1 n c1) n (X.map rv), .row 22 1 (.slice A2 m c2) m (Y.map rv), .blk gs 32 (cellsTo 0 fun _ => (0, 0)), .blk gc 33 [fv 0, fv 0, fv 0, fv 0, fv 0, fv 0, fv 0, fv 0], .blk gd 33 [fv 0, fv 0, fv 0, fv 0, fv 0, fv 0, fv 0, fv 0]]) := H
  rw [← rowF_zero] at H
  go_loopw [10] (fun i wr => ∃ (k : Nat) (R I : Nat → Nat), k ≤ 8 ∧ i = .int .i64 k ∧ St w [] wr (lay [.row 22 1 (.slice A1 n c1) n (X.map rv), .row 22 1 (.slice A2 m c2) m (Y.map rv), .blk gs 32 (cellsTo k fun i => (R i, I i)), .blk gc 33 (rowF R), .blk gd 33 (rowF I)])) (fun i _ => 8 - (intOf i).toNat)
  case atStart => exact ⟨0, fun _ => 0, fun _ => 0, by omega, rfl, H⟩
  case round =>
    clear H
    obtain ⟨k, R, I, hk, rfl, H⟩ := hrel
    by_cases hk8 : k < 8
    · have hk1 : (k : Int) < 8 := by omega
      by_cases hn1 : k < n
      · have hkn : (k : Int) < n := by omega
        obtain ⟨gx, ox, rfl, -, hcf⟩ := (H.rd 0 rfl).flat (by omega) (by omega)
        obtain ⟨u, hu⟩ : ∃ u, X[k]? = some u := ⟨_, List.getElem?_eq_getElem (by rw [HX.out]; omega)⟩
        have hcx := hcf k (rv u) (by rw [List.getElem?_map, hu]; rfl)
        clear hcf hu
        have ce := H.cell 3 rfl (rowF_get R (k := k) hk8)
        have fr := H.free 3 rfl k
        have hst := fun (a : Addr) (b : Nat) (m : Mode) (w : World) => run_store Try.prog w a (.float .f64 b) m rfl
        replace H := (H.store 3 rfl (o := k) (u := .float .f64 u)).upd_mk (by simp)
        replace H : St w [] _ (lay [.row 22 1 (.slice (some ⟨gx, ox, none⟩) n c1) n (X.map rv), .row 22 1 (.slice A2 m c2) m (Y.map rv), .blk gs 32 (cellsTo k fun i => (R i, I i)), .blk gc 33 ((rowF R).set k (.float .f64 u)), .blk gd 33 (rowF I)]) := H
        rw [rowF_set R k u] at H
        have hcg : (cellsTo k fun i => (R i, I i)) = cellsTo k fun i => ((setF R k u) i, (I) i) := cellsTo_congr fun i hi => by rw [setF_other _ _ _ _ (by omega)]
        rw [hcg] at H
        clear hcg
        go_upto_region 10 with (fail)
        refine absorb_wp H ?_
        clear H ce fr hst hcx hkn
        intro w6 H
        generalize setF R k u = R2 at H
        clear R
        obtain ⟨R, eR⟩ : ∃ R, R = R2 := ⟨_, rfl⟩
        rw [← eR] at H
        clear eR R2
        by_cases hm1 : k < m
        · have hkn : (k : Int) < m := by omega
          obtain ⟨gy, oy, rfl, -, hcf⟩ := (H.rd 1 rfl).flat (by omega) (by omega)
          obtain ⟨u, hu⟩ : ∃ u, Y[k]? = some u := ⟨_, List.getElem?_eq_getElem (by rw [HY.out]; omega)⟩
          have hcx := hcf k (rv u) (by rw [List.getElem?_map, hu]; rfl)
          clear hcf hu
          have ce := H.cell 4 rfl (rowF_get I (k := k) hk8)
          have fr := H.free 4 rfl k
          have hst := fun (a : Addr) (b : Nat) (m : Mode) (w : World) => run_store Try.prog w a (.float .f64 b) m rfl
          replace H := (H.store 4 rfl (o := k) (u := .float .f64 u)).upd_mk (by simp)
          replace H : St w [] _ (lay [.row 22 1 (.slice (some ⟨gx, ox, none⟩) n c1) n (X.map rv), .row 22 1 (.slice (some ⟨gy, oy, none⟩) m c2) m (Y.map rv), .blk gs 32 (cellsTo k fun i => (R i, I i)), .blk gc 33 (rowF R), .blk gd 33 ((rowF I).set k (.float .f64 u))]) := H
          rw [rowF_set I k u] at H
          have hcg : (cellsTo k fun i => (R i, I i)) = cellsTo k fun i => ((R) i, (setF I k u) i) := cellsTo_congr fun i hi => by rw [setF_other _ _ _ _ (by omega)]
          rw [hcg] at H
          clear hcg
          go_wp2
          refine absorb_wp H ?_
          clear H ce fr hst hcx hkn
          intro w6 H
          generalize setF I k u = I2 at H
          clear I
          obtain ⟨I, eI⟩ : ∃ I, I = I2 := ⟨_, rfl⟩
          rw [← eI] at H
          clear eI I2
          have hz0 := H.cell 2 rfl (o := k) (u := (cellsTo k fun i => (R i, I i))[k]'(by rw [cellsTo_length]; exact hk8)) (List.getElem?_eq_getElem _)
          have fr := H.free 2 rfl k
          have HW := H
          replace H := H.drew
          refine wp_region_held_drew (S := fun w' : World => w'.cell? ⟨gc, k, none⟩ = some (fv (R k)) ∧ w'.cell? ⟨gd, k, none⟩ = some (fv (I k))) (by kernel_rfl) ?_ (fun hHeld => ?_)
          · exact ⟨H.cell 3 rfl (rowF_get R (k := k) hk8), H.cell 4 rfl (rowF_get I (k := k) hk8)⟩
          refine takeV 0 rfl (by intro w h; clear h; go_simp; try with_reducible rfl) (by kernel_rfl) (by kernel_rfl) (by kernel_rfl) (by exact fun _ _ _ h => h) (by rfl) (by assumption) ?_
          try simp only [Act.put, List.setIfInBounds_toArray, List.set_cons_zero, List.set_cons_succ]
          refine takeV 1 rfl (by intro w h; clear h; go_simp; try with_reducible rfl) (by kernel_rfl) (by kernel_rfl) (by kernel_rfl) (by exact fun _ _ _ h => h) (by rfl) (by assumption) ?_
          try simp only [Act.put, List.setIfInBounds_toArray, List.set_cons_zero, List.set_cons_succ]
          refine takeV 2 rfl (by intro w h; clear h; go_simp; try with_reducible rfl) (by kernel_rfl) (by kernel_rfl) (by kernel_rfl) (by exact fun _ _ _ h => h) (by rfl) (by assumption) ?_
          try simp only [Act.put, List.setIfInBounds_toArray, List.set_cons_zero, List.set_cons_succ]
          refine takeV 3 rfl (by intro w h; have hc := h.1; clear h; go_simp; try with_reducible rfl) (by kernel_rfl) (by kernel_rfl) (by kernel_rfl) (by exact fun _ _ _ h => h) (by rfl) (by assumption) ?_
          try simp only [Act.put, List.setIfInBounds_toArray, List.set_cons_zero, List.set_cons_succ]
          refine takeV 4 rfl (by intro w h; clear h; go_simp; try with_reducible rfl) (by kernel_rfl) (by kernel_rfl) (by kernel_rfl) (by exact fun _ _ _ h => h) (by rfl) (by assumption) ?_
          try simp only [Act.put, List.setIfInBounds_toArray, List.set_cons_zero, List.set_cons_succ]
          refine takeV 5 rfl (by intro w h; clear h; go_simp; try with_reducible rfl) (by kernel_rfl) (by kernel_rfl) (by kernel_rfl) (by exact fun _ _ _ h => h) (by rfl) (by assumption) ?_
          try simp only [Act.put, List.setIfInBounds_toArray, List.set_cons_zero, List.set_cons_succ]
          refine takeV 6 rfl (by intro w h; have hc := h.2; clear h; go_simp; try with_reducible rfl) (by kernel_rfl) (by kernel_rfl) (by kernel_rfl) (by exact fun _ _ _ h => h) (by rfl) (by assumption) ?_
          try simp only [Act.put, List.setIfInBounds_toArray, List.set_cons_zero, List.set_cons_succ]
          refine takeV 7 rfl (by intro w h; clear h; go_simp; try with_reducible rfl) (by kernel_rfl) (by kernel_rfl) (by kernel_rfl) (by exact fun _ _ _ h => h) (by rfl) (by assumption) ?_
          try simp only [Act.put, List.setIfInBounds_toArray, List.set_cons_zero, List.set_cons_succ]
          refine takeV 8 rfl (by intro w h; clear h; go_simp; try with_reducible rfl) (by kernel_rfl) (by kernel_rfl) (by kernel_rfl) (by exact fun _ _ _ h => h) (by rfl) (by assumption) ?_
          try simp only [Act.put, List.setIfInBounds_toArray, List.set_cons_zero, List.set_cons_succ]
          generalize (cellsTo k fun i => (R i, I i))[k]'(by rw [cellsTo_length]; exact hk8) = old at hz0
          have hst := fun (a : Addr) (re im : Nat) (m : Mode) (w : World) => run_store Try.prog w a (.complex .f64 re im) m rfl
          refine take_call 9 rfl (by kernel_rfl) (fun K hK => ?_)
          go_simp
          replace H := (H.store 2 rfl (o := k) (u := .complex .f64 (R k) (I k))).upd_mk (by simp)
          refine hK.out _ _ ?_ (fun hHeld => ?_)
          · exact ⟨H.cell 3 rfl (rowF_get R (k := k) hk8), H.cell 4 rfl (rowF_get I (k := k) hk8)⟩
          clear hK K
          try simp only [Act.put, List.setIfInBounds_toArray, List.set_cons_zero, List.set_cons_succ]
          refine wpAnyH_done (by kernel_rfl) ?_ _
          clear hHeld hz0 fr hst HW
          replace H : St w [] _ (lay [.row 22 1 (.slice (some ⟨gx, ox, none⟩) n c1) n (X.map rv), .row 22 1 (.slice (some ⟨gy, oy, none⟩) m c2) m (Y.map rv), .blk gs 32 ((cellsTo k fun i => (R i, I i)).set k (.complex .f64 (R k) (I k))), .blk gc 33 (rowF R), .blk gd 33 (rowF I)]) := H
          rw [cellsTo_set (fun i => (R i, I i)) hk8] at H
          go_wp2
          refine absorb_wp H ?_
          clear H
          intro w7 H
          have hz : (cellsTo (k + 1) fun i => (R i, I i))[k]? = some (.complex .f64 (R k) (I k)) := cellsTo_get _ hk8
          have HW := H
          replace H := H.drew
          refine wp_region_held_drew (S := fun w' : World => (w'.cell? ⟨gc, k, none⟩ = some (fv (R k)) ∧ w'.cell? ⟨gd, k, none⟩ = some (fv (I k))) ∧ w'.cell? ⟨gs, k, none⟩ = some (.complex .f64 (R k) (I k))) (by kernel_rfl) ?_ (fun hHeld => ?_)
          · exact ⟨⟨H.cell 3 rfl (rowF_get R (k := k) hk8), H.cell 4 rfl (rowF_get I (k := k) hk8)⟩, H.cell 2 rfl hz⟩
          refine takeV 0 rfl (by intro w h; clear h; go_simp; try with_reducible rfl) (by kernel_rfl) (by kernel_rfl) (by kernel_rfl) (by exact fun _ _ _ h => h) (by rfl) (by assumption) ?_
          try simp only [Act.put, List.setIfInBounds_toArray, List.set_cons_zero, List.set_cons_succ]
          refine takeV 1 rfl (by intro w h; clear h; go_simp; try with_reducible rfl) (by kernel_rfl) (by kernel_rfl) (by kernel_rfl) (by exact fun _ _ _ h => h) (by rfl) (by assumption) ?_
          try simp only [Act.put, List.setIfInBounds_toArray, List.set_cons_zero, List.set_cons_succ]
          refine takeV 2 rfl (by intro w h; have hc := h.2; clear h; go_simp; try with_reducible rfl) (by kernel_rfl) (by kernel_rfl) (by kernel_rfl) (by exact fun _ _ _ h => h) (by rfl) (by assumption) ?_
          try simp only [Act.put, List.setIfInBounds_toArray, List.set_cons_zero, List.set_cons_succ]
          refine takeV 4 rfl (by intro w h; clear h; go_simp; try with_reducible rfl) (by kernel_rfl) (by kernel_rfl) (by kernel_rfl) (by exact fun _ _ _ h => h) (by rfl) (by assumption) ?_
          try simp only [Act.put, List.setIfInBounds_toArray, List.set_cons_zero, List.set_cons_succ]
          refine takeV 5 rfl (by intro w h; clear h; go_simp; try with_reducible rfl) (by kernel_rfl) (by kernel_rfl) (by kernel_rfl) (by exact fun _ _ _ h => h) (by rfl) (by assumption) ?_
          try simp only [Act.put, List.setIfInBounds_toArray, List.set_cons_zero, List.set_cons_succ]
          refine takeV 6 rfl (by intro w h; have hc := h.1.1; clear h; go_simp; try with_reducible rfl) (by kernel_rfl) (by kernel_rfl) (by kernel_rfl) (by exact fun _ _ _ h => h) (by rfl) (by assumption) ?_
          try simp only [Act.put, List.setIfInBounds_toArray, List.set_cons_zero, List.set_cons_succ]
          refine takeV 7 rfl (by intro w h; clear h; go_simp; try with_reducible rfl) (by kernel_rfl) (by kernel_rfl) (by kernel_rfl) (by exact fun _ _ _ h => h) (by rfl) (by assumption) ?_
          try simp only [Act.put, List.setIfInBounds_toArray, List.set_cons_zero, List.set_cons_succ]
          refine takeV 8 rfl (by intro w h; clear h; go_simp; try with_reducible rfl) (by kernel_rfl) (by kernel_rfl) (by kernel_rfl) (by exact fun _ _ _ h => h) (by rfl) (by assumption) ?_
          try simp only [Act.put, List.setIfInBounds_toArray, List.set_cons_zero, List.set_cons_succ]
          refine takeV 9 rfl (by intro w h; have hc := h.1.2; clear h; go_simp; try with_reducible rfl) (by kernel_rfl) (by kernel_rfl) (by kernel_rfl) (by exact fun _ _ _ h => h) (by rfl) (by assumption) ?_
          try simp only [Act.put, List.setIfInBounds_toArray, List.set_cons_zero, List.set_cons_succ]
          refine take_call 3 rfl (by kernel_rfl) (fun K hK => ?_)
          try go_simp
          refine (power_a (R k) (I k) _).mono ?_
          rintro e wx ⟨r, nr, rfl, Hr, rfl⟩
          replace H := H.drewN nr
          refine hK.out _ _ ?_ (fun hHeld => ?_)
          · exact ⟨⟨H.cell 3 rfl (rowF_get R (k := k) hk8), H.cell 4 rfl (rowF_get I (k := k) hk8)⟩, H.cell 2 rfl hz⟩
          clear hK K
          try simp only [Act.put, List.setIfInBounds_toArray, List.set_cons_zero, List.set_cons_succ]
          refine take_call 10 rfl (by kernel_rfl) (fun K hK => ?_)
          try go_simp
          refine (refPower_a (R k) (I k) _).mono ?_
          rintro e wx ⟨s, ns, rfl, Hs, rfl⟩
          replace H := H.drewN ns
          refine hK.out _ _ ?_ (fun hHeld => ?_)
          · exact ⟨⟨H.cell 3 rfl (rowF_get R (k := k) hk8), H.cell 4 rfl (rowF_get I (k := k) hk8)⟩, H.cell 2 rfl hz⟩
          clear hK K
          try simp only [Act.put, List.setIfInBounds_toArray, List.set_cons_zero, List.set_cons_succ]
          refine take_call 11 rfl (by kernel_rfl) (fun K hK => ?_)
          try go_simp
          refine (same_abs r s _ (by rw [Hr.out, Hs.out])).mono ?_
          rintro e wx ⟨rfl, rfl⟩
          refine hK.out _ _ ?_ (fun hHeld => ?_)
          · exact ⟨⟨H.cell 3 rfl (rowF_get R (k := k) hk8), H.cell 4 rfl (rowF_get I (k := k) hk8)⟩, H.cell 2 rfl hz⟩
          clear hK K
          try simp only [Act.put, List.setIfInBounds_toArray, List.set_cons_zero, List.set_cons_succ]
          refine takeV 12 rfl (by intro w h; clear h; go_simp; try with_reducible rfl) (by kernel_rfl) (by kernel_rfl) (by kernel_rfl) (by exact fun _ _ _ h => h) (by rfl) (by assumption) ?_
          try simp only [Act.put, List.setIfInBounds_toArray, List.set_cons_zero, List.set_cons_succ]
          refine wpAnyH_done (by kernel_rfl) ?_ _
          clear hHeld
          go_wp2
          go_roundw
          case rel => exact ⟨k + 1, R, I, by omega, by go_num, HW.drewN _⟩
          case measure => simp [intOf]; omega
        · have hkm : ¬ (k : Int) < m := by omega
          go_wp2
          have hz0 := H.cell 2 rfl (o := k) (u := (cellsTo k fun i => (R i, I i))[k]'(by rw [cellsTo_length]; exact hk8)) (List.getElem?_eq_getElem _)
          have fr := H.free 2 rfl k
          have HW := H
          replace H := H.drew
          refine wp_region_held_drew (S := fun w' : World => w'.cell? ⟨gc, k, none⟩ = some (fv (R k)) ∧ w'.cell? ⟨gd, k, none⟩ = some (fv (I k))) (by kernel_rfl) ?_ (fun hHeld => ?_)
          · exact ⟨H.cell 3 rfl (rowF_get R (k := k) hk8), H.cell 4 rfl (rowF_get I (k := k) hk8)⟩
          refine takeV 0 rfl (by intro w h; clear h; go_simp; try with_reducible rfl) (by kernel_rfl) (by kernel_rfl) (by kernel_rfl) (by exact fun _ _ _ h => h) (by rfl) (by assumption) ?_
          try simp only [Act.put, List.setIfInBounds_toArray, List.set_cons_zero, List.set_cons_succ]
          refine takeV 1 rfl (by intro w h; clear h; go_simp; try with_reducible rfl) (by kernel_rfl) (by kernel_rfl) (by kernel_rfl) (by exact fun _ _ _ h => h) (by rfl) (by assumption) ?_
          try simp only [Act.put, List.setIfInBounds_toArray, List.set_cons_zero, List.set_cons_succ]
          refine takeV 2 rfl (by intro w h; clear h; go_simp; try with_reducible rfl) (by kernel_rfl) (by kernel_rfl) (by kernel_rfl) (by exact fun _ _ _ h => h) (by rfl) (by assumption) ?_
          try simp only [Act.put, List.setIfInBounds_toArray, List.set_cons_zero, List.set_cons_succ]
          refine takeV 3 rfl (by intro w h; have hc := h.1; clear h; go_simp; try with_reducible rfl) (by kernel_rfl) (by kernel_rfl) (by kernel_rfl) (by exact fun _ _ _ h => h) (by rfl) (by assumption) ?_
          try simp only [Act.put, List.setIfInBounds_toArray, List.set_cons_zero, List.set_cons_succ]
          refine takeV 4 rfl (by intro w h; clear h; go_simp; try with_reducible rfl) (by kernel_rfl) (by kernel_rfl) (by kernel_rfl) (by exact fun _ _ _ h => h) (by rfl) (by assumption) ?_
          try simp only [Act.put, List.setIfInBounds_toArray, List.set_cons_zero, List.set_cons_succ]
          refine takeV 5 rfl (by intro w h; clear h; go_simp; try with_reducible rfl) (by kernel_rfl) (by kernel_rfl) (by kernel_rfl) (by exact fun _ _ _ h => h) (by rfl) (by assumption) ?_
          try simp only [Act.put, List.setIfInBounds_toArray, List.set_cons_zero, List.set_cons_succ]
          refine takeV 6 rfl (by intro w h; have hc := h.2; clear h; go_simp; try with_reducible rfl) (by kernel_rfl) (by kernel_rfl) (by kernel_rfl) (by exact fun _ _ _ h => h) (by rfl) (by assumption) ?_
          try simp only [Act.put, List.setIfInBounds_toArray, List.set_cons_zero, List.set_cons_succ]
          refine takeV 7 rfl (by intro w h; clear h; go_simp; try with_reducible rfl) (by kernel_rfl) (by kernel_rfl) (by kernel_rfl) (by exact fun _ _ _ h => h) (by rfl) (by assumption) ?_
          try simp only [Act.put, List.setIfInBounds_toArray, List.set_cons_zero, List.set_cons_succ]
          refine takeV 8 rfl (by intro w h; clear h; go_simp; try with_reducible rfl) (by kernel_rfl) (by kernel_rfl) (by kernel_rfl) (by exact fun _ _ _ h => h) (by rfl) (by assumption) ?_
          try simp only [Act.put, List.setIfInBounds_toArray, List.set_cons_zero, List.set_cons_succ]
          generalize (cellsTo k fun i => (R i, I i))[k]'(by rw [cellsTo_length]; exact hk8) = old at hz0
          have hst := fun (a : Addr) (re im : Nat) (m : Mode) (w : World) => run_store Try.prog w a (.complex .f64 re im) m rfl
          refine take_call 9 rfl (by kernel_rfl) (fun K hK => ?_)
          go_simp
          replace H := (H.store 2 rfl (o := k) (u := .complex .f64 (R k) (I k))).upd_mk (by simp)
          refine hK.out _ _ ?_ (fun hHeld => ?_)
          · exact ⟨H.cell 3 rfl (rowF_get R (k := k) hk8), H.cell 4 rfl (rowF_get I (k := k) hk8)⟩
          clear hK K
          try simp only [Act.put, List.setIfInBounds_toArray, List.set_cons_zero, List.set_cons_succ]
          refine wpAnyH_done (by kernel_rfl) ?_ _
          clear hHeld hz0 fr hst HW
          replace H : St w [] _ (lay [.row 22 1 (.slice (some ⟨gx, ox, none⟩) n c1) n (X.map rv), .row 22 1 (.slice A2 m c2) m (Y.map rv), .blk gs 32 ((cellsTo k fun i => (R i, I i)).set k (.complex .f64 (R k) (I k))), .blk gc 33 (rowF R), .blk gd 33 (rowF I)]) := H
          rw [cellsTo_set (fun i => (R i, I i)) hk8] at H
          go_wp2
          refine absorb_wp H ?_
          clear H
          intro w7 H
          have hz : (cellsTo (k + 1) fun i => (R i, I i))[k]? = some (.complex .f64 (R k) (I k)) := cellsTo_get _ hk8
          have HW := H
          replace H := H.drew
          refine wp_region_held_drew (S := fun w' : World => (w'.cell? ⟨gc, k, none⟩ = some (fv (R k)) ∧ w'.cell? ⟨gd, k, none⟩ = some (fv (I k))) ∧ w'.cell? ⟨gs, k, none⟩ = some (.complex .f64 (R k) (I k))) (by kernel_rfl) ?_ (fun hHeld => ?_)
          · exact ⟨⟨H.cell 3 rfl (rowF_get R (k := k) hk8), H.cell 4 rfl (rowF_get I (k := k) hk8)⟩, H.cell 2 rfl hz⟩
          refine takeV 0 rfl (by intro w h; clear h; go_simp; try with_reducible rfl) (by kernel_rfl) (by kernel_rfl) (by kernel_rfl) (by exact fun _ _ _ h => h) (by rfl) (by assumption) ?_
          try simp only [Act.put, List.setIfInBounds_toArray, List.set_cons_zero, List.set_cons_succ]
          refine takeV 1 rfl (by intro w h; clear h; go_simp; try with_reducible rfl) (by kernel_rfl) (by kernel_rfl) (by kernel_rfl) (by exact fun _ _ _ h => h) (by rfl) (by assumption) ?_
          try simp only [Act.put, List.setIfInBounds_toArray, List.set_cons_zero, List.set_cons_succ]
          refine takeV 2 rfl (by intro w h; have hc := h.2; clear h; go_simp; try with_reducible rfl) (by kernel_rfl) (by kernel_rfl) (by kernel_rfl) (by exact fun _ _ _ h => h) (by rfl) (by assumption) ?_
          try simp only [Act.put, List.setIfInBounds_toArray, List.set_cons_zero, List.set_cons_succ]
          refine takeV 4 rfl (by intro w h; clear h; go_simp; try with_reducible rfl) (by kernel_rfl) (by kernel_rfl) (by kernel_rfl) (by exact fun _ _ _ h => h) (by rfl) (by assumption) ?_
          try simp only [Act.put, List.setIfInBounds_toArray, List.set_cons_zero, List.set_cons_succ]
          refine takeV 5 rfl (by intro w h; clear h; go_simp; try with_reducible rfl) (by kernel_rfl) (by kernel_rfl) (by kernel_rfl) (by exact fun _ _ _ h => h) (by rfl) (by assumption) ?_
          try simp only [Act.put, List.setIfInBounds_toArray, List.set_cons_zero, List.set_cons_succ]
          refine takeV 6 rfl (by intro w h; have hc := h.1.1; clear h; go_simp; try with_reducible rfl) (by kernel_rfl) (by kernel_rfl) (by kernel_rfl) (by exact fun _ _ _ h => h) (by rfl) (by assumption) ?_
          try simp only [Act.put, List.setIfInBounds_toArray, List.set_cons_zero, List.set_cons_succ]
          refine takeV 7 rfl (by intro w h; clear h; go_simp; try with_reducible rfl) (by kernel_rfl) (by kernel_rfl) (by kernel_rfl) (by exact fun _ _ _ h => h) (by rfl) (by assumption) ?_
          try simp only [Act.put, List.setIfInBounds_toArray, List.set_cons_zero, List.set_cons_succ]
          refine takeV 8 rfl (by intro w h; clear h; go_simp; try with_reducible rfl) (by kernel_rfl) (by kernel_rfl) (by kernel_rfl) (by exact fun _ _ _ h => h) (by rfl) (by assumption) ?_
          try simp only [Act.put, List.setIfInBounds_toArray, List.set_cons_zero, List.set_cons_succ]
          refine takeV 9 rfl (by intro w h; have hc := h.1.2; clear h; go_simp; try with_reducible rfl) (by kernel_rfl) (by kernel_rfl) (by kernel_rfl) (by exact fun _ _ _ h => h) (by rfl) (by assumption) ?_
          try simp only [Act.put, List.setIfInBounds_toArray, List.set_cons_zero, List.set_cons_succ]
          refine take_call 3 rfl (by kernel_rfl) (fun K hK => ?_)
          try go_simp
          refine (power_a (R k) (I k) _).mono ?_
          rintro e wx ⟨r, nr, rfl, Hr, rfl⟩
          replace H := H.drewN nr
          refine hK.out _ _ ?_ (fun hHeld => ?_)
          · exact ⟨⟨H.cell 3 rfl (rowF_get R (k := k) hk8), H.cell 4 rfl (rowF_get I (k := k) hk8)⟩, H.cell 2 rfl hz⟩
          clear hK K
          try simp only [Act.put, List.setIfInBounds_toArray, List.set_cons_zero, List.set_cons_succ]
          refine take_call 10 rfl (by kernel_rfl) (fun K hK => ?_)
          try go_simp
          refine (refPower_a (R k) (I k) _).mono ?_
          rintro e wx ⟨s, ns, rfl, Hs, rfl⟩
          replace H := H.drewN ns
          refine hK.out _ _ ?_ (fun hHeld => ?_)
          · exact ⟨⟨H.cell 3 rfl (rowF_get R (k := k) hk8), H.cell 4 rfl (rowF_get I (k := k) hk8)⟩, H.cell 2 rfl hz⟩
          clear hK K
          try simp only [Act.put, List.setIfInBounds_toArray, List.set_cons_zero, List.set_cons_succ]
          refine take_call 11 rfl (by kernel_rfl) (fun K hK => ?_)
          try go_simp
          refine (same_abs r s _ (by rw [Hr.out, Hs.out])).mono ?_
          rintro e wx ⟨rfl, rfl⟩
          refine hK.out _ _ ?_ (fun hHeld => ?_)
          · exact ⟨⟨H.cell 3 rfl (rowF_get R (k := k) hk8), H.cell 4 rfl (rowF_get I (k := k) hk8)⟩, H.cell 2 rfl hz⟩
          clear hK K
          try simp only [Act.put, List.setIfInBounds_toArray, List.set_cons_zero, List.set_cons_succ]
          refine takeV 12 rfl (by intro w h; clear h; go_simp; try with_reducible rfl) (by kernel_rfl) (by kernel_rfl) (by kernel_rfl) (by exact fun _ _ _ h => h) (by rfl) (by assumption) ?_
          try simp only [Act.put, List.setIfInBounds_toArray, List.set_cons_zero, List.set_cons_succ]
          refine wpAnyH_done (by kernel_rfl) ?_ _
          clear hHeld
          go_wp2
          go_roundw
          case rel => exact ⟨k + 1, R, I, by omega, by go_num, HW.drewN _⟩
          case measure => simp [intOf]; omega
      · have hkn : ¬ (k : Int) < n := by omega
        go_upto_region 10 with (fail)
        refine absorb_wp H ?_
        clear H
        intro w6 H
        by_cases hm1 : k < m
        · have hkn : (k : Int) < m := by omega
          obtain ⟨gy, oy, rfl, -, hcf⟩ := (H.rd 1 rfl).flat (by omega) (by omega)
          obtain ⟨u, hu⟩ : ∃ u, Y[k]? = some u := ⟨_, List.getElem?_eq_getElem (by rw [HY.out]; omega)⟩
          have hcx := hcf k (rv u) (by rw [List.getElem?_map, hu]; rfl)
          clear hcf hu
          have ce := H.cell 4 rfl (rowF_get I (k := k) hk8)
          have fr := H.free 4 rfl k
          have hst := fun (a : Addr) (b : Nat) (m : Mode) (w : World) => run_store Try.prog w a (.float .f64 b) m rfl
          replace H := (H.store 4 rfl (o := k) (u := .float .f64 u)).upd_mk (by simp)
          replace H : St w [] _ (lay [.row 22 1 (.slice A1 n c1) n (X.map rv), .row 22 1 (.slice (some ⟨gy, oy, none⟩) m c2) m (Y.map rv), .blk gs 32 (cellsTo k fun i => (R i, I i)), .blk gc 33 (rowF R), .blk gd 33 ((rowF I).set k (.float .f64 u))]) := H
          rw [rowF_set I k u] at H
          have hcg : (cellsTo k fun i => (R i, I i)) = cellsTo k fun i => ((R) i, (setF I k u) i) := cellsTo_congr fun i hi => by rw [setF_other _ _ _ _ (by omega)]
          rw [hcg] at H
          clear hcg
          go_wp2
          refine absorb_wp H ?_
          clear H ce fr hst hcx hkn
          intro w6 H
          generalize setF I k u = I2 at H
          clear I
          obtain ⟨I, eI⟩ : ∃ I, I = I2 := ⟨_, rfl⟩
          rw [← eI] at H
          clear eI I2
          have hz0 := H.cell 2 rfl (o := k) (u := (cellsTo k fun i => (R i, I i))[k]'(by rw [cellsTo_length]; exact hk8)) (List.getElem?_eq_getElem _)
          have fr := H.free 2 rfl k
          have HW := H
          replace H := H.drew
          refine wp_region_held_drew (S := fun w' : World => w'.cell? ⟨gc, k, none⟩ = some (fv (R k)) ∧ w'.cell? ⟨gd, k, none⟩ = some (fv (I k))) (by kernel_rfl) ?_ (fun hHeld => ?_)
          · exact ⟨H.cell 3 rfl (rowF_get R (k := k) hk8), H.cell 4 rfl (rowF_get I (k := k) hk8)⟩
          refine takeV 0 rfl (by intro w h; clear h; go_simp; try with_reducible rfl) (by kernel_rfl) (by kernel_rfl) (by kernel_rfl) (by exact fun _ _ _ h => h) (by rfl) (by assumption) ?_
          try simp only [Act.put, List.setIfInBounds_toArray, List.set_cons_zero, List.set_cons_succ]
          refine takeV 1 rfl (by intro w h; clear h; go_simp; try with_reducible rfl) (by kernel_rfl) (by kernel_rfl) (by kernel_rfl) (by exact fun _ _ _ h => h) (by rfl) (by assumption) ?_
          try simp only [Act.put, List.setIfInBounds_toArray, List.set_cons_zero, List.set_cons_succ]
          refine takeV 2 rfl (by intro w h; clear h; go_simp; try with_reducible rfl) (by kernel_rfl) (by kernel_rfl) (by kernel_rfl) (by exact fun _ _ _ h => h) (by rfl) (by assumption) ?_
          try simp only [Act.put, List.setIfInBounds_toArray, List.set_cons_zero, List.set_cons_succ]
          refine takeV 3 rfl (by intro w h; have hc := h.1; clear h; go_simp; try with_reducible rfl) (by kernel_rfl) (by kernel_rfl) (by kernel_rfl) (by exact fun _ _ _ h => h) (by rfl) (by assumption) ?_
          try simp only [Act.put, List.setIfInBounds_toArray, List.set_cons_zero, List.set_cons_succ]
          refine takeV 4 rfl (by intro w h; clear h; go_simp; try with_reducible rfl) (by kernel_rfl) (by kernel_rfl) (by kernel_rfl) (by exact fun _ _ _ h => h) (by rfl) (by assumption) ?_
          try simp only [Act.put, List.setIfInBounds_toArray, List.set_cons_zero, List.set_cons_succ]
          refine takeV 5 rfl (by intro w h; clear h; go_simp; try with_reducible rfl) (by kernel_rfl) (by kernel_rfl) (by kernel_rfl) (by exact fun _ _ _ h => h) (by rfl) (by assumption) ?_
          try simp only [Act.put, List.setIfInBounds_toArray, List.set_cons_zero, List.set_cons_succ]
          refine takeV 6 rfl (by intro w h; have hc := h.2; clear h; go_simp; try with_reducible rfl) (by kernel_rfl) (by kernel_rfl) (by kernel_rfl) (by exact fun _ _ _ h => h) (by rfl) (by assumption) ?_
          try simp only [Act.put, List.setIfInBounds_toArray, List.set_cons_zero, List.set_cons_succ]
          refine takeV 7 rfl (by intro w h; clear h; go_simp; try with_reducible rfl) (by kernel_rfl) (by kernel_rfl) (by kernel_rfl) (by exact fun _ _ _ h => h) (by rfl) (by assumption) ?_
          try simp only [Act.put, List.setIfInBounds_toArray, List.set_cons_zero, List.set_cons_succ]
          refine takeV 8 rfl (by intro w h; clear h; go_simp; try with_reducible rfl) (by kernel_rfl) (by kernel_rfl) (by kernel_rfl) (by exact fun _ _ _ h => h) (by rfl) (by assumption) ?_
          try simp only [Act.put, List.setIfInBounds_toArray, List.set_cons_zero, List.set_cons_succ]
          generalize (cellsTo k fun i => (R i, I i))[k]'(by rw [cellsTo_length]; exact hk8) = old at hz0
          have hst := fun (a : Addr) (re im : Nat) (m : Mode) (w : World) => run_store Try.prog w a (.complex .f64 re im) m rfl
          refine take_call 9 rfl (by kernel_rfl) (fun K hK => ?_)
          go_simp
          replace H := (H.store 2 rfl (o := k) (u := .complex .f64 (R k) (I k))).upd_mk (by simp)
          refine hK.out _ _ ?_ (fun hHeld => ?_)
          · exact ⟨H.cell 3 rfl (rowF_get R (k := k) hk8), H.cell 4 rfl (rowF_get I (k := k) hk8)⟩
          clear hK K
          try simp only [Act.put, List.setIfInBounds_toArray, List.set_cons_zero, List.set_cons_succ]
          refine wpAnyH_done (by kernel_rfl) ?_ _
          clear hHeld hz0 fr hst HW
          replace H : St w [] _ (lay [.row 22 1 (.slice A1 n c1) n (X.map rv), .row 22 1 (.slice (some ⟨gy, oy, none⟩) m c2) m (Y.map rv), .blk gs 32 ((cellsTo k fun i => (R i, I i)).set k (.complex .f64 (R k) (I k))), .blk gc 33 (rowF R), .blk gd 33 (rowF I)]) := H
          rw [cellsTo_set (fun i => (R i, I i)) hk8] at H
          go_wp2
          refine absorb_wp H ?_
          clear H
          intro w7 H
          have hz : (cellsTo (k + 1) fun i => (R i, I i))[k]? = some (.complex .f64 (R k) (I k)) := cellsTo_get _ hk8
          have HW := H
          replace H := H.drew
          refine wp_region_held_drew (S := fun w' : World => (w'.cell? ⟨gc, k, none⟩ = some (fv (R k)) ∧ w'.cell? ⟨gd, k, none⟩ = some (fv (I k))) ∧ w'.cell? ⟨gs, k, none⟩ = some (.complex .f64 (R k) (I k))) (by kernel_rfl) ?_ (fun hHeld => ?_)
          · exact ⟨⟨H.cell 3 rfl (rowF_get R (k := k) hk8), H.cell 4 rfl (rowF_get I (k := k) hk8)⟩, H.cell 2 rfl hz⟩
          refine takeV 0 rfl (by intro w h; clear h; go_simp; try with_reducible rfl) (by kernel_rfl) (by kernel_rfl) (by kernel_rfl) (by exact fun _ _ _ h => h) (by rfl) (by assumption) ?_
          try simp only [Act.put, List.setIfInBounds_toArray, List.set_cons_zero, List.set_cons_succ]
          refine takeV 1 rfl (by intro w h; clear h; go_simp; try with_reducible rfl) (by kernel_rfl) (by kernel_rfl) (by kernel_rfl) (by exact fun _ _ _ h => h) (by rfl) (by assumption) ?_
          try simp only [Act.put, List.setIfInBounds_toArray, List.set_cons_zero, List.set_cons_succ]
          refine takeV 2 rfl (by intro w h; have hc := h.2; clear h; go_simp; try with_reducible rfl) (by kernel_rfl) (by kernel_rfl) (by kernel_rfl) (by exact fun _ _ _ h => h) (by rfl) (by assumption) ?_
          try simp only [Act.put, List.setIfInBounds_toArray, List.set_cons_zero, List.set_cons_succ]
          refine takeV 4 rfl (by intro w h; clear h; go_simp; try with_reducible rfl) (by kernel_rfl) (by kernel_rfl) (by kernel_rfl) (by exact fun _ _ _ h => h) (by rfl) (by assumption) ?_
          try simp only [Act.put, List.setIfInBounds_toArray, List.set_cons_zero, List.set_cons_succ]
          refine takeV 5 rfl (by intro w h; clear h; go_simp; try with_reducible rfl) (by kernel_rfl) (by kernel_rfl) (by kernel_rfl) (by exact fun _ _ _ h => h) (by rfl) (by assumption) ?_
          try simp only [Act.put, List.setIfInBounds_toArray, List.set_cons_zero, List.set_cons_succ]
          refine takeV 6 rfl (by intro w h; have hc := h.1.1; clear h; go_simp; try with_reducible rfl) (by kernel_rfl) (by kernel_rfl) (by kernel_rfl) (by exact fun _ _ _ h => h) (by rfl) (by assumption) ?_
          try simp only [Act.put, List.setIfInBounds_toArray, List.set_cons_zero, List.set_cons_succ]
          refine takeV 7 rfl (by intro w h; clear h; go_simp; try with_reducible rfl) (by kernel_rfl) (by kernel_rfl) (by kernel_rfl) (by exact fun _ _ _ h => h) (by rfl) (by assumption) ?_
          try simp only [Act.put, List.setIfInBounds_toArray, List.set_cons_zero, List.set_cons_succ]
          refine takeV 8 rfl (by intro w h; clear h; go_simp; try with_reducible rfl) (by kernel_rfl) (by kernel_rfl) (by kernel_rfl) (by exact fun _ _ _ h => h) (by rfl) (by assumption) ?_
          try simp only [Act.put, List.setIfInBounds_toArray, List.set_cons_zero, List.set_cons_succ]
          refine takeV 9 rfl (by intro w h; have hc := h.1.2; clear h; go_simp; try with_reducible rfl) (by kernel_rfl) (by kernel_rfl) (by kernel_rfl) (by exact fun _ _ _ h => h) (by rfl) (by assumption) ?_
          try simp only [Act.put, List.setIfInBounds_toArray, List.set_cons_zero, List.set_cons_succ]
          refine take_call 3 rfl (by kernel_rfl) (fun K hK => ?_)
          try go_simp
          refine (power_a (R k) (I k) _).mono ?_
          rintro e wx ⟨r, nr, rfl, Hr, rfl⟩
          replace H := H.drewN nr
          refine hK.out _ _ ?_ (fun hHeld => ?_)
          · exact ⟨⟨H.cell 3 rfl (rowF_get R (k := k) hk8), H.cell 4 rfl (rowF_get I (k := k) hk8)⟩, H.cell 2 rfl hz⟩
          clear hK K
          try simp only [Act.put, List.setIfInBounds_toArray, List.set_cons_zero, List.set_cons_succ]
          refine take_call 10 rfl (by kernel_rfl) (fun K hK => ?_)
          try go_simp
          refine (refPower_a (R k) (I k) _).mono ?_
          rintro e wx ⟨s, ns, rfl, Hs, rfl⟩
          replace H := H.drewN ns
          refine hK.out _ _ ?_ (fun hHeld => ?_)
          · exact ⟨⟨H.cell 3 rfl (rowF_get R (k := k) hk8), H.cell 4 rfl (rowF_get I (k := k) hk8)⟩, H.cell 2 rfl hz⟩
          clear hK K
          try simp only [Act.put, List.setIfInBounds_toArray, List.set_cons_zero, List.set_cons_succ]
          refine take_call 11 rfl (by kernel_rfl) (fun K hK => ?_)
          try go_simp
          refine (same_abs r s _ (by rw [Hr.out, Hs.out])).mono ?_
          rintro e wx ⟨rfl, rfl⟩
          refine hK.out _ _ ?_ (fun hHeld => ?_)
          · exact ⟨⟨H.cell 3 rfl (rowF_get R (k := k) hk8), H.cell 4 rfl (rowF_get I (k := k) hk8)⟩, H.cell 2 rfl hz⟩
          clear hK K
          try simp only [Act.put, List.setIfInBounds_toArray, List.set_cons_zero, List.set_cons_succ]
          refine takeV 12 rfl (by intro w h; clear h; go_simp; try with_reducible rfl) (by kernel_rfl) (by kernel_rfl) (by kernel_rfl) (by exact fun _ _ _ h => h) (by rfl) (by assumption) ?_
          try simp only [Act.put, List.setIfInBounds_toArray, List.set_cons_zero, List.set_cons_succ]
          refine wpAnyH_done (by kernel_rfl) ?_ _
          clear hHeld
          go_wp2
          go_roundw
          case rel => exact ⟨k + 1, R, I, by omega, by go_num, HW.drewN _⟩
          case measure => simp [intOf]; omega
        · have hkm : ¬ (k : Int) < m := by omega
          go_wp2
          have hz0 := H.cell 2 rfl (o := k) (u := (cellsTo k fun i => (R i, I i))[k]'(by rw [cellsTo_length]; exact hk8)) (List.getElem?_eq_getElem _)
          have fr := H.free 2 rfl k
          have HW := H
          replace H := H.drew
          refine wp_region_held_drew (S := fun w' : World => w'.cell? ⟨gc, k, none⟩ = some (fv (R k)) ∧ w'.cell? ⟨gd, k, none⟩ = some (fv (I k))) (by kernel_rfl) ?_ (fun hHeld => ?_)
          · exact ⟨H.cell 3 rfl (rowF_get R (k := k) hk8), H.cell 4 rfl (rowF_get I (k := k) hk8)⟩
          refine takeV 0 rfl (by intro w h; clear h; go_simp; try with_reducible rfl) (by kernel_rfl) (by kernel_rfl) (by kernel_rfl) (by exact fun _ _ _ h => h) (by rfl) (by assumption) ?_
          try simp only [Act.put, List.setIfInBounds_toArray, List.set_cons_zero, List.set_cons_succ]
          refine takeV 1 rfl (by intro w h; clear h; go_simp; try with_reducible rfl) (by kernel_rfl) (by kernel_rfl) (by kernel_rfl) (by exact fun _ _ _ h => h) (by rfl) (by assumption) ?_
          try simp only [Act.put, List.setIfInBounds_toArray, List.set_cons_zero, List.set_cons_succ]
          refine takeV 2 rfl (by intro w h; clear h; go_simp; try with_reducible rfl) (by kernel_rfl) (by kernel_rfl) (by kernel_rfl) (by exact fun _ _ _ h => h) (by rfl) (by assumption) ?_
          try simp only [Act.put, List.setIfInBounds_toArray, List.set_cons_zero, List.set_cons_succ]
          refine takeV 3 rfl (by intro w h; have hc := h.1; clear h; go_simp; try with_reducible rfl) (by kernel_rfl) (by kernel_rfl) (by kernel_rfl) (by exact fun _ _ _ h => h) (by rfl) (by assumption) ?_
          try simp only [Act.put, List.setIfInBounds_toArray, List.set_cons_zero, List.set_cons_succ]
          refine takeV 4 rfl (by intro w h; clear h; go_simp; try with_reducible rfl) (by kernel_rfl) (by kernel_rfl) (by kernel_rfl) (by exact fun _ _ _ h => h) (by rfl) (by assumption) ?_
          try simp only [Act.put, List.setIfInBounds_toArray, List.set_cons_zero, List.set_cons_succ]
          refine takeV 5 rfl (by intro w h; clear h; go_simp; try with_reducible rfl) (by kernel_rfl) (by kernel_rfl) (by kernel_rfl) (by exact fun _ _ _ h => h) (by rfl) (by assumption) ?_
          try simp only [Act.put, List.setIfInBounds_toArray, List.set_cons_zero, List.set_cons_succ]
          refine takeV 6 rfl (by intro w h; have hc := h.2; clear h; go_simp; try with_reducible rfl) (by kernel_rfl) (by kernel_rfl) (by kernel_rfl) (by exact fun _ _ _ h => h) (by rfl) (by assumption) ?_
          try simp only [Act.put, List.setIfInBounds_toArray, List.set_cons_zero, List.set_cons_succ]
          refine takeV 7 rfl (by intro w h; clear h; go_simp; try with_reducible rfl) (by kernel_rfl) (by kernel_rfl) (by kernel_rfl) (by exact fun _ _ _ h => h) (by rfl) (by assumption) ?_
          try simp only [Act.put, List.setIfInBounds_toArray, List.set_cons_zero, List.set_cons_succ]
          refine takeV 8 rfl (by intro w h; clear h; go_simp; try with_reducible rfl) (by kernel_rfl) (by kernel_rfl) (by kernel_rfl) (by exact fun _ _ _ h => h) (by rfl) (by assumption) ?_
          try simp only [Act.put, List.setIfInBounds_toArray, List.set_cons_zero, List.set_cons_succ]
          generalize (cellsTo k fun i => (R i, I i))[k]'(by rw [cellsTo_length]; exact hk8) = old at hz0
          have hst := fun (a : Addr) (re im : Nat) (m : Mode) (w : World) => run_store Try.prog w a (.complex .f64 re im) m rfl
          refine take_call 9 rfl (by kernel_rfl) (fun K hK => ?_)
          go_simp
          replace H := (H.store 2 rfl (o := k) (u := .complex .f64 (R k) (I k))).upd_mk (by simp)
          refine hK.out _ _ ?_ (fun hHeld => ?_)
          · exact ⟨H.cell 3 rfl (rowF_get R (k := k) hk8), H.cell 4 rfl (rowF_get I (k := k) hk8)⟩
          clear hK K
          try simp only [Act.put, List.setIfInBounds_toArray, List.set_cons_zero, List.set_cons_succ]
          refine wpAnyH_done (by kernel_rfl) ?_ _
          clear hHeld hz0 fr hst HW
          replace H : St w [] _ (lay [.row 22 1 (.slice A1 n c1) n (X.map rv), .row 22 1 (.slice A2 m c2) m (Y.map rv), .blk gs 32 ((cellsTo k fun i => (R i, I i)).set k (.complex .f64 (R k) (I k))), .blk gc 33 (rowF R), .blk gd 33 (rowF I)]) := H
          rw [cellsTo_set (fun i => (R i, I i)) hk8] at H
          go_wp2
          refine absorb_wp H ?_
          clear H
          intro w7 H
          have hz : (cellsTo (k + 1) fun i => (R i, I i))[k]? = some (.complex .f64 (R k) (I k)) := cellsTo_get _ hk8
          have HW := H
          replace H := H.drew
          refine wp_region_held_drew (S := fun w' : World => (w'.cell? ⟨gc, k, none⟩ = some (fv (R k)) ∧ w'.cell? ⟨gd, k, none⟩ = some (fv (I k))) ∧ w'.cell? ⟨gs, k, none⟩ = some (.complex .f64 (R k) (I k))) (by kernel_rfl) ?_ (fun hHeld => ?_)
          · exact ⟨⟨H.cell 3 rfl (rowF_get R (k := k) hk8), H.cell 4 rfl (rowF_get I (k := k) hk8)⟩, H.cell 2 rfl hz⟩
          refine takeV 0 rfl (by intro w h; clear h; go_simp; try with_reducible rfl) (by kernel_rfl) (by kernel_rfl) (by kernel_rfl) (by exact fun _ _ _ h => h) (by rfl) (by assumption) ?_
          try simp only [Act.put, List.setIfInBounds_toArray, List.set_cons_zero, List.set_cons_succ]
          refine takeV 1 rfl (by intro w h; clear h; go_simp; try with_reducible rfl) (by kernel_rfl) (by kernel_rfl) (by kernel_rfl) (by exact fun _ _ _ h => h) (by rfl) (by assumption) ?_
          try simp only [Act.put, List.setIfInBounds_toArray, List.set_cons_zero, List.set_cons_succ]
          refine takeV 2 rfl (by intro w h; have hc := h.2; clear h; go_simp; try with_reducible rfl) (by kernel_rfl) (by kernel_rfl) (by kernel_rfl) (by exact fun _ _ _ h => h) (by rfl) (by assumption) ?_
          try simp only [Act.put, List.setIfInBounds_toArray, List.set_cons_zero, List.set_cons_succ]
          refine takeV 4 rfl (by intro w h; clear h; go_simp; try with_reducible rfl) (by kernel_rfl) (by kernel_rfl) (by kernel_rfl) (by exact fun _ _ _ h => h) (by rfl) (by assumption) ?_
          try simp only [Act.put, List.setIfInBounds_toArray, List.set_cons_zero, List.set_cons_succ]
          refine takeV 5 rfl (by intro w h; clear h; go_simp; try with_reducible rfl) (by kernel_rfl) (by kernel_rfl) (by kernel_rfl) (by exact fun _ _ _ h => h) (by rfl) (by assumption) ?_
          try simp only [Act.put, List.setIfInBounds_toArray, List.set_cons_zero, List.set_cons_succ]
          refine takeV 6 rfl (by intro w h; have hc := h.1.1; clear h; go_simp; try with_reducible rfl) (by kernel_rfl) (by kernel_rfl) (by kernel_rfl) (by exact fun _ _ _ h => h) (by rfl) (by assumption) ?_
          try simp only [Act.put, List.setIfInBounds_toArray, List.set_cons_zero, List.set_cons_succ]
          refine takeV 7 rfl (by intro w h; clear h; go_simp; try with_reducible rfl) (by kernel_rfl) (by kernel_rfl) (by kernel_rfl) (by exact fun _ _ _ h => h) (by rfl) (by assumption) ?_
          try simp only [Act.put, List.setIfInBounds_toArray, List.set_cons_zero, List.set_cons_succ]
          refine takeV 8 rfl (by intro w h; clear h; go_simp; try with_reducible rfl) (by kernel_rfl) (by kernel_rfl) (by kernel_rfl) (by exact fun _ _ _ h => h) (by rfl) (by assumption) ?_
          try simp only [Act.put, List.setIfInBounds_toArray, List.set_cons_zero, List.set_cons_succ]
          refine takeV 9 rfl (by intro w h; have hc := h.1.2; clear h; go_simp; try with_reducible rfl) (by kernel_rfl) (by kernel_rfl) (by kernel_rfl) (by exact fun _ _ _ h => h) (by rfl) (by assumption) ?_
          try simp only [Act.put, List.setIfInBounds_toArray, List.set_cons_zero, List.set_cons_succ]
          refine take_call 3 rfl (by kernel_rfl) (fun K hK => ?_)
          try go_simp
          refine (power_a (R k) (I k) _).mono ?_
          rintro e wx ⟨r, nr, rfl, Hr, rfl⟩
          replace H := H.drewN nr
          refine hK.out _ _ ?_ (fun hHeld => ?_)
          · exact ⟨⟨H.cell 3 rfl (rowF_get R (k := k) hk8), H.cell 4 rfl (rowF_get I (k := k) hk8)⟩, H.cell 2 rfl hz⟩
          clear hK K
          try simp only [Act.put, List.setIfInBounds_toArray, List.set_cons_zero, List.set_cons_succ]
          refine take_call 10 rfl (by kernel_rfl) (fun K hK => ?_)
          try go_simp
          refine (refPower_a (R k) (I k) _).mono ?_
          rintro e wx ⟨s, ns, rfl, Hs, rfl⟩
          replace H := H.drewN ns
          refine hK.out _ _ ?_ (fun hHeld => ?_)
          · exact ⟨⟨H.cell 3 rfl (rowF_get R (k := k) hk8), H.cell 4 rfl (rowF_get I (k := k) hk8)⟩, H.cell 2 rfl hz⟩
          clear hK K
          try simp only [Act.put, List.setIfInBounds_toArray, List.set_cons_zero, List.set_cons_succ]
          refine take_call 11 rfl (by kernel_rfl) (fun K hK => ?_)
          try go_simp
          refine (same_abs r s _ (by rw [Hr.out, Hs.out])).mono ?_
          rintro e wx ⟨rfl, rfl⟩
          refine hK.out _ _ ?_ (fun hHeld => ?_)
          · exact ⟨⟨H.cell 3 rfl (rowF_get R (k := k) hk8), H.cell 4 rfl (rowF_get I (k := k) hk8)⟩, H.cell 2 rfl hz⟩
          clear hK K
          try simp only [Act.put, List.setIfInBounds_toArray, List.set_cons_zero, List.set_cons_succ]
          refine takeV 12 rfl (by intro w h; clear h; go_simp; try with_reducible rfl) (by kernel_rfl) (by kernel_rfl) (by kernel_rfl) (by exact fun _ _ _ h => h) (by rfl) (by assumption) ?_
          try simp only [Act.put, List.setIfInBounds_toArray, List.set_cons_zero, List.set_cons_succ]
          refine wpAnyH_done (by kernel_rfl) ?_ _
          clear hHeld
          go_wp2
          go_roundw
          case rel => exact ⟨k + 1, R, I, by omega, by go_num, HW.drewN _⟩
          case measure => simp [intOf]; omega
    · obtain rfl : k = 8 := by omega
      have hb3 := H.blk 3 rfl
      have hb4 := H.blk 4 rfl
      go_wp2_with (first | (refine wpList_load_row rfl 33 (.tmp 8) rfl gc rfl _ _ _ _ hb3 Try.underlying33 rfl (by rw [List.size_toArray, rowF_length]; exact f8_size) ?_) | (refine wpList_load_row rfl 33 (.tmp 9) rfl gd rfl _ _ _ _ hb4 Try.underlying33 rfl (by rw [List.size_toArray, rowF_length]; exact f8_size) ?_) | fail)
      clear hb3 hb4
      refine (refBack_a R I wr).mono ?_
      rintro e w4 ⟨P, hP, he, hb⟩
      replace H := H.call hb
      have HP := Lib.hid hP
      clear hP hb
      rw [rowF_eq] at he
      subst he
      have HA := H.allocAt 5 rfl w4.heap.size rfl (rowF P).toArray 33 |>.push_mk rfl
      rw [rowF_eq P] at HA
      clear H
      have hst := fun (a : Addr) (b : Nat) (m : Mode) (w : World) => run_store Try.prog w a (.float .f64 b) m rfl
      go_upto_region 16 with (fail)
      refine absorb_wp HA ?_
      clear HA
      intro w5 H
      generalize w4.heap.size = gp at H ⊢
      replace H : St w [] w5 (lay [.row 22 1 (.slice A1 n c1) n (X.map rv), .row 22 1 (.slice A2 m c2) m (Y.map rv), .blk gs 32 (cellsTo 8 fun i => (R i, I i)), .blk gc 33 (rowF R), .blk gd 33 (rowF I), .blk gp 33 [fv (P 0), fv (P 1), fv (P 2), fv (P 3), fv (P 4), fv (P 5), fv (P 6), fv (P 7)]]) := H
      rw [← rowF_eq, cells8] at H
      have hb2 := H.blk 2 rfl
      go_wp2_with (first | (refine wpList_load_row rfl 32 (.tmp 7) rfl gs rfl _ _ _ _ hb2 Try.underlying32 rfl (by kernel_rfl) ?_) | fail)
      clear hb2
      refine (back_a (fun i => (R i, I i)) w5).mono ?_
      rintro e w6 ⟨Q, hQ, he, hb⟩
      replace H := H.call hb
      have HQ := Lib.hid hQ
      clear hQ hb
      rw [rowF_eq] at he
      subst he
      have HA := H.allocAt 6 rfl w6.heap.size rfl (rowF Q).toArray 33 |>.push_mk rfl
      rw [rowF_eq Q] at HA
      clear H
      go_wp2
      refine absorb_wp HA ?_
      clear HA hst
      intro w7 H
      generalize w6.heap.size = gq at H ⊢
      replace H : St w [] w7 (lay [.row 22 1 (.slice A1 n c1) n (X.map rv), .row 22 1 (.slice A2 m c2) m (Y.map rv), .blk gs 32 (c8 fun i => (R i, I i)), .blk gc 33 (rowF R), .blk gd 33 (rowF I), .blk gp 33 (rowF P), .blk gq 33 [fv (Q 0), fv (Q 1), fv (Q 2), fv (Q 3), fv (Q 4), fv (Q 5), fv (Q 6), fv (Q 7)]]) := H
      rw [← rowF_eq] at H
      go_loopw [13] (fun i wr => ∃ k : Nat, k ≤ 8 ∧ i = .int .i64 k ∧ St w [] wr (lay [.row 22 1 (.slice A1 n c1) n (X.map rv), .row 22 1 (.slice A2 m c2) m (Y.map rv), .blk gs 32 (c8 fun i => (R i, I i)), .blk gc 33 (rowF R), .blk gd 33 (rowF I), .blk gp 33 (rowF P), .blk gq 33 (rowF Q)])) (fun i _ => 8 - (intOf i).toNat)
      case atStart => exact ⟨0, by omega, rfl, H⟩
      case round =>
        clear H
        obtain ⟨k, hk, rfl, H⟩ := hrel
        by_cases hk8 : k < 8
        · have hk1 : (k : Int) < 8 := by omega
          have hS := Lib.hid (show absF (Q k) = absF (P k) by rw [HQ.out k hk8, HP.out k hk8])
          go_wp2
          have HW := H
          replace H := H.drew
          refine wp_region_held_drew (S := fun w' : World => w'.cell? ⟨gp, k, none⟩ = some (fv (P k)) ∧ w'.cell? ⟨gq, k, none⟩ = some (fv (Q k))) (by kernel_rfl) ?_ (fun hHeld => ?_)
          · exact ⟨H.cell 5 rfl (rowF_get P (k := k) hk8), H.cell 6 rfl (rowF_get Q (k := k) hk8)⟩
          refine takeV 0 rfl (by intro w h; clear h; go_simp; try with_reducible rfl) (by kernel_rfl) (by kernel_rfl) (by kernel_rfl) (by exact fun _ _ _ h => h) (by rfl) (by assumption) ?_
          try simp only [Act.put, List.setIfInBounds_toArray, List.set_cons_zero, List.set_cons_succ]
          refine takeV 1 rfl (by intro w h; clear h; go_simp; try with_reducible rfl) (by kernel_rfl) (by kernel_rfl) (by kernel_rfl) (by exact fun _ _ _ h => h) (by rfl) (by assumption) ?_
          try simp only [Act.put, List.setIfInBounds_toArray, List.set_cons_zero, List.set_cons_succ]
          refine takeV 2 rfl (by intro w h; have hc := h.2; clear h; go_simp; try with_reducible rfl) (by kernel_rfl) (by kernel_rfl) (by kernel_rfl) (by exact fun _ _ _ h => h) (by rfl) (by assumption) ?_
          try simp only [Act.put, List.setIfInBounds_toArray, List.set_cons_zero, List.set_cons_succ]
          refine takeV 3 rfl (by intro w h; clear h; go_simp; try with_reducible rfl) (by kernel_rfl) (by kernel_rfl) (by kernel_rfl) (by exact fun _ _ _ h => h) (by rfl) (by assumption) ?_
          try simp only [Act.put, List.setIfInBounds_toArray, List.set_cons_zero, List.set_cons_succ]
          refine takeV 4 rfl (by intro w h; clear h; go_simp; try with_reducible rfl) (by kernel_rfl) (by kernel_rfl) (by kernel_rfl) (by exact fun _ _ _ h => h) (by rfl) (by assumption) ?_
          try simp only [Act.put, List.setIfInBounds_toArray, List.set_cons_zero, List.set_cons_succ]
          refine takeV 5 rfl (by intro w h; have hc := h.1; clear h; go_simp; try with_reducible rfl) (by kernel_rfl) (by kernel_rfl) (by kernel_rfl) (by exact fun _ _ _ h => h) (by rfl) (by assumption) ?_
          try simp only [Act.put, List.setIfInBounds_toArray, List.set_cons_zero, List.set_cons_succ]
          refine take_call 6 rfl (by kernel_rfl) (fun K hK => ?_)
          try go_simp
          refine (same_abs (Q k) (P k) _ hS.out).mono ?_
          rintro e wx ⟨rfl, rfl⟩
          refine hK.out _ _ ?_ (fun hHeld => ?_)
          · exact ⟨H.cell 5 rfl (rowF_get P (k := k) hk8), H.cell 6 rfl (rowF_get Q (k := k) hk8)⟩
          clear hK K
          try simp only [Act.put, List.setIfInBounds_toArray, List.set_cons_zero, List.set_cons_succ]
          refine takeV 7 rfl (by intro w h; clear h; go_simp; try with_reducible rfl) (by kernel_rfl) (by kernel_rfl) (by kernel_rfl) (by exact fun _ _ _ h => h) (by rfl) (by assumption) ?_
          try simp only [Act.put, List.setIfInBounds_toArray, List.set_cons_zero, List.set_cons_succ]
          refine wpAnyH_done (by kernel_rfl) ?_ _
          clear hHeld
          go_wp2
          go_roundw
          case rel => exact ⟨k + 1, by omega, by go_num, H⟩
          case measure => simp [intOf]; omega
        · obtain rfl : k = 8 := by omega
          go_wp2
          go_ret
          exact ⟨rfl, H.below⟩

end Go.Proofs.Ytgaghggnjemgoaa
