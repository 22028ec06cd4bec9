/- Back of any eight complex numbers, in eighth and in the document. -/
import Derived.Test.YtgaghggnjemgoaaEiRef
namespace Go.Proofs.Ytgaghggnjemgoaa
open Go.RowKit
set_option linter.unusedVariables false
set_option maxRecDepth 100000

attribute [local irreducible] rowF
def bix (j k : Nat) : Nat := (((j : Int) * (k : Int)) % 8).toNat
theorem bix_lt (j k : Nat) : bix j k < 8 := by unfold bix; omega
/-- the sum of the first k -/
def backR (R I : Nat → Nat) (j : Nat) : Nat → Option Nat
  | 0 => some 0
  | k + 1 => opA .add (backR R I j k) (opA .sub (opA .mul (absF (R k)) (some (rootRe (bix j k)))) (opA .mul (absF (I k)) (some (rootIm (bix j k)))))
def backA (R I : Nat → Nat) (j : Nat) : Option Nat := opA .quo (backR R I j 8) (some 4620693217682128896)
theorem absF_eight : absF 4620693217682128896 = some 4620693217682128896 := by decide +kernel
theorem mul_in2 {j k : Nat} (h1 : j < 8) (h2 : k < 8) : 0 ≤ (j : Int) * (k : Int) ∧ (j : Int) * (k : Int) ≤ 49 := by
  have hj : (j : Int) ≤ 7 := by omega
  have hk : (k : Int) ≤ 7 := by omega
  refine ⟨Int.mul_nonneg (by omega) (by omega), ?_⟩
  exact Int.le_trans (Int.mul_le_mul hj hk (by omega) (by omega)) (by decide)
theorem setF_same (T : Nat → Nat) (j v : Nat) : setF T j v j = v := by simp [setF]
theorem setF_other (T : Nat → Nat) (j v i : Nat) (h : i ≠ j) : setF T j v i = T i := by simp [setF, h]

set_option maxHeartbeats 4000000 in
theorem refBack_a (R I : Nat → Nat) (w : World) :
    Calls Try.prog 17 #[.agg (rowF R).toArray, .agg (rowF I).toArray] w fun e w' => ∃ T : Nat → Nat, (∀ j, j < 8 → absF (T j) = backA R I j) ∧ e = .returned (.agg (rowF T).toArray) ∧ Below w.heap.size w w' := by
  have H0 := St.start_lay w []
  have HA := H0.allocAt 0 rfl w.heap.size rfl (rowF R).toArray 33 |>.push_mk rfl |>.allocAt 1 rfl (w.heap.size + 1) (by simp) (rowF I).toArray 33 |>.push_mk rfl |>.allocAt 2 rfl (w.heap.size + 2) (by simp) #[fv 0, fv 0, fv 0, fv 0, fv 0, fv 0, fv 0, fv 0] 33 |>.push_mk rfl |>.allocAt 3 rfl (w.heap.size + 3) (by simp) #[fv 0, fv 0, fv 0, fv 0, fv 0, fv 0, fv 0, fv 0] 33 |>.push_mk rfl
  rw [rowF_eq, rowF_eq] at HA ⊢
  go_enter Try.func17, Try.ntmps17
  go_wp2
  refine absorb_wp HA ?_
  clear HA H0
  intro w3 H
  generalize w.heap.size + 3 = g4 at H ⊢
  generalize w.heap.size + 2 = g3 at H ⊢
  generalize w.heap.size + 1 = g2 at H ⊢
  generalize w.heap.size = g1 at H ⊢
  replace H : St w [] w3 (lay [.blk g1 33 [fv (R 0), fv (R 1), fv (R 2), fv (R 3), fv (R 4), fv (R 5), fv (R 6), fv (R 7)], .blk g2 33 [fv (I 0), fv (I 1), fv (I 2), fv (I 3), fv (I 4), fv (I 5), fv (I 6), fv (I 7)], .blk g3 33 [fv 0, fv 0, fv 0, fv 0, fv 0, fv 0, fv 0, fv 0], .blk g4 33 [fv 0, fv 0, fv 0, fv 0, fv 0, fv 0, fv 0, fv 0]]) := H
  rw [← rowF_eq, ← rowF_eq, ← rowF_zero] at H
  go_loopw [6] (fun i wr => ∃ (j : Nat) (T : Nat → Nat), j ≤ 8 ∧ i = .int .i64 j ∧ Hid (∀ i, i < j → absF (T i) = backA R I i) ∧ St w [] wr (lay [.blk g1 33 (rowF R), .blk g2 33 (rowF I), .blk g3 33 (rowF fun _ => 0), .blk g4 33 (rowF T)])) (fun i _ => 8 - (intOf i).toNat)
  case atStart => exact ⟨0, fun _ => 0, by omega, rfl, fun i h => by omega, H⟩
  case round =>
    clear H
    obtain ⟨j, T, hj, rfl, HT, H⟩ := hrel
    by_cases hj8 : j < 8
    · have hj1 : (j : Int) < 8 := by omega
      go_wp2
      go_loopw [7, 8] (fun x q wr => ∃ k X : Nat, k ≤ 8 ∧ q = .int .i64 k ∧ x = .float .f64 X ∧ Hid (absF X = backR R I j k) ∧ St w [] wr (lay [.blk g1 33 (rowF R), .blk g2 33 (rowF I), .blk g3 33 (rowF fun _ => 0), .blk g4 33 (rowF T)])) (fun _ q _ => 8 - (intOf q).toNat)
      case atStart => exact ⟨0, 0, by omega, rfl, rfl, absF_zero, H⟩
      case round =>
        clear H
        obtain ⟨k, X, hk, rfl, rfl, HX, H⟩ := hrel
        by_cases hk8 : k < 8
        · have hk1 : (k : Int) < 8 := by omega
          have hb := mul_in2 hj8 hk8
          obtain ⟨cc, hcc⟩ : ∃ cc, bix j k = cc := ⟨_, rfl⟩
          have hcc8 : cc < 8 := by rw [← hcc]; exact bix_lt j k
          have HCC := Lib.hid hcc
          have hr1 := Lib.hid (absF_root cc hcc8).1
          have hr2 := Lib.hid (absF_root cc hcc8).2
          obtain ⟨y, hy⟩ : ∃ y, (j : Int) * (k : Int) = y := ⟨_, rfl⟩
          have HY := Lib.hid (show (y % 8).toNat = cc by rw [← hcc, ← hy]; rfl)
          have w1 : IntKind.i64.wrap ((j : Int) * (k : Int)) = y := by rw [hy]; rw [hy] at hb; exact IntWalk.i64_in _ (by omega)
          rw [hy] at hb
          clear hcc hy
          go_wp2_with fail
          refine (refRoot_s y wr (by omega) (by omega)).mono ?_
          rintro e w4 ⟨rfl, hb4⟩
          rw [HY.out]
          replace H := H.call hb4
          clear hb4 w1
          go_wp2
          have HW := H
          replace H := H.drew
          refine wp_region_held_drew (S := fun w' : World => w'.cell? ⟨g1, k, none⟩ = some (fv (R k)) ∧ w'.cell? ⟨g2, k, none⟩ = some (fv (I k))) (by kernel_rfl) ?_ (fun hHeld => ?_)
          · exact ⟨H.cell 0 rfl (rowF_get R (k := k) hk8), H.cell 1 rfl (rowF_get I (k := k) hk8)⟩
          refine takeV 0 rfl (by intro w h; clear h; go_simp; try with_reducible rfl) (by kernel_rfl) (by kernel_rfl) (by kernel_rfl) (by exact fun _ _ _ h => h) (by rfl) (by assumption) ?_
          try simp only [Act.put, List.setIfInBounds_toArray, List.set_cons_zero, List.set_cons_succ]
          refine takeV 1 rfl (by intro w h; clear h; go_simp; try with_reducible rfl) (by kernel_rfl) (by kernel_rfl) (by kernel_rfl) (by exact fun _ _ _ h => h) (by rfl) (by assumption) ?_
          try simp only [Act.put, List.setIfInBounds_toArray, List.set_cons_zero, List.set_cons_succ]
          refine takeV 2 rfl (by intro w h; clear h; go_simp; try with_reducible rfl) (by kernel_rfl) (by kernel_rfl) (by kernel_rfl) (by exact fun _ _ _ h => h) (by rfl) (by assumption) ?_
          try simp only [Act.put, List.setIfInBounds_toArray, List.set_cons_zero, List.set_cons_succ]
          refine takeV 3 rfl (by intro w h; have hc := h.1; clear h; go_simp; try with_reducible rfl) (by kernel_rfl) (by kernel_rfl) (by kernel_rfl) (by exact fun _ _ _ h => h) (by rfl) (by assumption) ?_
          try simp only [Act.put, List.setIfInBounds_toArray, List.set_cons_zero, List.set_cons_succ]
          refine takeV 4 rfl (by intro w h; clear h; go_simp; try with_reducible rfl) (by kernel_rfl) (by kernel_rfl) (by kernel_rfl) (by exact fun _ _ _ h => h) (by rfl) (by assumption) ?_
          try simp only [Act.put, List.setIfInBounds_toArray, List.set_cons_zero, List.set_cons_succ]
          refine takeV 6 rfl (by intro w h; clear h; go_simp; try with_reducible rfl) (by kernel_rfl) (by kernel_rfl) (by kernel_rfl) (by exact fun _ _ _ h => h) (by rfl) (by assumption) ?_
          try simp only [Act.put, List.setIfInBounds_toArray, List.set_cons_zero, List.set_cons_succ]
          refine takeV 7 rfl (by intro w h; clear h; go_simp; try with_reducible rfl) (by kernel_rfl) (by kernel_rfl) (by kernel_rfl) (by exact fun _ _ _ h => h) (by rfl) (by assumption) ?_
          try simp only [Act.put, List.setIfInBounds_toArray, List.set_cons_zero, List.set_cons_succ]
          refine takeV 8 rfl (by intro w h; have hc := h.2; clear h; go_simp; try with_reducible rfl) (by kernel_rfl) (by kernel_rfl) (by kernel_rfl) (by exact fun _ _ _ h => h) (by rfl) (by assumption) ?_
          try simp only [Act.put, List.setIfInBounds_toArray, List.set_cons_zero, List.set_cons_succ]
          refine takeV 9 rfl (by intro w h; clear h; go_simp; try with_reducible rfl) (by kernel_rfl) (by kernel_rfl) (by kernel_rfl) (by exact fun _ _ _ h => h) (by rfl) (by assumption) ?_
          try simp only [Act.put, List.setIfInBounds_toArray, List.set_cons_zero, List.set_cons_succ]
          refine takeTwo 5 10 rfl rfl (by kernel_rfl) (fun K hK => ?_) (fun K hK => ?_)
          · obtain ⟨p, n1, m1, e1⟩ := run_float_any (P := Try.prog) w4.drew .mul rfl 22 (R k) (rootRe cc)
            go_simp
            replace H := H.drewN n1
            refine hK.out _ _ ?_ (fun hHeld => ?_)
            · exact ⟨H.cell 0 rfl (rowF_get R (k := k) hk8), H.cell 1 rfl (rowF_get I (k := k) hk8)⟩
            clear hK K
            try simp only [Act.put, List.setIfInBounds_toArray, List.set_cons_zero, List.set_cons_succ]
            clear m1
            refine take_call 10 rfl (by kernel_rfl) (fun K hK => ?_)
            obtain ⟨q, n2, m2, e2⟩ := run_float_any (P := Try.prog) (w4.drewN (1 + n1)) .mul rfl 22 (I k) (rootIm cc)
            go_simp
            replace H := H.drewN n2
            refine hK.out _ _ ?_ (fun hHeld => ?_)
            · exact ⟨H.cell 0 rfl (rowF_get R (k := k) hk8), H.cell 1 rfl (rowF_get I (k := k) hk8)⟩
            clear hK K
            try simp only [Act.put, List.setIfInBounds_toArray, List.set_cons_zero, List.set_cons_succ]
            clear m2
            refine take_call 11 rfl (by kernel_rfl) (fun K hK => ?_)
            obtain ⟨d, n3, m3, e3⟩ := run_float_any (P := Try.prog) (w4.drewN (1 + n1 + n2)) .sub rfl 22 (p) (q)
            go_simp
            replace H := H.drewN n3
            refine hK.out _ _ ?_ (fun hHeld => ?_)
            · exact ⟨H.cell 0 rfl (rowF_get R (k := k) hk8), H.cell 1 rfl (rowF_get I (k := k) hk8)⟩
            clear hK K
            try simp only [Act.put, List.setIfInBounds_toArray, List.set_cons_zero, List.set_cons_succ]
            clear m3
            refine take_call 12 rfl (by kernel_rfl) (fun K hK => ?_)
            obtain ⟨r, n4, m4, e4⟩ := run_float_any (P := Try.prog) (w4.drewN (1 + n1 + n2 + n3)) .add rfl 22 (X) (d)
            go_simp
            replace H := H.drewN n4
            refine hK.out _ _ ?_ (fun hHeld => ?_)
            · exact ⟨H.cell 0 rfl (rowF_get R (k := k) hk8), H.cell 1 rfl (rowF_get I (k := k) hk8)⟩
            clear hK K
            try simp only [Act.put, List.setIfInBounds_toArray, List.set_cons_zero, List.set_cons_succ]
            clear m4
            refine takeV 13 rfl (by intro w h; clear h; go_simp; try with_reducible rfl) (by kernel_rfl) (by kernel_rfl) (by kernel_rfl) (by exact fun _ _ _ h => h) (by rfl) (by assumption) ?_
            try simp only [Act.put, List.setIfInBounds_toArray, List.set_cons_zero, List.set_cons_succ]
            refine wpAnyH_done (by kernel_rfl) ?_ _
            have EE := Lib.hid (show absF r = opA .add (absF X) (opA .sub (opA .mul (absF (R k)) (some (rootRe cc))) (opA .mul (absF (I k)) (some (rootIm cc)))) by rw [e4, e3, e1, e2, hr1.out, hr2.out])
            clear e1 e2 e3 e4 hHeld
            go_wp2
            go_roundw
            case rel => exact ⟨k + 1, r, by omega, by go_num, rfl, by unfold Hid backR; rw [EE.out, HX.out, HCC.out], HW.drewN _⟩
            case measure => simp [intOf]; omega
          · obtain ⟨q, n1, m1, e1⟩ := run_float_any (P := Try.prog) w4.drew .mul rfl 22 (I k) (rootIm cc)
            go_simp
            replace H := H.drewN n1
            refine hK.out _ _ ?_ (fun hHeld => ?_)
            · exact ⟨H.cell 0 rfl (rowF_get R (k := k) hk8), H.cell 1 rfl (rowF_get I (k := k) hk8)⟩
            clear hK K
            try simp only [Act.put, List.setIfInBounds_toArray, List.set_cons_zero, List.set_cons_succ]
            clear m1
            refine take_call 5 rfl (by kernel_rfl) (fun K hK => ?_)
            obtain ⟨p, n2, m2, e2⟩ := run_float_any (P := Try.prog) (w4.drewN (1 + n1)) .mul rfl 22 (R k) (rootRe cc)
            go_simp
            replace H := H.drewN n2
            refine hK.out _ _ ?_ (fun hHeld => ?_)
            · exact ⟨H.cell 0 rfl (rowF_get R (k := k) hk8), H.cell 1 rfl (rowF_get I (k := k) hk8)⟩
            clear hK K
            try simp only [Act.put, List.setIfInBounds_toArray, List.set_cons_zero, List.set_cons_succ]
            clear m2
            refine take_call 11 rfl (by kernel_rfl) (fun K hK => ?_)
            obtain ⟨d, n3, m3, e3⟩ := run_float_any (P := Try.prog) (w4.drewN (1 + n1 + n2)) .sub rfl 22 (p) (q)
            go_simp
            replace H := H.drewN n3
            refine hK.out _ _ ?_ (fun hHeld => ?_)
            · exact ⟨H.cell 0 rfl (rowF_get R (k := k) hk8), H.cell 1 rfl (rowF_get I (k := k) hk8)⟩
            clear hK K
            try simp only [Act.put, List.setIfInBounds_toArray, List.set_cons_zero, List.set_cons_succ]
            clear m3
            refine take_call 12 rfl (by kernel_rfl) (fun K hK => ?_)
            obtain ⟨r, n4, m4, e4⟩ := run_float_any (P := Try.prog) (w4.drewN (1 + n1 + n2 + n3)) .add rfl 22 (X) (d)
            go_simp
            replace H := H.drewN n4
            refine hK.out _ _ ?_ (fun hHeld => ?_)
            · exact ⟨H.cell 0 rfl (rowF_get R (k := k) hk8), H.cell 1 rfl (rowF_get I (k := k) hk8)⟩
            clear hK K
            try simp only [Act.put, List.setIfInBounds_toArray, List.set_cons_zero, List.set_cons_succ]
            clear m4
            refine takeV 13 rfl (by intro w h; clear h; go_simp; try with_reducible rfl) (by kernel_rfl) (by kernel_rfl) (by kernel_rfl) (by exact fun _ _ _ h => h) (by rfl) (by assumption) ?_
            try simp only [Act.put, List.setIfInBounds_toArray, List.set_cons_zero, List.set_cons_succ]
            refine wpAnyH_done (by kernel_rfl) ?_ _
            have EE := Lib.hid (show absF r = opA .add (absF X) (opA .sub (opA .mul (absF (R k)) (some (rootRe cc))) (opA .mul (absF (I k)) (some (rootIm cc)))) by rw [e4, e3, e2, e1, hr1.out, hr2.out])
            clear e1 e2 e3 e4 hHeld
            go_wp2
            go_roundw
            case rel => exact ⟨k + 1, r, by omega, by go_num, rfl, by unfold Hid backR; rw [EE.out, HX.out, HCC.out], HW.drewN _⟩
            case measure => simp [intOf]; omega
        · obtain rfl : k = 8 := by omega
          obtain ⟨r, n1, m1, e1⟩ := run_float_any (P := Try.prog) wr .quo rfl 22 X 4620693217682128896
          have HR := Lib.hid (show absF r = backA R I j by rw [e1, HX.out, absF_eight]; rfl)
          have fr := (H.drewN n1).free 3 rfl j
          have ce := (H.drewN n1).cell 3 rfl (rowF_get T (k := j) hj8)
          have hst := fun (a : Addr) (b : Nat) (m : Mode) (w : World) => run_store Try.prog w a (.float .f64 b) m rfl
          clear e1
          replace H := ((H.drewN n1).store 3 rfl (o := j) (u := .float .f64 r)).upd_mk (by simp)
          replace H : St w [] ((wr.drewN n1).setCell ⟨g4, j, none⟩ (.float .f64 r)) (lay [.blk g1 33 (rowF R), .blk g2 33 (rowF I), .blk g3 33 (rowF fun _ => 0), .blk g4 33 ((rowF T).set j (.float .f64 r))]) := H
          rw [rowF_set T j r] at H
          go_wp2
          go_roundw
          case rel =>
            refine ⟨j + 1, setF T j r, by omega, by go_num, ?_, H⟩
            intro i hi
            by_cases hij : i = j
            · subst hij; rw [setF_same]; exact HR.out
            · rw [setF_other _ _ _ _ hij]; exact HT.out i (by omega)
          case measure => simp [intOf]; omega
    · obtain rfl : j = 8 := by omega
      have hb := H.blk 3 rfl
      have ht := H.there 2 rfl
      rw [rowF_length] at ht
      have HZ := (H.storeAll 2 rfl (vs := rowF T) (by rw [rowF_length, rowF_length])).upd_mk (by simp)
      go_wp2_with (first | (refine wpList_load_row rfl 33 (.tmp 5) rfl g4 rfl _ _ _ _ hb Try.underlying33 rfl (by rw [List.size_toArray, rowF_length]; exact f8_size) ?_) | (refine wpList_store_mid rfl 33 (.tmp 4) (.tmp 43) rfl g3 0 (rowF T).toArray rfl rfl (by rw [List.size_toArray, rowF_length]; exact ht) (by rw [List.size_toArray, rowF_length]; exact f8_size) (all_oneCell_toArray (rowF_one T)) ?_))
      exact bodyPost_ret (results_cell_row rfl _ _ g3 33 _ _ _ rfl (HZ.blk 2 rfl) Try.underlying33 rfl (by rw [List.size_toArray, rowF_length]; exact f8_size)) rfl ⟨T, HT.out, rfl, HZ.below⟩

theorem index8 (S : Nat → Nat × Nat) {k : Nat} (h : k < 8) (w : World) : (Instr.index 32 (.agg (c8 S).toArray) (.int .i64 (k : Int))).run Try.prog w = .ok (.complex .f64 (S k).1 (S k).2) w :=
  run_index_agg 32 26 8 (c8 S).toArray k _ Try.underlying32 (by kernel_rfl) (by intro w; kernel_rfl) h (by rw [List.getElem?_toArray]; exact c8_get S h) w

set_option maxHeartbeats 4000000 in
theorem back_a (S : Nat → Nat × Nat) (w : World) :
    Calls Try.prog 18 #[.agg (c8 S).toArray] w fun e w' => ∃ T : Nat → Nat, (∀ j, j < 8 → absF (T j) = backA (fun k => (S k).1) (fun k => (S k).2) j) ∧ e = .returned (.agg (rowF T).toArray) ∧ Below w.heap.size w w' := by
  obtain ⟨R, hR⟩ : ∃ R : Nat → Nat, R = fun k => (S k).1 := ⟨_, rfl⟩
  obtain ⟨I, hI⟩ : ∃ I : Nat → Nat, I = fun k => (S k).2 := ⟨_, rfl⟩
  rw [← hR, ← hI]
  have hRk : Hid (∀ k, (S k).1 = R k) := fun k => by rw [hR]
  have hIk : Hid (∀ k, (S k).2 = I k) := fun k => by rw [hI]
  clear hR hI
  have H0 := St.start_lay w []
  have HA := H0.allocAt 0 rfl w.heap.size rfl (c8 S).toArray 32 |>.push_mk rfl |>.allocAt 1 rfl (w.heap.size + 1) (by simp) #[fv 0, fv 0, fv 0, fv 0, fv 0, fv 0, fv 0, fv 0] 33 |>.push_mk rfl |>.allocAt 2 rfl (w.heap.size + 2) (by simp) #[fv 0, fv 0, fv 0, fv 0, fv 0, fv 0, fv 0, fv 0] 33 |>.push_mk rfl
  go_enter Try.func18, Try.ntmps18
  go_wp2
  refine absorb_wp HA ?_
  clear HA H0
  intro w3 H
  generalize w.heap.size + 2 = g3 at H ⊢
  generalize w.heap.size + 1 = g2 at H ⊢
  generalize w.heap.size = g1 at H ⊢
  replace H : St w [] w3 (lay [.blk g1 32 (c8 S), .blk g2 33 [fv 0, fv 0, fv 0, fv 0, fv 0, fv 0, fv 0, fv 0], .blk g3 33 [fv 0, fv 0, fv 0, fv 0, fv 0, fv 0, fv 0, fv 0]]) := H
  rw [← rowF_zero] at H
  go_loopw [12] (fun i wr => ∃ (j : Nat) (T : Nat → Nat), j ≤ 8 ∧ i = .int .i64 j ∧ Hid (∀ i, i < j → absF (T i) = backA R I i) ∧ St w [] wr (lay [.blk g1 32 (c8 S), .blk g2 33 (rowF fun _ => 0), .blk g3 33 (rowF T)])) (fun i _ => 8 - (intOf i).toNat)
  case atStart => exact ⟨0, fun _ => 0, by omega, rfl, fun i h => by omega, H⟩
  case round =>
    clear H
    obtain ⟨j, T, hj, rfl, HT, H⟩ := hrel
    by_cases hj8 : j < 8
    · have hj1 : (j : Int) < 8 := by omega
      have hb0 := H.blk 0 rfl
      go_wp2_with (first | (refine wpList_load_row rfl 32 (.tmp 1) rfl g1 rfl _ _ _ _ hb0 Try.underlying32 rfl (by kernel_rfl) ?_) | fail)
      clear hb0
      go_loopw [5, 16] (fun x q wr => ∃ k X : Nat, k ≤ 8 ∧ q = .int .i64 k ∧ x = .float .f64 X ∧ Hid (absF X = backR R I j k) ∧ St w [] wr (lay [.blk g1 32 (c8 S), .blk g2 33 (rowF fun _ => 0), .blk g3 33 (rowF T)])) (fun _ q _ => 8 - (intOf q).toNat)
      case atStart => exact ⟨0, 0, by omega, rfl, rfl, absF_zero, H⟩
      case round =>
        clear H
        obtain ⟨k, X, hk, rfl, rfl, HX, H⟩ := hrel
        by_cases hk8 : k < 8
        · have hk1 : (k : Int) < 8 := by omega
          have hb := mul_in2 hj8 hk8
          obtain ⟨cc, hcc⟩ : ∃ cc, bix j k = cc := ⟨_, rfl⟩
          have hcc8 : cc < 8 := by rw [← hcc]; exact bix_lt j k
          have HCC := Lib.hid hcc
          have hr1 := Lib.hid (absF_root cc hcc8).1
          have hr2 := Lib.hid (absF_root cc hcc8).2
          obtain ⟨y, hy⟩ : ∃ y, (j : Int) * (k : Int) = y := ⟨_, rfl⟩
          have HY := Lib.hid (show (y % 8).toNat = cc by rw [← hcc, ← hy]; rfl)
          have w1 : IntKind.i64.wrap ((j : Int) * (k : Int)) = y := by rw [hy]; rw [hy] at hb; exact IntWalk.i64_in _ (by omega)
          rw [hy] at hb
          have hix := index8 S hk8
          obtain ⟨p, n1, m1, e1⟩ := run_float_any (P := Try.prog) wr .mul rfl 22 (S k).1 (rootRe cc)
          obtain ⟨q, n2, m2, e2⟩ := run_float_any (P := Try.prog) (wr.drewN n1) .mul rfl 22 (S k).2 (rootIm cc)
          obtain ⟨d, n3, m3, e3⟩ := run_float_any (P := Try.prog) (wr.drewN (n1 + n2)) .sub rfl 22 p q
          obtain ⟨r, n4, m4, e4⟩ := run_float_any (P := Try.prog) (wr.drewN (n1 + n2 + n3)) .add rfl 22 X d
          have EE := Lib.hid (show absF r = opA .add (absF X) (opA .sub (opA .mul (absF (R k)) (some (rootRe cc))) (opA .mul (absF (I k)) (some (rootIm cc)))) by rw [e4, e3, e1, e2, hr1.out, hr2.out, hRk.out, hIk.out])
          clear e1 e2 e3 e4 hcc hy
          go_wp2_with fail
          refine (root_s y wr).mono ?_
          rintro e w4 ⟨rfl, rfl⟩
          rw [HY.out]
          clear w1
          go_wp2
          go_roundw
          case rel => exact ⟨k + 1, r, by omega, by go_num, rfl, by unfold Hid backR; rw [EE.out, HX.out, HCC.out], H.drewN _⟩
          case measure => simp [intOf]; omega
        · obtain rfl : k = 8 := by omega
          obtain ⟨r, n1, m1, e1⟩ := run_float_any (P := Try.prog) wr .quo rfl 22 X 4620693217682128896
          have HR := Lib.hid (show absF r = backA R I j by rw [e1, HX.out, absF_eight]; rfl)
          have fr := (H.drewN n1).free 2 rfl j
          have ce := (H.drewN n1).cell 2 rfl (rowF_get T (k := j) hj8)
          have hst := fun (a : Addr) (b : Nat) (m : Mode) (w : World) => run_store Try.prog w a (.float .f64 b) m rfl
          clear e1
          replace H := ((H.drewN n1).store 2 rfl (o := j) (u := .float .f64 r)).upd_mk (by simp)
          replace H : St w [] ((wr.drewN n1).setCell ⟨g3, j, none⟩ (.float .f64 r)) (lay [.blk g1 32 (c8 S), .blk g2 33 (rowF fun _ => 0), .blk g3 33 ((rowF T).set j (.float .f64 r))]) := H
          rw [rowF_set T j r] at H
          go_wp2
          go_roundw
          case rel =>
            refine ⟨j + 1, setF T j r, by omega, by go_num, ?_, H⟩
            intro i hi
            by_cases hij : i = j
            · subst hij; rw [setF_same]; exact HR.out
            · rw [setF_other _ _ _ _ hij]; exact HT.out i (by omega)
          case measure => simp [intOf]; omega
    · obtain rfl : j = 8 := by omega
      have hb := H.blk 2 rfl
      have ht := H.there 1 rfl
      rw [rowF_length] at ht
      have HZ := (H.storeAll 1 rfl (vs := rowF T) (by rw [rowF_length, rowF_length])).upd_mk (by simp)
      go_wp2_with (first | (refine wpList_load_row rfl 33 (.tmp 3) rfl g3 rfl _ _ _ _ hb Try.underlying33 rfl (by rw [List.size_toArray, rowF_length]; exact f8_size) ?_) | (refine wpList_store_mid rfl 33 (.tmp 2) (.tmp 46) rfl g2 0 (rowF T).toArray rfl rfl (by rw [List.size_toArray, rowF_length]; exact ht) (by rw [List.size_toArray, rowF_length]; exact f8_size) (all_oneCell_toArray (rowF_one T)) ?_))
      exact bodyPost_ret (results_cell_row rfl _ _ g2 33 _ _ _ rfl (HZ.blk 1 rfl) Try.underlying33 rfl (by rw [List.size_toArray, rowF_length]; exact f8_size)) rfl ⟨T, HT.out, rfl, HZ.below⟩

end Go.Proofs.Ytgaghggnjemgoaa
