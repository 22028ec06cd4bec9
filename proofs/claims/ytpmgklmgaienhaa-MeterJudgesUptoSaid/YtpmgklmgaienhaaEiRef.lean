/- The document's Sums and Peak of any row. -/
import Derived.Test.YtpmgklmgaienhaaEiPeakA
import Derived.Test.YtpmgklmgaienhaaStepM
namespace Go.Proofs.Ytpmgklmgaienhaa
open Go.RowKit
set_option linter.unusedVariables false
set_option maxRecDepth 100000

theorem rd_cell {w : World} {gx ox n j v : Nat} {x : List Nat} (h : Rd w 1 (some ⟨gx, ox, none⟩) n (x.map fv)) (hv : x[j]? = some v) : w.cell? ⟨gx, ox + j, none⟩ = some (fv v) := by
  have hl : x.length = n := by simpa using h.1
  have hj := (List.getElem?_eq_some_iff.1 hv).1
  obtain ⟨g, o, e, -, hc⟩ := h.flat (by omega) (by omega)
  injection e with e
  injection e with e1 e2
  subst e1 e2
  exact hc j (fv v) (by rw [List.getElem?_map, hv]; rfl)
/-- a row of eight -/
def rowF (f : Nat → Nat) : List Value := (List.range 8).map fun i => fv (f i)
theorem rowF_length (f : Nat → Nat) : (rowF f).length = 8 := by simp [rowF]
theorem rowF_get (f : Nat → Nat) {k : Nat} (h : k < 8) : (rowF f)[k]? = some (fv (f k)) := by
  simp [rowF, List.getElem?_range, h]
def setF (f : Nat → Nat) (k v : Nat) : Nat → Nat := fun i => if i = k then v else f i
theorem rowF_set (f : Nat → Nat) (k v : Nat) : (rowF f).set k (fv v) = rowF (setF f k v) := by
  apply List.ext_getElem?
  intro i
  by_cases h : i < 8
  · rw [rowF_get _ h]
    by_cases e : i = k
    · subst e; rw [List.getElem?_set_self (by rw [rowF_length]; exact h)]; simp [setF]
    · rw [List.getElem?_set_ne (fun h => e h.symm), rowF_get _ h]; simp [setF, e]
  · rw [List.getElem?_eq_none (by simp [rowF]; omega), List.getElem?_eq_none (by simp [rowF]; omega)]
theorem rowF_one (f : Nat → Nat) : ∀ u ∈ rowF f, u.oneCell' = true := by
  intro u hu
  simp [rowF] at hu
  obtain ⟨i, -, rfl⟩ := hu
  rfl
theorem rowF_zero : rowF (fun _ => 0) = [fv 0, fv 0, fv 0, fv 0, fv 0, fv 0, fv 0, fv 0] := rfl
theorem rowF_eq (f : Nat → Nat) : rowF f = [fv (f 0), fv (f 1), fv (f 2), fv (f 3), fv (f 4), fv (f 5), fv (f 6), fv (f 7)] := rfl
attribute [local irreducible] rowF
/-- the sums up to k are told, of k those of the first j, behind them noughts -/
def Part (x : List Nat) (n k j : Nat) (R I : Nat → Nat) : Prop := (∀ i, i < k → SumIs i x n (R i, I i)) ∧ SumIs k x j (R k, I k) ∧ ∀ i, k < i → R i = 0 ∧ I i = 0
theorem Part.begin_ (x : List Nat) (n : Nat) : Part x n 0 0 (fun _ => 0) (fun _ => 0) := ⟨fun i h => by omega, ⟨absF_zero, absF_zero⟩, fun _ _ => ⟨rfl, rfl⟩⟩
theorem Part.next {x : List Nat} {n k : Nat} {R I : Nat → Nat} (h : Part x n k n R I) : Part x n (k + 1) 0 R I :=
  ⟨fun i hi => by
    by_cases e : i = k
    · subst e; exact h.2.1
    · exact h.1 i (by omega), ⟨by show absF (R (k + 1)) = _; rw [(h.2.2 (k + 1) (by omega)).1]; exact absF_zero, by show absF (I (k + 1)) = _; rw [(h.2.2 (k + 1) (by omega)).2]; exact absF_zero⟩, fun i hi => h.2.2 i (by omega)⟩
theorem Part.step {x : List Nat} {n k j v r i : Nat} {R I : Nat → Nat} (h : Part x n k j R I) (hv : x[j]? = some v) (e1 : absF r = opA .add (absF (R k)) (opA .mul (absF v) (some (rootRe (cix k j))))) (e2 : absF i = opA .add (absF (I k)) (opA .mul (absF v) (some (rootIm (cix k j))))) :
    Part x n k (j + 1) (setF R k r) (setF I k i) := by
  refine ⟨fun m hm => ?_, ?_, fun m hm => ?_⟩
  · show SumIs m x n (setF R k r m, setF I k i m)
    simp only [setF, if_neg (show m ≠ k by omega)]; exact h.1 m hm
  · show SumIs k x (j + 1) (setF R k r k, setF I k i k)
    simp only [setF, if_true]
    obtain ⟨s1, s2⟩ := h.2.1
    have hg : x.getD j 0 = v := by rw [List.getD_eq_getElem?_getD, hv]; rfl
    refine ⟨?_, ?_⟩
    · show absF r = opA .add (sumA k x j).1 (opA .mul (absF (x.getD j 0)) (some (rootRe (cix k j))))
      rw [hg, e1, s1]
    · show absF i = opA .add (sumA k x j).2 (opA .mul (absF (x.getD j 0)) (some (rootIm (cix k j))))
      rw [hg, e2, s2]
  · simp only [setF, if_neg (show m ≠ k by omega)]; exact h.2.2 m hm

set_option maxHeartbeats 4000000 in
theorem refSums_a (A : Option Addr) (n c : Nat) (x : List Nat) (w : World) (hR : Rd w 1 A n (x.map fv)) (hn : n ≤ 1000000) :
    Calls Try.prog 62 #[.slice A n c] w fun e w' => ∃ R I : Nat → Nat, (∀ k, k < 8 → SumIs k x n (R k, I k)) ∧ e = .returned (.tuple #[.agg (rowF R).toArray, .agg (rowF I).toArray]) ∧ Below w.heap.size w w' := by
  have hl : x.length = n := by simpa using hR.1
  have HL := Lib.hid hl
  clear hl
  have H0 := St.start_lay w []
  go_enter Try.func62, Try.ntmps62
  have HA := H0.allocAt 0 rfl w.heap.size rfl #[fv 0, fv 0, fv 0, fv 0, fv 0, fv 0, fv 0, fv 0] 79 |>.push_mk rfl |>.allocAt 1 rfl (w.heap.size + 1) (by simp) #[fv 0, fv 0, fv 0, fv 0, fv 0, fv 0, fv 0, fv 0] 79 |>.push_mk rfl |>.allocAt 2 rfl (w.heap.size + 2) (by simp) #[fv 0, fv 0, fv 0, fv 0, fv 0, fv 0, fv 0, fv 0] 79 |>.push_mk rfl |>.allocAt 3 rfl (w.heap.size + 3) (by simp) #[fv 0, fv 0, fv 0, fv 0, fv 0, fv 0, fv 0, fv 0] 79 |>.push_mk rfl
  go_wp2
  refine absorb_wp HA ?_
  clear HA H0
  intro w3 H
  generalize w.heap.size + 3 = g4 at H ⊢
  generalize w.heap.size + 2 = g3 at H ⊢
  generalize w.heap.size + 1 = g2 at H ⊢
  generalize w.heap.size = g1 at H ⊢
  replace H : St w [] w3 (lay [.blk g1 79 [fv 0, fv 0, fv 0, fv 0, fv 0, fv 0, fv 0, fv 0], .blk g2 79 [fv 0, fv 0, fv 0, fv 0, fv 0, fv 0, fv 0, fv 0], .blk g3 79 [fv 0, fv 0, fv 0, fv 0, fv 0, fv 0, fv 0, fv 0], .blk g4 79 [fv 0, fv 0, fv 0, fv 0, fv 0, fv 0, fv 0, fv 0]]) := H
  rw [← rowF_zero] at H
  go_loopw [6] (fun i wr => ∃ (k : Nat) (R I : Nat → Nat), k ≤ 8 ∧ i = .int .i64 k ∧ Hid (Part x n k 0 R I) ∧ St w [] wr (lay [.blk g1 79 (rowF fun _ => 0), .blk g2 79 (rowF fun _ => 0), .blk g3 79 (rowF R), .blk g4 79 (rowF I)])) (fun i _ => 8 - (intOf i).toNat)
  case atStart => exact ⟨0, fun _ => 0, fun _ => 0, by omega, rfl, Part.begin_ x n, H⟩
  case round =>
    clear H
    obtain ⟨k, R, I, hk, rfl, HP, H⟩ := hrel
    by_cases hk8 : k < 8
    · have hk1 : (k : Int) < 8 := by omega
      go_wp2
      go_loopw [7] (fun q wr => ∃ (j : Nat) (R I : Nat → Nat), j ≤ n ∧ q = .int .i64 j ∧ Hid (Part x n k j R I) ∧ St w [] wr (lay [.blk g1 79 (rowF fun _ => 0), .blk g2 79 (rowF fun _ => 0), .blk g3 79 (rowF R), .blk g4 79 (rowF I)])) (fun q _ => n - (intOf q).toNat)
      case atStart => exact ⟨0, R, I, Nat.zero_le _, rfl, HP, H⟩
      case round =>
        clear H HP
        clear R I
        obtain ⟨j, R, I, hj, rfl, HP, H⟩ := hrel
        by_cases hlt : j < n
        · obtain ⟨v, hv⟩ : ∃ v, x[j]? = some v := ⟨_, List.getElem?_eq_getElem (by rw [HL.out]; exact hlt)⟩
          obtain ⟨gx, ox, rfl, -, hc⟩ := (H.arg0 hR).flat (by omega) (by omega)
          have hcv := hc j (fv v) (by rw [List.getElem?_map, hv]; rfl)
          have hxr := fun (w' : World) (E : Env) (H' : St w [] w' E) => (H'.arg0 hR)
          have HX := Lib.hid hxr
          clear hc hxr
          have hj1 : (j : Int) < n := by omega
          obtain ⟨z, hz⟩ : ∃ z : Nat, (j : Int) % 8 = (z : Int) := ⟨((j : Int) % 8).toNat, by omega⟩
          have hz8 : z < 8 := by omega
          have hcx : cix k j = ((-(z : Int) * (k : Int)) % 8).toNat := by unfold cix; rw [hz]
          have b1 : Int.tmod (j : Int) 8 = (z : Int) := by rw [Int.tmod_eq_emod_of_nonneg (by omega), hz]
          clear hz
          have hb : -56 ≤ -(z : Int) * (k : Int) ∧ -(z : Int) * (k : Int) ≤ 0 := mul_in hz8 hk8
          obtain ⟨y, hy⟩ : ∃ y, -(z : Int) * (k : Int) = y := ⟨_, rfl⟩
          rw [hy] at hcx hb
          have hzk : (z : Int) * k = -y := by rw [← hy, Int.neg_mul]; omega
          have w1 : IntKind.i64.wrap ((z : Int) * k) = -y := by rw [hzk]; exact IntWalk.i64_in _ (by omega)
          have w2 : IntKind.i64.wrap (-(-y)) = y := by rw [Int.neg_neg]; exact IntWalk.i64_in _ (by omega)
          have HCX := Lib.hid hcx
          have HY := Lib.hid hy
          clear hcx hy hzk
          go_wp2_with fail
          refine (refRoot_s y wr (by omega) (by omega)).mono ?_
          rintro e w4 ⟨rfl, hb4⟩
          rw [← HCX.out]
          generalize hcc : cix k j = cc at HCX
          replace H := H.call hb4
          have HV := Lib.hid hv
          clear hb4 hcv hv
          have HCV := Lib.hid hcc
          clear hcc
          go_wp2_with fail
          have HW := H
          replace H := H.drew
          refine wp_region_held_drew (S := fun w' : World => w'.cell? ⟨gx, ox + j, none⟩ = some (fv v)) (by kernel_rfl) ?_ (fun hHeld => ?_)
          · exact rd_cell (H.arg0 hR) HV.out
          refine takeV 0 rfl (by intro w h; clear h; go_simp; try with_reducible rfl) (by kernel_rfl) (by kernel_rfl) (by kernel_rfl) (by exact fun _ _ _ h => h) (by rfl) (by assumption) ?_
          try simp only [Act.put, List.setIfInBounds_toArray, List.set_cons_zero, List.set_cons_succ]
          refine takeV 1 rfl (by intro w h; clear h; go_simp; try with_reducible rfl) (by kernel_rfl) (by kernel_rfl) (by kernel_rfl) (by exact fun _ _ _ h => h) (by rfl) (by assumption) ?_
          try simp only [Act.put, List.setIfInBounds_toArray, List.set_cons_zero, List.set_cons_succ]
          refine takeV 2 rfl (by intro w h; clear h; go_simp; try with_reducible rfl) (by kernel_rfl) (by kernel_rfl) (by kernel_rfl) (by exact fun _ _ _ h => h) (by rfl) (by assumption) ?_
          try simp only [Act.put, List.setIfInBounds_toArray, List.set_cons_zero, List.set_cons_succ]
          refine takeV 4 rfl (by intro w h; clear h; go_simp; try with_reducible rfl) (by kernel_rfl) (by kernel_rfl) (by kernel_rfl) (by exact fun _ _ _ h => h) (by rfl) (by assumption) ?_
          try simp only [Act.put, List.setIfInBounds_toArray, List.set_cons_zero, List.set_cons_succ]
          refine takeV 5 rfl (by intro w h; clear h; go_simp; try with_reducible rfl) (by kernel_rfl) (by kernel_rfl) (by kernel_rfl) (by exact fun _ _ _ h => h) (by rfl) (by assumption) ?_
          try simp only [Act.put, List.setIfInBounds_toArray, List.set_cons_zero, List.set_cons_succ]
          refine takeV 6 rfl (by intro w h; clear h; go_simp; try with_reducible rfl) (by kernel_rfl) (by kernel_rfl) (by kernel_rfl) (by exact fun _ _ _ h => h) (by rfl) (by assumption) ?_
          try simp only [Act.put, List.setIfInBounds_toArray, List.set_cons_zero, List.set_cons_succ]
          refine takeV 7 rfl (by intro w h; have hc := h; clear h; go_simp; try with_reducible rfl) (by kernel_rfl) (by kernel_rfl) (by kernel_rfl) (by exact fun _ _ _ h => h) (by rfl) (by assumption) ?_
          try simp only [Act.put, List.setIfInBounds_toArray, List.set_cons_zero, List.set_cons_succ]
          refine takeV 8 rfl (by intro w h; clear h; go_simp; try with_reducible rfl) (by kernel_rfl) (by kernel_rfl) (by kernel_rfl) (by exact fun _ _ _ h => h) (by rfl) (by assumption) ?_
          try simp only [Act.put, List.setIfInBounds_toArray, List.set_cons_zero, List.set_cons_succ]
          refine takeTwo 3 9 rfl rfl (by kernel_rfl) (fun K hK => ?_) (fun K hK => ?_)
          · have ce := HW.cell 2 rfl (rowF_get R (k := k) hk8)
            go_simp
            refine hK.out _ _ ?_ (fun hHeld => ?_)
            · exact rd_cell (H.arg0 hR) HV.out
            clear hK K
            try simp only [Act.put, List.setIfInBounds_toArray, List.set_cons_zero, List.set_cons_succ]
            clear ce
            refine take_call 9 rfl (by kernel_rfl) (fun K hK => ?_)
            obtain ⟨p, n1, m1, e1⟩ := run_float_any (P := Try.prog) w4.drew .mul rfl 25 v (rootRe cc)
            go_simp
            replace H := H.drewN n1
            refine hK.out _ _ ?_ (fun hHeld => ?_)
            · exact rd_cell (H.arg0 hR) HV.out
            clear hK K
            try simp only [Act.put, List.setIfInBounds_toArray, List.set_cons_zero, List.set_cons_succ]
            clear m1
            refine take_call 10 rfl (by kernel_rfl) (fun K hK => ?_)
            obtain ⟨r, n2, m2, e2⟩ := run_float_any (P := Try.prog) (w4.drewN (1 + n1)) .add rfl 25 (R k) p
            go_simp
            replace H := H.drewN n2
            refine hK.out _ _ ?_ (fun hHeld => ?_)
            · exact rd_cell (H.arg0 hR) HV.out
            clear hK K
            try simp only [Act.put, List.setIfInBounds_toArray, List.set_cons_zero, List.set_cons_succ]
            clear m2
            refine takeV 11 rfl (by intro w h; clear h; go_simp; try with_reducible rfl) (by kernel_rfl) (by kernel_rfl) (by kernel_rfl) (by exact fun _ _ _ h => h) (by rfl) (by assumption) ?_
            try simp only [Act.put, List.setIfInBounds_toArray, List.set_cons_zero, List.set_cons_succ]
            have fr := HW.free 2 rfl k
            have ce := HW.cell 2 rfl (rowF_get R (k := k) hk8)
            have hst := fun (a : Addr) (b : Nat) (m : Mode) (w : World) => run_store Try.prog w a (.float .f64 b) m rfl
            refine take_call 12 rfl (by kernel_rfl) (fun K hK => ?_)
            go_simp
            replace H := ((HW.drewN (1 + n1 + n2)).store 2 rfl (o := k) (u := .float .f64 r)).upd_mk (by simp)
            refine hK.out _ _ ?_ (fun hHeld => ?_)
            · exact rd_cell (H.arg0 hR) HV.out
            clear hK K
            try simp only [Act.put, List.setIfInBounds_toArray, List.set_cons_zero, List.set_cons_succ]
            refine wpAnyH_done (by kernel_rfl) ?_ _
            have HS := rowF_set R k r
            have EER := Lib.hid (show absF r = opA .add (absF (R k)) (opA .mul (absF v) (absF (rootRe cc))) by rw [e2, e1])
            clear e1 e2 fr ce hst hHeld HW
            replace H : St w [] _ (lay [.blk g1 79 (rowF fun _ => 0), .blk g2 79 (rowF fun _ => 0), .blk g3 79 ((rowF R).set k (.float .f64 r)), .blk g4 79 (rowF I)]) := H
            rw [HS] at H
            clear HS
            go_wp2
            refine absorb_wp H ?_
            clear H
            intro w5 H
            generalize r = rr at *
            have HW := H
            replace H := H.drew
            refine wp_region_held_drew (S := fun w' : World => w'.cell? ⟨gx, ox + j, none⟩ = some (fv v)) (by kernel_rfl) ?_ (fun hHeld => ?_)
            · exact rd_cell (H.arg0 hR) HV.out
            refine takeV 0 rfl (by intro w h; clear h; go_simp; try with_reducible rfl) (by kernel_rfl) (by kernel_rfl) (by kernel_rfl) (by exact fun _ _ _ h => h) (by rfl) (by assumption) ?_
            try simp only [Act.put, List.setIfInBounds_toArray, List.set_cons_zero, List.set_cons_succ]
            refine takeV 1 rfl (by intro w h; clear h; go_simp; try with_reducible rfl) (by kernel_rfl) (by kernel_rfl) (by kernel_rfl) (by exact fun _ _ _ h => h) (by rfl) (by assumption) ?_
            try simp only [Act.put, List.setIfInBounds_toArray, List.set_cons_zero, List.set_cons_succ]
            refine takeV 2 rfl (by intro w h; clear h; go_simp; try with_reducible rfl) (by kernel_rfl) (by kernel_rfl) (by kernel_rfl) (by exact fun _ _ _ h => h) (by rfl) (by assumption) ?_
            try simp only [Act.put, List.setIfInBounds_toArray, List.set_cons_zero, List.set_cons_succ]
            refine takeV 4 rfl (by intro w h; clear h; go_simp; try with_reducible rfl) (by kernel_rfl) (by kernel_rfl) (by kernel_rfl) (by exact fun _ _ _ h => h) (by rfl) (by assumption) ?_
            try simp only [Act.put, List.setIfInBounds_toArray, List.set_cons_zero, List.set_cons_succ]
            refine takeV 5 rfl (by intro w h; clear h; go_simp; try with_reducible rfl) (by kernel_rfl) (by kernel_rfl) (by kernel_rfl) (by exact fun _ _ _ h => h) (by rfl) (by assumption) ?_
            try simp only [Act.put, List.setIfInBounds_toArray, List.set_cons_zero, List.set_cons_succ]
            refine takeV 6 rfl (by intro w h; clear h; go_simp; try with_reducible rfl) (by kernel_rfl) (by kernel_rfl) (by kernel_rfl) (by exact fun _ _ _ h => h) (by rfl) (by assumption) ?_
            try simp only [Act.put, List.setIfInBounds_toArray, List.set_cons_zero, List.set_cons_succ]
            refine takeV 7 rfl (by intro w h; have hc := h; clear h; go_simp; try with_reducible rfl) (by kernel_rfl) (by kernel_rfl) (by kernel_rfl) (by exact fun _ _ _ h => h) (by rfl) (by assumption) ?_
            try simp only [Act.put, List.setIfInBounds_toArray, List.set_cons_zero, List.set_cons_succ]
            refine takeV 8 rfl (by intro w h; clear h; go_simp; try with_reducible rfl) (by kernel_rfl) (by kernel_rfl) (by kernel_rfl) (by exact fun _ _ _ h => h) (by rfl) (by assumption) ?_
            try simp only [Act.put, List.setIfInBounds_toArray, List.set_cons_zero, List.set_cons_succ]
            refine takeTwo 3 9 rfl rfl (by kernel_rfl) (fun K hK => ?_) (fun K hK => ?_)
            · have ce := HW.cell 3 rfl (rowF_get I (k := k) hk8)
              go_simp
              refine hK.out _ _ ?_ (fun hHeld => ?_)
              · exact rd_cell (H.arg0 hR) HV.out
              clear hK K
              try simp only [Act.put, List.setIfInBounds_toArray, List.set_cons_zero, List.set_cons_succ]
              clear ce
              refine take_call 9 rfl (by kernel_rfl) (fun K hK => ?_)
              obtain ⟨p, n1, m1, e1⟩ := run_float_any (P := Try.prog) w5.drew .mul rfl 25 v (rootIm cc)
              go_simp
              replace H := H.drewN n1
              refine hK.out _ _ ?_ (fun hHeld => ?_)
              · exact rd_cell (H.arg0 hR) HV.out
              clear hK K
              try simp only [Act.put, List.setIfInBounds_toArray, List.set_cons_zero, List.set_cons_succ]
              clear m1
              refine take_call 10 rfl (by kernel_rfl) (fun K hK => ?_)
              obtain ⟨r, n2, m2, e2⟩ := run_float_any (P := Try.prog) (w5.drewN (1 + n1)) .add rfl 25 (I k) p
              go_simp
              replace H := H.drewN n2
              refine hK.out _ _ ?_ (fun hHeld => ?_)
              · exact rd_cell (H.arg0 hR) HV.out
              clear hK K
              try simp only [Act.put, List.setIfInBounds_toArray, List.set_cons_zero, List.set_cons_succ]
              clear m2
              refine takeV 11 rfl (by intro w h; clear h; go_simp; try with_reducible rfl) (by kernel_rfl) (by kernel_rfl) (by kernel_rfl) (by exact fun _ _ _ h => h) (by rfl) (by assumption) ?_
              try simp only [Act.put, List.setIfInBounds_toArray, List.set_cons_zero, List.set_cons_succ]
              have fr := HW.free 3 rfl k
              have ce := HW.cell 3 rfl (rowF_get I (k := k) hk8)
              have hst := fun (a : Addr) (b : Nat) (m : Mode) (w : World) => run_store Try.prog w a (.float .f64 b) m rfl
              refine take_call 12 rfl (by kernel_rfl) (fun K hK => ?_)
              go_simp
              replace H := ((HW.drewN (1 + n1 + n2)).store 3 rfl (o := k) (u := .float .f64 r)).upd_mk (by simp)
              refine hK.out _ _ ?_ (fun hHeld => ?_)
              · exact rd_cell (H.arg0 hR) HV.out
              clear hK K
              try simp only [Act.put, List.setIfInBounds_toArray, List.set_cons_zero, List.set_cons_succ]
              refine wpAnyH_done (by kernel_rfl) ?_ _
              have HS := rowF_set I k r
              have EEI := Lib.hid (show absF r = opA .add (absF (I k)) (opA .mul (absF v) (absF (rootIm cc))) by rw [e2, e1])
              clear e1 e2 fr ce hst hHeld HW
              replace H : St w [] _ (lay [.blk g1 79 (rowF fun _ => 0), .blk g2 79 (rowF fun _ => 0), .blk g3 79 (rowF (setF R k rr)), .blk g4 79 ((rowF I).set k (.float .f64 r))]) := H
              rw [HS] at H
              clear HS
              go_wp2
              go_roundw
              case rel =>
                refine ⟨j + 1, setF R k rr, setF I k r, by omega, by go_num, ?_, H⟩
                obtain ⟨c1, c2⟩ := absF_root cc (by rw [← HCV.out]; exact cix_lt k j)
                refine Part.step HP.out HV.out ?_ ?_
                · rw [EER.out, HCV.out, c1]
                · rw [EEI.out, HCV.out, c2]
              case measure => simp [intOf]; omega
            · obtain ⟨p, n1, m1, e1⟩ := run_float_any (P := Try.prog) w5.drew .mul rfl 25 v (rootIm cc)
              go_simp
              replace H := H.drewN n1
              refine hK.out _ _ ?_ (fun hHeld => ?_)
              · exact rd_cell (H.arg0 hR) HV.out
              clear hK K
              try simp only [Act.put, List.setIfInBounds_toArray, List.set_cons_zero, List.set_cons_succ]
              clear m1
              refine take_call 3 rfl (by kernel_rfl) (fun K hK => ?_)
              have ce := HW.cell 3 rfl (rowF_get I (k := k) hk8)
              go_simp
              refine hK.out _ _ ?_ (fun hHeld => ?_)
              · exact rd_cell (H.arg0 hR) HV.out
              clear hK K
              try simp only [Act.put, List.setIfInBounds_toArray, List.set_cons_zero, List.set_cons_succ]
              clear ce
              refine take_call 10 rfl (by kernel_rfl) (fun K hK => ?_)
              obtain ⟨r, n2, m2, e2⟩ := run_float_any (P := Try.prog) (w5.drewN (1 + n1)) .add rfl 25 (I k) p
              go_simp
              replace H := H.drewN n2
              refine hK.out _ _ ?_ (fun hHeld => ?_)
              · exact rd_cell (H.arg0 hR) HV.out
              clear hK K
              try simp only [Act.put, List.setIfInBounds_toArray, List.set_cons_zero, List.set_cons_succ]
              clear m2
              refine takeV 11 rfl (by intro w h; clear h; go_simp; try with_reducible rfl) (by kernel_rfl) (by kernel_rfl) (by kernel_rfl) (by exact fun _ _ _ h => h) (by rfl) (by assumption) ?_
              try simp only [Act.put, List.setIfInBounds_toArray, List.set_cons_zero, List.set_cons_succ]
              have fr := HW.free 3 rfl k
              have ce := HW.cell 3 rfl (rowF_get I (k := k) hk8)
              have hst := fun (a : Addr) (b : Nat) (m : Mode) (w : World) => run_store Try.prog w a (.float .f64 b) m rfl
              refine take_call 12 rfl (by kernel_rfl) (fun K hK => ?_)
              go_simp
              replace H := ((HW.drewN (1 + n1 + n2)).store 3 rfl (o := k) (u := .float .f64 r)).upd_mk (by simp)
              refine hK.out _ _ ?_ (fun hHeld => ?_)
              · exact rd_cell (H.arg0 hR) HV.out
              clear hK K
              try simp only [Act.put, List.setIfInBounds_toArray, List.set_cons_zero, List.set_cons_succ]
              refine wpAnyH_done (by kernel_rfl) ?_ _
              have HS := rowF_set I k r
              have EEI := Lib.hid (show absF r = opA .add (absF (I k)) (opA .mul (absF v) (absF (rootIm cc))) by rw [e2, e1])
              clear e1 e2 fr ce hst hHeld HW
              replace H : St w [] _ (lay [.blk g1 79 (rowF fun _ => 0), .blk g2 79 (rowF fun _ => 0), .blk g3 79 (rowF (setF R k rr)), .blk g4 79 ((rowF I).set k (.float .f64 r))]) := H
              rw [HS] at H
              clear HS
              go_wp2
              go_roundw
              case rel =>
                refine ⟨j + 1, setF R k rr, setF I k r, by omega, by go_num, ?_, H⟩
                obtain ⟨c1, c2⟩ := absF_root cc (by rw [← HCV.out]; exact cix_lt k j)
                refine Part.step HP.out HV.out ?_ ?_
                · rw [EER.out, HCV.out, c1]
                · rw [EEI.out, HCV.out, c2]
              case measure => simp [intOf]; omega
          · obtain ⟨p, n1, m1, e1⟩ := run_float_any (P := Try.prog) w4.drew .mul rfl 25 v (rootRe cc)
            go_simp
            replace H := H.drewN n1
            refine hK.out _ _ ?_ (fun hHeld => ?_)
            · exact rd_cell (H.arg0 hR) HV.out
            clear hK K
            try simp only [Act.put, List.setIfInBounds_toArray, List.set_cons_zero, List.set_cons_succ]
            clear m1
            refine take_call 3 rfl (by kernel_rfl) (fun K hK => ?_)
            have ce := HW.cell 2 rfl (rowF_get R (k := k) hk8)
            go_simp
            refine hK.out _ _ ?_ (fun hHeld => ?_)
            · exact rd_cell (H.arg0 hR) HV.out
            clear hK K
            try simp only [Act.put, List.setIfInBounds_toArray, List.set_cons_zero, List.set_cons_succ]
            clear ce
            refine take_call 10 rfl (by kernel_rfl) (fun K hK => ?_)
            obtain ⟨r, n2, m2, e2⟩ := run_float_any (P := Try.prog) (w4.drewN (1 + n1)) .add rfl 25 (R k) p
            go_simp
            replace H := H.drewN n2
            refine hK.out _ _ ?_ (fun hHeld => ?_)
            · exact rd_cell (H.arg0 hR) HV.out
            clear hK K
            try simp only [Act.put, List.setIfInBounds_toArray, List.set_cons_zero, List.set_cons_succ]
            clear m2
            refine takeV 11 rfl (by intro w h; clear h; go_simp; try with_reducible rfl) (by kernel_rfl) (by kernel_rfl) (by kernel_rfl) (by exact fun _ _ _ h => h) (by rfl) (by assumption) ?_
            try simp only [Act.put, List.setIfInBounds_toArray, List.set_cons_zero, List.set_cons_succ]
            have fr := HW.free 2 rfl k
            have ce := HW.cell 2 rfl (rowF_get R (k := k) hk8)
            have hst := fun (a : Addr) (b : Nat) (m : Mode) (w : World) => run_store Try.prog w a (.float .f64 b) m rfl
            refine take_call 12 rfl (by kernel_rfl) (fun K hK => ?_)
            go_simp
            replace H := ((HW.drewN (1 + n1 + n2)).store 2 rfl (o := k) (u := .float .f64 r)).upd_mk (by simp)
            refine hK.out _ _ ?_ (fun hHeld => ?_)
            · exact rd_cell (H.arg0 hR) HV.out
            clear hK K
            try simp only [Act.put, List.setIfInBounds_toArray, List.set_cons_zero, List.set_cons_succ]
            refine wpAnyH_done (by kernel_rfl) ?_ _
            have HS := rowF_set R k r
            have EER := Lib.hid (show absF r = opA .add (absF (R k)) (opA .mul (absF v) (absF (rootRe cc))) by rw [e2, e1])
            clear e1 e2 fr ce hst hHeld HW
            replace H : St w [] _ (lay [.blk g1 79 (rowF fun _ => 0), .blk g2 79 (rowF fun _ => 0), .blk g3 79 ((rowF R).set k (.float .f64 r)), .blk g4 79 (rowF I)]) := H
            rw [HS] at H
            clear HS
            go_wp2
            refine absorb_wp H ?_
            clear H
            intro w5 H
            generalize r = rr at *
            have HW := H
            replace H := H.drew
            refine wp_region_held_drew (S := fun w' : World => w'.cell? ⟨gx, ox + j, none⟩ = some (fv v)) (by kernel_rfl) ?_ (fun hHeld => ?_)
            · exact rd_cell (H.arg0 hR) HV.out
            refine takeV 0 rfl (by intro w h; clear h; go_simp; try with_reducible rfl) (by kernel_rfl) (by kernel_rfl) (by kernel_rfl) (by exact fun _ _ _ h => h) (by rfl) (by assumption) ?_
            try simp only [Act.put, List.setIfInBounds_toArray, List.set_cons_zero, List.set_cons_succ]
            refine takeV 1 rfl (by intro w h; clear h; go_simp; try with_reducible rfl) (by kernel_rfl) (by kernel_rfl) (by kernel_rfl) (by exact fun _ _ _ h => h) (by rfl) (by assumption) ?_
            try simp only [Act.put, List.setIfInBounds_toArray, List.set_cons_zero, List.set_cons_succ]
            refine takeV 2 rfl (by intro w h; clear h; go_simp; try with_reducible rfl) (by kernel_rfl) (by kernel_rfl) (by kernel_rfl) (by exact fun _ _ _ h => h) (by rfl) (by assumption) ?_
            try simp only [Act.put, List.setIfInBounds_toArray, List.set_cons_zero, List.set_cons_succ]
            refine takeV 4 rfl (by intro w h; clear h; go_simp; try with_reducible rfl) (by kernel_rfl) (by kernel_rfl) (by kernel_rfl) (by exact fun _ _ _ h => h) (by rfl) (by assumption) ?_
            try simp only [Act.put, List.setIfInBounds_toArray, List.set_cons_zero, List.set_cons_succ]
            refine takeV 5 rfl (by intro w h; clear h; go_simp; try with_reducible rfl) (by kernel_rfl) (by kernel_rfl) (by kernel_rfl) (by exact fun _ _ _ h => h) (by rfl) (by assumption) ?_
            try simp only [Act.put, List.setIfInBounds_toArray, List.set_cons_zero, List.set_cons_succ]
            refine takeV 6 rfl (by intro w h; clear h; go_simp; try with_reducible rfl) (by kernel_rfl) (by kernel_rfl) (by kernel_rfl) (by exact fun _ _ _ h => h) (by rfl) (by assumption) ?_
            try simp only [Act.put, List.setIfInBounds_toArray, List.set_cons_zero, List.set_cons_succ]
            refine takeV 7 rfl (by intro w h; have hc := h; clear h; go_simp; try with_reducible rfl) (by kernel_rfl) (by kernel_rfl) (by kernel_rfl) (by exact fun _ _ _ h => h) (by rfl) (by assumption) ?_
            try simp only [Act.put, List.setIfInBounds_toArray, List.set_cons_zero, List.set_cons_succ]
            refine takeV 8 rfl (by intro w h; clear h; go_simp; try with_reducible rfl) (by kernel_rfl) (by kernel_rfl) (by kernel_rfl) (by exact fun _ _ _ h => h) (by rfl) (by assumption) ?_
            try simp only [Act.put, List.setIfInBounds_toArray, List.set_cons_zero, List.set_cons_succ]
            refine takeTwo 3 9 rfl rfl (by kernel_rfl) (fun K hK => ?_) (fun K hK => ?_)
            · have ce := HW.cell 3 rfl (rowF_get I (k := k) hk8)
              go_simp
              refine hK.out _ _ ?_ (fun hHeld => ?_)
              · exact rd_cell (H.arg0 hR) HV.out
              clear hK K
              try simp only [Act.put, List.setIfInBounds_toArray, List.set_cons_zero, List.set_cons_succ]
              clear ce
              refine take_call 9 rfl (by kernel_rfl) (fun K hK => ?_)
              obtain ⟨p, n1, m1, e1⟩ := run_float_any (P := Try.prog) w5.drew .mul rfl 25 v (rootIm cc)
              go_simp
              replace H := H.drewN n1
              refine hK.out _ _ ?_ (fun hHeld => ?_)
              · exact rd_cell (H.arg0 hR) HV.out
              clear hK K
              try simp only [Act.put, List.setIfInBounds_toArray, List.set_cons_zero, List.set_cons_succ]
              clear m1
              refine take_call 10 rfl (by kernel_rfl) (fun K hK => ?_)
              obtain ⟨r, n2, m2, e2⟩ := run_float_any (P := Try.prog) (w5.drewN (1 + n1)) .add rfl 25 (I k) p
              go_simp
              replace H := H.drewN n2
              refine hK.out _ _ ?_ (fun hHeld => ?_)
              · exact rd_cell (H.arg0 hR) HV.out
              clear hK K
              try simp only [Act.put, List.setIfInBounds_toArray, List.set_cons_zero, List.set_cons_succ]
              clear m2
              refine takeV 11 rfl (by intro w h; clear h; go_simp; try with_reducible rfl) (by kernel_rfl) (by kernel_rfl) (by kernel_rfl) (by exact fun _ _ _ h => h) (by rfl) (by assumption) ?_
              try simp only [Act.put, List.setIfInBounds_toArray, List.set_cons_zero, List.set_cons_succ]
              have fr := HW.free 3 rfl k
              have ce := HW.cell 3 rfl (rowF_get I (k := k) hk8)
              have hst := fun (a : Addr) (b : Nat) (m : Mode) (w : World) => run_store Try.prog w a (.float .f64 b) m rfl
              refine take_call 12 rfl (by kernel_rfl) (fun K hK => ?_)
              go_simp
              replace H := ((HW.drewN (1 + n1 + n2)).store 3 rfl (o := k) (u := .float .f64 r)).upd_mk (by simp)
              refine hK.out _ _ ?_ (fun hHeld => ?_)
              · exact rd_cell (H.arg0 hR) HV.out
              clear hK K
              try simp only [Act.put, List.setIfInBounds_toArray, List.set_cons_zero, List.set_cons_succ]
              refine wpAnyH_done (by kernel_rfl) ?_ _
              have HS := rowF_set I k r
              have EEI := Lib.hid (show absF r = opA .add (absF (I k)) (opA .mul (absF v) (absF (rootIm cc))) by rw [e2, e1])
              clear e1 e2 fr ce hst hHeld HW
              replace H : St w [] _ (lay [.blk g1 79 (rowF fun _ => 0), .blk g2 79 (rowF fun _ => 0), .blk g3 79 (rowF (setF R k rr)), .blk g4 79 ((rowF I).set k (.float .f64 r))]) := H
              rw [HS] at H
              clear HS
              go_wp2
              go_roundw
              case rel =>
                refine ⟨j + 1, setF R k rr, setF I k r, by omega, by go_num, ?_, H⟩
                obtain ⟨c1, c2⟩ := absF_root cc (by rw [← HCV.out]; exact cix_lt k j)
                refine Part.step HP.out HV.out ?_ ?_
                · rw [EER.out, HCV.out, c1]
                · rw [EEI.out, HCV.out, c2]
              case measure => simp [intOf]; omega
            · obtain ⟨p, n1, m1, e1⟩ := run_float_any (P := Try.prog) w5.drew .mul rfl 25 v (rootIm cc)
              go_simp
              replace H := H.drewN n1
              refine hK.out _ _ ?_ (fun hHeld => ?_)
              · exact rd_cell (H.arg0 hR) HV.out
              clear hK K
              try simp only [Act.put, List.setIfInBounds_toArray, List.set_cons_zero, List.set_cons_succ]
              clear m1
              refine take_call 3 rfl (by kernel_rfl) (fun K hK => ?_)
              have ce := HW.cell 3 rfl (rowF_get I (k := k) hk8)
              go_simp
              refine hK.out _ _ ?_ (fun hHeld => ?_)
              · exact rd_cell (H.arg0 hR) HV.out
              clear hK K
              try simp only [Act.put, List.setIfInBounds_toArray, List.set_cons_zero, List.set_cons_succ]
              clear ce
              refine take_call 10 rfl (by kernel_rfl) (fun K hK => ?_)
              obtain ⟨r, n2, m2, e2⟩ := run_float_any (P := Try.prog) (w5.drewN (1 + n1)) .add rfl 25 (I k) p
              go_simp
              replace H := H.drewN n2
              refine hK.out _ _ ?_ (fun hHeld => ?_)
              · exact rd_cell (H.arg0 hR) HV.out
              clear hK K
              try simp only [Act.put, List.setIfInBounds_toArray, List.set_cons_zero, List.set_cons_succ]
              clear m2
              refine takeV 11 rfl (by intro w h; clear h; go_simp; try with_reducible rfl) (by kernel_rfl) (by kernel_rfl) (by kernel_rfl) (by exact fun _ _ _ h => h) (by rfl) (by assumption) ?_
              try simp only [Act.put, List.setIfInBounds_toArray, List.set_cons_zero, List.set_cons_succ]
              have fr := HW.free 3 rfl k
              have ce := HW.cell 3 rfl (rowF_get I (k := k) hk8)
              have hst := fun (a : Addr) (b : Nat) (m : Mode) (w : World) => run_store Try.prog w a (.float .f64 b) m rfl
              refine take_call 12 rfl (by kernel_rfl) (fun K hK => ?_)
              go_simp
              replace H := ((HW.drewN (1 + n1 + n2)).store 3 rfl (o := k) (u := .float .f64 r)).upd_mk (by simp)
              refine hK.out _ _ ?_ (fun hHeld => ?_)
              · exact rd_cell (H.arg0 hR) HV.out
              clear hK K
              try simp only [Act.put, List.setIfInBounds_toArray, List.set_cons_zero, List.set_cons_succ]
              refine wpAnyH_done (by kernel_rfl) ?_ _
              have HS := rowF_set I k r
              have EEI := Lib.hid (show absF r = opA .add (absF (I k)) (opA .mul (absF v) (absF (rootIm cc))) by rw [e2, e1])
              clear e1 e2 fr ce hst hHeld HW
              replace H : St w [] _ (lay [.blk g1 79 (rowF fun _ => 0), .blk g2 79 (rowF fun _ => 0), .blk g3 79 (rowF (setF R k rr)), .blk g4 79 ((rowF I).set k (.float .f64 r))]) := H
              rw [HS] at H
              clear HS
              go_wp2
              go_roundw
              case rel =>
                refine ⟨j + 1, setF R k rr, setF I k r, by omega, by go_num, ?_, H⟩
                obtain ⟨c1, c2⟩ := absF_root cc (by rw [← HCV.out]; exact cix_lt k j)
                refine Part.step HP.out HV.out ?_ ?_
                · rw [EER.out, HCV.out, c1]
                · rw [EEI.out, HCV.out, c2]
              case measure => simp [intOf]; omega
        · obtain rfl : j = n := by omega
          have hj1 : ¬ (j : Int) < j := by omega
          go_wp2
          go_roundw
          case rel => exact ⟨k + 1, R, I, by omega, by go_num, HP.out.next, H⟩
          case measure => simp [intOf]; omega
    · obtain rfl : k = 8 := by omega
      go_wp2
      refine absorb_wp H ?_
      clear H
      intro w5 H
      replace H := H.drew
      refine wp_region_held_drew (S := fun w' : World => w'.rangeAt g3 0 (rowF R) ∧ w'.rangeAt g4 0 (rowF I)) (by kernel_rfl) ?_ (fun hHeld => ?_)
      · exact ⟨H.range 2 rfl, H.range 3 rfl⟩
      refine take_load 0 g3 (rowF R) (fun w h => h.1) Try.underlying79 (by rw [rowF_length]; exact f8_size) rfl (by kernel_rfl) (by kernel_rfl) (by kernel_rfl) (fun _ _ _ h => h) rfl rfl rfl rfl (by assumption) ?_
      try simp only [Act.put, List.setIfInBounds_toArray, List.set_cons_zero, List.set_cons_succ]
      refine take_load 1 g4 (rowF I) (fun w h => h.2) Try.underlying79 (by rw [rowF_length]; exact f8_size) rfl (by kernel_rfl) (by kernel_rfl) (by kernel_rfl) (fun _ _ _ h => h) rfl rfl rfl rfl (by assumption) ?_
      try simp only [Act.put, List.setIfInBounds_toArray, List.set_cons_zero, List.set_cons_succ]
      refine take_call 2 rfl (by kernel_rfl) (fun K hK => ?_)
      refine step_store_mid rfl 79 (.tmp 2) (.tmp 53) rfl g1 0 (rowF R).toArray (by rfl) (by rfl) (by rw [List.size_toArray, rowF_length]; exact H.thereMid 0 rfl 0 8 (by rw [rowF_length]; omega)) (by rw [List.size_toArray, rowF_length]; exact f8_size) (all_oneCell_toArray (rowF_one R)) ?_
      replace H := (H.storeAll 0 rfl (vs := rowF R) (by rw [rowF_length, rowF_length])).upd_mk (by simp)
      refine hK.out _ _ ?_ (fun hHeld => ?_)
      · exact ⟨H.range 2 rfl, H.range 3 rfl⟩
      clear hK K
      try simp only [Act.put, List.setIfInBounds_toArray, List.set_cons_zero, List.set_cons_succ]
      refine take_call 3 rfl (by kernel_rfl) (fun K hK => ?_)
      refine step_store_mid rfl 79 (.tmp 3) (.tmp 54) rfl g2 0 (rowF I).toArray (by rfl) (by rfl) (by rw [List.size_toArray, rowF_length]; exact H.thereMid 1 rfl 0 8 (by rw [rowF_length]; omega)) (by rw [List.size_toArray, rowF_length]; exact f8_size) (all_oneCell_toArray (rowF_one I)) ?_
      replace H := (H.storeAll 1 rfl (vs := rowF I) (by rw [rowF_length, rowF_length])).upd_mk (by simp)
      refine hK.out _ _ ?_ (fun hHeld => ?_)
      · exact ⟨H.range 2 rfl, H.range 3 rfl⟩
      clear hK K
      try simp only [Act.put, List.setIfInBounds_toArray, List.set_cons_zero, List.set_cons_succ]
      refine wpAnyH_done (by kernel_rfl) ?_ _
      go_wp2
      refine bodyPost_ret (results_cells rfl _ _ g1 g2 79 79 (rowF R).toArray (rowF I).toArray _ _ _ _ rfl (H.blk 0 rfl) Try.underlying79 rfl (by rw [List.size_toArray, rowF_length]; exact f8_size) rfl (H.blk 1 rfl) Try.underlying79 rfl (by rw [List.size_toArray, rowF_length]; exact f8_size)) rfl ⟨R, I, HP.out.1, rfl, H.below⟩

set_option maxHeartbeats 4000000 in
theorem refPeak_a (A : Option Addr) (n c : Nat) (x : List Nat) (w : World) (hR : Rd w 1 A n (x.map fv)) (hn : n ≤ 1000000) :
    Calls Try.prog 53 #[.slice A n c] w fun e w' => ∃ r, e = .returned (.tuple #[.int .i64 (bestA (powS x n) 5 : Nat), .float .f64 r]) ∧ Hid (absF r = powS x n (bestA (powS x n) 5)) ∧ Below w.heap.size w w' := by
  obtain ⟨P, hP⟩ : ∃ P, Hid (powS x n = P) := ⟨_, rfl⟩
  rw [hP.out]
  go_enter Try.func53, Try.ntmps53
  go_wp2_with fail
  refine (refSums_a A n c x w hR hn).mono ?_
  rintro e w2 ⟨R, I, hS, he, hb⟩
  have hN : ∀ k, k < 8 → powA (absF (R k)) (absF (I k)) = P k := fun k hk => by
    have h := hS k hk
    rw [← hP.out]; unfold powS; rw [← h.1, ← h.2]
  have HN := Lib.hid hN
  clear hN hS
  rw [rowF_eq, rowF_eq] at he
  subst he
  have HA := ((St.start_lay w []).call hb).allocAt 0 rfl w2.heap.size rfl (rowF R).toArray 79 |>.push_mk rfl |>.allocAt 1 rfl (w2.heap.size + 1) (by simp) (rowF I).toArray 79 |>.push_mk rfl
  rw [rowF_eq, rowF_eq] at HA
  have hst := fun (a : Addr) (b : Nat) (m : Mode) (w : World) => run_store Try.prog w a (.float .f64 b) m rfl
  go_wp2
  refine absorb_wp HA ?_
  clear HA hst
  intro w3 H
  generalize w2.heap.size + 1 = g2 at H ⊢
  generalize w2.heap.size = g1 at H ⊢
  replace H : St w [] w3 (lay [.blk g1 79 [fv (R 0), fv (R 1), fv (R 2), fv (R 3), fv (R 4), fv (R 5), fv (R 6), fv (R 7)], .blk g2 79 [fv (I 0), fv (I 1), fv (I 2), fv (I 3), fv (I 4), fv (I 5), fv (I 6), fv (I 7)]]) := H
  rw [← rowF_eq, ← rowF_eq] at H
  go_loopw [6, 7] (fun v i wr => ∃ k b : Nat, 2 ≤ k ∧ k ≤ 5 ∧ b < 5 ∧ i = .int .i64 k ∧ v = .int .i64 b ∧ Hid (b = bestA P k) ∧ St w [] wr (lay [.blk g1 79 (rowF R), .blk g2 79 (rowF I)])) (fun _ i _ => 6 - (intOf i).toNat)
  case atStart => exact ⟨2, 1, by omega, by omega, by omega, rfl, rfl, rfl, H⟩
  case round =>
    clear H
    obtain ⟨k, b, hk2, hk, hb5, rfl, rfl, HB, H⟩ := hrel
    have b8 : (b : Int) < 8 := by omega
    have k8 : (k : Int) < 8 := by omega
    by_cases hlt : k < 5
    · have hk4 : (k : Int) ≤ 4 := by omega
      have hn1 := Lib.hid (HN.out k (by omega))
      have hn2 := Lib.hid (HN.out b (by omega))
      go_wp2
      have HW := H
      replace H := H.drew
      refine wp_region_held_drew (S := fun w' : World => w'.cell? ⟨g1, k, none⟩ = some (fv (R k)) ∧ w'.cell? ⟨g2, k, none⟩ = some (fv (I k)) ∧ w'.cell? ⟨g1, b, none⟩ = some (fv (R b)) ∧ w'.cell? ⟨g2, b, none⟩ = some (fv (I b))) (by kernel_rfl) ?_ (fun hHeld => ?_)
      · exact ⟨H.cell 0 rfl (rowF_get R (k := k) (by omega)), H.cell 1 rfl (rowF_get I (k := k) (by omega)), H.cell 0 rfl (rowF_get R (k := b) (by omega)), H.cell 1 rfl (rowF_get I (k := b) (by omega))⟩
      refine takeV 0 rfl (by intro w h; clear h; go_simp; try with_reducible rfl) (by kernel_rfl) (by kernel_rfl) (by kernel_rfl) (by exact fun _ _ _ h => h) (by rfl) (by assumption) ?_
      try simp only [Act.put, List.setIfInBounds_toArray, List.set_cons_zero, List.set_cons_succ]
      refine takeV 1 rfl (by intro w h; clear h; go_simp; try with_reducible rfl) (by kernel_rfl) (by kernel_rfl) (by kernel_rfl) (by exact fun _ _ _ h => h) (by rfl) (by assumption) ?_
      try simp only [Act.put, List.setIfInBounds_toArray, List.set_cons_zero, List.set_cons_succ]
      refine takeV 2 rfl (by intro w h; have hc := h.1; clear h; go_simp; try with_reducible rfl) (by kernel_rfl) (by kernel_rfl) (by kernel_rfl) (by exact fun _ _ _ h => h) (by rfl) (by assumption) ?_
      try simp only [Act.put, List.setIfInBounds_toArray, List.set_cons_zero, List.set_cons_succ]
      refine takeV 3 rfl (by intro w h; clear h; go_simp; try with_reducible rfl) (by kernel_rfl) (by kernel_rfl) (by kernel_rfl) (by exact fun _ _ _ h => h) (by rfl) (by assumption) ?_
      try simp only [Act.put, List.setIfInBounds_toArray, List.set_cons_zero, List.set_cons_succ]
      refine takeV 4 rfl (by intro w h; clear h; go_simp; try with_reducible rfl) (by kernel_rfl) (by kernel_rfl) (by kernel_rfl) (by exact fun _ _ _ h => h) (by rfl) (by assumption) ?_
      try simp only [Act.put, List.setIfInBounds_toArray, List.set_cons_zero, List.set_cons_succ]
      refine takeV 5 rfl (by intro w h; have hc := h.2.1; clear h; go_simp; try with_reducible rfl) (by kernel_rfl) (by kernel_rfl) (by kernel_rfl) (by exact fun _ _ _ h => h) (by rfl) (by assumption) ?_
      try simp only [Act.put, List.setIfInBounds_toArray, List.set_cons_zero, List.set_cons_succ]
      refine takeV 7 rfl (by intro w h; clear h; go_simp; try with_reducible rfl) (by kernel_rfl) (by kernel_rfl) (by kernel_rfl) (by exact fun _ _ _ h => h) (by rfl) (by assumption) ?_
      try simp only [Act.put, List.setIfInBounds_toArray, List.set_cons_zero, List.set_cons_succ]
      refine takeV 8 rfl (by intro w h; clear h; go_simp; try with_reducible rfl) (by kernel_rfl) (by kernel_rfl) (by kernel_rfl) (by exact fun _ _ _ h => h) (by rfl) (by assumption) ?_
      try simp only [Act.put, List.setIfInBounds_toArray, List.set_cons_zero, List.set_cons_succ]
      refine takeV 9 rfl (by intro w h; have hc := h.2.2.1; clear h; go_simp; try with_reducible rfl) (by kernel_rfl) (by kernel_rfl) (by kernel_rfl) (by exact fun _ _ _ h => h) (by rfl) (by assumption) ?_
      try simp only [Act.put, List.setIfInBounds_toArray, List.set_cons_zero, List.set_cons_succ]
      refine takeV 10 rfl (by intro w h; clear h; go_simp; try with_reducible rfl) (by kernel_rfl) (by kernel_rfl) (by kernel_rfl) (by exact fun _ _ _ h => h) (by rfl) (by assumption) ?_
      try simp only [Act.put, List.setIfInBounds_toArray, List.set_cons_zero, List.set_cons_succ]
      refine takeV 11 rfl (by intro w h; clear h; go_simp; try with_reducible rfl) (by kernel_rfl) (by kernel_rfl) (by kernel_rfl) (by exact fun _ _ _ h => h) (by rfl) (by assumption) ?_
      try simp only [Act.put, List.setIfInBounds_toArray, List.set_cons_zero, List.set_cons_succ]
      refine takeV 12 rfl (by intro w h; have hc := h.2.2.2; clear h; go_simp; try with_reducible rfl) (by kernel_rfl) (by kernel_rfl) (by kernel_rfl) (by exact fun _ _ _ h => h) (by rfl) (by assumption) ?_
      try simp only [Act.put, List.setIfInBounds_toArray, List.set_cons_zero, List.set_cons_succ]
      refine take_call 6 rfl (by kernel_rfl) (fun K hK => ?_)
      try go_simp
      refine (refPower_a (R k) (I k) _).mono ?_
      rintro e wx ⟨r, nr, rfl, Hr, rfl⟩
      replace H := H.drewN nr
      refine hK.out _ _ ?_ (fun hHeld => ?_)
      · exact ⟨H.cell 0 rfl (rowF_get R (k := k) (by omega)), H.cell 1 rfl (rowF_get I (k := k) (by omega)), H.cell 0 rfl (rowF_get R (k := b) (by omega)), H.cell 1 rfl (rowF_get I (k := b) (by omega))⟩
      clear hK K
      try simp only [Act.put, List.setIfInBounds_toArray, List.set_cons_zero, List.set_cons_succ]
      refine take_call 13 rfl (by kernel_rfl) (fun K hK => ?_)
      try go_simp
      refine (refPower_a (R b) (I b) _).mono ?_
      rintro e wx ⟨s, ns, rfl, Hs, rfl⟩
      replace H := H.drewN ns
      refine hK.out _ _ ?_ (fun hHeld => ?_)
      · exact ⟨H.cell 0 rfl (rowF_get R (k := k) (by omega)), H.cell 1 rfl (rowF_get I (k := k) (by omega)), H.cell 0 rfl (rowF_get R (k := b) (by omega)), H.cell 1 rfl (rowF_get I (k := b) (by omega))⟩
      clear hK K
      try simp only [Act.put, List.setIfInBounds_toArray, List.set_cons_zero, List.set_cons_succ]
      have ho := gtA_eq r s
      rw [Hr.out, Hs.out, hn1.out, hn2.out] at ho
      by_cases hg : gtA (P k) (P b) = true
      · rw [hg] at ho
        refine take_pure 14 (.bool true) rfl (by kernel_rfl) (by kernel_rfl) (by kernel_rfl) (fun _ _ _ h => h) rfl (by intro w hSw; go_simp; try with_reducible rfl) (by assumption) ?_
        try simp only [Act.put, List.setIfInBounds_toArray, List.set_cons_zero, List.set_cons_succ]
        refine wpAnyH_done (by kernel_rfl) ?_ _
        clear hHeld ho
        go_wp2
        go_roundw
        case rel => exact ⟨k + 1, k, by omega, by omega, by omega, by go_num, rfl, by unfold Hid bestA; rw [if_neg (by omega), ← HB.out, if_pos hg], HW.drewN _⟩
        case measure => simp [intOf]; omega
      · have hg0 : gtA (P k) (P b) = false := by simpa using hg
        rw [hg0] at ho
        refine take_pure 14 (.bool false) rfl (by kernel_rfl) (by kernel_rfl) (by kernel_rfl) (fun _ _ _ h => h) rfl (by intro w hSw; go_simp; try with_reducible rfl) (by assumption) ?_
        try simp only [Act.put, List.setIfInBounds_toArray, List.set_cons_zero, List.set_cons_succ]
        refine wpAnyH_done (by kernel_rfl) ?_ _
        clear hHeld ho
        go_wp2
        go_roundw
        case rel => exact ⟨k + 1, b, by omega, by omega, by omega, by go_num, rfl, by unfold Hid bestA; rw [if_neg (by omega), ← HB.out, if_neg hg], HW.drewN _⟩
        case measure => simp [intOf]; omega
    · obtain rfl : k = 5 := by omega
      have hk4 : ¬ ((5 : Nat) : Int) ≤ 4 := by omega
      have hn2 := Lib.hid (HN.out b (by omega))
      go_wp2
      have HW := H
      replace H := H.drew
      refine wp_region_held_drew (S := fun w' : World => w'.cell? ⟨g1, b, none⟩ = some (fv (R b)) ∧ w'.cell? ⟨g2, b, none⟩ = some (fv (I b))) (by kernel_rfl) ?_ (fun hHeld => ?_)
      · exact ⟨H.cell 0 rfl (rowF_get R (k := b) (by omega)), H.cell 1 rfl (rowF_get I (k := b) (by omega))⟩
      refine takeV 0 rfl (by intro w h; clear h; go_simp; try with_reducible rfl) (by kernel_rfl) (by kernel_rfl) (by kernel_rfl) (by exact fun _ _ _ h => h) (by rfl) (by assumption) ?_
      try simp only [Act.put, List.setIfInBounds_toArray, List.set_cons_zero, List.set_cons_succ]
      refine takeV 1 rfl (by intro w h; clear h; go_simp; try with_reducible rfl) (by kernel_rfl) (by kernel_rfl) (by kernel_rfl) (by exact fun _ _ _ h => h) (by rfl) (by assumption) ?_
      try simp only [Act.put, List.setIfInBounds_toArray, List.set_cons_zero, List.set_cons_succ]
      refine takeV 2 rfl (by intro w h; clear h; go_simp; try with_reducible rfl) (by kernel_rfl) (by kernel_rfl) (by kernel_rfl) (by exact fun _ _ _ h => h) (by rfl) (by assumption) ?_
      try simp only [Act.put, List.setIfInBounds_toArray, List.set_cons_zero, List.set_cons_succ]
      refine takeV 3 rfl (by intro w h; have hc := h.1; clear h; go_simp; try with_reducible rfl) (by kernel_rfl) (by kernel_rfl) (by kernel_rfl) (by exact fun _ _ _ h => h) (by rfl) (by assumption) ?_
      try simp only [Act.put, List.setIfInBounds_toArray, List.set_cons_zero, List.set_cons_succ]
      refine takeV 4 rfl (by intro w h; clear h; go_simp; try with_reducible rfl) (by kernel_rfl) (by kernel_rfl) (by kernel_rfl) (by exact fun _ _ _ h => h) (by rfl) (by assumption) ?_
      try simp only [Act.put, List.setIfInBounds_toArray, List.set_cons_zero, List.set_cons_succ]
      refine takeV 5 rfl (by intro w h; clear h; go_simp; try with_reducible rfl) (by kernel_rfl) (by kernel_rfl) (by kernel_rfl) (by exact fun _ _ _ h => h) (by rfl) (by assumption) ?_
      try simp only [Act.put, List.setIfInBounds_toArray, List.set_cons_zero, List.set_cons_succ]
      refine takeV 6 rfl (by intro w h; have hc := h.2; clear h; go_simp; try with_reducible rfl) (by kernel_rfl) (by kernel_rfl) (by kernel_rfl) (by exact fun _ _ _ h => h) (by rfl) (by assumption) ?_
      try simp only [Act.put, List.setIfInBounds_toArray, List.set_cons_zero, List.set_cons_succ]
      refine take_call 7 rfl (by kernel_rfl) (fun K hK => ?_)
      try go_simp
      refine (refPower_a (R b) (I b) _).mono ?_
      rintro e wx ⟨r, nr, rfl, Hr, rfl⟩
      replace H := H.drewN nr
      refine hK.out _ _ ?_ (fun hHeld => ?_)
      · exact ⟨H.cell 0 rfl (rowF_get R (k := b) (by omega)), H.cell 1 rfl (rowF_get I (k := b) (by omega))⟩
      clear hK K
      try simp only [Act.put, List.setIfInBounds_toArray, List.set_cons_zero, List.set_cons_succ]
      refine takeV 8 rfl (by intro w h; clear h; go_simp; try with_reducible rfl) (by kernel_rfl) (by kernel_rfl) (by kernel_rfl) (by exact fun _ _ _ h => h) (by rfl) (by assumption) ?_
      try simp only [Act.put, List.setIfInBounds_toArray, List.set_cons_zero, List.set_cons_succ]
      refine takeV 9 rfl (by intro w h; clear h; go_simp; try with_reducible rfl) (by kernel_rfl) (by kernel_rfl) (by kernel_rfl) (by exact fun _ _ _ h => h) (by rfl) (by assumption) ?_
      try simp only [Act.put, List.setIfInBounds_toArray, List.set_cons_zero, List.set_cons_succ]
      refine wpAnyH_done (by kernel_rfl) ?_ _
      clear hHeld
      go_wp2
      go_ret2
      exact ⟨r, by rw [← HB.out]; rfl, by unfold Hid; rw [Hr.out, hn2.out, ← HB.out], H.below⟩

end Go.Proofs.Ytpmgklmgaienhaa
