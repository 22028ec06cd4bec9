/- The law EighthReturns, walked. -/
import Derived.Test.YtgaghggnjemgoaaEiWhole
import Derived.Test.YtgaghggnjemgoaaEiRet
import Derived.Deep.OwnRows
namespace Go.Proofs.Ytgaghggnjemgoaa
open Go.RowKit
set_option linter.unusedVariables false
set_option maxRecDepth 100000

def rowN (f : Nat → Nat) : List Nat := (List.range 8).map f
theorem rowN_length (f : Nat → Nat) : (rowN f).length = 8 := by simp [rowN]
theorem rowN_get (f : Nat → Nat) {k : Nat} (h : k < 8) : (rowN f)[k]? = some (f k) := by simp [rowN, List.getElem?_range, h]
theorem rowN_set (f : Nat → Nat) (k v : Nat) : (rowN f).set k v = rowN (setF f k v) := by
  apply List.ext_getElem?
  intro i
  by_cases h : i < 8
  · rw [rowN_get _ h]
    by_cases e : i = k
    · subst e; rw [List.getElem?_set_self (by rw [rowN_length]; exact h)]; simp [setF]
    · rw [List.getElem?_set_ne (fun h => e h.symm), rowN_get _ h]; simp [setF, e]
  · rw [List.getElem?_eq_none (by simp [rowN]; omega), List.getElem?_eq_none (by simp [rowN]; omega)]
theorem rowN_zero : (rowN fun _ => 0).map rv = [rv 0, rv 0, rv 0, rv 0, rv 0, rv 0, rv 0, rv 0] := rfl
attribute [local irreducible] rowN rowF
/-- what is laid, and where -/
def laidAt (N : Nat → Int) (k j : Nat) : Int := if j % 2 = 0 ∧ j / 2 < k then N (j / 2) else 0
def Laid (N : Nat → Int) (k : Nat) (f : Nat → Nat) : Prop := ∀ j, j < 8 → Is (f j) (laidAt N k j * 2 ^ uE)
theorem Laid.zero (N : Nat → Int) : Laid N 0 fun _ => 0 := fun j hj => by
  unfold laidAt; rw [if_neg (by omega), Int.zero_mul]; exact is_zero
theorem Laid.step {N : Nat → Int} {k v : Nat} {f : Nat → Nat} (h : Laid N k f) (hv : Is v (N k * 2 ^ uE)) : Laid N (k + 1) (setF f (2 * k) v) := fun j hj => by
  by_cases e : j = 2 * k
  · subst e
    rw [setF_same]
    unfold laidAt
    rw [if_pos (by omega), show 2 * k / 2 = k by omega]; exact hv
  · rw [setF_other _ _ _ _ e]
    have h2 := h j hj
    unfold laidAt at h2 ⊢
    by_cases h3 : j % 2 = 0 ∧ j / 2 < k
    · rw [if_pos h3] at h2; rw [if_pos (by omega)]; exact h2
    · rw [if_neg h3] at h2; rw [if_neg (by omega)]; exact h2

theorem St.rdBlkE {w0 w : World} {F0 : List Nat} {E : Env} {g : Nat} {T : TypeId} {cs : List Value} (H : St w0 F0 w E) (k : Nat) (hk : E k = some (.blk g T cs)) (size n : Nat) (hl : cs.length = n * size) : Rd w size (some ⟨g, 0, none⟩) n cs :=
  ⟨hl, fun _ => ⟨_, rfl, H.lt k hk, fun j u hu => by rw [Addr.add_mid, Nat.zero_add]; exact H.cell k hk hu⟩⟩
set_option maxHeartbeats 4000000 in
theorem eighthReturns_walk (A : Option Addr) (n c : Nat) (l : List I64) (w : World) (hR : Rd w 1 A n (l.map fun x => iv8 x.1)) (hn : n * 8 ≤ 140737488351232) (hnc : n ≤ c) :
    Calls Try.prog 9 #[.slice A n c] w fun e w' => e = .returned (.bool true) ∧ Below w.heap.size w w' := by
  have H := St.start_lay w []
  have hl : l.length = n := by simpa using hR.1
  obtain ⟨n1, hn1⟩ : ∃ n1, min n 1024 = n1 := ⟨_, rfl⟩
  have hn1le : n1 ≤ l.length := by omega
  have hn1k : n1 ≤ 1024 := by omega
  obtain ⟨Y, hY⟩ : ∃ Y, wlF l (min n 1024) = Y := ⟨_, rfl⟩
  obtain ⟨N, hX⟩ : ∃ N : Nat → Int, N = fun j => (wlTo l n1).getD j 0 := ⟨_, rfl⟩
  have hYX : Hid (∀ j, j < n1 → Y[j]? = some (floatOfInt .f64 (N j)) ∧ (N j).natAbs ≤ 2 ^ 20) := fun j hj => by
    obtain ⟨h1, h2, h3⟩ := wl_is hn1le hj
    rw [← hY, hn1, hX]
    have h4 : ((wlTo l n1).getD j 0).natAbs ≤ 1048576 := by omega
    exact ⟨h1, h4⟩
  have hYL : Hid (Y.length = n1) := by rw [← hY, hn1]; exact wlF_length hn1le
  clear hn1le hX hnc hl
  go_enter Try.func9, Try.ntmps9
  go_wp2_with fail
  refine (eiAwake_s w).mono ?_
  rintro e w1 ⟨rfl, hb⟩
  have HR := Lib.hid (hR.below hb)
  replace H := H.call hb
  clear hb hR
  go_wp2_with fail
  refine (whole_s A n c l w1 HR.out hn).mono ?_
  rintro e w2 ⟨v1, rfl, ho, hb⟩
  rw [hY] at ho
  unfold OwnR at ho
  rw [hYL.out] at ho
  replace H := (H.pushRow 0 rfl hb ho).push_mk rfl
  clear hb ho hY hn1 HR
  obtain ⟨A1, c1, rfl, -, -⟩ := row_form (H.row 0 rfl)
  have hmk : ∀ w : World, (Instr.makeSlice 30 (.int .i64 8) (.int .i64 8)).run Try.prog w = .ok (.slice (some ⟨w.heap.size, 0, none⟩) 8 8) (w.alloc (.cells (madeCells #[.float .f64 0] 8) 22)) := fun w => run_make_row' (P := Try.prog) 30 22 (.float .f64 0) 8 Try.underlying30 real_info rfl .i64 .i64 8 (by omega) (by omega) w
  have HA := (H.allocAt 1 rfl w2.heap.size rfl (madeCells #[.float .f64 0] 8) 22).push_mk rfl
  go_wp2
  refine absorb_wp HA ?_
  clear HA H hmk
  intro w3 H
  generalize w2.heap.size = gx at H ⊢
  replace H : St w [] w3 (lay [.row 22 1 (.slice A1 n1 c1) n1 (Y.map rv), .blk gx 22 (madeCells #[.float .f64 0] 8).toList]) := H
  rw [show (madeCells #[Value.float .f64 0] 8).toList = (rowN fun _ => 0).map rv by rw [rowN_zero]; kernel_rfl] at H
  go_loopw [6] (fun i wr => ∃ (k : Nat) (f : Nat → Nat), k ≤ 4 ∧ i = .int .i64 (k : Int) ∧ Hid (Laid N k f) ∧ k ≤ n1 ∧ St w [] wr (lay [.row 22 1 (.slice A1 n1 c1) n1 (Y.map rv), .blk gx 22 ((rowN f).map rv)])) (fun i _ => 4 - (intOf i).toNat)
  case atStart => exact ⟨0, fun _ => 0, by omega, rfl, Laid.zero N, Nat.zero_le _, H⟩
  case round =>
    clear H
    obtain ⟨k, f, hk, rfl, HL, hkn, H⟩ := hrel
    by_cases hlt : k < 4 ∧ k < n1
    · obtain ⟨h4, hn'⟩ := hlt
      obtain ⟨yj, hyj⟩ : ∃ yj, Y[k]? = some yj := ⟨_, List.getElem?_eq_getElem (by rw [hYL.out]; exact hn')⟩
      obtain ⟨gy, oy, rfl, -, hc⟩ := (H.rd 0 rfl).flat (by omega) (by omega)
      have cx := hc k (rv yj) (by rw [List.getElem?_map, hyj]; rfl)
      have hi : Is yj (N k * 2 ^ uE) := by
        obtain ⟨h1, h2⟩ := hYX.out k hn'
        rw [hyj] at h1
        cases h1
        exact int_is (Nat.lt_of_le_of_lt h2 (by decide))
      have HL2 := Lib.hid (HL.out.step hi)
      have hk4 : (k : Int) < 4 := by omega
      have hkn1 : (k : Int) < n1 := by omega
      obtain ⟨m, hm⟩ : ∃ m, 2 * k = m := ⟨_, rfl⟩
      have hm8 : m < 8 := by omega
      have hm8i : (m : Int) < 8 := by omega
      have w1 : IntKind.i64.wrap (2 * (k : Int)) = (m : Int) := by rw [← hm, IntWalk.i64_in _ (by omega)]; omega
      rw [hm] at HL2
      have ce := H.cell 1 rfl (u := rv (f m)) (o := m) (by rw [List.getElem?_map, rowN_get f hm8]; rfl)
      have fr := H.free 1 rfl m
      have hst := fun (a : Addr) (b : Nat) (m : Mode) (w : World) => run_store Try.prog w a (.float .f64 b) m rfl
      clear hc hi hyj hm
      replace H := (H.store 1 rfl (o := m) (u := rv yj)).upd_mk (by simp)
      replace H : St w [] (wr.setCell ⟨gx, m, none⟩ (rv yj)) (lay [.row 22 1 (.slice (some ⟨gy, oy, none⟩) n1 c1) n1 (Y.map rv), .blk gx 22 (((rowN f).map rv).set m (rv yj))]) := H
      rw [← List.map_set, rowN_set] at H
      go_wp2
      go_roundw
      case rel => exact ⟨k + 1, _, by omega, by go_num, HL2, by omega, H⟩
      case measure => simp [intOf]; omega
    · have HX : Hid (∀ j, j < 8 → Is ((rowN f).getD j 0) (laidAt N k j * 2 ^ uE) ∧ (laidAt N k j).natAbs ≤ 2 ^ 20) := fun j hj => by
        rw [List.getD_eq_getElem?_getD, rowN_get f hj]
        refine ⟨HL.out j hj, ?_⟩
        unfold laidAt
        split
        · exact (hYX.out _ (by omega)).2
        · decide
      have HO : Hid (∀ j, j % 2 = 1 → laidAt N k j = 0) := fun j hj => by
        unfold laidAt; rw [if_neg (by omega)]
      have rX := H.rdBlkE 1 rfl 1 8 (by rw [List.length_map, rowN_length])
      have RX := Lib.hid rX
      clear rX
      by_cases h4 : k < 4
      · have hk4 : (k : Int) < 4 := by omega
        have hkn1 : ¬ (k : Int) < n1 := by omega
        clear hlt
        go_wp2_with fail
        refine (sums_a (some ⟨gx, 0, none⟩) 8 8 (rowN f) wr RX.out (by omega)).mono ?_
        rintro e w4 ⟨S, hS, he, hb⟩
        rw [cells8] at he
        subst he
        have HS := Lib.hid hS
        replace H := H.call hb
        clear hb hS RX
        go_wp2_with fail
        refine (back_a S w4).mono ?_
        rintro e w5 ⟨T, hT, he, hb⟩
        have hret := returns_facts (rowN f) (laidAt N k) HX.out HO.out S HS.out T hT
        have HRET := Lib.hid hret
        rw [rowF_eq] at he
        subst he
        have HA := ((H.call hb).allocAt 2 rfl w5.heap.size rfl (rowF T).toArray 33).push_mk rfl
        rw [rowF_eq] at HA
        have hst := fun (a : Addr) (b : Nat) (m : Mode) (w : World) => run_store Try.prog w a (.float .f64 b) m rfl
        have HF := Lib.hid (show ∀ j, j < 8 → Is (f j) (laidAt N k j * 2 ^ uE) from HL.out)
        clear hb hT hret H HX HO HS HL hYX
        generalize laidAt N k = X at HRET HF
        go_wp2
        refine absorb_wp HA ?_
        clear HA hst
        intro w6 H
        generalize w5.heap.size = gy at H ⊢
        replace H : St w [] w6 (lay [.row 22 1 (.slice A1 n1 c1) n1 (Y.map rv), .blk gx 22 ((rowN f).map rv), .blk gy 33 [fv (T 0), fv (T 1), fv (T 2), fv (T 3), fv (T 4), fv (T 5), fv (T 6), fv (T 7)]]) := H
        rw [← rowF_eq] at H
        go_loopw [8] (fun i wr => ∃ k : Nat, k ≤ 8 ∧ k % 2 = 0 ∧ i = .int .i64 (k : Int) ∧ St w [] wr (lay [.row 22 1 (.slice A1 n1 c1) n1 (Y.map rv), .blk gx 22 ((rowN f).map rv), .blk gy 33 (rowF T)])) (fun i _ => 8 - (intOf i).toNat)
        case atStart => exact ⟨0, by omega, by omega, rfl, H⟩
        case round =>
          clear H
          obtain ⟨k, hk, hk2, rfl, H⟩ := hrel
          by_cases hk8 : k < 8
          · have hk1 : (k : Int) < 8 := by omega
            have o1 := order_eq (HRET.out k hk8 hk2) (HF.out k hk8) rfl
            go_wp2
            have HW := H
            replace H := H.drew
            refine wp_region_held_drew (S := fun w' : World => w'.cell? ⟨gy, k, none⟩ = some (fv (T k)) ∧ w'.cell? ⟨gx, k, none⟩ = some (fv (f k))) (by kernel_rfl) ?_ (fun hHeld => ?_)
            · exact ⟨H.cell 2 rfl (rowF_get T (k := k) hk8), H.cell 1 rfl (by rw [List.getElem?_map, rowN_get f hk8]; rfl)⟩
            refine takeV 0 rfl (by intro w h; clear h; go_simp; try with_reducible rfl) (by kernel_rfl) (by kernel_rfl) (by kernel_rfl) (by exact fun _ _ _ h => h) (by rfl) (by assumption) ?_
            try simp only [Act.put, List.setIfInBounds_toArray, List.set_cons_zero, List.set_cons_succ]
            refine takeV 1 rfl (by intro w h; clear h; go_simp; try with_reducible rfl) (by kernel_rfl) (by kernel_rfl) (by kernel_rfl) (by exact fun _ _ _ h => h) (by rfl) (by assumption) ?_
            try simp only [Act.put, List.setIfInBounds_toArray, List.set_cons_zero, List.set_cons_succ]
            refine takeV 2 rfl (by intro w h; have hc := h.1; clear h; go_simp; try with_reducible rfl) (by kernel_rfl) (by kernel_rfl) (by kernel_rfl) (by exact fun _ _ _ h => h) (by rfl) (by assumption) ?_
            try simp only [Act.put, List.setIfInBounds_toArray, List.set_cons_zero, List.set_cons_succ]
            refine takeV 3 rfl (by intro w h; clear h; go_simp; try with_reducible rfl) (by kernel_rfl) (by kernel_rfl) (by kernel_rfl) (by exact fun _ _ _ h => h) (by rfl) (by assumption) ?_
            try simp only [Act.put, List.setIfInBounds_toArray, List.set_cons_zero, List.set_cons_succ]
            refine takeV 4 rfl (by intro w h; clear h; go_simp; try with_reducible rfl) (by kernel_rfl) (by kernel_rfl) (by kernel_rfl) (by exact fun _ _ _ h => h) (by rfl) (by assumption) ?_
            try simp only [Act.put, List.setIfInBounds_toArray, List.set_cons_zero, List.set_cons_succ]
            refine takeV 5 rfl (by intro w h; clear h; go_simp; try with_reducible rfl) (by kernel_rfl) (by kernel_rfl) (by kernel_rfl) (by exact fun _ _ _ h => h) (by rfl) (by assumption) ?_
            try simp only [Act.put, List.setIfInBounds_toArray, List.set_cons_zero, List.set_cons_succ]
            refine takeV 6 rfl (by intro w h; have hc := h.2; clear h; go_simp; try with_reducible rfl) (by kernel_rfl) (by kernel_rfl) (by kernel_rfl) (by exact fun _ _ _ h => h) (by rfl) (by assumption) ?_
            try simp only [Act.put, List.setIfInBounds_toArray, List.set_cons_zero, List.set_cons_succ]
            refine takeV 7 rfl (by intro w h; clear h; go_simp; try with_reducible rfl) (by kernel_rfl) (by kernel_rfl) (by kernel_rfl) (by exact fun _ _ _ h => h) (by rfl) (by assumption) ?_
            try simp only [Act.put, List.setIfInBounds_toArray, List.set_cons_zero, List.set_cons_succ]
            refine wpAnyH_done (by kernel_rfl) ?_ _
            clear hHeld
            go_wp2
            go_roundw
            case rel => exact ⟨k + 2, by omega, by omega, by go_num, HW.drewN _⟩
            case measure => simp [intOf]; omega
          · obtain rfl : k = 8 := by omega
            go_wp2
            go_ret
            exact ⟨rfl, H.below⟩
      · obtain rfl : k = 4 := by omega
        clear hlt hkn h4
        go_wp2_with fail
        refine (sums_a (some ⟨gx, 0, none⟩) 8 8 (rowN f) wr RX.out (by omega)).mono ?_
        rintro e w4 ⟨S, hS, he, hb⟩
        rw [cells8] at he
        subst he
        have HS := Lib.hid hS
        replace H := H.call hb
        clear hb hS RX
        go_wp2_with fail
        refine (back_a S w4).mono ?_
        rintro e w5 ⟨T, hT, he, hb⟩
        have hret := returns_facts (rowN f) (laidAt N 4) HX.out HO.out S HS.out T hT
        have HRET := Lib.hid hret
        rw [rowF_eq] at he
        subst he
        have HA := ((H.call hb).allocAt 2 rfl w5.heap.size rfl (rowF T).toArray 33).push_mk rfl
        rw [rowF_eq] at HA
        have hst := fun (a : Addr) (b : Nat) (m : Mode) (w : World) => run_store Try.prog w a (.float .f64 b) m rfl
        have HF := Lib.hid (show ∀ j, j < 8 → Is (f j) (laidAt N 4 j * 2 ^ uE) from HL.out)
        clear hb hT hret H HX HO HS HL hYX
        generalize laidAt N 4 = X at HRET HF
        go_wp2
        refine absorb_wp HA ?_
        clear HA hst
        intro w6 H
        generalize w5.heap.size = gy at H ⊢
        replace H : St w [] w6 (lay [.row 22 1 (.slice A1 n1 c1) n1 (Y.map rv), .blk gx 22 ((rowN f).map rv), .blk gy 33 [fv (T 0), fv (T 1), fv (T 2), fv (T 3), fv (T 4), fv (T 5), fv (T 6), fv (T 7)]]) := H
        rw [← rowF_eq] at H
        go_loopw [8] (fun i wr => ∃ k : Nat, k ≤ 8 ∧ k % 2 = 0 ∧ i = .int .i64 (k : Int) ∧ St w [] wr (lay [.row 22 1 (.slice A1 n1 c1) n1 (Y.map rv), .blk gx 22 ((rowN f).map rv), .blk gy 33 (rowF T)])) (fun i _ => 8 - (intOf i).toNat)
        case atStart => exact ⟨0, by omega, by omega, rfl, H⟩
        case round =>
          clear H
          obtain ⟨k, hk, hk2, rfl, H⟩ := hrel
          by_cases hk8 : k < 8
          · have hk1 : (k : Int) < 8 := by omega
            have o1 := order_eq (HRET.out k hk8 hk2) (HF.out k hk8) rfl
            go_wp2
            have HW := H
            replace H := H.drew
            refine wp_region_held_drew (S := fun w' : World => w'.cell? ⟨gy, k, none⟩ = some (fv (T k)) ∧ w'.cell? ⟨gx, k, none⟩ = some (fv (f k))) (by kernel_rfl) ?_ (fun hHeld => ?_)
            · exact ⟨H.cell 2 rfl (rowF_get T (k := k) hk8), H.cell 1 rfl (by rw [List.getElem?_map, rowN_get f hk8]; rfl)⟩
            refine takeV 0 rfl (by intro w h; clear h; go_simp; try with_reducible rfl) (by kernel_rfl) (by kernel_rfl) (by kernel_rfl) (by exact fun _ _ _ h => h) (by rfl) (by assumption) ?_
            try simp only [Act.put, List.setIfInBounds_toArray, List.set_cons_zero, List.set_cons_succ]
            refine takeV 1 rfl (by intro w h; clear h; go_simp; try with_reducible rfl) (by kernel_rfl) (by kernel_rfl) (by kernel_rfl) (by exact fun _ _ _ h => h) (by rfl) (by assumption) ?_
            try simp only [Act.put, List.setIfInBounds_toArray, List.set_cons_zero, List.set_cons_succ]
            refine takeV 2 rfl (by intro w h; have hc := h.1; clear h; go_simp; try with_reducible rfl) (by kernel_rfl) (by kernel_rfl) (by kernel_rfl) (by exact fun _ _ _ h => h) (by rfl) (by assumption) ?_
            try simp only [Act.put, List.setIfInBounds_toArray, List.set_cons_zero, List.set_cons_succ]
            refine takeV 3 rfl (by intro w h; clear h; go_simp; try with_reducible rfl) (by kernel_rfl) (by kernel_rfl) (by kernel_rfl) (by exact fun _ _ _ h => h) (by rfl) (by assumption) ?_
            try simp only [Act.put, List.setIfInBounds_toArray, List.set_cons_zero, List.set_cons_succ]
            refine takeV 4 rfl (by intro w h; clear h; go_simp; try with_reducible rfl) (by kernel_rfl) (by kernel_rfl) (by kernel_rfl) (by exact fun _ _ _ h => h) (by rfl) (by assumption) ?_
            try simp only [Act.put, List.setIfInBounds_toArray, List.set_cons_zero, List.set_cons_succ]
            refine takeV 5 rfl (by intro w h; clear h; go_simp; try with_reducible rfl) (by kernel_rfl) (by kernel_rfl) (by kernel_rfl) (by exact fun _ _ _ h => h) (by rfl) (by assumption) ?_
            try simp only [Act.put, List.setIfInBounds_toArray, List.set_cons_zero, List.set_cons_succ]
            refine takeV 6 rfl (by intro w h; have hc := h.2; clear h; go_simp; try with_reducible rfl) (by kernel_rfl) (by kernel_rfl) (by kernel_rfl) (by exact fun _ _ _ h => h) (by rfl) (by assumption) ?_
            try simp only [Act.put, List.setIfInBounds_toArray, List.set_cons_zero, List.set_cons_succ]
            refine takeV 7 rfl (by intro w h; clear h; go_simp; try with_reducible rfl) (by kernel_rfl) (by kernel_rfl) (by kernel_rfl) (by exact fun _ _ _ h => h) (by rfl) (by assumption) ?_
            try simp only [Act.put, List.setIfInBounds_toArray, List.set_cons_zero, List.set_cons_succ]
            refine wpAnyH_done (by kernel_rfl) ?_ _
            clear hHeld
            go_wp2
            go_roundw
            case rel => exact ⟨k + 2, by omega, by omega, by go_num, HW.drewN _⟩
            case measure => simp [intOf]; omega
          · obtain rfl : k = 8 := by omega
            go_wp2
            go_ret
            exact ⟨rfl, H.below⟩

end Go.Proofs.Ytgaghggnjemgoaa
