/- The row of floats; sums, powers and peak of a row held against the document's. -/
import Derived.Test.YtgaghggnjemgoaaEiRef
import Derived.Test.YtgaghggnjemgoaaRealK
import Derived.Test.YtgaghggnjemgoaaRowI
namespace Go.Proofs.Ytgaghggnjemgoaa
open Go.RowKit
set_option linter.unusedVariables false
set_option maxRecDepth 100000

theorem bits_callE (n : Nat) (w : World) : (callFunc 30 #[.int .u64 (n : Int)]).run Try.prog w = .ok (.value (.float .f64 n)) w := by
  rw [run_callFunc_extern (P := Try.prog) (f := 30) (fn := Try.f30) (e := Extern.MathFloatBits.float64frombits) Try.func30 (by kernel_rfl) (by kernel_rfl) (by kernel_rfl) (by kernel_rfl)]
  rfl
def numsTo (l : List UInt64) (k : Nat) : List Nat := (l.take k).map UInt64.toNat
theorem numsTo_succ {l : List UInt64} {k : Nat} {u : UInt64} (h : l[k]? = some u) : numsTo l (k + 1) = numsTo l k ++ [u.toNat] := by
  unfold numsTo
  rw [List.take_add_one, h]; simp
theorem numsTo_length {l : List UInt64} {k : Nat} (h : k ≤ l.length) : (numsTo l k).length = k := by simp [numsTo]; omega

set_option maxHeartbeats 1000000 in
theorem floats_s (A : Option Addr) (n c : Nat) (l : List UInt64) (w : World) (hR : Rd w 1 A n (l.map uv)) (hn : n * 8 ≤ 140737488351232) :
    Calls Try.prog 13 #[.slice A n c] w fun e w' => ∃ v, e = .returned v ∧ OwnR w' w.heap.size v (numsTo l n) ∧ Below w.heap.size w w' := by
  obtain ⟨i0, hi0, hz0, hz1, hz2⟩ := info_parts real_info
  have hl : l.length = n := by simpa using hR.1
  have HL := Lib.hid hl
  clear hl
  have H0 := St.start_lay w []
  go_enter Try.func13, Try.ntmps13
  go_wp2
  have H := (H0.nilRow 0 rfl 22 1).push_mk rfl
  clear H0
  go_loopw [3, 4] (fun v i wr => ∃ j : Nat, j ≤ n ∧ i = .int .i64 (j : Int) ∧ St w [] wr (lay [.row 22 1 v (numsTo l j).length ((numsTo l j).map rv)])) (fun _ i _ => n - (intOf i).toNat)
  case atStart => exact ⟨0, Nat.zero_le _, rfl, by simpa [numsTo] using H⟩
  case round =>
    clear H
    obtain ⟨j, hj, rfl, H⟩ := hrel
    by_cases hlt : j < n
    · obtain ⟨v, hv⟩ : ∃ v, l[j]? = some v := ⟨_, List.getElem?_eq_getElem (by rw [HL.out]; exact hlt)⟩
      obtain ⟨g, o, rfl, -, hc⟩ := (H.arg0 hR).flat (by omega) (by omega)
      have c1 := hc j (uv v) (by rw [List.getElem?_map, hv]; rfl)
      have hm : (numsTo l j).length ≤ n := by rw [numsTo_length (by rw [HL.out]; omega)]; omega
      have HS := Lib.hid (numsTo_succ hv)
      have hs := bits_callE v.toNat
      have hji : (j : Int) < n := by omega
      clear hc hv
      have hr := H.row 0 rfl
      have HA := H.alloc 1 rfl #[rv v.toNat] 22
      go_wp2_with (at_builtin; refine wpList_append_any _ rfl (.tmp 11) (.tmp 17) _ rfl 0 22 i0 _ 1 8 Try.underlying30 hi0 hz0 hz1 hz2 rfl (by omega) u3 (numsTo l j).length ((numsTo l j).map rv) rfl (hr.alloc _) (some ⟨wr.heap.size, 0, none⟩) 1 1 [rv v.toNat] rfl (rd_new0 wr [rv v.toNat] _ 1 rfl) (by simpa using rv_one [v.toNat]) (by simp only [maxLen]; omega) (by omega) (by omega) ?_; intro v3 w3 hown3 hg3 hat3)
      have H3 := ((HA.grow 0 rfl hown3 hg3 hat3)).sub (E' := lay [.row 22 1 v3 ((numsTo l j).length + 1) ((numsTo l j).map rv ++ [rv v.toNat])]) (fun i A hA => by cases i with | zero => exact hA | succ i => simp [lay] at hA)
      go_roundw
      case rel => exact ⟨j + 1, by omega, by go_num, by rw [HS.out]; simpa [Nat.add_assoc] using H3⟩
      case measure => simp [intOf]; omega
    · obtain rfl : j = n := by omega
      have hji : ¬ (j : Int) < j := by omega
      go_wp2
      go_ret
      exact ⟨_, rfl, H.ownRow 0 rfl, H.below⟩

theorem alike_a (x y x' y' : Nat) (w : World) (h1 : absF x = absF x') (h2 : absF y = absF y') : Calls Try.prog 11 #[.complex .f64 x y, .float .f64 x', .float .f64 y'] w fun e w' => e = .returned (.bool true) ∧ w' = w := by
  have a1 := Lib.hid h1
  have a2 := Lib.hid h2
  clear h1 h2
  go_enter Try.func11, Try.ntmps11
  go_wp2_with fail
  refine (same_abs x x' w a1.out).mono ?_
  rintro e w2 ⟨rfl, rfl⟩
  go_wp2_with fail
  refine (same_abs y y' w2 a2.out).mono ?_
  rintro e w3 ⟨rfl, rfl⟩
  go_wp2_with fail
  go_ret
  exact ⟨rfl, rfl⟩

set_option maxHeartbeats 4000000 in
theorem summed_s (A B : Option Addr) (n c d : Nat) (x : List Nat) (w : World) (hA : Rd w 1 A n (x.map fv)) (hB : Rd w 1 B n (x.map fv)) (hn : n ≤ 1000000) :
    Calls Try.prog 20 #[.slice A n c, .slice B n d] w fun e w' => e = .returned (.bool true) ∧ Below w.heap.size w w' := by
  go_enter Try.func20, Try.ntmps20
  go_wp2_with fail
  refine (refSums_a B n d x w hB hn).mono ?_
  rintro e w2 ⟨R, I, hS, he, hb⟩
  have HRI := Lib.hid hS
  rw [rowF_eq, rowF_eq] at he
  subst he
  have HA := ((St.start_lay w []).call hb).allocAt 0 rfl w2.heap.size rfl (rowF R).toArray 33 |>.push_mk rfl |>.allocAt 1 rfl (w2.heap.size + 1) (by simp) (rowF I).toArray 33 |>.push_mk rfl
  rw [rowF_eq, rowF_eq] at HA
  have hst := fun (a : Addr) (b : Nat) (m : Mode) (w : World) => run_store Try.prog w a (.float .f64 b) m rfl
  clear hb hS
  go_wp2_with fail
  refine absorb_calls HA ?_
  clear HA hst
  intro w3 H
  generalize w2.heap.size + 1 = g6 at H ⊢
  generalize w2.heap.size = g5 at H ⊢
  replace H : St w [] w3 (lay [.blk g5 33 [fv (R 0), fv (R 1), fv (R 2), fv (R 3), fv (R 4), fv (R 5), fv (R 6), fv (R 7)], .blk g6 33 [fv (I 0), fv (I 1), fv (I 2), fv (I 3), fv (I 4), fv (I 5), fv (I 6), fv (I 7)]]) := H
  rw [← rowF_eq, ← rowF_eq] at H
  refine (sums_a A n c x w3 (H.arg0 hA) hn).mono ?_
  rintro e w4 ⟨S, hS, he, hb⟩
  have HSS := Lib.hid hS
  rw [cells8] at he
  subst he
  replace H := ((H.call hb).allocAt 2 rfl w4.heap.size rfl (c8 S).toArray 32).push_mk rfl
  have hst := fun (a : Addr) (re im : Nat) (m : Mode) (w : World) => run_store Try.prog w a (.complex .f64 re im) m rfl
  clear hb hS
  unfold c8
  go_wp2
  refine absorb_wp H ?_
  clear H hst
  intro w5 H
  generalize w4.heap.size = g7 at H ⊢
  replace H : St w [] w5 (lay [.blk g5 33 (rowF R), .blk g6 33 (rowF I), .blk g7 32 (c8 S)]) := H
  go_loopw [8] (fun i wr => ∃ k : Nat, k ≤ 8 ∧ i = .int .i64 k ∧ St w [] wr (lay [.blk g5 33 (rowF R), .blk g6 33 (rowF I), .blk g7 32 (c8 S)])) (fun i _ => 8 - (intOf i).toNat)
  case atStart => exact ⟨0, by omega, rfl, H⟩
  case round =>
    clear H
    obtain ⟨k, hk, rfl, H⟩ := hrel
    by_cases hlt : k < 8
    · have hk8 : (k : Int) < 8 := by omega
      have hA1 := Lib.hid (show absF (S k).1 = absF (R k) by rw [(HSS.out k hlt).1, (HRI.out k hlt).1])
      have hA2 := Lib.hid (show absF (S k).2 = absF (I k) by rw [(HSS.out k hlt).2, (HRI.out k hlt).2])
      go_wp2
      have HW := H
      replace H := H.drew
      refine wp_region_held_drew (S := fun w' : World => w'.cell? ⟨g5, k, none⟩ = some (fv (R k)) ∧ w'.cell? ⟨g6, k, none⟩ = some (fv (I k)) ∧ w'.cell? ⟨g7, k, none⟩ = some (.complex .f64 (S k).1 (S k).2)) (by kernel_rfl) ?_ (fun hHeld => ?_)
      · exact ⟨H.cell 0 rfl (rowF_get R (k := k) (by omega)), H.cell 1 rfl (rowF_get I (k := k) (by omega)), H.cell 2 rfl (c8_get S (k := k) (by omega))⟩
      refine takeV 0 rfl (by intro w h; clear h; go_simp; try with_reducible rfl) (by kernel_rfl) (by kernel_rfl) (by kernel_rfl) (by exact fun _ _ _ h => h) (by rfl) (by assumption) ?_
      try simp only [Act.put, List.setIfInBounds_toArray, List.set_cons_zero, List.set_cons_succ]
      refine takeV 1 rfl (by intro w h; clear h; go_simp; try with_reducible rfl) (by kernel_rfl) (by kernel_rfl) (by kernel_rfl) (by exact fun _ _ _ h => h) (by rfl) (by assumption) ?_
      try simp only [Act.put, List.setIfInBounds_toArray, List.set_cons_zero, List.set_cons_succ]
      refine takeV 2 rfl (by intro w h; have hc := h.2.2; clear h; go_simp; try with_reducible rfl) (by kernel_rfl) (by kernel_rfl) (by kernel_rfl) (by exact fun _ _ _ h => h) (by rfl) (by assumption) ?_
      try simp only [Act.put, List.setIfInBounds_toArray, List.set_cons_zero, List.set_cons_succ]
      refine takeV 3 rfl (by intro w h; clear h; go_simp; try with_reducible rfl) (by kernel_rfl) (by kernel_rfl) (by kernel_rfl) (by exact fun _ _ _ h => h) (by rfl) (by assumption) ?_
      try simp only [Act.put, List.setIfInBounds_toArray, List.set_cons_zero, List.set_cons_succ]
      refine takeV 4 rfl (by intro w h; clear h; go_simp; try with_reducible rfl) (by kernel_rfl) (by kernel_rfl) (by kernel_rfl) (by exact fun _ _ _ h => h) (by rfl) (by assumption) ?_
      try simp only [Act.put, List.setIfInBounds_toArray, List.set_cons_zero, List.set_cons_succ]
      refine takeV 5 rfl (by intro w h; have hc := h.1; clear h; go_simp; try with_reducible rfl) (by kernel_rfl) (by kernel_rfl) (by kernel_rfl) (by exact fun _ _ _ h => h) (by rfl) (by assumption) ?_
      try simp only [Act.put, List.setIfInBounds_toArray, List.set_cons_zero, List.set_cons_succ]
      refine takeV 6 rfl (by intro w h; clear h; go_simp; try with_reducible rfl) (by kernel_rfl) (by kernel_rfl) (by kernel_rfl) (by exact fun _ _ _ h => h) (by rfl) (by assumption) ?_
      try simp only [Act.put, List.setIfInBounds_toArray, List.set_cons_zero, List.set_cons_succ]
      refine takeV 7 rfl (by intro w h; clear h; go_simp; try with_reducible rfl) (by kernel_rfl) (by kernel_rfl) (by kernel_rfl) (by exact fun _ _ _ h => h) (by rfl) (by assumption) ?_
      try simp only [Act.put, List.setIfInBounds_toArray, List.set_cons_zero, List.set_cons_succ]
      refine takeV 8 rfl (by intro w h; have hc := h.2.1; clear h; go_simp; try with_reducible rfl) (by kernel_rfl) (by kernel_rfl) (by kernel_rfl) (by exact fun _ _ _ h => h) (by rfl) (by assumption) ?_
      try simp only [Act.put, List.setIfInBounds_toArray, List.set_cons_zero, List.set_cons_succ]
      refine take_call 9 rfl (by kernel_rfl) (fun K hK => ?_)
      try go_simp
      refine (alike_a _ _ _ _ _ hA1.out hA2.out).mono ?_
      rintro e wx ⟨rfl, rfl⟩
      refine hK.out _ _ ?_ (fun hHeld => ?_)
      · exact ⟨H.cell 0 rfl (rowF_get R (k := k) (by omega)), H.cell 1 rfl (rowF_get I (k := k) (by omega)), H.cell 2 rfl (c8_get S (k := k) (by omega))⟩
      clear hK K
      try simp only [Act.put, List.setIfInBounds_toArray, List.set_cons_zero, List.set_cons_succ]
      refine takeV 10 rfl (by intro w h; clear h; go_simp; try with_reducible rfl) (by kernel_rfl) (by kernel_rfl) (by kernel_rfl) (by exact fun _ _ _ h => h) (by rfl) (by assumption) ?_
      try simp only [Act.put, List.setIfInBounds_toArray, List.set_cons_zero, List.set_cons_succ]
      refine takeV 11 rfl (by intro w h; clear h; go_simp; try with_reducible rfl) (by kernel_rfl) (by kernel_rfl) (by kernel_rfl) (by exact fun _ _ _ h => h) (by rfl) (by assumption) ?_
      try simp only [Act.put, List.setIfInBounds_toArray, List.set_cons_zero, List.set_cons_succ]
      refine takeV 12 rfl (by intro w h; clear h; go_simp; try with_reducible rfl) (by kernel_rfl) (by kernel_rfl) (by kernel_rfl) (by exact fun _ _ _ h => h) (by rfl) (by assumption) ?_
      try simp only [Act.put, List.setIfInBounds_toArray, List.set_cons_zero, List.set_cons_succ]
      refine takeV 13 rfl (by intro w h; clear h; go_simp; try with_reducible rfl) (by kernel_rfl) (by kernel_rfl) (by kernel_rfl) (by exact fun _ _ _ h => h) (by rfl) (by assumption) ?_
      try simp only [Act.put, List.setIfInBounds_toArray, List.set_cons_zero, List.set_cons_succ]
      refine takeV 14 rfl (by intro w h; have hc := h.1; clear h; go_simp; try with_reducible rfl) (by kernel_rfl) (by kernel_rfl) (by kernel_rfl) (by exact fun _ _ _ h => h) (by rfl) (by assumption) ?_
      try simp only [Act.put, List.setIfInBounds_toArray, List.set_cons_zero, List.set_cons_succ]
      refine takeV 15 rfl (by intro w h; clear h; go_simp; try with_reducible rfl) (by kernel_rfl) (by kernel_rfl) (by kernel_rfl) (by exact fun _ _ _ h => h) (by rfl) (by assumption) ?_
      try simp only [Act.put, List.setIfInBounds_toArray, List.set_cons_zero, List.set_cons_succ]
      refine takeV 16 rfl (by intro w h; clear h; go_simp; try with_reducible rfl) (by kernel_rfl) (by kernel_rfl) (by kernel_rfl) (by exact fun _ _ _ h => h) (by rfl) (by assumption) ?_
      try simp only [Act.put, List.setIfInBounds_toArray, List.set_cons_zero, List.set_cons_succ]
      refine takeV 17 rfl (by intro w h; have hc := h.2.1; clear h; go_simp; try with_reducible rfl) (by kernel_rfl) (by kernel_rfl) (by kernel_rfl) (by exact fun _ _ _ h => h) (by rfl) (by assumption) ?_
      try simp only [Act.put, List.setIfInBounds_toArray, List.set_cons_zero, List.set_cons_succ]
      refine takeV 18 rfl (by intro w h; clear h; go_simp; try with_reducible rfl) (by kernel_rfl) (by kernel_rfl) (by kernel_rfl) (by exact fun _ _ _ h => h) (by rfl) (by assumption) ?_
      try simp only [Act.put, List.setIfInBounds_toArray, List.set_cons_zero, List.set_cons_succ]
      refine takeV 20 rfl (by intro w h; clear h; go_simp; try with_reducible rfl) (by kernel_rfl) (by kernel_rfl) (by kernel_rfl) (by exact fun _ _ _ h => h) (by rfl) (by assumption) ?_
      try simp only [Act.put, List.setIfInBounds_toArray, List.set_cons_zero, List.set_cons_succ]
      refine takeV 21 rfl (by intro w h; clear h; go_simp; try with_reducible rfl) (by kernel_rfl) (by kernel_rfl) (by kernel_rfl) (by exact fun _ _ _ h => h) (by rfl) (by assumption) ?_
      try simp only [Act.put, List.setIfInBounds_toArray, List.set_cons_zero, List.set_cons_succ]
      refine takeV 22 rfl (by intro w h; have hc := h.1; clear h; go_simp; try with_reducible rfl) (by kernel_rfl) (by kernel_rfl) (by kernel_rfl) (by exact fun _ _ _ h => h) (by rfl) (by assumption) ?_
      try simp only [Act.put, List.setIfInBounds_toArray, List.set_cons_zero, List.set_cons_succ]
      refine takeV 23 rfl (by intro w h; clear h; go_simp; try with_reducible rfl) (by kernel_rfl) (by kernel_rfl) (by kernel_rfl) (by exact fun _ _ _ h => h) (by rfl) (by assumption) ?_
      try simp only [Act.put, List.setIfInBounds_toArray, List.set_cons_zero, List.set_cons_succ]
      refine takeV 24 rfl (by intro w h; clear h; go_simp; try with_reducible rfl) (by kernel_rfl) (by kernel_rfl) (by kernel_rfl) (by exact fun _ _ _ h => h) (by rfl) (by assumption) ?_
      try simp only [Act.put, List.setIfInBounds_toArray, List.set_cons_zero, List.set_cons_succ]
      refine takeV 25 rfl (by intro w h; have hc := h.2.1; clear h; go_simp; try with_reducible rfl) (by kernel_rfl) (by kernel_rfl) (by kernel_rfl) (by exact fun _ _ _ h => h) (by rfl) (by assumption) ?_
      try simp only [Act.put, List.setIfInBounds_toArray, List.set_cons_zero, List.set_cons_succ]
      refine take_call 19 rfl (by kernel_rfl) (fun K hK => ?_)
      try go_simp
      refine (power_a (R k) (I k) _).mono ?_
      rintro e wx ⟨r, nr, rfl, Hr, rfl⟩
      replace H := H.drewN nr
      refine hK.out _ _ ?_ (fun hHeld => ?_)
      · exact ⟨H.cell 0 rfl (rowF_get R (k := k) (by omega)), H.cell 1 rfl (rowF_get I (k := k) (by omega)), H.cell 2 rfl (c8_get S (k := k) (by omega))⟩
      clear hK K
      try simp only [Act.put, List.setIfInBounds_toArray, List.set_cons_zero, List.set_cons_succ]
      refine take_call 26 rfl (by kernel_rfl) (fun K hK => ?_)
      try go_simp
      refine (refPower_a (R k) (I k) _).mono ?_
      rintro e wx ⟨s, ns, rfl, Hs, rfl⟩
      replace H := H.drewN ns
      refine hK.out _ _ ?_ (fun hHeld => ?_)
      · exact ⟨H.cell 0 rfl (rowF_get R (k := k) (by omega)), H.cell 1 rfl (rowF_get I (k := k) (by omega)), H.cell 2 rfl (c8_get S (k := k) (by omega))⟩
      clear hK K
      try simp only [Act.put, List.setIfInBounds_toArray, List.set_cons_zero, List.set_cons_succ]
      refine take_call 27 rfl (by kernel_rfl) (fun K hK => ?_)
      try go_simp
      refine (same_abs r s _ (by rw [Hr.out, Hs.out])).mono ?_
      rintro e wx ⟨rfl, rfl⟩
      refine hK.out _ _ ?_ (fun hHeld => ?_)
      · exact ⟨H.cell 0 rfl (rowF_get R (k := k) (by omega)), H.cell 1 rfl (rowF_get I (k := k) (by omega)), H.cell 2 rfl (c8_get S (k := k) (by omega))⟩
      clear hK K
      try simp only [Act.put, List.setIfInBounds_toArray, List.set_cons_zero, List.set_cons_succ]
      refine takeV 28 rfl (by intro w h; clear h; go_simp; try with_reducible rfl) (by kernel_rfl) (by kernel_rfl) (by kernel_rfl) (by exact fun _ _ _ h => h) (by rfl) (by assumption) ?_
      try simp only [Act.put, List.setIfInBounds_toArray, List.set_cons_zero, List.set_cons_succ]
      refine takeV 29 rfl (by intro w h; clear h; go_simp; try with_reducible rfl) (by kernel_rfl) (by kernel_rfl) (by kernel_rfl) (by exact fun _ _ _ h => h) (by rfl) (by assumption) ?_
      try simp only [Act.put, List.setIfInBounds_toArray, List.set_cons_zero, List.set_cons_succ]
      refine wpAnyH_done (by kernel_rfl) ?_ _
      clear hHeld
      go_wp2
      go_roundw
      case rel => exact ⟨k + 1, by omega, by go_num, HW.drewN _⟩
      case measure => simp [intOf]; omega
    · obtain rfl : k = 8 := by omega
      have C1 := fun w h => refPeak_a B n d x w h hn
      have C2 := fun w h => peak_a A n c x w h hn
      generalize bestA (powS x n) 5 = best at C1 C2
      have D1 := Lib.hid C1
      have D2 := Lib.hid C2
      clear C1 C2
      go_wp2_with fail
      refine (D1.out wr (H.arg0 hB)).mono ?_
      rintro e w6 ⟨r, rfl, Hr, hb⟩
      replace H := H.call hb
      clear hb
      go_wp2_with fail
      refine (D2.out w6 (H.arg0 hA)).mono ?_
      rintro e w7 ⟨s, rfl, Hs, hb⟩
      replace H := H.call hb
      clear hb
      go_wp2_with fail
      refine (same_abs s r w7 (by rw [Hr.out, Hs.out])).mono ?_
      rintro e w8 ⟨rfl, rfl⟩
      go_wp2
      go_ret
      exact ⟨rfl, H.below⟩

end Go.Proofs.Ytgaghggnjemgoaa
