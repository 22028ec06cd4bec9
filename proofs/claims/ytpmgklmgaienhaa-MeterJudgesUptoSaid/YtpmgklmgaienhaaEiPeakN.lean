/- Peak of a row of one NaN. -/
import Derived.Test.YtpmgklmgaienhaaEiAny
import Derived.Test.YtpmgklmgaienhaaHeld
namespace Go.Proofs.Ytpmgklmgaienhaa
open Go.RowKit
set_option linter.unusedVariables false

theorem absF_none {r : Nat} (h : absF r = none) : isN r = true := by
  unfold absF at h
  cases hr : isN r with
  | true => rfl
  | false => rw [hr] at h; simp at h
theorem absF_of {r : Nat} (h : isN r = true) : absF r = none := by unfold absF; rw [h]; rfl
theorem order_nan {r : Nat} (s : Nat) (h : isN r = true) : FloatKind.f64.format.order r s = none := by
  unfold isN at h
  show (FloatKind.f64.format.read r).order (FloatKind.f64.format.read s) = none
  cases hr : FloatKind.f64.format.read r with
  | number a b c => rw [hr] at h; cases h
  | infinity a => rw [hr] at h; cases h
  | nan a b => cases FloatKind.f64.format.read s <;> rfl
theorem power_n (a b : Nat) (w : World) (ha : isN a = true) : Calls Try.prog 61 #[.complex .f64 a b] w fun e w' => ∃ r n, e = .returned (.float .f64 r) ∧ Hid (isN r = true) ∧ w' = w.drewN n := by
  obtain ⟨p, n1, m1, e1⟩ := run_float_any (P := Try.prog) w .mul rfl 25 a a
  obtain ⟨q, n2, m2, e2⟩ := run_float_any (P := Try.prog) (w.drewN n1) .mul rfl 25 b b
  obtain ⟨r, n3, m3, e3⟩ := run_float_any (P := Try.prog) (w.drewN (n1 + n2)) .add rfl 25 p q
  have h : Hid (isN r = true) := by
    rw [absF_of ha] at e1
    have h1 : absF p = none := e1
    rw [h1] at e3
    exact absF_none e3
  clear e1 e2 e3 ha
  go_enter Try.func61, Try.ntmps61
  go_wp2
  go_ret
  exact ⟨r, _, rfl, h, rfl⟩

set_option maxRecDepth 100000 in
set_option maxHeartbeats 4000000 in
theorem peak_n (A : Option Addr) (c v : Nat) (w : World) (hR : Rd w 1 A 1 ([v].map fv)) (hv : isN v = true) :
    Calls Try.prog 49 #[.slice A 1 c] w fun e w' => ∃ r, e = .returned (.tuple #[.int .i64 1, .float .f64 r]) ∧ Hid (isN r = true) ∧ Below w.heap.size w w' := by
  go_enter Try.func49, Try.ntmps49
  go_wp2_with fail
  refine (sums_a A 1 c [v] w hR (by omega)).mono ?_
  rintro e w2 ⟨S, hS, he, hb⟩
  have hN : ∀ k, k < 8 → isN (S k).1 = true := fun k hk => absF_none (by
    have e : (sumA k [v] 1).1 = opA .add (some 0) (opA .mul (absF v) (some (rootRe (cix k 0)))) := rfl
    rw [(hS k hk).1, e, absF_of hv]
    rfl)
  have HN := Lib.hid hN
  clear hN hS hv
  rw [cells8] at he
  subst he
  have HA := ((St.start_lay w []).call hb).allocAt 0 rfl w2.heap.size rfl (c8 S).toArray 76 |>.push_mk rfl
  have hst := fun (a : Addr) (re im : Nat) (m : Mode) (w : World) => run_store Try.prog w a (.complex .f64 re im) m rfl
  unfold c8
  go_wp2
  refine absorb_wp HA ?_
  clear HA hst
  intro w3 H
  generalize w2.heap.size = g at H ⊢
  replace H : St w [] w3 (lay [.blk g 76 (c8 S)]) := H
  go_loopw [5, 6] (fun v i wr => ∃ k : Nat, 2 ≤ k ∧ k ≤ 5 ∧ i = .int .i64 k ∧ v = .int .i64 1 ∧ St w [] wr (lay [.blk g 76 (c8 S)])) (fun _ i _ => 6 - (intOf i).toNat)
  case atStart => exact ⟨2, by omega, by omega, rfl, rfl, H⟩
  case round =>
    clear H
    obtain ⟨k, hk2, hk, rfl, rfl, H⟩ := hrel
    have k8 : (k : Int) < 8 := by omega
    by_cases hlt : k < 5
    · have hk4 : (k : Int) ≤ 4 := by omega
      have hn1 := Lib.hid (HN.out k (by omega))
      have hn2 := Lib.hid (HN.out 1 (by omega))
      go_wp2
      have HW := H
      replace H := H.drew
      refine wp_region_held_drew (S := fun w' : World => w'.cell? ⟨g, k, none⟩ = some (.complex .f64 (S k).1 (S k).2) ∧ w'.cell? ⟨g, 1, none⟩ = some (.complex .f64 (S 1).1 (S 1).2)) (by kernel_rfl) ?_ (fun hHeld => ?_)
      · exact ⟨H.cell 0 rfl (c8_get S (k := k) (by omega)), H.cell 0 rfl (c8_get S (k := 1) (by omega))⟩
      refine take_pure 0 (.int .i64 (k : Int)) rfl (by kernel_rfl) (by kernel_rfl) (by kernel_rfl) (fun _ _ _ h => h) rfl (by intro w hSw; go_simp; try with_reducible rfl) (by assumption) ?_
      try simp only [Act.put, List.setIfInBounds_toArray, List.set_cons_zero, List.set_cons_succ]
      refine take_pure 1 (.pointer (some ⟨g, k, none⟩)) rfl (by kernel_rfl) (by kernel_rfl) (by kernel_rfl) (fun _ _ _ h => h) rfl (by intro w hSw; go_simp; try with_reducible rfl) (by assumption) ?_
      try simp only [Act.put, List.setIfInBounds_toArray, List.set_cons_zero, List.set_cons_succ]
      refine take_pure 2 (.complex .f64 (S k).1 (S k).2) rfl (by kernel_rfl) (by kernel_rfl) (by kernel_rfl) (fun _ _ _ h => h) rfl (by intro w h; have hc := h.1; clear h; go_simp; try with_reducible rfl) (by assumption) ?_
      try simp only [Act.put, List.setIfInBounds_toArray, List.set_cons_zero, List.set_cons_succ]
      refine take_pure 4 (.int .i64 1) rfl (by kernel_rfl) (by kernel_rfl) (by kernel_rfl) (fun _ _ _ h => h) rfl (by intro w hSw; go_simp; try with_reducible rfl) (by assumption) ?_
      try simp only [Act.put, List.setIfInBounds_toArray, List.set_cons_zero, List.set_cons_succ]
      refine take_pure 5 (.pointer (some ⟨g, 1, none⟩)) rfl (by kernel_rfl) (by kernel_rfl) (by kernel_rfl) (fun _ _ _ h => h) rfl (by intro w hSw; go_simp; try with_reducible rfl) (by assumption) ?_
      try simp only [Act.put, List.setIfInBounds_toArray, List.set_cons_zero, List.set_cons_succ]
      refine take_pure 6 (.complex .f64 (S 1).1 (S 1).2) rfl (by kernel_rfl) (by kernel_rfl) (by kernel_rfl) (fun _ _ _ h => h) rfl (by intro w h; have hc := h.2; clear h; go_simp; try with_reducible rfl) (by assumption) ?_
      try simp only [Act.put, List.setIfInBounds_toArray, List.set_cons_zero, List.set_cons_succ]
      refine take_call 3 rfl (by kernel_rfl) (fun K hK => ?_)
      try go_simp
      refine (power_n (S k).1 (S k).2 _ hn1.out).mono ?_
      rintro e wx ⟨r, nr, rfl, Hr, rfl⟩
      replace H := H.drewN nr
      refine hK.out _ _ ?_ (fun hHeld => ?_)
      · exact ⟨H.cell 0 rfl (c8_get S (k := k) (by omega)), H.cell 0 rfl (c8_get S (k := 1) (by omega))⟩
      clear hK K
      try simp only [Act.put, List.setIfInBounds_toArray, List.set_cons_zero, List.set_cons_succ]
      refine take_call 7 rfl (by kernel_rfl) (fun K hK => ?_)
      try go_simp
      refine (power_n (S 1).1 (S 1).2 _ hn2.out).mono ?_
      rintro e wx ⟨s, ns, rfl, Hs, rfl⟩
      replace H := H.drewN ns
      refine hK.out _ _ ?_ (fun hHeld => ?_)
      · exact ⟨H.cell 0 rfl (c8_get S (k := k) (by omega)), H.cell 0 rfl (c8_get S (k := 1) (by omega))⟩
      clear hK K
      try simp only [Act.put, List.setIfInBounds_toArray, List.set_cons_zero, List.set_cons_succ]
      have ho := order_nan s Hr.out
      refine take_pure 8 (.bool false) rfl (by kernel_rfl) (by kernel_rfl) (by kernel_rfl) (fun _ _ _ h => h) rfl (by intro w hSw; go_simp; try with_reducible rfl) (by assumption) ?_
      try simp only [Act.put, List.setIfInBounds_toArray, List.set_cons_zero, List.set_cons_succ]
      refine wpAnyH_done (by kernel_rfl) ?_ _
      clear hHeld ho
      go_wp2
      go_roundw
      case rel => exact ⟨k + 1, by omega, by omega, by go_num, rfl, HW.drewN _⟩
      case measure => simp [intOf]; omega
    · obtain rfl : k = 5 := by omega
      have hk4 : ¬ ((5 : Nat) : Int) ≤ 4 := by omega
      have c2 := H.cell 0 rfl (c8_get S (k := 1) (by omega))
      go_wp2_with fail
      refine (power_n (S 1).1 (S 1).2 wr (HN.out 1 (by omega))).mono ?_
      rintro e w4 ⟨r, n, rfl, Hr, rfl⟩
      go_wp2
      go_ret2
      exact ⟨r, rfl, Hr, (H.drewN n).below⟩
end Go.Proofs.Ytpmgklmgaienhaa
