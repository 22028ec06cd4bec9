/- Peak of any row. -/
import Derived.Test.YtpmgklmgaienhaaEiPow

namespace Go.Proofs.Ytpmgklmgaienhaa
open Go.RowKit
set_option linter.unusedVariables false

theorem order_nan2 {r : Nat} (s : Nat) (h : isN r = true) : FloatKind.f64.format.order s r = none := by
  unfold isN at h
  show (FloatKind.f64.format.read s).order (FloatKind.f64.format.read r) = none
  cases hr : FloatKind.f64.format.read r with
  | number a b c => rw [hr] at h; cases h
  | infinity a => rw [hr] at h; cases h
  | nan a b => cases FloatKind.f64.format.read s <;> rfl

def gtA : Option Nat → Option Nat → Bool
  | some x, some y => FloatKind.f64.format.order x y == some Ordering.gt
  | _, _ => false

theorem gtA_eq (r s : Nat) : (FloatKind.f64.format.order r s == some Ordering.gt) = gtA (absF r) (absF s) := by
  unfold absF
  cases hr : isN r with
  | true => rw [order_nan s hr]; rfl
  | false =>
    cases hs : isN s with
    | true => rw [order_nan2 r hs]; rfl
    | false => rfl

def bestA (P : Nat → Option Nat) : Nat → Nat
  | 0 => 1
  | k + 1 => if k < 2 then 1 else if gtA (P k) (P (bestA P k)) = true then k else bestA P k

def powS (x : List Nat) (n k : Nat) : Option Nat := powA (sumA k x n).1 (sumA k x n).2

set_option maxRecDepth 100000 in
set_option maxHeartbeats 4000000 in
theorem peak_a (A : Option Addr) (n c : Nat) (x : List Nat) (w : World) (hR : Rd w 1 A n (x.map fv)) (hn : n ≤ 1000000) :
    Calls Try.prog 49 #[.slice A n c] w fun e w' => ∃ r, e = .returned (.tuple #[.int .i64 (bestA (powS x n) 5 : Nat), .float .f64 r]) ∧ Hid (absF r = powS x n (bestA (powS x n) 5)) ∧ Below w.heap.size w w' := by
  obtain ⟨P, hP⟩ : ∃ P, Hid (powS x n = P) := ⟨_, rfl⟩
  rw [hP.out]
  go_enter Try.func49, Try.ntmps49
  go_wp2_with fail
  refine (sums_a A n c x w hR hn).mono ?_
  rintro e w2 ⟨S, hS, he, hb⟩
  have hN : ∀ k, k < 8 → powA (absF (S k).1) (absF (S k).2) = P k := fun k hk => by rw [← hP.out]; unfold powS; rw [(hS k hk).1, (hS k hk).2]
  have HN := Lib.hid hN
  clear hN hS
  rw [cells8] at he
  subst he
  have HA := ((St.start_lay w []).call hb).allocAt 0 rfl w2.heap.size rfl (c8 S).toArray 76 |>.push_mk rfl
  have hst := fun (a : Addr) (re im : Nat) (m : Mode) (w : World) => run_store Try.prog w a (.complex .f64 re im) m rfl
  unfold c8
  go_wp2
  refine absorb_wp HA ?_
  clear HA hst
  intro w3 H
  generalize w2.heap.size = g at H ⊢
  replace H : St w [] w3 (lay [.blk g 76 (c8 S)]) := H
  go_loopw [5, 6] (fun v i wr => ∃ k b : Nat, 2 ≤ k ∧ k ≤ 5 ∧ b < 5 ∧ i = .int .i64 k ∧ v = .int .i64 b ∧ Hid (b = bestA P k) ∧ St w [] wr (lay [.blk g 76 (c8 S)])) (fun _ i _ => 6 - (intOf i).toNat)
  case atStart => exact ⟨2, 1, by omega, by omega, by omega, rfl, rfl, rfl, H⟩
  case round =>
    clear H
    obtain ⟨k, b, hk2, hk, hb5, rfl, rfl, HB, H⟩ := hrel
    have b8 : (b : Int) < 8 := by omega
    have k8 : (k : Int) < 8 := by omega
    by_cases hlt : k < 5
    · have hk4 : (k : Int) ≤ 4 := by omega
      have hn1 := Lib.hid (HN.out k (by omega))
      have hn2 := Lib.hid (HN.out b (by omega))
      go_wp2
      have HW := H
      replace H := H.drew
      refine wp_region_held_drew (S := fun w' : World => w'.cell? ⟨g, k, none⟩ = some (.complex .f64 (S k).1 (S k).2) ∧ w'.cell? ⟨g, b, none⟩ = some (.complex .f64 (S b).1 (S b).2)) (by kernel_rfl) ?_ (fun hHeld => ?_)
      · exact ⟨H.cell 0 rfl (c8_get S (k := k) (by omega)), H.cell 0 rfl (c8_get S (k := b) (by omega))⟩
      refine take_pure 0 (.int .i64 (k : Int)) rfl (by kernel_rfl) (by kernel_rfl) (by kernel_rfl) (fun _ _ _ h => h) rfl (by intro w hSw; go_simp; try with_reducible rfl) (by assumption) ?_
      try simp only [Act.put, List.setIfInBounds_toArray, List.set_cons_zero, List.set_cons_succ]
      refine take_pure 1 (.pointer (some ⟨g, k, none⟩)) rfl (by kernel_rfl) (by kernel_rfl) (by kernel_rfl) (fun _ _ _ h => h) rfl (by intro w hSw; go_simp; try with_reducible rfl) (by assumption) ?_
      try simp only [Act.put, List.setIfInBounds_toArray, List.set_cons_zero, List.set_cons_succ]
      refine take_pure 2 (.complex .f64 (S k).1 (S k).2) rfl (by kernel_rfl) (by kernel_rfl) (by kernel_rfl) (fun _ _ _ h => h) rfl (by intro w h; have hc := h.1; clear h; go_simp; try with_reducible rfl) (by assumption) ?_
      try simp only [Act.put, List.setIfInBounds_toArray, List.set_cons_zero, List.set_cons_succ]
      refine take_pure 4 (.int .i64 (b : Int)) rfl (by kernel_rfl) (by kernel_rfl) (by kernel_rfl) (fun _ _ _ h => h) rfl (by intro w hSw; go_simp; try with_reducible rfl) (by assumption) ?_
      try simp only [Act.put, List.setIfInBounds_toArray, List.set_cons_zero, List.set_cons_succ]
      refine take_pure 5 (.pointer (some ⟨g, b, none⟩)) rfl (by kernel_rfl) (by kernel_rfl) (by kernel_rfl) (fun _ _ _ h => h) rfl (by intro w hSw; go_simp; try with_reducible rfl) (by assumption) ?_
      try simp only [Act.put, List.setIfInBounds_toArray, List.set_cons_zero, List.set_cons_succ]
      refine take_pure 6 (.complex .f64 (S b).1 (S b).2) rfl (by kernel_rfl) (by kernel_rfl) (by kernel_rfl) (fun _ _ _ h => h) rfl (by intro w h; have hc := h.2; clear h; go_simp; try with_reducible rfl) (by assumption) ?_
      try simp only [Act.put, List.setIfInBounds_toArray, List.set_cons_zero, List.set_cons_succ]
      refine take_call 3 rfl (by kernel_rfl) (fun K hK => ?_)
      try go_simp
      refine (power_a (S k).1 (S k).2 _).mono ?_
      rintro e wx ⟨r, nr, rfl, Hr, rfl⟩
      replace H := H.drewN nr
      refine hK.out _ _ ?_ (fun hHeld => ?_)
      · exact ⟨H.cell 0 rfl (c8_get S (k := k) (by omega)), H.cell 0 rfl (c8_get S (k := b) (by omega))⟩
      clear hK K
      try simp only [Act.put, List.setIfInBounds_toArray, List.set_cons_zero, List.set_cons_succ]
      refine take_call 7 rfl (by kernel_rfl) (fun K hK => ?_)
      try go_simp
      refine (power_a (S b).1 (S b).2 _).mono ?_
      rintro e wx ⟨s, ns, rfl, Hs, rfl⟩
      replace H := H.drewN ns
      refine hK.out _ _ ?_ (fun hHeld => ?_)
      · exact ⟨H.cell 0 rfl (c8_get S (k := k) (by omega)), H.cell 0 rfl (c8_get S (k := b) (by omega))⟩
      clear hK K
      try simp only [Act.put, List.setIfInBounds_toArray, List.set_cons_zero, List.set_cons_succ]
      have ho := gtA_eq r s
      rw [Hr.out, Hs.out, hn1.out, hn2.out] at ho
      by_cases hg : gtA (P k) (P b) = true
      · rw [hg] at ho
        refine take_pure 8 (.bool true) rfl (by kernel_rfl) (by kernel_rfl) (by kernel_rfl) (fun _ _ _ h => h) rfl (by intro w hSw; go_simp; try with_reducible rfl) (by assumption) ?_
        try simp only [Act.put, List.setIfInBounds_toArray, List.set_cons_zero, List.set_cons_succ]
        refine wpAnyH_done (by kernel_rfl) ?_ _
        clear hHeld ho
        go_wp2
        go_roundw
        case rel => exact ⟨k + 1, k, by omega, by omega, by omega, by go_num, rfl, by unfold Hid bestA; rw [if_neg (by omega), ← HB.out, if_pos hg], HW.drewN _⟩
        case measure => simp [intOf]; omega
      · have hg0 : gtA (P k) (P b) = false := by simpa using hg
        rw [hg0] at ho
        refine take_pure 8 (.bool false) rfl (by kernel_rfl) (by kernel_rfl) (by kernel_rfl) (fun _ _ _ h => h) rfl (by intro w hSw; go_simp; try with_reducible rfl) (by assumption) ?_
        try simp only [Act.put, List.setIfInBounds_toArray, List.set_cons_zero, List.set_cons_succ]
        refine wpAnyH_done (by kernel_rfl) ?_ _
        clear hHeld ho
        go_wp2
        go_roundw
        case rel => exact ⟨k + 1, b, by omega, by omega, by omega, by go_num, rfl, by unfold Hid bestA; rw [if_neg (by omega), ← HB.out, if_neg hg], HW.drewN _⟩
        case measure => simp [intOf]; omega
    · obtain rfl : k = 5 := by omega
      have hk4 : ¬ ((5 : Nat) : Int) ≤ 4 := by omega
      have c2 := H.cell 0 rfl (c8_get S (k := b) (by omega))
      go_wp2_with fail
      have hn2 := Lib.hid (HN.out b (by omega))
      refine (power_a (S b).1 (S b).2 wr).mono ?_
      rintro e w4 ⟨r, nr, rfl, Hr, rfl⟩
      go_wp2
      go_ret2
      exact ⟨r, by rw [← HB.out]; rfl, by unfold Hid; rw [Hr.out, hn2.out, ← HB.out], (H.drewN _).below⟩

end Go.Proofs.Ytpmgklmgaienhaa
