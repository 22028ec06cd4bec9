/- Pad, in shake and in the document. -/
import Derived.Test.YthdfbnababmanaaShNum
namespace Go.Proofs.Ythdfbnababmanaa
open Go.RowKit
set_option linter.unusedVariables false

theorem leftB_le {n : Nat} (h : n ≤ 9223372036854775807) : (leftB n).length ≤ 9 := by unfold leftB; have := numB_le h; simp; omega
theorem tmodN (a b : Nat) : Int.tmod (a : Int) (b : Int) = ((a % b : Nat) : Int) := by
  rw [Int.tmod_eq_emod_of_nonneg (by omega)]
  exact (Int.natCast_emod a b).symm

theorem bne_nat {R : Nat} (h : ¬ R = 0) : ((R : Int) != 0) = true := by simp only [bne_iff_ne, ne_eq]; omega
def lenLeft (M Z : Nat) : Value → Nat
  | .slice _ n _ => M + Z - n
  | _ => 0
theorem pad_key (M q j : Nat) (hq : 1 ≤ q) (hj : j ≤ (q - M % q) % q) : ((M + j) % q = 0 → j = (q - M % q) % q) ∧ (j = (q - M % q) % q → (M + j) % q = 0) := by
  have hr : M % q < q := Nat.mod_lt _ (by omega)
  have e : (M + j) % q = (M % q + j) % q := by rw [Nat.mod_add_mod]
  rw [e]
  generalize M % q = r at *
  by_cases h0 : r = 0
  · subst h0
    rw [Nat.sub_zero, Nat.mod_self] at hj ⊢
    obtain rfl : j = 0 := by omega
    simp
  · have h1 : (q - r) % q = q - r := Nat.mod_eq_of_lt (by omega)
    rw [h1] at hj ⊢
    constructor
    · intro h
      by_cases h2 : r + j < q
      · rw [Nat.mod_eq_of_lt h2] at h; omega
      · omega
    · rintro rfl
      rw [show r + (q - r) = q by omega, Nat.mod_self]

set_option maxRecDepth 100000 in
set_option maxHeartbeats 1000000 in
theorem pad_s (A : Option Addr) (n c : Nat) (l : List UInt8) (W : Int) (w : World) (hd : Rd w 1 A n (l.map vb)) (hn : n ≤ 140737488351232) :
    Calls Try.prog 13 #[.slice A n c, .int .i64 W] w fun e w' => ∃ v, e = .returned (.tuple #[v, .int .i64 (padE W)]) ∧ OwnB w' w.heap.size v (padI l W) ∧ Below w.heap.size w w' := by
  obtain ⟨i0, hi0, hz0, hz1, hz2⟩ := info_parts u8_info
  unfold padE padI
  by_cases h : padOk W
  · rw [if_pos h, if_pos h]
    obtain ⟨h1, h2⟩ := h
    obtain ⟨q, rfl⟩ := Int.eq_ofNat_of_zero_le (by omega : 0 ≤ W)
    rw [Int.toNat_natCast]
    have c1 : ¬ ((q : Int) < 1) := by omega
    have c2 : ¬ ((256 : Int) < q) := by omega
    have hl : l.length = n := by simpa using hd.1
    obtain ⟨T, HT⟩ : ∃ T, Hid (T = padB l q) := ⟨_, rfl⟩
    rw [← HT.out]
    have HL := Lib.hid hl
    clear hl
    go_enter Try.func13, Try.ntmps13
    go_wp2_with fail
    refine (left_s (q : Int) w (by omega)).mono ?_
    rintro e w1 ⟨v1, rfl, ho, hb⟩
    have hpos : ¬ ((q : Int) < 0) := by omega
    unfold leftI at ho
    rw [if_neg hpos, Int.toNat_natCast] at ho
    have hle := leftB_le (n := q) (by omega)
    have H := ((St.start_lay w []).pushOwnB 0 rfl ho hb).push_mk rfl
    unfold padB padN at HT
    generalize leftB q = nb at ho H hle HT
    obtain ⟨B, k, d, rfl, hk, -⟩ := ho.shape
    replace H := H.shape_row 0 rfl (n' := k) hk.out.symm rfl
    have hkl : k ≤ 9 := by rw [hk.out]; exact hle
    have hr0 := H.row 0 rfl
    have hdd := H.arg0 hd
    clear ho hb hle hpos
    go_wp2_with (at_builtin; refine hold_here ?_)
    refine Held.go ?_
    refine wpList_append_any _ rfl (.tmp 19) (.tmp 20) _ rfl 0 5 i0 (.int .u8 0) 1 1 Try.underlying22 hi0 hz0 hz1 hz2 rfl (by omega) (.slice B k d) k (nb.map vb) rfl hr0 A n c (l.map vb) rfl hdd (vb_one _) (by simp only [maxLen]; omega) (by omega) (by omega) ?_
    intro v3 w3 hown3 hg3 hat3
    replace H := (H.grow 0 rfl hown3 hg3 hat3).upd_mk (by simp)
    obtain ⟨M, HM⟩ : ∃ M, Hid (k + n = M) := ⟨_, rfl⟩
    have HLN : Hid ((nb ++ l).length = M) := by unfold Hid; rw [List.length_append, HL.out, ← hk.out, HM.out]
    replace H := H.shape_row 0 rfl (n' := M) (xs' := (nb ++ l).map vb) HM.out (by simp)
    replace H : St w [] w3 (lay [.row 5 1 v3 M ((nb ++ l).map vb)]) := H
    generalize nb ++ l = xs at H HT HLN
    obtain ⟨B3, d3, rfl, -⟩ := row_form (H.row 0 rfl)
    clear hr0 hdd hown3 hg3 hat3 hk
    obtain ⟨R, HR⟩ : ∃ R, Hid (M % q = R) := ⟨_, rfl⟩
    obtain ⟨S, HS⟩ : ∃ S, Hid (q - R = S) := ⟨_, rfl⟩
    obtain ⟨Z, HZ⟩ : ∃ Z, Hid (S % q = Z) := ⟨_, rfl⟩
    have hRq : R < q := by rw [← HR.out]; exact Nat.mod_lt _ (by omega)
    have hZq : Z < q := by rw [← HZ.out]; exact Nat.mod_lt _ (by omega)
    have hSq : (q : Int) - R = S := by have := HS.out; omega
    have hSl : S ≤ 256 := by have := HS.out; omega
    have hMl : M ≤ 140737488351300 := by have := HM.out; omega
    have t4 : ¬ (q : Int) = 0 := by omega
    have t5 : wrap64 (R : Int) = R := IntWalk.wrap64_in _ (by omega)
    have t6 : wrap64 (Z : Int) = Z := IntWalk.wrap64_in _ (by omega)
    have t1 : Int.tmod (M : Int) (q : Int) = (R : Int) := by rw [tmodN, HR.out]
    have t2 : wrap64 ((q : Int) - R) = (S : Int) := by rw [hSq, IntWalk.wrap64_in _ (by omega)]
    have t2' : IntKind.i64.wrap ((q : Int) - R) = (S : Int) := by rw [hSq, IntWalk.i64_in _ (by omega)]
    have t3 : Int.tmod (S : Int) (q : Int) = (Z : Int) := by rw [tmodN, HZ.out]
    have hq3 : q ≤ 256 := by omega
    clear hSq hSl hkl hRq c1 c2 h1 h2
    go_wp2_with (at_builtin; refine hold_here ?_)
    refine Held.go ?_
    clear t1 t2 t2' t3 t4 t5 t6
    obtain ⟨v4, w4, hr4, ho4, hg4, ha4⟩ := run_append_zeros (P := Try.prog) w3 0 22 3 22 5 i0 (.int .u8 0) .i64 Try.underlying22 Try.underlying3 hi0 hz0 hz1 hz2 rfl rfl (.slice B3 M d3) M (xs.map vb) (H.row 0 rfl) Z (by omega) (Nat.zero_le _)
    refine Go.Lib.wpList_append_run w3 rfl (.tmp 22) (.tmp 30) 22 3 rfl (.slice B3 M d3) (.int .i64 (Z : Int)) rfl rfl v4 w4 hr4 ?_
    replace H := (H.grow 0 rfl ho4 hg4 ha4).upd_mk (by simp)
    clear hr4 ho4 hg4 ha4
    go_wp2
    go_ret2
    have e : (q - xs.length % q) % q = Z := by rw [HLN.out, HR.out, HS.out, HZ.out]
    refine ⟨_, rfl, own_enc ?_ (H.ownRow 0 rfl) (by rw [HT.out, e, List.length_append, HLN.out]; simp), H.below⟩
    rw [HT.out, e, List.map_append, List.map_replicate]
    rfl
  · rw [if_neg h, if_neg h]
    by_cases h1 : W < 1
    · clear h
      go_enter Try.func13, Try.ntmps13
      go_wp2
      go_ret2
      exact ⟨_, rfl, World.ownsRow_nil _ _ _ _, Below.refl _ _⟩
    · have h2 : (256 : Int) < W := by unfold padOk at h; omega
      clear h
      go_enter Try.func13, Try.ntmps13
      go_wp2
      go_ret2
      exact ⟨_, rfl, World.ownsRow_nil _ _ _ _, Below.refl _ _⟩

set_option maxRecDepth 100000 in
set_option maxHeartbeats 1000000 in
theorem refPad_s (A : Option Addr) (n c : Nat) (l : List UInt8) (W : Int) (w : World) (hd : Rd w 1 A n (l.map vb)) (hn : n ≤ 140737488351232) :
    Calls Try.prog 16 #[.slice A n c, .int .i64 W] w fun e w' => ∃ v, e = .returned (.tuple #[v, .int .i64 (padE W)]) ∧ OwnB w' w.heap.size v (padI l W) ∧ Below w.heap.size w w' := by
  obtain ⟨i0, hi0, hz0, hz1, hz2⟩ := info_parts u8_info
  unfold padE padI
  by_cases h : padOk W
  · rw [if_pos h, if_pos h]
    obtain ⟨h1, h2⟩ := h
    obtain ⟨q, rfl⟩ := Int.eq_ofNat_of_zero_le (by omega : 0 ≤ W)
    rw [Int.toNat_natCast]
    have c1 : ¬ ((q : Int) < 1) := by omega
    have c2 : ¬ ((256 : Int) < q) := by omega
    have hl : l.length = n := by simpa using hd.1
    obtain ⟨T, HT⟩ : ∃ T, Hid (T = padB l q) := ⟨_, rfl⟩
    rw [← HT.out]
    have HL := Lib.hid hl
    clear hl
    go_enter Try.func16, Try.ntmps16
    go_wp2_with fail
    refine (refLeft_s (q : Int) w (by omega)).mono ?_
    rintro e w1 ⟨v1, rfl, ho, hb⟩
    have hpos : ¬ ((q : Int) < 0) := by omega
    unfold leftI at ho
    rw [if_neg hpos, Int.toNat_natCast] at ho
    have hle := leftB_le (n := q) (by omega)
    have H := ((St.start_lay w []).pushOwnB 0 rfl ho hb).push_mk rfl
    unfold padB padN at HT
    generalize leftB q = nb at ho H hle HT
    obtain ⟨B, k, d, rfl, hk, -⟩ := ho.shape
    replace H := H.shape_row 0 rfl (n' := k) hk.out.symm rfl
    have hkl : k ≤ 9 := by rw [hk.out]; exact hle
    have hr0 := H.row 0 rfl
    have hdd := H.arg0 hd
    clear ho hb hle hpos
    go_wp2_with (at_builtin; refine hold_here ?_)
    refine Held.go ?_
    refine wpList_append_any _ rfl (.tmp 19) (.tmp 20) _ rfl 0 5 i0 (.int .u8 0) 1 1 Try.underlying22 hi0 hz0 hz1 hz2 rfl (by omega) (.slice B k d) k (nb.map vb) rfl hr0 A n c (l.map vb) rfl hdd (vb_one _) (by simp only [maxLen]; omega) (by omega) (by omega) ?_
    intro v3 w3 hown3 hg3 hat3
    replace H := (H.grow 0 rfl hown3 hg3 hat3).upd_mk (by simp)
    obtain ⟨M, HM⟩ : ∃ M, Hid (k + n = M) := ⟨_, rfl⟩
    have HLN : Hid ((nb ++ l).length = M) := by unfold Hid; rw [List.length_append, HL.out, ← hk.out, HM.out]
    replace H := H.shape_row 0 rfl (n' := M) (xs' := (nb ++ l).map vb) HM.out (by simp)
    replace H : St w [] w3 (lay [.row 5 1 v3 M ((nb ++ l).map vb)]) := H
    generalize nb ++ l = xs at H HT HLN
    obtain ⟨B3, d3, rfl, -⟩ := row_form (H.row 0 rfl)
    clear hr0 hdd hown3 hg3 hat3 hk
    have HP : Hid (T = xs ++ List.replicate ((q - M % q) % q) 0) := by unfold Hid; rw [HT.out, HLN.out]
    clear HT
    obtain ⟨Z, HZ⟩ : ∃ Z, Hid ((q - M % q) % q = Z) := ⟨_, rfl⟩
    rw [HZ.out] at HP
    have hZq : Z < 256 := by have := Nat.mod_lt (q - M % q) (show 0 < q by omega); rw [HZ.out] at this; omega
    have hMl : M ≤ 140737488351300 := by have := HM.out; omega
    have t4 : ¬ (q : Int) = 0 := by omega
    have hq1 : 1 ≤ q := by omega
    have hq3 : q ≤ 256 := by omega
    clear hkl c1 c2 h1 h2
    replace H : St w [] w3 (lay [.row 5 1 (.slice B3 M d3) M ((xs ++ List.replicate 0 0).map vb)]) := by simpa using H
    go_wp2
    go_loopw [6] (fun v wr => ∃ j M' : Nat, j ≤ Z ∧ Hid (M + j = M') ∧ St w [] wr (lay [.row 5 1 v M' ((xs ++ List.replicate j 0).map vb)])) (fun v _ => lenLeft M Z v)
    case atStart => exact ⟨0, M, Nat.zero_le _, rfl, H⟩
    case round =>
      clear H
      obtain ⟨j, M', hj, HM', H⟩ := hrel
      obtain ⟨B4, d4, rfl, -⟩ := row_form (H.row 0 rfl)
      have hMM : M' ≤ 140737488351600 := by have := HM'.out; omega
      have hRq : M' % q < q := Nat.mod_lt M' (by omega)
      have key := pad_key M q j hq1 (by rw [HZ.out]; exact hj)
      rw [HM'.out, HZ.out] at key
      obtain ⟨R, HR⟩ : ∃ R, Hid (M' % q = R) := ⟨_, rfl⟩
      rw [HR.out] at key hRq
      have t5 : wrap64 (R : Int) = (R : Int) := IntWalk.wrap64_in _ (by omega)
      have t1 := tmodN M' q
      have t2 : (M' : Int) % q = ((M' % q : Nat) : Int) := (Int.natCast_emod M' q).symm
      rw [HR.out] at t1 t2
      by_cases h0 : R = 0
      · obtain rfl : j = Z := key.1 h0
        subst h0
        clear key
        go_wp2
        go_ret2
        refine ⟨_, rfl, own_enc ?_ (H.ownRow 0 rfl) (by rw [HP.out, List.length_append, HLN.out, ← HM'.out]; simp), H.below⟩
        rw [HP.out]
      · have hjz : j < Z := Nat.lt_of_le_of_ne hj fun e => h0 (key.2 e)
        have hne : ((R : Int) != 0) = true := bne_nat h0
        have hr0 := H.row 0 rfl
        clear key
        go_wp2_with (at_builtin; refine hold_here ?_)
        refine Held.go ?_
        clear t1 t2
        refine wpList_append_any _ rfl (.tmp 27) (.tmp 28) _ rfl 0 5 i0 (.int .u8 0) 1 1 Try.underlying22 hi0 hz0 hz1 hz2 rfl (by omega) (.slice B4 M' d4) M' _ rfl (hr0.alloc _) (some ⟨wr.heap.size, 0, none⟩) 1 1 [vb 0] rfl (rd_new0 wr [vb 0] _ 1 rfl) (by simp [Value.oneCell']) (by simp only [maxLen]; omega) (by omega) (by omega) ?_
        intro v5 w5 hown5 hg5 hat5
        have H5 := ((((H.alloc 1 rfl #[vb 0] 5).push_mk rfl).grow 0 rfl hown5 hg5 hat5).upd_mk (by simp)).only 0 rfl
        obtain ⟨B5, d5, rfl, -⟩ := row_form (H5.row 0 rfl)
        clear hr0 hown5 hg5 hat5
        go_wp2
        go_roundw
        case rel =>
          refine ⟨j + 1, M' + 1, hjz, by have := HM'.out; unfold Hid; omega, ?_⟩
          rw [List.replicate_succ']
          simpa using H5
        case measure => unfold lenLeft; have := HM'.out; simp only; omega
  · rw [if_neg h, if_neg h]
    by_cases h1 : W < 1
    · clear h
      go_enter Try.func16, Try.ntmps16
      go_wp2
      go_ret2
      exact ⟨_, rfl, World.ownsRow_nil _ _ _ _, Below.refl _ _⟩
    · have h2 : (256 : Int) < W := by unfold padOk at h; omega
      clear h
      go_enter Try.func16, Try.ntmps16
      go_wp2
      go_ret2
      exact ⟨_, rfl, World.ownsRow_nil _ _ _ _, Below.refl _ _⟩
end Go.Proofs.Ythdfbnababmanaa
