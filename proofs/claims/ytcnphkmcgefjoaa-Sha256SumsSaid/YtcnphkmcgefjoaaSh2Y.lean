/- The document's SHA-256: words as bytes; the padded message, walked. -/
import Derived.Test.YtcnphkmcgefjoaaSh2X
namespace Go.Proofs.Ytcnphkmcgefjoaa
open Go.RowKit
set_option linter.unusedVariables false
set_option maxRecDepth 100000

attribute [local irreducible] comp2 hTo

theorem beL_take (n x k : Nat) (hk : k < n) : (beL n x).take (k + 1) = (beL n x).take k ++ [UInt8.ofNat (x / 256 ^ (n - 1 - k))] := by
  rw [List.take_add_one, beL_get hk]; rfl

set_option maxHeartbeats 4000000 in
theorem refLaid_s (h : List UInt32) (hh : h.length = 8) (w : World) :
    Calls Try.prog 59 #[.agg (h.map u32v).toArray] w fun e w' => ∃ v, e = .returned v ∧ OwnB w' w.heap.size v (laid4 h 8) ∧ Below w.heap.size w w' := by
  obtain ⟨i0, hi0, hz0, hz1, hz2⟩ := info_parts u8_info
  have HI := Lib.hid (⟨hi0, hz0, hz1, hz2⟩ : _ ∧ _ ∧ _ ∧ _)
  clear hi0 hz0 hz1 hz2
  have HH := Lib.hid hh
  clear hh
  have H := (St.start_lay w []).nilRow 0 rfl 5 1 |>.push_mk rfl
  go_enter Try.func59, Try.ntmps59
  go_upto_region 1 with fail
  refine absorb_wp (H.allocAt 1 rfl w.heap.size rfl _ _ |>.push_mk rfl) ?_
  clear H
  intro w1 H
  generalize w.heap.size = gb at H ⊢
  replace H : St w [] w1 (lay [.row 5 1 (.slice none 0 0) 0 [], .blk gb 40 (h.map u32v)]) := H
  go_wp2
  go_loopw [3, 4] (fun v i wr => ∃ k : Nat, k ≤ 8 ∧ i = .int .i64 k ∧ St w [] wr (lay [.row 5 1 v (4 * k) ((laid4 h k).map vb), .blk gb 40 (h.map u32v)])) (fun _ i _ => 8 - (intOf i).toNat)
  case atStart => exact ⟨0, by omega, rfl, H⟩
  case round =>
    clear H
    obtain ⟨k, hk, rfl, H⟩ := hrel
    by_cases hlt : k < 8
    · have hk1 : (k : Int) < 8 := by omega
      have HA : Hid (∀ w' X, St w [] w' X → X 1 = some (.blk gb 40 (h.map u32v)) → w'.cell? ⟨gb, k, none⟩ = some (.int .u32 ((at32 h k).toNat : Int))) := fun w' X h hX => h.cell 1 hX (u32_get (by rw [HH.out]; exact hlt))
      have HS := Lib.hid (laid4_succ (l := h) (k := k) (by rw [HH.out]; exact hlt))
      generalize at32 h k = x at HS HA
      go_wp2
      go_loopw [3, 5] (fun v i wr => ∃ j : Nat, j ≤ 4 ∧ i = .int .i64 j ∧ St w [] wr (lay [.row 5 1 v (4 * k + j) ((laid4 h k ++ (beL 4 x.toNat).take j).map vb), .blk gb 40 (h.map u32v)])) (fun _ i _ => 4 - (intOf i).toNat)
      case atStart => exact ⟨0, by omega, rfl, by rw [List.take_zero, List.append_nil]; exact H⟩
      case round =>
        clear H
        obtain ⟨j, hj, rfl, H⟩ := hrel
        obtain ⟨AV, cV, rfl, -, -⟩ := row_form (H.row 0 rfl)
        have hj5 : j = 0 ∨ j = 1 ∨ j = 2 ∨ j = 3 ∨ j = 4 := by omega
        rcases hj5 with rfl | rfl | rfl | rfl | rfl
        · rw [show ((0 : Nat) : Int) = 0 from rfl]
          have a0 := HA.out _ _ H rfl
          have hbe : Value.int .u8 ((x.toNat : Int) / 16777216 % 256) = vb (UInt8.ofNat (x.toNat / 256 ^ (4 - 1 - 0))) := by unfold vb; rw [← byte_eq]; simp
          have HT := Lib.hid (beL_take 4 x.toNat 0 (by omega))
          go_wp2_with (at_builtin; refine hold_here' ?_)
          refine Lib.hid ?_
          refine absorb_list (H.allocAt 2 rfl wr.heap.size rfl #[.int .u8 ((x.toNat : Int) / 16777216 % 256)] 5 |>.push_mk rfl) ?_
          clear H a0
          intro w5 H
          generalize wr.heap.size = gN at H ⊢
          obtain ⟨hi0, hz0, hz1, hz2⟩ := HI.out
          refine wpList_append_any _ rfl (.tmp 14) (.tmp 23) _ rfl 0 5 i0 _ 1 1 Try.underlying22 hi0 hz0 hz1 hz2 rfl (by omega) (.slice AV (4 * k + 0) cV) (4 * k + 0) ((laid4 h k ++ (beL 4 x.toNat).take 0).map vb) rfl (H.row 0 rfl) (some ⟨gN, 0, none⟩) 1 1 [.int .u8 ((x.toNat : Int) / 16777216 % 256)] rfl (H.rdBlk 2 rfl 1 1 rfl) (by intro u hu; simp at hu; subst hu; rfl) (by simp only [maxLen]; omega) (by omega) (by omega) ?_
          intro v6 w6 hown6 hg6 hat6
          replace H := ((H.grow 0 rfl hown6 hg6 hat6).upd_mk (by simp)).front 2
          clear hown6 hg6 hat6 hi0 hz0 hz1 hz2
          have H7 : St w [] w6 (lay [.row 5 1 v6 (4 * k + 1) ((laid4 h k ++ (beL 4 x.toNat).take 1).map vb), .blk gb 40 (h.map u32v)]) := by
            rw [HT.out, ← List.append_assoc, List.map_append, List.map_cons, List.map_nil, ← hbe]; exact H
          clear H hbe
          go_wp2
          go_roundw
          case rel => exact ⟨1, by omega, by first | rfl | go_num, H7⟩
          case measure => simp [intOf]
        · rw [show ((1 : Nat) : Int) = 1 from rfl]
          have a0 := HA.out _ _ H rfl
          have hbe : Value.int .u8 ((x.toNat : Int) / 65536 % 256) = vb (UInt8.ofNat (x.toNat / 256 ^ (4 - 1 - 1))) := by unfold vb; rw [← byte_eq]; simp
          have HT := Lib.hid (beL_take 4 x.toNat 1 (by omega))
          go_wp2_with (at_builtin; refine hold_here' ?_)
          refine Lib.hid ?_
          refine absorb_list (H.allocAt 2 rfl wr.heap.size rfl #[.int .u8 ((x.toNat : Int) / 65536 % 256)] 5 |>.push_mk rfl) ?_
          clear H a0
          intro w5 H
          generalize wr.heap.size = gN at H ⊢
          obtain ⟨hi0, hz0, hz1, hz2⟩ := HI.out
          refine wpList_append_any _ rfl (.tmp 14) (.tmp 23) _ rfl 0 5 i0 _ 1 1 Try.underlying22 hi0 hz0 hz1 hz2 rfl (by omega) (.slice AV (4 * k + 1) cV) (4 * k + 1) ((laid4 h k ++ (beL 4 x.toNat).take 1).map vb) rfl (H.row 0 rfl) (some ⟨gN, 0, none⟩) 1 1 [.int .u8 ((x.toNat : Int) / 65536 % 256)] rfl (H.rdBlk 2 rfl 1 1 rfl) (by intro u hu; simp at hu; subst hu; rfl) (by simp only [maxLen]; omega) (by omega) (by omega) ?_
          intro v6 w6 hown6 hg6 hat6
          replace H := ((H.grow 0 rfl hown6 hg6 hat6).upd_mk (by simp)).front 2
          clear hown6 hg6 hat6 hi0 hz0 hz1 hz2
          have H7 : St w [] w6 (lay [.row 5 1 v6 (4 * k + 2) ((laid4 h k ++ (beL 4 x.toNat).take 2).map vb), .blk gb 40 (h.map u32v)]) := by
            rw [HT.out, ← List.append_assoc, List.map_append, List.map_cons, List.map_nil, ← hbe]; exact H
          clear H hbe
          go_wp2
          go_roundw
          case rel => exact ⟨2, by omega, by first | rfl | go_num, H7⟩
          case measure => simp [intOf]
        · rw [show ((2 : Nat) : Int) = 2 from rfl]
          have a0 := HA.out _ _ H rfl
          have hbe : Value.int .u8 ((x.toNat : Int) / 256 % 256) = vb (UInt8.ofNat (x.toNat / 256 ^ (4 - 1 - 2))) := by unfold vb; rw [← byte_eq]; simp
          have HT := Lib.hid (beL_take 4 x.toNat 2 (by omega))
          go_wp2_with (at_builtin; refine hold_here' ?_)
          refine Lib.hid ?_
          refine absorb_list (H.allocAt 2 rfl wr.heap.size rfl #[.int .u8 ((x.toNat : Int) / 256 % 256)] 5 |>.push_mk rfl) ?_
          clear H a0
          intro w5 H
          generalize wr.heap.size = gN at H ⊢
          obtain ⟨hi0, hz0, hz1, hz2⟩ := HI.out
          refine wpList_append_any _ rfl (.tmp 14) (.tmp 23) _ rfl 0 5 i0 _ 1 1 Try.underlying22 hi0 hz0 hz1 hz2 rfl (by omega) (.slice AV (4 * k + 2) cV) (4 * k + 2) ((laid4 h k ++ (beL 4 x.toNat).take 2).map vb) rfl (H.row 0 rfl) (some ⟨gN, 0, none⟩) 1 1 [.int .u8 ((x.toNat : Int) / 256 % 256)] rfl (H.rdBlk 2 rfl 1 1 rfl) (by intro u hu; simp at hu; subst hu; rfl) (by simp only [maxLen]; omega) (by omega) (by omega) ?_
          intro v6 w6 hown6 hg6 hat6
          replace H := ((H.grow 0 rfl hown6 hg6 hat6).upd_mk (by simp)).front 2
          clear hown6 hg6 hat6 hi0 hz0 hz1 hz2
          have H7 : St w [] w6 (lay [.row 5 1 v6 (4 * k + 3) ((laid4 h k ++ (beL 4 x.toNat).take 3).map vb), .blk gb 40 (h.map u32v)]) := by
            rw [HT.out, ← List.append_assoc, List.map_append, List.map_cons, List.map_nil, ← hbe]; exact H
          clear H hbe
          go_wp2
          go_roundw
          case rel => exact ⟨3, by omega, by first | rfl | go_num, H7⟩
          case measure => simp [intOf]
        · rw [show ((3 : Nat) : Int) = 3 from rfl]
          have a0 := HA.out _ _ H rfl
          have hbe : Value.int .u8 ((x.toNat : Int) % 256) = vb (UInt8.ofNat (x.toNat / 256 ^ (4 - 1 - 3))) := by unfold vb; rw [← byte_eq]; simp
          have HT := Lib.hid (beL_take 4 x.toNat 3 (by omega))
          go_wp2_with (at_builtin; refine hold_here' ?_)
          refine Lib.hid ?_
          refine absorb_list (H.allocAt 2 rfl wr.heap.size rfl #[.int .u8 ((x.toNat : Int) % 256)] 5 |>.push_mk rfl) ?_
          clear H a0
          intro w5 H
          generalize wr.heap.size = gN at H ⊢
          obtain ⟨hi0, hz0, hz1, hz2⟩ := HI.out
          refine wpList_append_any _ rfl (.tmp 14) (.tmp 23) _ rfl 0 5 i0 _ 1 1 Try.underlying22 hi0 hz0 hz1 hz2 rfl (by omega) (.slice AV (4 * k + 3) cV) (4 * k + 3) ((laid4 h k ++ (beL 4 x.toNat).take 3).map vb) rfl (H.row 0 rfl) (some ⟨gN, 0, none⟩) 1 1 [.int .u8 ((x.toNat : Int) % 256)] rfl (H.rdBlk 2 rfl 1 1 rfl) (by intro u hu; simp at hu; subst hu; rfl) (by simp only [maxLen]; omega) (by omega) (by omega) ?_
          intro v6 w6 hown6 hg6 hat6
          replace H := ((H.grow 0 rfl hown6 hg6 hat6).upd_mk (by simp)).front 2
          clear hown6 hg6 hat6 hi0 hz0 hz1 hz2
          have H7 : St w [] w6 (lay [.row 5 1 v6 (4 * k + 4) ((laid4 h k ++ (beL 4 x.toNat).take 4).map vb), .blk gb 40 (h.map u32v)]) := by
            rw [HT.out, ← List.append_assoc, List.map_append, List.map_cons, List.map_nil, ← hbe]; exact H
          clear H hbe
          go_wp2
          go_roundw
          case rel => exact ⟨4, by omega, by first | rfl | go_num, H7⟩
          case measure => simp [intOf]
        · rw [show ((4 : Nat) : Int) = 4 from rfl]
          rw [List.take_of_length_le (by rw [beL_length]; omega), ← HS.out] at H
          go_wp2
          go_roundw
          case rel => exact ⟨k + 1, by omega, by go_num, H⟩
          case measure => simp [intOf]; omega
    · obtain rfl : k = 8 := by omega
      go_wp2
      go_ret
      exact ⟨_, rfl, (by unfold OwnB; rw [laid4_length (by rw [HH.out]; omega)]; exact H.newRow' 0 rfl), H.below⟩

theorem padZ_key (n t : Nat) (ht : t ≤ padZ n) : (n + 1 + t) % 64 = 56 ↔ t = padZ n := by
  unfold padZ at *
  omega

set_option maxHeartbeats 8000000 in
theorem refPadded_s (A : Option Addr) (n c : Nat) (p : List UInt8) (w : World) (hA : Rd w 1 A n (p.map vb)) (hn : n ≤ 100000000000) :
    Calls Try.prog 42 #[.slice A n c] w fun e w' => ∃ v, e = .returned v ∧ OwnB w' w.heap.size v (p ++ padM n) ∧ Below w.heap.size w w' := by
  have hl : p.length = n := by simpa using hA.1
  have HL := Lib.hid hl
  clear hl
  obtain ⟨i0, hi0, hz0, hz1, hz2⟩ := info_parts u8_info
  have HI := Lib.hid (⟨hi0, hz0, hz1, hz2⟩ : _ ∧ _ ∧ _ ∧ _)
  have H := (St.start_lay w []).nilRow 0 rfl 5 1 |>.push_mk rfl
  have hZb : padZ n ≤ 63 := by unfold padZ; omega
  go_enter Try.func42, Try.ntmps42
  go_wp2_with (at_builtin; refine hold_here' ?_)
  refine Lib.hid ?_
  refine wpList_append_any _ rfl (.tmp 6) (.tmp 7) _ rfl 0 5 i0 _ 1 1 Try.underlying22 hi0 hz0 hz1 hz2 rfl (by omega) (.slice none 0 0) 0 [] rfl (H.row 0 rfl) A n c (p.map vb) rfl (H.arg0 hA) (vb_one _) (by simp only [maxLen]; omega) (by omega) (by omega) ?_
  intro v6 w6 hown6 hg6 hat6
  replace H := ((H.grow 0 rfl hown6 hg6 hat6).upd_mk (by simp))
  clear hown6 hg6 hat6
  replace H : St w [] w6 (lay [.row 5 1 v6 n (p.map vb)]) := by rw [Nat.zero_add, List.nil_append] at H; exact H
  obtain ⟨AV, cV, rfl, -, -⟩ := row_form (H.row 0 rfl)
  go_wp2_with (at_builtin; refine hold_here' ?_)
  refine Lib.hid ?_
  refine absorb_list (H.allocAt 1 rfl w6.heap.size rfl #[.int .u8 128] 5 |>.push_mk rfl) ?_
  clear H
  intro w7 H
  generalize w6.heap.size = gN at H ⊢
  refine wpList_append_any _ rfl (.tmp 9) (.tmp 10) _ rfl 0 5 i0 _ 1 1 Try.underlying22 hi0 hz0 hz1 hz2 rfl (by omega) (.slice AV n cV) n (p.map vb) rfl (H.row 0 rfl) (some ⟨gN, 0, none⟩) 1 1 [.int .u8 128] rfl (H.rdBlk 1 rfl 1 1 rfl) (by intro u hu; simp at hu; subst hu; rfl) (by simp only [maxLen]; omega) (by omega) (by omega) ?_
  intro v8 w8 hown6 hg6 hat6
  replace H := ((H.grow 0 rfl hown6 hg6 hat6).upd_mk (by simp)).front 1
  clear hown6 hg6 hat6 hi0 hz0 hz1 hz2 hA
  replace H : St w [] w8 (lay [.row 5 1 v8 (n + 1) ((p ++ [128]).map vb)]) := by rw [List.map_append]; exact H
  go_wp2
  go_loopw [3] (fun v wr => ∃ t : Nat, t ≤ padZ n ∧ St w [] wr (lay [.row 5 1 v (n + 1 + t) ((p ++ 128 :: List.replicate t 0).map vb)]) ) (fun v _ => match v with | .slice _ k _ => 100000000100 - k | _ => 0)
  case atStart => exact ⟨0, Nat.zero_le _, H⟩
  case round =>
    clear H
    obtain ⟨t, ht, H⟩ := hrel
    obtain ⟨AV, cV, rfl, -, -⟩ := row_form (H.row 0 rfl)
    have hkey := padZ_key n t ht
    by_cases hz : t = padZ n
    · have e1 : (((n + 1 + t : Nat) : Int) % 64 != 56) = false := by have := hkey.2 hz; simp; omega
      have HP : Hid (p ++ 128 :: List.replicate t 0 ++ beL 8 (8 * n) = p ++ padM n) := by
        unfold Hid padM; rw [← hz]; simp
      obtain ⟨Y, hY⟩ : ∃ Y, p ++ 128 :: List.replicate t 0 = Y := ⟨_, rfl⟩
      have hYl : Y.length = n + 1 + t := by rw [← hY, List.length_append, HL.out, List.length_cons, List.length_replicate]; omega
      have htb : t ≤ 63 := by omega
      rw [hY] at H HP
      obtain ⟨N, hN⟩ : ∃ N, n + 1 + t = N := ⟨_, rfl⟩
      have hNb : N ≤ 100000000065 := by omega
      rw [hN] at H e1 hYl ⊢
      have HYL := Lib.hid hYl
      clear hkey hz hY ht hYl hN
      go_upto_region 7 with fail
      rw [show (8 * (n : Int)) = ((8 * n : Nat) : Int) by omega]
      obtain ⟨x, hx⟩ : ∃ x, 8 * n = x := ⟨_, rfl⟩
      rw [hx] at HP ⊢
      clear hx e1
      go_wp2
      go_loopw [3, 5] (fun v i wr => ∃ j : Nat, j ≤ 8 ∧ i = .int .i64 j ∧ St w [] wr (lay [.row 5 1 v (N + j) ((Y ++ (beL 8 x).take j).map vb)])) (fun _ i _ => 8 - (intOf i).toNat)
      case atStart => exact ⟨0, by omega, rfl, by rw [List.take_zero, List.append_nil]; exact H⟩
      case round =>
        clear H
        obtain ⟨j, hj, rfl, H⟩ := hrel
        obtain ⟨AV, cV, rfl, -, -⟩ := row_form (H.row 0 rfl)
        have hj9 : j = 0 ∨ j = 1 ∨ j = 2 ∨ j = 3 ∨ j = 4 ∨ j = 5 ∨ j = 6 ∨ j = 7 ∨ j = 8 := by omega
        rcases hj9 with rfl | rfl | rfl | rfl | rfl | rfl | rfl | rfl | rfl
        · rw [show ((0 : Nat) : Int) = 0 from rfl]
          have hbe : Value.int .u8 ((x : Int) / 72057594037927936 % 256) = vb (UInt8.ofNat (x / 256 ^ (8 - 1 - 0))) := by unfold vb; rw [← byte_eq]; simp
          have HT := Lib.hid (beL_take 8 x 0 (by omega))
          go_wp2_with (at_builtin; refine hold_here' ?_)
          refine Lib.hid ?_
          refine absorb_list (H.allocAt 1 rfl wr.heap.size rfl #[.int .u8 ((x : Int) / 72057594037927936 % 256)] 5 |>.push_mk rfl) ?_
          clear H
          intro w5 H
          generalize wr.heap.size = gN at H ⊢
          obtain ⟨hi0, hz0, hz1, hz2⟩ := HI.out
          refine wpList_append_any _ rfl (.tmp 27) (.tmp 34) _ rfl 0 5 i0 _ 1 1 Try.underlying22 hi0 hz0 hz1 hz2 rfl (by omega) (.slice AV (N + 0) cV) (N + 0) ((Y ++ (beL 8 x).take 0).map vb) rfl (H.row 0 rfl) (some ⟨gN, 0, none⟩) 1 1 [.int .u8 ((x : Int) / 72057594037927936 % 256)] rfl (H.rdBlk 1 rfl 1 1 rfl) (by intro u hu; simp at hu; subst hu; rfl) (by simp only [maxLen]; omega) (by omega) (by omega) ?_
          intro v6 w6 hown6 hg6 hat6
          replace H := ((H.grow 0 rfl hown6 hg6 hat6).upd_mk (by simp)).front 1
          clear hown6 hg6 hat6 hi0 hz0 hz1 hz2
          have H7 : St w [] w6 (lay [.row 5 1 v6 (N + 1) ((Y ++ (beL 8 x).take 1).map vb)]) := by
            rw [HT.out, ← List.append_assoc, List.map_append, List.map_cons, List.map_nil, ← hbe]; exact H
          clear H hbe
          go_wp2
          go_roundw
          case rel => exact ⟨1, by omega, by first | rfl | go_num, H7⟩
          case measure => simp [intOf]
        · rw [show ((1 : Nat) : Int) = 1 from rfl]
          have hbe : Value.int .u8 ((x : Int) / 281474976710656 % 256) = vb (UInt8.ofNat (x / 256 ^ (8 - 1 - 1))) := by unfold vb; rw [← byte_eq]; simp
          have HT := Lib.hid (beL_take 8 x 1 (by omega))
          go_wp2_with (at_builtin; refine hold_here' ?_)
          refine Lib.hid ?_
          refine absorb_list (H.allocAt 1 rfl wr.heap.size rfl #[.int .u8 ((x : Int) / 281474976710656 % 256)] 5 |>.push_mk rfl) ?_
          clear H
          intro w5 H
          generalize wr.heap.size = gN at H ⊢
          obtain ⟨hi0, hz0, hz1, hz2⟩ := HI.out
          refine wpList_append_any _ rfl (.tmp 27) (.tmp 34) _ rfl 0 5 i0 _ 1 1 Try.underlying22 hi0 hz0 hz1 hz2 rfl (by omega) (.slice AV (N + 1) cV) (N + 1) ((Y ++ (beL 8 x).take 1).map vb) rfl (H.row 0 rfl) (some ⟨gN, 0, none⟩) 1 1 [.int .u8 ((x : Int) / 281474976710656 % 256)] rfl (H.rdBlk 1 rfl 1 1 rfl) (by intro u hu; simp at hu; subst hu; rfl) (by simp only [maxLen]; omega) (by omega) (by omega) ?_
          intro v6 w6 hown6 hg6 hat6
          replace H := ((H.grow 0 rfl hown6 hg6 hat6).upd_mk (by simp)).front 1
          clear hown6 hg6 hat6 hi0 hz0 hz1 hz2
          have H7 : St w [] w6 (lay [.row 5 1 v6 (N + 2) ((Y ++ (beL 8 x).take 2).map vb)]) := by
            rw [HT.out, ← List.append_assoc, List.map_append, List.map_cons, List.map_nil, ← hbe]; exact H
          clear H hbe
          go_wp2
          go_roundw
          case rel => exact ⟨2, by omega, by first | rfl | go_num, H7⟩
          case measure => simp [intOf]
        · rw [show ((2 : Nat) : Int) = 2 from rfl]
          have hbe : Value.int .u8 ((x : Int) / 1099511627776 % 256) = vb (UInt8.ofNat (x / 256 ^ (8 - 1 - 2))) := by unfold vb; rw [← byte_eq]; simp
          have HT := Lib.hid (beL_take 8 x 2 (by omega))
          go_wp2_with (at_builtin; refine hold_here' ?_)
          refine Lib.hid ?_
          refine absorb_list (H.allocAt 1 rfl wr.heap.size rfl #[.int .u8 ((x : Int) / 1099511627776 % 256)] 5 |>.push_mk rfl) ?_
          clear H
          intro w5 H
          generalize wr.heap.size = gN at H ⊢
          obtain ⟨hi0, hz0, hz1, hz2⟩ := HI.out
          refine wpList_append_any _ rfl (.tmp 27) (.tmp 34) _ rfl 0 5 i0 _ 1 1 Try.underlying22 hi0 hz0 hz1 hz2 rfl (by omega) (.slice AV (N + 2) cV) (N + 2) ((Y ++ (beL 8 x).take 2).map vb) rfl (H.row 0 rfl) (some ⟨gN, 0, none⟩) 1 1 [.int .u8 ((x : Int) / 1099511627776 % 256)] rfl (H.rdBlk 1 rfl 1 1 rfl) (by intro u hu; simp at hu; subst hu; rfl) (by simp only [maxLen]; omega) (by omega) (by omega) ?_
          intro v6 w6 hown6 hg6 hat6
          replace H := ((H.grow 0 rfl hown6 hg6 hat6).upd_mk (by simp)).front 1
          clear hown6 hg6 hat6 hi0 hz0 hz1 hz2
          have H7 : St w [] w6 (lay [.row 5 1 v6 (N + 3) ((Y ++ (beL 8 x).take 3).map vb)]) := by
            rw [HT.out, ← List.append_assoc, List.map_append, List.map_cons, List.map_nil, ← hbe]; exact H
          clear H hbe
          go_wp2
          go_roundw
          case rel => exact ⟨3, by omega, by first | rfl | go_num, H7⟩
          case measure => simp [intOf]
        · rw [show ((3 : Nat) : Int) = 3 from rfl]
          have hbe : Value.int .u8 ((x : Int) / 4294967296 % 256) = vb (UInt8.ofNat (x / 256 ^ (8 - 1 - 3))) := by unfold vb; rw [← byte_eq]; simp
          have HT := Lib.hid (beL_take 8 x 3 (by omega))
          go_wp2_with (at_builtin; refine hold_here' ?_)
          refine Lib.hid ?_
          refine absorb_list (H.allocAt 1 rfl wr.heap.size rfl #[.int .u8 ((x : Int) / 4294967296 % 256)] 5 |>.push_mk rfl) ?_
          clear H
          intro w5 H
          generalize wr.heap.size = gN at H ⊢
          obtain ⟨hi0, hz0, hz1, hz2⟩ := HI.out
          refine wpList_append_any _ rfl (.tmp 27) (.tmp 34) _ rfl 0 5 i0 _ 1 1 Try.underlying22 hi0 hz0 hz1 hz2 rfl (by omega) (.slice AV (N + 3) cV) (N + 3) ((Y ++ (beL 8 x).take 3).map vb) rfl (H.row 0 rfl) (some ⟨gN, 0, none⟩) 1 1 [.int .u8 ((x : Int) / 4294967296 % 256)] rfl (H.rdBlk 1 rfl 1 1 rfl) (by intro u hu; simp at hu; subst hu; rfl) (by simp only [maxLen]; omega) (by omega) (by omega) ?_
          intro v6 w6 hown6 hg6 hat6
          replace H := ((H.grow 0 rfl hown6 hg6 hat6).upd_mk (by simp)).front 1
          clear hown6 hg6 hat6 hi0 hz0 hz1 hz2
          have H7 : St w [] w6 (lay [.row 5 1 v6 (N + 4) ((Y ++ (beL 8 x).take 4).map vb)]) := by
            rw [HT.out, ← List.append_assoc, List.map_append, List.map_cons, List.map_nil, ← hbe]; exact H
          clear H hbe
          go_wp2
          go_roundw
          case rel => exact ⟨4, by omega, by first | rfl | go_num, H7⟩
          case measure => simp [intOf]
        · rw [show ((4 : Nat) : Int) = 4 from rfl]
          have hbe : Value.int .u8 ((x : Int) / 16777216 % 256) = vb (UInt8.ofNat (x / 256 ^ (8 - 1 - 4))) := by unfold vb; rw [← byte_eq]; simp
          have HT := Lib.hid (beL_take 8 x 4 (by omega))
          go_wp2_with (at_builtin; refine hold_here' ?_)
          refine Lib.hid ?_
          refine absorb_list (H.allocAt 1 rfl wr.heap.size rfl #[.int .u8 ((x : Int) / 16777216 % 256)] 5 |>.push_mk rfl) ?_
          clear H
          intro w5 H
          generalize wr.heap.size = gN at H ⊢
          obtain ⟨hi0, hz0, hz1, hz2⟩ := HI.out
          refine wpList_append_any _ rfl (.tmp 27) (.tmp 34) _ rfl 0 5 i0 _ 1 1 Try.underlying22 hi0 hz0 hz1 hz2 rfl (by omega) (.slice AV (N + 4) cV) (N + 4) ((Y ++ (beL 8 x).take 4).map vb) rfl (H.row 0 rfl) (some ⟨gN, 0, none⟩) 1 1 [.int .u8 ((x : Int) / 16777216 % 256)] rfl (H.rdBlk 1 rfl 1 1 rfl) (by intro u hu; simp at hu; subst hu; rfl) (by simp only [maxLen]; omega) (by omega) (by omega) ?_
          intro v6 w6 hown6 hg6 hat6
          replace H := ((H.grow 0 rfl hown6 hg6 hat6).upd_mk (by simp)).front 1
          clear hown6 hg6 hat6 hi0 hz0 hz1 hz2
          have H7 : St w [] w6 (lay [.row 5 1 v6 (N + 5) ((Y ++ (beL 8 x).take 5).map vb)]) := by
            rw [HT.out, ← List.append_assoc, List.map_append, List.map_cons, List.map_nil, ← hbe]; exact H
          clear H hbe
          go_wp2
          go_roundw
          case rel => exact ⟨5, by omega, by first | rfl | go_num, H7⟩
          case measure => simp [intOf]
        · rw [show ((5 : Nat) : Int) = 5 from rfl]
          have hbe : Value.int .u8 ((x : Int) / 65536 % 256) = vb (UInt8.ofNat (x / 256 ^ (8 - 1 - 5))) := by unfold vb; rw [← byte_eq]; simp
          have HT := Lib.hid (beL_take 8 x 5 (by omega))
          go_wp2_with (at_builtin; refine hold_here' ?_)
          refine Lib.hid ?_
          refine absorb_list (H.allocAt 1 rfl wr.heap.size rfl #[.int .u8 ((x : Int) / 65536 % 256)] 5 |>.push_mk rfl) ?_
          clear H
          intro w5 H
          generalize wr.heap.size = gN at H ⊢
          obtain ⟨hi0, hz0, hz1, hz2⟩ := HI.out
          refine wpList_append_any _ rfl (.tmp 27) (.tmp 34) _ rfl 0 5 i0 _ 1 1 Try.underlying22 hi0 hz0 hz1 hz2 rfl (by omega) (.slice AV (N + 5) cV) (N + 5) ((Y ++ (beL 8 x).take 5).map vb) rfl (H.row 0 rfl) (some ⟨gN, 0, none⟩) 1 1 [.int .u8 ((x : Int) / 65536 % 256)] rfl (H.rdBlk 1 rfl 1 1 rfl) (by intro u hu; simp at hu; subst hu; rfl) (by simp only [maxLen]; omega) (by omega) (by omega) ?_
          intro v6 w6 hown6 hg6 hat6
          replace H := ((H.grow 0 rfl hown6 hg6 hat6).upd_mk (by simp)).front 1
          clear hown6 hg6 hat6 hi0 hz0 hz1 hz2
          have H7 : St w [] w6 (lay [.row 5 1 v6 (N + 6) ((Y ++ (beL 8 x).take 6).map vb)]) := by
            rw [HT.out, ← List.append_assoc, List.map_append, List.map_cons, List.map_nil, ← hbe]; exact H
          clear H hbe
          go_wp2
          go_roundw
          case rel => exact ⟨6, by omega, by first | rfl | go_num, H7⟩
          case measure => simp [intOf]
        · rw [show ((6 : Nat) : Int) = 6 from rfl]
          have hbe : Value.int .u8 ((x : Int) / 256 % 256) = vb (UInt8.ofNat (x / 256 ^ (8 - 1 - 6))) := by unfold vb; rw [← byte_eq]; simp
          have HT := Lib.hid (beL_take 8 x 6 (by omega))
          go_wp2_with (at_builtin; refine hold_here' ?_)
          refine Lib.hid ?_
          refine absorb_list (H.allocAt 1 rfl wr.heap.size rfl #[.int .u8 ((x : Int) / 256 % 256)] 5 |>.push_mk rfl) ?_
          clear H
          intro w5 H
          generalize wr.heap.size = gN at H ⊢
          obtain ⟨hi0, hz0, hz1, hz2⟩ := HI.out
          refine wpList_append_any _ rfl (.tmp 27) (.tmp 34) _ rfl 0 5 i0 _ 1 1 Try.underlying22 hi0 hz0 hz1 hz2 rfl (by omega) (.slice AV (N + 6) cV) (N + 6) ((Y ++ (beL 8 x).take 6).map vb) rfl (H.row 0 rfl) (some ⟨gN, 0, none⟩) 1 1 [.int .u8 ((x : Int) / 256 % 256)] rfl (H.rdBlk 1 rfl 1 1 rfl) (by intro u hu; simp at hu; subst hu; rfl) (by simp only [maxLen]; omega) (by omega) (by omega) ?_
          intro v6 w6 hown6 hg6 hat6
          replace H := ((H.grow 0 rfl hown6 hg6 hat6).upd_mk (by simp)).front 1
          clear hown6 hg6 hat6 hi0 hz0 hz1 hz2
          have H7 : St w [] w6 (lay [.row 5 1 v6 (N + 7) ((Y ++ (beL 8 x).take 7).map vb)]) := by
            rw [HT.out, ← List.append_assoc, List.map_append, List.map_cons, List.map_nil, ← hbe]; exact H
          clear H hbe
          go_wp2
          go_roundw
          case rel => exact ⟨7, by omega, by first | rfl | go_num, H7⟩
          case measure => simp [intOf]
        · rw [show ((7 : Nat) : Int) = 7 from rfl]
          have hbe : Value.int .u8 ((x : Int) % 256) = vb (UInt8.ofNat (x / 256 ^ (8 - 1 - 7))) := by unfold vb; rw [← byte_eq]; simp
          have HT := Lib.hid (beL_take 8 x 7 (by omega))
          go_wp2_with (at_builtin; refine hold_here' ?_)
          refine Lib.hid ?_
          refine absorb_list (H.allocAt 1 rfl wr.heap.size rfl #[.int .u8 ((x : Int) % 256)] 5 |>.push_mk rfl) ?_
          clear H
          intro w5 H
          generalize wr.heap.size = gN at H ⊢
          obtain ⟨hi0, hz0, hz1, hz2⟩ := HI.out
          refine wpList_append_any _ rfl (.tmp 27) (.tmp 34) _ rfl 0 5 i0 _ 1 1 Try.underlying22 hi0 hz0 hz1 hz2 rfl (by omega) (.slice AV (N + 7) cV) (N + 7) ((Y ++ (beL 8 x).take 7).map vb) rfl (H.row 0 rfl) (some ⟨gN, 0, none⟩) 1 1 [.int .u8 ((x : Int) % 256)] rfl (H.rdBlk 1 rfl 1 1 rfl) (by intro u hu; simp at hu; subst hu; rfl) (by simp only [maxLen]; omega) (by omega) (by omega) ?_
          intro v6 w6 hown6 hg6 hat6
          replace H := ((H.grow 0 rfl hown6 hg6 hat6).upd_mk (by simp)).front 1
          clear hown6 hg6 hat6 hi0 hz0 hz1 hz2
          have H7 : St w [] w6 (lay [.row 5 1 v6 (N + 8) ((Y ++ (beL 8 x).take 8).map vb)]) := by
            rw [HT.out, ← List.append_assoc, List.map_append, List.map_cons, List.map_nil, ← hbe]; exact H
          clear H hbe
          go_wp2
          go_roundw
          case rel => exact ⟨8, by omega, by first | rfl | go_num, H7⟩
          case measure => simp [intOf]
        · rw [show ((8 : Nat) : Int) = 8 from rfl]
          rw [List.take_of_length_le (by rw [beL_length]; omega), HP.out] at H
          have hfin : Hid ((p ++ padM n).length = N + 8) := by unfold Hid; rw [← HP.out, List.length_append, HYL.out, beL_length]
          go_wp2
          go_ret
          exact ⟨_, rfl, (by unfold OwnB; rw [hfin.out]; exact H.newRow' 0 rfl), H.below⟩
    · have e1 : (((n + 1 + t : Nat) : Int) % 64 != 56) = true := by
        have : ¬ (n + 1 + t) % 64 = 56 := fun h => hz (hkey.1 h)
        simp; omega
      have ht2 : t + 1 ≤ padZ n := by omega
      clear hkey hz
      go_wp2_with (at_builtin; refine hold_here' ?_)
      refine Lib.hid ?_
      refine absorb_list (H.allocAt 1 rfl wr.heap.size rfl #[.int .u8 0] 5 |>.push_mk rfl) ?_
      clear H
      intro w5 H
      generalize wr.heap.size = gN at H ⊢
      obtain ⟨hi0, hz0, hz1, hz2⟩ := HI.out
      refine wpList_append_any _ rfl (.tmp 16) (.tmp 17) _ rfl 0 5 i0 _ 1 1 Try.underlying22 hi0 hz0 hz1 hz2 rfl (by omega) (.slice AV (n + 1 + t) cV) (n + 1 + t) ((p ++ 128 :: List.replicate t 0).map vb) rfl (H.row 0 rfl) (some ⟨gN, 0, none⟩) 1 1 [.int .u8 0] rfl (H.rdBlk 1 rfl 1 1 rfl) (by intro u hu; simp at hu; subst hu; rfl) (by simp only [maxLen]; omega) (by omega) (by omega) ?_
      intro v6 w6 hown6 hg6 hat6
      replace H := ((H.grow 0 rfl hown6 hg6 hat6).upd_mk (by simp)).front 1
      clear hown6 hg6 hat6 hi0 hz0 hz1 hz2
      have H7 : St w [] w6 (lay [.row 5 1 v6 (n + 1 + (t + 1)) ((p ++ 128 :: List.replicate (t + 1) 0).map vb)]) := by
        have e : (p ++ 128 :: List.replicate (t + 1) 0).map vb = (p ++ 128 :: List.replicate t 0).map vb ++ [.int .u8 0] := by rw [List.replicate_succ']; simp
        rw [e]; exact H
      obtain ⟨A7, c7, rfl, -, -⟩ := row_form (H7.row 0 rfl)
      clear H
      go_wp2
      go_roundw
      case rel => exact ⟨t + 1, ht2, H7⟩
      case measure => show 100000000100 - (n + 1 + (t + 1)) < 100000000100 - (n + 1 + t); omega
end Go.Proofs.Ytcnphkmcgefjoaa
