/- Decode, in op and in the document. -/
import Derived.Test.YtgfhnbjpdhdhgaaOpR
namespace Go.Proofs.Ytgfhnbjpdhdhgaa
open Go.RowKit
set_option linter.unusedVariables false

/-- what a call of Decode tells -/
def DecP (l : List UInt8) (w : World) (e : Ending) (w' : World) : Prop :=
  ∃ v5 v6, e = .returned (.tuple #[opV (decR l).k (decR l).h (decR l).a (decR l).c (decR l).o v5 v6, .int .i64 (decR l).e]) ∧
    St w [] w' (lay [.row 5 1 v5 (decR l).d.length ((decR l).d.map vb), .row 5 1 v6 (decR l).m.length ((decR l).m.map vb)])
theorem DecP.no {l : List UInt8} {w w' : World} (h : decR l = noNext) (hb : Below w.heap.size w w') : DecP l w (.returned (.tuple #[opV 0 0 0 0 0 (.slice none 0 0) (.slice none 0 0), .int .i64 300])) w' := by
  refine ⟨.slice none 0 0, .slice none 0 0, by rw [h]; rfl, ?_⟩
  rw [h]
  exact ((((St.start_lay w []).call hb).nilRow 0 rfl _ _).push_mk rfl |>.nilRow 1 rfl _ _).push_mk rfl
theorem decR_of (l : List UInt8) : ((nextR l).e = 0 → (nextR l).N = l.length → decR l = nextR l) ∧ (((nextR l).e ≠ 0 ∨ (nextR l).N ≠ l.length) → decR l = noNext) := by
  unfold decR
  refine ⟨fun h1 h2 => if_pos ⟨h1, h2⟩, fun h => if_neg ?_⟩
  rcases h with h | h
  · exact fun h' => h h'.1
  · exact fun h' => h h'.2

set_option maxHeartbeats 2000000 in
theorem decode_s (A : Option Addr) (n c : Nat) (l : List UInt8) (w : World) (hR : Rd w 1 A n (l.map vb)) (hc : n ≤ c) (hn : n ≤ 140737488351232) :
    Calls Try.prog 21 #[.slice A n c] w (DecP l w) := by
  have hl : l.length = n := by simpa using hR.1
  have HL := Lib.hid hl
  clear hl
  have H0 := St.start_lay w []
  go_enter Try.func21, Try.ntmps21
  go_wp2_with fail
  refine absorb_calls (H0.allocAt 0 rfl w.heap.size rfl _ _ |>.push_mk rfl) ?_
  intro w1 H
  generalize hga : w.heap.size = ga at H ⊢
  clear hga H0
  refine (next_s A n c l w1 (H.arg0 hR) hc hn).mono ?_
  rintro e w2 ⟨v5, v6, rfl, HN⟩
  have H2 := H.also HN
  clear HN H
  have hd := decR_of l
  obtain ⟨A5, c5, rfl, -⟩ := row_form (H2.row 1 rfl)
  obtain ⟨A6, c6, rfl, -⟩ := row_form (H2.row 2 rfl)
  obtain ⟨r, hr⟩ : ∃ r, nextR l = r := ⟨_, rfl⟩
  rw [hr] at hd H2 ⊢
  clear hr
  obtain ⟨k, h, a, cn, ou, dd, mm, NN, ee⟩ := r
  simp only at hd H2 ⊢
  have HD := Lib.hid hd
  clear hd
  obtain ⟨n5, N5⟩ : ∃ x, Hid (dd.length = x) := ⟨_, rfl⟩
  obtain ⟨n6, N6⟩ : ∃ x, Hid (mm.length = x) := ⟨_, rfl⟩
  rw [N5.out, N6.out] at H2 ⊢
  obtain ⟨ng, NG⟩ : ∃ x, Hid (w2.heap.size = x) := ⟨_, rfl⟩
  by_cases he : ee = 0
  · subst he
    by_cases hN : NN = n
    · have hne : ((NN : Int) != n) = false := by rw [hN]; simp
      have HN := Lib.hid hN
      clear hN
      have HA := (H2.allocAt 3 rfl w2.heap.size rfl #[.int .u8 (k.toNat : Int), .int .i64 h, .int .u8 (a.toNat : Int), .int .i64 cn, .int .i64 ou, .slice A5 n5 c5, .slice A6 n6 c6] 31)
      have HX : St w [] (w2.alloc (.cells #[.int .u8 (k.toNat : Int), .int .i64 h, .int .u8 (a.toNat : Int), .int .i64 cn, .int .i64 ou, .slice A5 n5 c5, .slice A6 n6 c6] 31)) (lay [.blk ga 31 [.int .u8 0, .int .i64 0, .int .u8 0, .int .i64 0, .int .i64 0, .slice none 0 0, .slice none 0 0], .row 5 1 (.slice A5 n5 c5) n5 (dd.map vb), .row 5 1 (.slice A6 n6 c6) n6 (mm.map vb), .blk w2.heap.size 31 [.int .u8 (k.toNat : Int), .int .i64 h, .int .u8 (a.toNat : Int), .int .i64 cn, .int .i64 ou, .slice A5 n5 c5, .slice A6 n6 c6]]) := HA.push_mk rfl
      have hb := HX.blk 3 rfl
      have ht := HX.there 0 rfl
      go_wp2_with (first | (refine wpList_load_row rfl 31 (.tmp 4) rfl w2.heap.size rfl _ _ _ _ hb Try.underlying31 rfl op_size ?_) | (refine wpList_store_mid rfl 31 (.tmp 2) (.tmp 22) rfl ga 0 (List.toArray [.int .u8 (k.toNat : Int), .int .i64 h, .int .u8 (a.toNat : Int), .int .i64 cn, .int .i64 ou, .slice A5 n5 c5, .slice A6 n6 c6]) rfl rfl ht op_size (all_oneCell_toArray (by simp [Value.oneCell'])) ?_))
      have HY : St w [] ((w2.alloc (.cells #[.int .u8 (k.toNat : Int), .int .i64 h, .int .u8 (a.toNat : Int), .int .i64 cn, .int .i64 ou, .slice A5 n5 c5, .slice A6 n6 c6] 31)).setCells ga 0 [.int .u8 (k.toNat : Int), .int .i64 h, .int .u8 (a.toNat : Int), .int .i64 cn, .int .i64 ou, .slice A5 n5 c5, .slice A6 n6 c6]) (lay [.blk ga 31 [.int .u8 (k.toNat : Int), .int .i64 h, .int .u8 (a.toNat : Int), .int .i64 cn, .int .i64 ou, .slice A5 n5 c5, .slice A6 n6 c6], .row 5 1 (.slice A5 n5 c5) n5 (dd.map vb), .row 5 1 (.slice A6 n6 c6) n6 (mm.map vb), .blk w2.heap.size 31 [.int .u8 (k.toNat : Int), .int .i64 h, .int .u8 (a.toNat : Int), .int .i64 cn, .int .i64 ou, .slice A5 n5 c5, .slice A6 n6 c6]]) := (HX.storeAll 0 rfl (vs := [.int .u8 (k.toNat : Int), .int .i64 h, .int .u8 (a.toNat : Int), .int .i64 cn, .int .i64 ou, .slice A5 n5 c5, .slice A6 n6 c6]) rfl).upd_mk (by simp)
      refine bodyPost_ret (results_cell1 rfl _ _ ga 31 _ _ _ rfl (HY.blk 0 rfl) Try.underlying31 rfl op_size) rfl ?_
      have hdd := HD.out.1 (by simp) (HN.out.trans HL.out.symm)
      refine ⟨.slice A5 n5 c5, .slice A6 n6 c6, by rw [hdd]; rfl, ?_⟩
      rw [hdd]
      simp only
      rw [N5.out, N6.out]
      exact HY.pick (fun k => k + 1) (fun i j h => by omega) (fun k A hA => by match k with | 0 => exact hA | 1 => exact hA | k + 2 => simp [lay] at hA)
    · have hne : ((NN : Int) != n) = true := by simp only [bne_iff_ne, ne_eq]; omega
      have HN := Lib.hid hN
      clear hN
      have HX : St w [] (w2.alloc (.cells #[.int .u8 (k.toNat : Int), .int .i64 h, .int .u8 (a.toNat : Int), .int .i64 cn, .int .i64 ou, .slice A5 n5 c5, .slice A6 n6 c6] 31)) (lay [.blk ga 31 [.int .u8 0, .int .i64 0, .int .u8 0, .int .i64 0, .int .i64 0, .slice none 0 0, .slice none 0 0], .row 5 1 (.slice A5 n5 c5) n5 (dd.map vb), .row 5 1 (.slice A6 n6 c6) n6 (mm.map vb), .blk w2.heap.size 31 [.int .u8 (k.toNat : Int), .int .i64 h, .int .u8 (a.toNat : Int), .int .i64 cn, .int .i64 ou, .slice A5 n5 c5, .slice A6 n6 c6]]) := (H2.allocAt 3 rfl w2.heap.size rfl #[.int .u8 (k.toNat : Int), .int .i64 h, .int .u8 (a.toNat : Int), .int .i64 cn, .int .i64 ou, .slice A5 n5 c5, .slice A6 n6 c6] 31).push_mk rfl
      have ht := HX.there 0 rfl
      go_wp2_with (refine wpList_store_mid rfl 31 (.tmp 2) (.tmp 21) rfl ga 0 _ rfl rfl ht op_size (by simp [Value.oneCell']) ?_)
      have HY := (HX.storeAll 0 rfl (vs := [.int .u8 0, .int .i64 0, .int .u8 0, .int .i64 0, .int .i64 0, .slice none 0 0, .slice none 0 0]) rfl).upd_mk (by simp)
      refine bodyPost_ret (results_cell1 rfl _ _ ga 31 _ _ _ rfl (HY.blk 0 rfl) Try.underlying31 rfl op_size) rfl ?_
      exact DecP.no (HD.out.2 (.inr (fun h => HN.out (h.trans HL.out)))) HY.below
  · have hee : (ee != 0) = true := by simpa using he
    have HE := Lib.hid he
    clear he
    have HX : St w [] (w2.alloc (.cells #[.int .u8 (k.toNat : Int), .int .i64 h, .int .u8 (a.toNat : Int), .int .i64 cn, .int .i64 ou, .slice A5 n5 c5, .slice A6 n6 c6] 31)) (lay [.blk ga 31 [.int .u8 0, .int .i64 0, .int .u8 0, .int .i64 0, .int .i64 0, .slice none 0 0, .slice none 0 0], .row 5 1 (.slice A5 n5 c5) n5 (dd.map vb), .row 5 1 (.slice A6 n6 c6) n6 (mm.map vb), .blk w2.heap.size 31 [.int .u8 (k.toNat : Int), .int .i64 h, .int .u8 (a.toNat : Int), .int .i64 cn, .int .i64 ou, .slice A5 n5 c5, .slice A6 n6 c6]]) := (H2.allocAt 3 rfl w2.heap.size rfl #[.int .u8 (k.toNat : Int), .int .i64 h, .int .u8 (a.toNat : Int), .int .i64 cn, .int .i64 ou, .slice A5 n5 c5, .slice A6 n6 c6] 31).push_mk rfl
    have ht := HX.there 0 rfl
    go_wp2_with (refine wpList_store_mid rfl 31 (.tmp 2) (.tmp 21) rfl ga 0 _ rfl rfl ht op_size (by simp [Value.oneCell']) ?_)
    have HY := (HX.storeAll 0 rfl (vs := [.int .u8 0, .int .i64 0, .int .u8 0, .int .i64 0, .int .i64 0, .slice none 0 0, .slice none 0 0]) rfl).upd_mk (by simp)
    refine bodyPost_ret (results_cell1 rfl _ _ ga 31 _ _ _ rfl (HY.blk 0 rfl) Try.underlying31 rfl op_size) rfl ?_
    exact DecP.no (HD.out.2 (.inl HE.out)) HY.below

set_option maxHeartbeats 2000000 in
theorem refDecode_s (A : Option Addr) (n c : Nat) (l : List UInt8) (w : World) (hR : Rd w 1 A n (l.map vb)) (hc : n ≤ c) (hn : n ≤ 140737488351232) :
    Calls Try.prog 23 #[.slice A n c] w (DecP l w) := by
  have hl : l.length = n := by simpa using hR.1
  have HL := Lib.hid hl
  clear hl
  have H0 := St.start_lay w []
  go_enter Try.func23, Try.ntmps23
  go_wp2_with fail
  refine absorb_calls (H0.allocAt 0 rfl w.heap.size rfl _ _ |>.push_mk rfl) ?_
  intro w1 H
  generalize hga : w.heap.size = ga at H ⊢
  clear hga H0
  refine (refNext_s A n c l w1 (H.arg0 hR) hc hn).mono ?_
  rintro e w2 ⟨v5, v6, rfl, HN⟩
  have H2 := H.also HN
  clear HN H
  have hd := decR_of l
  obtain ⟨A5, c5, rfl, -⟩ := row_form (H2.row 1 rfl)
  obtain ⟨A6, c6, rfl, -⟩ := row_form (H2.row 2 rfl)
  obtain ⟨r, hr⟩ : ∃ r, nextR l = r := ⟨_, rfl⟩
  rw [hr] at hd H2 ⊢
  clear hr
  obtain ⟨k, h, a, cn, ou, dd, mm, NN, ee⟩ := r
  simp only at hd H2 ⊢
  have HD := Lib.hid hd
  clear hd
  obtain ⟨n5, N5⟩ : ∃ x, Hid (dd.length = x) := ⟨_, rfl⟩
  obtain ⟨n6, N6⟩ : ∃ x, Hid (mm.length = x) := ⟨_, rfl⟩
  rw [N5.out, N6.out] at H2 ⊢
  obtain ⟨ng, NG⟩ : ∃ x, Hid (w2.heap.size = x) := ⟨_, rfl⟩
  by_cases he : ee = 0
  · subst he
    by_cases hN : NN = n
    · have hne : ((NN : Int) != n) = false := by rw [hN]; simp
      have HN := Lib.hid hN
      clear hN
      have HA := (H2.allocAt 3 rfl w2.heap.size rfl #[.int .u8 (k.toNat : Int), .int .i64 h, .int .u8 (a.toNat : Int), .int .i64 cn, .int .i64 ou, .slice A5 n5 c5, .slice A6 n6 c6] 31)
      have HX : St w [] (w2.alloc (.cells #[.int .u8 (k.toNat : Int), .int .i64 h, .int .u8 (a.toNat : Int), .int .i64 cn, .int .i64 ou, .slice A5 n5 c5, .slice A6 n6 c6] 31)) (lay [.blk ga 31 [.int .u8 0, .int .i64 0, .int .u8 0, .int .i64 0, .int .i64 0, .slice none 0 0, .slice none 0 0], .row 5 1 (.slice A5 n5 c5) n5 (dd.map vb), .row 5 1 (.slice A6 n6 c6) n6 (mm.map vb), .blk w2.heap.size 31 [.int .u8 (k.toNat : Int), .int .i64 h, .int .u8 (a.toNat : Int), .int .i64 cn, .int .i64 ou, .slice A5 n5 c5, .slice A6 n6 c6]]) := HA.push_mk rfl
      have hb := HX.blk 3 rfl
      have ht := HX.there 0 rfl
      go_wp2_with (first | (refine wpList_load_row rfl 31 (.tmp 4) rfl w2.heap.size rfl _ _ _ _ hb Try.underlying31 rfl op_size ?_) | (refine wpList_store_mid rfl 31 (.tmp 2) (.tmp 22) rfl ga 0 (List.toArray [.int .u8 (k.toNat : Int), .int .i64 h, .int .u8 (a.toNat : Int), .int .i64 cn, .int .i64 ou, .slice A5 n5 c5, .slice A6 n6 c6]) rfl rfl ht op_size (all_oneCell_toArray (by simp [Value.oneCell'])) ?_))
      have HY : St w [] ((w2.alloc (.cells #[.int .u8 (k.toNat : Int), .int .i64 h, .int .u8 (a.toNat : Int), .int .i64 cn, .int .i64 ou, .slice A5 n5 c5, .slice A6 n6 c6] 31)).setCells ga 0 [.int .u8 (k.toNat : Int), .int .i64 h, .int .u8 (a.toNat : Int), .int .i64 cn, .int .i64 ou, .slice A5 n5 c5, .slice A6 n6 c6]) (lay [.blk ga 31 [.int .u8 (k.toNat : Int), .int .i64 h, .int .u8 (a.toNat : Int), .int .i64 cn, .int .i64 ou, .slice A5 n5 c5, .slice A6 n6 c6], .row 5 1 (.slice A5 n5 c5) n5 (dd.map vb), .row 5 1 (.slice A6 n6 c6) n6 (mm.map vb), .blk w2.heap.size 31 [.int .u8 (k.toNat : Int), .int .i64 h, .int .u8 (a.toNat : Int), .int .i64 cn, .int .i64 ou, .slice A5 n5 c5, .slice A6 n6 c6]]) := (HX.storeAll 0 rfl (vs := [.int .u8 (k.toNat : Int), .int .i64 h, .int .u8 (a.toNat : Int), .int .i64 cn, .int .i64 ou, .slice A5 n5 c5, .slice A6 n6 c6]) rfl).upd_mk (by simp)
      refine bodyPost_ret (results_cell1 rfl _ _ ga 31 _ _ _ rfl (HY.blk 0 rfl) Try.underlying31 rfl op_size) rfl ?_
      have hdd := HD.out.1 (by simp) (HN.out.trans HL.out.symm)
      refine ⟨.slice A5 n5 c5, .slice A6 n6 c6, by rw [hdd]; rfl, ?_⟩
      rw [hdd]
      simp only
      rw [N5.out, N6.out]
      exact HY.pick (fun k => k + 1) (fun i j h => by omega) (fun k A hA => by match k with | 0 => exact hA | 1 => exact hA | k + 2 => simp [lay] at hA)
    · have hne : ((NN : Int) != n) = true := by simp only [bne_iff_ne, ne_eq]; omega
      have HN := Lib.hid hN
      clear hN
      have HX : St w [] (w2.alloc (.cells #[.int .u8 (k.toNat : Int), .int .i64 h, .int .u8 (a.toNat : Int), .int .i64 cn, .int .i64 ou, .slice A5 n5 c5, .slice A6 n6 c6] 31)) (lay [.blk ga 31 [.int .u8 0, .int .i64 0, .int .u8 0, .int .i64 0, .int .i64 0, .slice none 0 0, .slice none 0 0], .row 5 1 (.slice A5 n5 c5) n5 (dd.map vb), .row 5 1 (.slice A6 n6 c6) n6 (mm.map vb), .blk w2.heap.size 31 [.int .u8 (k.toNat : Int), .int .i64 h, .int .u8 (a.toNat : Int), .int .i64 cn, .int .i64 ou, .slice A5 n5 c5, .slice A6 n6 c6]]) := (H2.allocAt 3 rfl w2.heap.size rfl #[.int .u8 (k.toNat : Int), .int .i64 h, .int .u8 (a.toNat : Int), .int .i64 cn, .int .i64 ou, .slice A5 n5 c5, .slice A6 n6 c6] 31).push_mk rfl
      have ht := HX.there 0 rfl
      go_wp2_with (refine wpList_store_mid rfl 31 (.tmp 2) (.tmp 21) rfl ga 0 _ rfl rfl ht op_size (by simp [Value.oneCell']) ?_)
      have HY := (HX.storeAll 0 rfl (vs := [.int .u8 0, .int .i64 0, .int .u8 0, .int .i64 0, .int .i64 0, .slice none 0 0, .slice none 0 0]) rfl).upd_mk (by simp)
      refine bodyPost_ret (results_cell1 rfl _ _ ga 31 _ _ _ rfl (HY.blk 0 rfl) Try.underlying31 rfl op_size) rfl ?_
      exact DecP.no (HD.out.2 (.inr (fun h => HN.out (h.trans HL.out)))) HY.below
  · have hee : (ee != 0) = true := by simpa using he
    have HE := Lib.hid he
    clear he
    have HX : St w [] (w2.alloc (.cells #[.int .u8 (k.toNat : Int), .int .i64 h, .int .u8 (a.toNat : Int), .int .i64 cn, .int .i64 ou, .slice A5 n5 c5, .slice A6 n6 c6] 31)) (lay [.blk ga 31 [.int .u8 0, .int .i64 0, .int .u8 0, .int .i64 0, .int .i64 0, .slice none 0 0, .slice none 0 0], .row 5 1 (.slice A5 n5 c5) n5 (dd.map vb), .row 5 1 (.slice A6 n6 c6) n6 (mm.map vb), .blk w2.heap.size 31 [.int .u8 (k.toNat : Int), .int .i64 h, .int .u8 (a.toNat : Int), .int .i64 cn, .int .i64 ou, .slice A5 n5 c5, .slice A6 n6 c6]]) := (H2.allocAt 3 rfl w2.heap.size rfl #[.int .u8 (k.toNat : Int), .int .i64 h, .int .u8 (a.toNat : Int), .int .i64 cn, .int .i64 ou, .slice A5 n5 c5, .slice A6 n6 c6] 31).push_mk rfl
    have ht := HX.there 0 rfl
    go_wp2_with (refine wpList_store_mid rfl 31 (.tmp 2) (.tmp 21) rfl ga 0 _ rfl rfl ht op_size (by simp [Value.oneCell']) ?_)
    have HY := (HX.storeAll 0 rfl (vs := [.int .u8 0, .int .i64 0, .int .u8 0, .int .i64 0, .int .i64 0, .slice none 0 0, .slice none 0 0]) rfl).upd_mk (by simp)
    refine bodyPost_ret (results_cell1 rfl _ _ ga 31 _ _ _ rfl (HY.blk 0 rfl) Try.underlying31 rfl op_size) rfl ?_
    exact DecP.no (HD.out.2 (.inl HE.out)) HY.below
end Go.Proofs.Ytgfhnbjpdhdhgaa
