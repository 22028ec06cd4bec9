/- The law KeccakApart, walked. -/
import Derived.Test.YtoodgdcpkkfdgaaLawKnown
import Derived.Test.YtoodgdcpkkfdgaaKecBack
import Derived.Test.YtoodgdcpkkfdgaaHeld
import Derived.Deep.Cut
namespace Go.Proofs.Ytoodgdcpkkfdgaa
open Go.RowKit
set_option linter.unusedVariables false
attribute [local irreducible] kPerm kBytes kOne kTwo kFrom

theorem raw_h (A : Option Addr) (n c : Nat) (p : List UInt8) (w : World) (ha : Rd w 1 A n (p.map vb)) (hn : n ≤ 140737488355328) :
    Calls Try.prog 19 #[.slice A n c] w fun e w' => ∃ s : List UInt64, Hid (s.length = 25) ∧ e = .returned (.agg (s.map u64v).toArray) ∧ Below w.heap.size w w' :=
  (raw_s A n c p w ha hn).mono fun _ _ ⟨h1, h2⟩ => ⟨_, kFrom_length _, h1, h2⟩

set_option maxHeartbeats 4000000 in
theorem keccakApart_walk (A : Option Addr) (n c : Nat) (p : List UInt8) (B : Option Addr) (m d : Nat) (q : List UInt8) (w : World) (hp : Rd w 1 A n (p.map vb)) (hn0 : n ≤ 140737488351232) (hq : Rd w 1 B m (q.map vb)) (hm0 : m ≤ 140737488351232) :
    Calls Try.prog 5 #[.slice A n c, .slice B m d] w fun e w' => e = .returned (.bool true) ∧ Below w.heap.size w w' := by
  have hn : n ≤ 140737488355328 := by omega
  have hm : m ≤ 140737488355328 := by omega
  clear hn0 hm0
  have H0 := ((St.start_lay w []).ledNil 0 rfl).push_mk rfl
  go_enter Try.func5, Try.ntmps5
  go_wp2_with fail
  refine (awake_s _).mono ?_
  rintro e w1 ⟨rfl, hb1⟩
  have H1 := H0.call hb1
  clear H0 hb1
  go_wp2_with fail
  refine (raw_h A n c p _ (H1.arg0 hp) hn).mono ?_
  rintro e w2 ⟨a, La, rfl, hb2⟩
  have H2 := H1.call hb2
  clear H1 hb2
  go_wp2_with (refine wpList_store_mid rfl 29 (.tmp 6) (.tmp 14) rfl w2.heap.size 0 _ rfl rfl (there_new _ _ _ _ (by simp [La.out])) (by rw [state_size]; simp [La.out]) (all_oneCell_toArray (u64_one _)) ?_; refine absorb_list (H2.allocAt 1 rfl w2.heap.size rfl _ _ |>.push_mk rfl |>.storeAll 1 rfl (vs := a.map u64v) (by simp [La.out]) |>.upd_mk (by simp)) ?_; intro w3 H3)
  clear H2
  generalize w2.heap.size = g1 at H3 ⊢
  refine (raw_h B m d q _ (H3.arg0 hq) hm).mono ?_
  rintro e w4 ⟨b, Lb, rfl, hb4⟩
  have H4 := H3.call hb4
  clear H3 hb4
  go_wp2_with (refine wpList_store_mid rfl 29 (.tmp 7) (.tmp 16) rfl w4.heap.size 0 _ rfl rfl (there_new _ _ _ _ (by simp [Lb.out])) (by rw [state_size]; simp [Lb.out]) (all_oneCell_toArray (u64_one _)) ?_; refine absorb_list (H4.allocAt 2 rfl w4.heap.size rfl _ _ |>.push_mk rfl |>.storeAll 2 rfl (vs := b.map u64v) (by simp [Lb.out]) |>.upd_mk (by simp)) ?_; intro w5 H5)
  clear H4
  generalize w4.heap.size = g2 at H5 ⊢
  refine (ledger_new H5 3 rfl).mono ?_
  rintro e w6 ⟨l, rfl, H6⟩
  replace H6 := H6.push_mk rfl
  clear H5
  go_wp2_with fail
  refine (ledger_new H6 4 rfl).mono ?_
  rintro e w7 ⟨r, rfl, H7⟩
  replace H7 := H7.push_mk rfl
  clear H6
  go_wp2_with (refine wpList_load_row rfl 29 (.tmp 6) rfl g1 rfl _ _ _ _ (H7.blk 1 rfl) Try.underlying29 rfl (by rw [state_size]; simp [La.out]) ?_)
  refine (permute_s l (some []) 0 a H7 3 rfl LGood.nil (by omega) La.out).mono ?_
  rintro e w8 ⟨rfl, H8⟩
  replace H8 := H8.upd_mk (by simp)
  clear H7
  have hx : ∃ x, Hid (x = kPerm a) ∧ Hid (x.length = 25) := ⟨_, rfl, by unfold Hid; rw [kPerm_length]; exact La.out⟩
  obtain ⟨x, ex, Lx⟩ := hx
  rw [← ex.out]
  go_wp2_with (first | (refine wpList_store_mid rfl 29 (.tmp 10) (.tmp 21) rfl w8.heap.size 0 _ rfl rfl (there_new _ _ _ _ (by simp [Lx.out])) (by rw [state_size]; simp [Lx.out]) (all_oneCell_toArray (u64_one _)) ?_; refine absorb_list (H8.allocAt 5 rfl w8.heap.size rfl _ _ |>.push_mk rfl |>.storeAll 5 rfl (vs := x.map u64v) (by simp [Lx.out]) |>.upd_mk (by simp)) ?_; intro w9 H9) | (refine wpList_load_row rfl 29 (.tmp 7) rfl g2 rfl _ _ _ _ (H9.blk 2 rfl) Try.underlying29 rfl (by rw [state_size]; simp [Lb.out]) ?_))
  clear H8
  generalize w8.heap.size = g3 at H9 ⊢
  refine (permute_s r (some []) 0 b H9 4 rfl LGood.nil (by omega) Lb.out).mono ?_
  rintro e w10 ⟨rfl, H10⟩
  replace H10 := H10.upd_mk (by simp)
  clear H9
  have hy : ∃ y, Hid (y = kPerm b) ∧ Hid (y.length = 25) := ⟨_, rfl, by unfold Hid; rw [kPerm_length]; exact Lb.out⟩
  obtain ⟨y, ey, Ly⟩ := hy
  rw [← ey.out]
  go_wp2_with (refine wpList_store_mid rfl 29 (.tmp 11) (.tmp 24) rfl w10.heap.size 0 _ rfl rfl (there_new _ _ _ _ (by simp [Ly.out])) (by rw [state_size]; simp [Ly.out]) (all_oneCell_toArray (u64_one _)) ?_; refine absorb_list (H10.allocAt 6 rfl w10.heap.size rfl _ _ |>.push_mk rfl |>.storeAll 6 rfl (vs := y.map u64v) (by simp [Ly.out]) |>.upd_mk (by simp)) ?_; intro w11 H11)
  clear H10
  generalize w10.heap.size = g4 at H11 ⊢
  replace H11 : St w [] w11 (lay [led (.pointer none) none, .blk g1 29 (a.map u64v), .blk g2 29 (b.map u64v), led l (kNote (some [])), led r (kNote (some [])), .blk g3 29 (x.map u64v), .blk g4 29 (y.map u64v)]) := H11
  have hab := eq_u64 29 25 Try.underlying29 a b La.out Lb.out
  have hxy := eq_u64 29 25 Try.underlying29 x y Lx.out Ly.out
  have hBB := eq_u8 26 200 Try.underlying26 (kBytes a) (kBytes b) (kBytes_length a La.out) (kBytes_length b Lb.out)
  have hxx := eq_u64 29 25 Try.underlying29 x x Lx.out Lx.out
  have hyy := eq_u8 26 200 Try.underlying26 (kBytes y) (kBytes y) (kBytes_length y Ly.out) (kBytes_length y Ly.out)
  obtain ⟨t, ht1, ht2, ht3⟩ : ∃ t : Bool, decide (a = b) = t ∧ decide (x = y) = t ∧ decide (kBytes a = kBytes b) = t := by
    refine ⟨_, rfl, ?_, ?_⟩
    · congr 1; exact propext ⟨fun h => perm_inj La.out Lb.out (by rw [← ex.out, ← ey.out, h]), fun h => by rw [ex.out, ey.out, h]⟩
    · congr 1; exact propext ⟨fun h => kBytes_inj La.out Lb.out h, fun h => by rw [h]⟩
  rw [ht1] at hab
  rw [ht2] at hxy
  rw [ht3] at hBB
  rw [decide_eq_true rfl] at hxx hyy
  have sz := state_size
  have hl1 : (Try.prog.info? 29).map (·.size) = some (a.map u64v).length := by rw [state_size]; simp [La.out]
  have hl2 : (Try.prog.info? 29).map (·.size) = some (b.map u64v).length := by rw [state_size]; simp [Lb.out]
  have hl3 : (Try.prog.info? 29).map (·.size) = some (x.map u64v).length := by rw [state_size]; simp [Lx.out]
  have hl4 : (Try.prog.info? 29).map (·.size) = some (y.map u64v).length := by rw [state_size]; simp [Ly.out]
  have hU := Try.underlying29
  clear ht1 ht2 ht3 sz ey
  go_cut [58] from 25 (fun v wr => v = .bool false ∧ St w [] wr (lay [led (.pointer none) none, .blk g1 29 (a.map u64v), .blk g2 29 (b.map u64v), led l (kNote (some [])), led r (kNote (some [])), .blk g3 29 (x.map u64v), .blk g4 29 (y.map u64v)]))
  case first =>
    have H := H11.drew
    clear H11
    cases t
    case false =>
      refine wp_region_held_drew (S := fun w' : World => w'.rangeAt g1 0 (a.map u64v) ∧ w'.rangeAt g2 0 (b.map u64v) ∧ w'.rangeAt g3 0 (x.map u64v) ∧ w'.rangeAt g4 0 (y.map u64v)) (by kernel_rfl) ?_ (fun hHeld => ?_)
      · exact ⟨H.range 1 rfl, H.range 2 rfl, H.range 5 rfl, H.range 6 rfl⟩
      refine take_load 0 g3 (x.map u64v) (fun w h => h.2.2.1) hU hl3 rfl (by kernel_rfl) (by kernel_rfl) (by kernel_rfl) (fun _ _ _ h => h) rfl rfl rfl rfl (by assumption) ?_
      try simp only [Act.put, List.setIfInBounds_toArray, List.set_cons_zero, List.set_cons_succ]
      refine take_load 1 g4 (y.map u64v) (fun w h => h.2.2.2) hU hl4 rfl (by kernel_rfl) (by kernel_rfl) (by kernel_rfl) (fun _ _ _ h => h) rfl rfl rfl rfl (by assumption) ?_
      try simp only [Act.put, List.setIfInBounds_toArray, List.set_cons_zero, List.set_cons_succ]
      refine take_pure 2 (.bool false) rfl (by kernel_rfl) (by kernel_rfl) (by kernel_rfl) (fun _ _ _ h => h) rfl (by intro w hSw; go_simp; try with_reducible rfl) (by assumption) ?_
      try simp only [Act.put, List.setIfInBounds_toArray, List.set_cons_zero, List.set_cons_succ]
      refine take_load 3 g1 (a.map u64v) (fun w h => h.1) hU hl1 rfl (by kernel_rfl) (by kernel_rfl) (by kernel_rfl) (fun _ _ _ h => h) rfl rfl rfl rfl (by assumption) ?_
      try simp only [Act.put, List.setIfInBounds_toArray, List.set_cons_zero, List.set_cons_succ]
      refine take_load 4 g2 (b.map u64v) (fun w h => h.2.1) hU hl2 rfl (by kernel_rfl) (by kernel_rfl) (by kernel_rfl) (fun _ _ _ h => h) rfl rfl rfl rfl (by assumption) ?_
      try simp only [Act.put, List.setIfInBounds_toArray, List.set_cons_zero, List.set_cons_succ]
      refine take_pure 5 (.bool false) rfl (by kernel_rfl) (by kernel_rfl) (by kernel_rfl) (fun _ _ _ h => h) rfl (by intro w hSw; go_simp; try with_reducible rfl) (by assumption) ?_
      try simp only [Act.put, List.setIfInBounds_toArray, List.set_cons_zero, List.set_cons_succ]
      refine take_pure 6 (.bool false) rfl (by kernel_rfl) (by kernel_rfl) (by kernel_rfl) (fun _ _ _ h => h) rfl (by intro w hSw; go_simp; try with_reducible rfl) (by assumption) ?_
      try simp only [Act.put, List.setIfInBounds_toArray, List.set_cons_zero, List.set_cons_succ]
      refine take_pure 7 (.bool false) rfl (by kernel_rfl) (by kernel_rfl) (by kernel_rfl) (fun _ _ _ h => h) rfl (by intro w hSw; go_simp; try with_reducible rfl) (by assumption) ?_
      try simp only [Act.put, List.setIfInBounds_toArray, List.set_cons_zero, List.set_cons_succ]
      refine take_load 8 g1 (a.map u64v) (fun w h => h.1) hU hl1 rfl (by kernel_rfl) (by kernel_rfl) (by kernel_rfl) (fun _ _ _ h => h) rfl rfl rfl rfl (by assumption) ?_
      try simp only [Act.put, List.setIfInBounds_toArray, List.set_cons_zero, List.set_cons_succ]
      refine take_load 10 g2 (b.map u64v) (fun w h => h.2.1) hU hl2 rfl (by kernel_rfl) (by kernel_rfl) (by kernel_rfl) (fun _ _ _ h => h) rfl rfl rfl rfl (by assumption) ?_
      try simp only [Act.put, List.setIfInBounds_toArray, List.set_cons_zero, List.set_cons_succ]
      refine take_load 13 g1 (a.map u64v) (fun w h => h.1) hU hl1 rfl (by kernel_rfl) (by kernel_rfl) (by kernel_rfl) (fun _ _ _ h => h) rfl rfl rfl rfl (by assumption) ?_
      try simp only [Act.put, List.setIfInBounds_toArray, List.set_cons_zero, List.set_cons_succ]
      refine take_load 14 g2 (b.map u64v) (fun w h => h.2.1) hU hl2 rfl (by kernel_rfl) (by kernel_rfl) (by kernel_rfl) (fun _ _ _ h => h) rfl rfl rfl rfl (by assumption) ?_
      try simp only [Act.put, List.setIfInBounds_toArray, List.set_cons_zero, List.set_cons_succ]
      refine take_pure 15 (.bool false) rfl (by kernel_rfl) (by kernel_rfl) (by kernel_rfl) (fun _ _ _ h => h) rfl (by intro w hSw; go_simp; try with_reducible rfl) (by assumption) ?_
      try simp only [Act.put, List.setIfInBounds_toArray, List.set_cons_zero, List.set_cons_succ]
      refine take_call 9 rfl (by kernel_rfl) (fun K hK => ?_)
      try go_simp
      refine (bytes_h a La _).mono ?_
      rintro e w12 ⟨rfl, hb12⟩
      replace H := H.call hb12
      clear hb12
      refine hK.out _ _ ?_ (fun hHeld => ?_)
      · exact ⟨H.range 1 rfl, H.range 2 rfl, H.range 5 rfl, H.range 6 rfl⟩
      clear hK K
      try simp only [Act.put, List.setIfInBounds_toArray, List.set_cons_zero, List.set_cons_succ]
      refine take_call 11 rfl (by kernel_rfl) (fun K hK => ?_)
      try go_simp
      refine (bytes_h b Lb _).mono ?_
      rintro e w12 ⟨rfl, hb12⟩
      replace H := H.call hb12
      clear hb12
      refine hK.out _ _ ?_ (fun hHeld => ?_)
      · exact ⟨H.range 1 rfl, H.range 2 rfl, H.range 5 rfl, H.range 6 rfl⟩
      clear hK K
      try simp only [Act.put, List.setIfInBounds_toArray, List.set_cons_zero, List.set_cons_succ]
      refine take_pure 12 (.bool false) rfl (by kernel_rfl) (by kernel_rfl) (by kernel_rfl) (fun _ _ _ h => h) rfl (by intro w hSw; go_simp; try with_reducible rfl) (by assumption) ?_
      try simp only [Act.put, List.setIfInBounds_toArray, List.set_cons_zero, List.set_cons_succ]
      refine take_pure 16 (.bool false) rfl (by kernel_rfl) (by kernel_rfl) (by kernel_rfl) (fun _ _ _ h => h) rfl (by intro w hSw; go_simp; try with_reducible rfl) (by assumption) ?_
      try simp only [Act.put, List.setIfInBounds_toArray, List.set_cons_zero, List.set_cons_succ]
      refine take_pure 17 (.bool false) rfl (by kernel_rfl) (by kernel_rfl) (by kernel_rfl) (fun _ _ _ h => h) rfl (by intro w hSw; go_simp; try with_reducible rfl) (by assumption) ?_
      try simp only [Act.put, List.setIfInBounds_toArray, List.set_cons_zero, List.set_cons_succ]
      refine take_pure 18 (.bool false) rfl (by kernel_rfl) (by kernel_rfl) (by kernel_rfl) (fun _ _ _ h => h) rfl (by intro w hSw; go_simp; try with_reducible rfl) (by assumption) ?_
      try simp only [Act.put, List.setIfInBounds_toArray, List.set_cons_zero, List.set_cons_succ]
      refine take_load 19 g3 (x.map u64v) (fun w h => h.2.2.1) hU hl3 rfl (by kernel_rfl) (by kernel_rfl) (by kernel_rfl) (fun _ _ _ h => h) rfl rfl rfl rfl (by assumption) ?_
      try simp only [Act.put, List.setIfInBounds_toArray, List.set_cons_zero, List.set_cons_succ]
      refine take_load 22 g3 (x.map u64v) (fun w h => h.2.2.1) hU hl3 rfl (by kernel_rfl) (by kernel_rfl) (by kernel_rfl) (fun _ _ _ h => h) rfl rfl rfl rfl (by assumption) ?_
      try simp only [Act.put, List.setIfInBounds_toArray, List.set_cons_zero, List.set_cons_succ]
      refine take_call 20 rfl (by kernel_rfl) (fun K hK => ?_)
      try go_simp
      refine (bytes_h x Lx _).mono ?_
      rintro e w12 ⟨rfl, hb12⟩
      replace H := H.call hb12
      clear hb12
      refine hK.out _ _ ?_ (fun hHeld => ?_)
      · exact ⟨H.range 1 rfl, H.range 2 rfl, H.range 5 rfl, H.range 6 rfl⟩
      clear hK K
      try simp only [Act.put, List.setIfInBounds_toArray, List.set_cons_zero, List.set_cons_succ]
      refine take_call 21 rfl (by kernel_rfl) (fun K hK => ?_)
      try go_simp
      refine (from_b x Lx _).mono ?_
      rintro e w12 ⟨rfl, hb12⟩
      replace H := H.call hb12
      clear hb12
      refine hK.out _ _ ?_ (fun hHeld => ?_)
      · exact ⟨H.range 1 rfl, H.range 2 rfl, H.range 5 rfl, H.range 6 rfl⟩
      clear hK K
      try simp only [Act.put, List.setIfInBounds_toArray, List.set_cons_zero, List.set_cons_succ]
      refine take_pure 23 (.bool false) rfl (by kernel_rfl) (by kernel_rfl) (by kernel_rfl) (fun _ _ _ h => h) rfl (by intro w hSw; go_simp; try with_reducible rfl) (by assumption) ?_
      try simp only [Act.put, List.setIfInBounds_toArray, List.set_cons_zero, List.set_cons_succ]
      refine take_pure 24 (.bool false) rfl (by kernel_rfl) (by kernel_rfl) (by kernel_rfl) (fun _ _ _ h => h) rfl (by intro w hSw; go_simp; try with_reducible rfl) (by assumption) ?_
      try simp only [Act.put, List.setIfInBounds_toArray, List.set_cons_zero, List.set_cons_succ]
      refine take_pure 25 (.bool false) rfl (by kernel_rfl) (by kernel_rfl) (by kernel_rfl) (fun _ _ _ h => h) rfl (by intro w hSw; go_simp; try with_reducible rfl) (by assumption) ?_
      try simp only [Act.put, List.setIfInBounds_toArray, List.set_cons_zero, List.set_cons_succ]
      refine take_load 26 g4 (y.map u64v) (fun w h => h.2.2.2) hU hl4 rfl (by kernel_rfl) (by kernel_rfl) (by kernel_rfl) (fun _ _ _ h => h) rfl rfl rfl rfl (by assumption) ?_
      try simp only [Act.put, List.setIfInBounds_toArray, List.set_cons_zero, List.set_cons_succ]
      refine take_load 30 g4 (y.map u64v) (fun w h => h.2.2.2) hU hl4 rfl (by kernel_rfl) (by kernel_rfl) (by kernel_rfl) (fun _ _ _ h => h) rfl rfl rfl rfl (by assumption) ?_
      try simp only [Act.put, List.setIfInBounds_toArray, List.set_cons_zero, List.set_cons_succ]
      refine take_call 27 rfl (by kernel_rfl) (fun K hK => ?_)
      try go_simp
      refine (bytes_h y Ly _).mono ?_
      rintro e w12 ⟨rfl, hb12⟩
      replace H := H.call hb12
      clear hb12
      refine hK.out _ _ ?_ (fun hHeld => ?_)
      · exact ⟨H.range 1 rfl, H.range 2 rfl, H.range 5 rfl, H.range 6 rfl⟩
      clear hK K
      try simp only [Act.put, List.setIfInBounds_toArray, List.set_cons_zero, List.set_cons_succ]
      refine take_call 28 rfl (by kernel_rfl) (fun K hK => ?_)
      try go_simp
      refine (from_b y Ly _).mono ?_
      rintro e w12 ⟨rfl, hb12⟩
      replace H := H.call hb12
      clear hb12
      refine hK.out _ _ ?_ (fun hHeld => ?_)
      · exact ⟨H.range 1 rfl, H.range 2 rfl, H.range 5 rfl, H.range 6 rfl⟩
      clear hK K
      try simp only [Act.put, List.setIfInBounds_toArray, List.set_cons_zero, List.set_cons_succ]
      refine take_call 29 rfl (by kernel_rfl) (fun K hK => ?_)
      try go_simp
      refine (bytes_h y Ly _).mono ?_
      rintro e w12 ⟨rfl, hb12⟩
      replace H := H.call hb12
      clear hb12
      refine hK.out _ _ ?_ (fun hHeld => ?_)
      · exact ⟨H.range 1 rfl, H.range 2 rfl, H.range 5 rfl, H.range 6 rfl⟩
      clear hK K
      try simp only [Act.put, List.setIfInBounds_toArray, List.set_cons_zero, List.set_cons_succ]
      refine take_call 31 rfl (by kernel_rfl) (fun K hK => ?_)
      try go_simp
      refine (bytes_h y Ly _).mono ?_
      rintro e w12 ⟨rfl, hb12⟩
      replace H := H.call hb12
      clear hb12
      refine hK.out _ _ ?_ (fun hHeld => ?_)
      · exact ⟨H.range 1 rfl, H.range 2 rfl, H.range 5 rfl, H.range 6 rfl⟩
      clear hK K
      try simp only [Act.put, List.setIfInBounds_toArray, List.set_cons_zero, List.set_cons_succ]
      refine take_pure 32 (.bool false) rfl (by kernel_rfl) (by kernel_rfl) (by kernel_rfl) (fun _ _ _ h => h) rfl (by intro w hSw; go_simp; try with_reducible rfl) (by assumption) ?_
      try simp only [Act.put, List.setIfInBounds_toArray, List.set_cons_zero, List.set_cons_succ]
      refine take_pure 33 (.bool false) rfl (by kernel_rfl) (by kernel_rfl) (by kernel_rfl) (fun _ _ _ h => h) rfl (by intro w hSw; go_simp; try with_reducible rfl) (by assumption) ?_
      try simp only [Act.put, List.setIfInBounds_toArray, List.set_cons_zero, List.set_cons_succ]
      refine wpAnyH_done (by kernel_rfl) ?_ _
      go_wp2_with fail
      go_meet
      case rel => exact ⟨rfl, H⟩
    case true =>
      refine wp_region_held_drew (S := fun w' : World => w'.rangeAt g1 0 (a.map u64v) ∧ w'.rangeAt g2 0 (b.map u64v) ∧ w'.rangeAt g3 0 (x.map u64v) ∧ w'.rangeAt g4 0 (y.map u64v)) (by kernel_rfl) ?_ (fun hHeld => ?_)
      · exact ⟨H.range 1 rfl, H.range 2 rfl, H.range 5 rfl, H.range 6 rfl⟩
      refine take_load 0 g3 (x.map u64v) (fun w h => h.2.2.1) hU hl3 rfl (by kernel_rfl) (by kernel_rfl) (by kernel_rfl) (fun _ _ _ h => h) rfl rfl rfl rfl (by assumption) ?_
      try simp only [Act.put, List.setIfInBounds_toArray, List.set_cons_zero, List.set_cons_succ]
      refine take_load 1 g4 (y.map u64v) (fun w h => h.2.2.2) hU hl4 rfl (by kernel_rfl) (by kernel_rfl) (by kernel_rfl) (fun _ _ _ h => h) rfl rfl rfl rfl (by assumption) ?_
      try simp only [Act.put, List.setIfInBounds_toArray, List.set_cons_zero, List.set_cons_succ]
      refine take_pure 2 (.bool true) rfl (by kernel_rfl) (by kernel_rfl) (by kernel_rfl) (fun _ _ _ h => h) rfl (by intro w hSw; go_simp; try with_reducible rfl) (by assumption) ?_
      try simp only [Act.put, List.setIfInBounds_toArray, List.set_cons_zero, List.set_cons_succ]
      refine take_load 3 g1 (a.map u64v) (fun w h => h.1) hU hl1 rfl (by kernel_rfl) (by kernel_rfl) (by kernel_rfl) (fun _ _ _ h => h) rfl rfl rfl rfl (by assumption) ?_
      try simp only [Act.put, List.setIfInBounds_toArray, List.set_cons_zero, List.set_cons_succ]
      refine take_load 4 g2 (b.map u64v) (fun w h => h.2.1) hU hl2 rfl (by kernel_rfl) (by kernel_rfl) (by kernel_rfl) (fun _ _ _ h => h) rfl rfl rfl rfl (by assumption) ?_
      try simp only [Act.put, List.setIfInBounds_toArray, List.set_cons_zero, List.set_cons_succ]
      refine take_pure 5 (.bool true) rfl (by kernel_rfl) (by kernel_rfl) (by kernel_rfl) (fun _ _ _ h => h) rfl (by intro w hSw; go_simp; try with_reducible rfl) (by assumption) ?_
      try simp only [Act.put, List.setIfInBounds_toArray, List.set_cons_zero, List.set_cons_succ]
      refine take_pure 6 (.bool false) rfl (by kernel_rfl) (by kernel_rfl) (by kernel_rfl) (fun _ _ _ h => h) rfl (by intro w hSw; go_simp; try with_reducible rfl) (by assumption) ?_
      try simp only [Act.put, List.setIfInBounds_toArray, List.set_cons_zero, List.set_cons_succ]
      refine take_pure 7 (.bool false) rfl (by kernel_rfl) (by kernel_rfl) (by kernel_rfl) (fun _ _ _ h => h) rfl (by intro w hSw; go_simp; try with_reducible rfl) (by assumption) ?_
      try simp only [Act.put, List.setIfInBounds_toArray, List.set_cons_zero, List.set_cons_succ]
      refine take_load 8 g1 (a.map u64v) (fun w h => h.1) hU hl1 rfl (by kernel_rfl) (by kernel_rfl) (by kernel_rfl) (fun _ _ _ h => h) rfl rfl rfl rfl (by assumption) ?_
      try simp only [Act.put, List.setIfInBounds_toArray, List.set_cons_zero, List.set_cons_succ]
      refine take_load 10 g2 (b.map u64v) (fun w h => h.2.1) hU hl2 rfl (by kernel_rfl) (by kernel_rfl) (by kernel_rfl) (fun _ _ _ h => h) rfl rfl rfl rfl (by assumption) ?_
      try simp only [Act.put, List.setIfInBounds_toArray, List.set_cons_zero, List.set_cons_succ]
      refine take_load 13 g1 (a.map u64v) (fun w h => h.1) hU hl1 rfl (by kernel_rfl) (by kernel_rfl) (by kernel_rfl) (fun _ _ _ h => h) rfl rfl rfl rfl (by assumption) ?_
      try simp only [Act.put, List.setIfInBounds_toArray, List.set_cons_zero, List.set_cons_succ]
      refine take_load 14 g2 (b.map u64v) (fun w h => h.2.1) hU hl2 rfl (by kernel_rfl) (by kernel_rfl) (by kernel_rfl) (fun _ _ _ h => h) rfl rfl rfl rfl (by assumption) ?_
      try simp only [Act.put, List.setIfInBounds_toArray, List.set_cons_zero, List.set_cons_succ]
      refine take_pure 15 (.bool true) rfl (by kernel_rfl) (by kernel_rfl) (by kernel_rfl) (fun _ _ _ h => h) rfl (by intro w hSw; go_simp; try with_reducible rfl) (by assumption) ?_
      try simp only [Act.put, List.setIfInBounds_toArray, List.set_cons_zero, List.set_cons_succ]
      refine take_call 9 rfl (by kernel_rfl) (fun K hK => ?_)
      try go_simp
      refine (bytes_h a La _).mono ?_
      rintro e w12 ⟨rfl, hb12⟩
      replace H := H.call hb12
      clear hb12
      refine hK.out _ _ ?_ (fun hHeld => ?_)
      · exact ⟨H.range 1 rfl, H.range 2 rfl, H.range 5 rfl, H.range 6 rfl⟩
      clear hK K
      try simp only [Act.put, List.setIfInBounds_toArray, List.set_cons_zero, List.set_cons_succ]
      refine take_call 11 rfl (by kernel_rfl) (fun K hK => ?_)
      try go_simp
      refine (bytes_h b Lb _).mono ?_
      rintro e w12 ⟨rfl, hb12⟩
      replace H := H.call hb12
      clear hb12
      refine hK.out _ _ ?_ (fun hHeld => ?_)
      · exact ⟨H.range 1 rfl, H.range 2 rfl, H.range 5 rfl, H.range 6 rfl⟩
      clear hK K
      try simp only [Act.put, List.setIfInBounds_toArray, List.set_cons_zero, List.set_cons_succ]
      refine take_pure 12 (.bool true) rfl (by kernel_rfl) (by kernel_rfl) (by kernel_rfl) (fun _ _ _ h => h) rfl (by intro w hSw; go_simp; try with_reducible rfl) (by assumption) ?_
      try simp only [Act.put, List.setIfInBounds_toArray, List.set_cons_zero, List.set_cons_succ]
      refine take_pure 16 (.bool false) rfl (by kernel_rfl) (by kernel_rfl) (by kernel_rfl) (fun _ _ _ h => h) rfl (by intro w hSw; go_simp; try with_reducible rfl) (by assumption) ?_
      try simp only [Act.put, List.setIfInBounds_toArray, List.set_cons_zero, List.set_cons_succ]
      refine take_pure 17 (.bool false) rfl (by kernel_rfl) (by kernel_rfl) (by kernel_rfl) (fun _ _ _ h => h) rfl (by intro w hSw; go_simp; try with_reducible rfl) (by assumption) ?_
      try simp only [Act.put, List.setIfInBounds_toArray, List.set_cons_zero, List.set_cons_succ]
      refine take_pure 18 (.bool false) rfl (by kernel_rfl) (by kernel_rfl) (by kernel_rfl) (fun _ _ _ h => h) rfl (by intro w hSw; go_simp; try with_reducible rfl) (by assumption) ?_
      try simp only [Act.put, List.setIfInBounds_toArray, List.set_cons_zero, List.set_cons_succ]
      refine take_load 19 g3 (x.map u64v) (fun w h => h.2.2.1) hU hl3 rfl (by kernel_rfl) (by kernel_rfl) (by kernel_rfl) (fun _ _ _ h => h) rfl rfl rfl rfl (by assumption) ?_
      try simp only [Act.put, List.setIfInBounds_toArray, List.set_cons_zero, List.set_cons_succ]
      refine take_load 22 g3 (x.map u64v) (fun w h => h.2.2.1) hU hl3 rfl (by kernel_rfl) (by kernel_rfl) (by kernel_rfl) (fun _ _ _ h => h) rfl rfl rfl rfl (by assumption) ?_
      try simp only [Act.put, List.setIfInBounds_toArray, List.set_cons_zero, List.set_cons_succ]
      refine take_call 20 rfl (by kernel_rfl) (fun K hK => ?_)
      try go_simp
      refine (bytes_h x Lx _).mono ?_
      rintro e w12 ⟨rfl, hb12⟩
      replace H := H.call hb12
      clear hb12
      refine hK.out _ _ ?_ (fun hHeld => ?_)
      · exact ⟨H.range 1 rfl, H.range 2 rfl, H.range 5 rfl, H.range 6 rfl⟩
      clear hK K
      try simp only [Act.put, List.setIfInBounds_toArray, List.set_cons_zero, List.set_cons_succ]
      refine take_call 21 rfl (by kernel_rfl) (fun K hK => ?_)
      try go_simp
      refine (from_b x Lx _).mono ?_
      rintro e w12 ⟨rfl, hb12⟩
      replace H := H.call hb12
      clear hb12
      refine hK.out _ _ ?_ (fun hHeld => ?_)
      · exact ⟨H.range 1 rfl, H.range 2 rfl, H.range 5 rfl, H.range 6 rfl⟩
      clear hK K
      try simp only [Act.put, List.setIfInBounds_toArray, List.set_cons_zero, List.set_cons_succ]
      refine take_pure 23 (.bool false) rfl (by kernel_rfl) (by kernel_rfl) (by kernel_rfl) (fun _ _ _ h => h) rfl (by intro w hSw; go_simp; try with_reducible rfl) (by assumption) ?_
      try simp only [Act.put, List.setIfInBounds_toArray, List.set_cons_zero, List.set_cons_succ]
      refine take_pure 24 (.bool false) rfl (by kernel_rfl) (by kernel_rfl) (by kernel_rfl) (fun _ _ _ h => h) rfl (by intro w hSw; go_simp; try with_reducible rfl) (by assumption) ?_
      try simp only [Act.put, List.setIfInBounds_toArray, List.set_cons_zero, List.set_cons_succ]
      refine take_pure 25 (.bool false) rfl (by kernel_rfl) (by kernel_rfl) (by kernel_rfl) (fun _ _ _ h => h) rfl (by intro w hSw; go_simp; try with_reducible rfl) (by assumption) ?_
      try simp only [Act.put, List.setIfInBounds_toArray, List.set_cons_zero, List.set_cons_succ]
      refine take_load 26 g4 (y.map u64v) (fun w h => h.2.2.2) hU hl4 rfl (by kernel_rfl) (by kernel_rfl) (by kernel_rfl) (fun _ _ _ h => h) rfl rfl rfl rfl (by assumption) ?_
      try simp only [Act.put, List.setIfInBounds_toArray, List.set_cons_zero, List.set_cons_succ]
      refine take_load 30 g4 (y.map u64v) (fun w h => h.2.2.2) hU hl4 rfl (by kernel_rfl) (by kernel_rfl) (by kernel_rfl) (fun _ _ _ h => h) rfl rfl rfl rfl (by assumption) ?_
      try simp only [Act.put, List.setIfInBounds_toArray, List.set_cons_zero, List.set_cons_succ]
      refine take_call 27 rfl (by kernel_rfl) (fun K hK => ?_)
      try go_simp
      refine (bytes_h y Ly _).mono ?_
      rintro e w12 ⟨rfl, hb12⟩
      replace H := H.call hb12
      clear hb12
      refine hK.out _ _ ?_ (fun hHeld => ?_)
      · exact ⟨H.range 1 rfl, H.range 2 rfl, H.range 5 rfl, H.range 6 rfl⟩
      clear hK K
      try simp only [Act.put, List.setIfInBounds_toArray, List.set_cons_zero, List.set_cons_succ]
      refine take_call 28 rfl (by kernel_rfl) (fun K hK => ?_)
      try go_simp
      refine (from_b y Ly _).mono ?_
      rintro e w12 ⟨rfl, hb12⟩
      replace H := H.call hb12
      clear hb12
      refine hK.out _ _ ?_ (fun hHeld => ?_)
      · exact ⟨H.range 1 rfl, H.range 2 rfl, H.range 5 rfl, H.range 6 rfl⟩
      clear hK K
      try simp only [Act.put, List.setIfInBounds_toArray, List.set_cons_zero, List.set_cons_succ]
      refine take_call 29 rfl (by kernel_rfl) (fun K hK => ?_)
      try go_simp
      refine (bytes_h y Ly _).mono ?_
      rintro e w12 ⟨rfl, hb12⟩
      replace H := H.call hb12
      clear hb12
      refine hK.out _ _ ?_ (fun hHeld => ?_)
      · exact ⟨H.range 1 rfl, H.range 2 rfl, H.range 5 rfl, H.range 6 rfl⟩
      clear hK K
      try simp only [Act.put, List.setIfInBounds_toArray, List.set_cons_zero, List.set_cons_succ]
      refine take_call 31 rfl (by kernel_rfl) (fun K hK => ?_)
      try go_simp
      refine (bytes_h y Ly _).mono ?_
      rintro e w12 ⟨rfl, hb12⟩
      replace H := H.call hb12
      clear hb12
      refine hK.out _ _ ?_ (fun hHeld => ?_)
      · exact ⟨H.range 1 rfl, H.range 2 rfl, H.range 5 rfl, H.range 6 rfl⟩
      clear hK K
      try simp only [Act.put, List.setIfInBounds_toArray, List.set_cons_zero, List.set_cons_succ]
      refine take_pure 32 (.bool false) rfl (by kernel_rfl) (by kernel_rfl) (by kernel_rfl) (fun _ _ _ h => h) rfl (by intro w hSw; go_simp; try with_reducible rfl) (by assumption) ?_
      try simp only [Act.put, List.setIfInBounds_toArray, List.set_cons_zero, List.set_cons_succ]
      refine take_pure 33 (.bool false) rfl (by kernel_rfl) (by kernel_rfl) (by kernel_rfl) (fun _ _ _ h => h) rfl (by intro w hSw; go_simp; try with_reducible rfl) (by assumption) ?_
      try simp only [Act.put, List.setIfInBounds_toArray, List.set_cons_zero, List.set_cons_succ]
      refine wpAnyH_done (by kernel_rfl) ?_ _
      go_wp2_with fail
      go_meet
      case rel => exact ⟨rfl, H⟩
  case rest =>
    clear H11 hab hxy hBB hyy hl2 hl4 Lb Ly
    obtain ⟨rfl, H12⟩ := hcut
    go_wp2_with fail
    have H := H12.drew
    clear H12
    refine wp_region_held_drew (S := fun w' : World => w'.rangeAt g1 0 (a.map u64v) ∧ w'.rangeAt g3 0 (x.map u64v)) (by kernel_rfl) ?_ (fun hHeld => ?_)
    · exact ⟨H.range 1 rfl, H.range 5 rfl⟩
    refine take_pure 0 (.bool true) rfl (by kernel_rfl) (by kernel_rfl) (by kernel_rfl) (fun _ _ _ h => h) rfl (by intro w hSw; go_simp; try with_reducible rfl) (by assumption) ?_
    try simp only [Act.put, List.setIfInBounds_toArray, List.set_cons_zero, List.set_cons_succ]
    refine take_pure 1 (.bool true) rfl (by kernel_rfl) (by kernel_rfl) (by kernel_rfl) (fun _ _ _ h => h) rfl (by intro w hSw; go_simp; try with_reducible rfl) (by assumption) ?_
    try simp only [Act.put, List.setIfInBounds_toArray, List.set_cons_zero, List.set_cons_succ]
    refine take_pure 2 (l) rfl (by kernel_rfl) (by kernel_rfl) (by kernel_rfl) (fun _ _ _ h => h) rfl (by intro w hSw; go_simp; try with_reducible rfl) (by assumption) ?_
    try simp only [Act.put, List.setIfInBounds_toArray, List.set_cons_zero, List.set_cons_succ]
    refine take_pure 4 (r) rfl (by kernel_rfl) (by kernel_rfl) (by kernel_rfl) (fun _ _ _ h => h) rfl (by intro w hSw; go_simp; try with_reducible rfl) (by assumption) ?_
    try simp only [Act.put, List.setIfInBounds_toArray, List.set_cons_zero, List.set_cons_succ]
    refine take_call 3 rfl (by kernel_rfl) (fun K hK => ?_)
    try go_simp
    refine (ledger_runs 1 H 3 rfl (LGood.nil.noted 3 200 1 (by omega)) (by omega) 7 rfl).mono ?_
    rintro e w13 ⟨v13, rfl, H13⟩
    replace H := H13.push_mk rfl
    clear H13
    obtain ⟨Al, dl, rfl, -, -⟩ := row_shape (H.row 7 rfl)
    refine hK.out _ _ ?_ (fun hHeld => ?_)
    · exact ⟨H.range 1 rfl, H.range 5 rfl⟩
    clear hK K
    try simp only [Act.put, List.setIfInBounds_toArray, List.set_cons_zero, List.set_cons_succ]
    refine take_call 5 rfl (by kernel_rfl) (fun K hK => ?_)
    try go_simp
    refine (ledger_runs 1 H 4 rfl (LGood.nil.noted 3 200 1 (by omega)) (by omega) 8 rfl).mono ?_
    rintro e w13 ⟨v13, rfl, H13⟩
    replace H := H13.push_mk rfl
    clear H13
    obtain ⟨Ar, dr, rfl, -, -⟩ := row_shape (H.row 8 rfl)
    refine hK.out _ _ ?_ (fun hHeld => ?_)
    · exact ⟨H.range 1 rfl, H.range 5 rfl⟩
    clear hK K
    try simp only [Act.put, List.setIfInBounds_toArray, List.set_cons_zero, List.set_cons_succ]
    refine take_call 6 rfl (by kernel_rfl) (fun K hK => ?_)
    try go_simp
    refine (sameRuns_yes Al Ar _ _ dl dr [(3, 200, 1)] [(3, 200, 1)] _ (H.rd 7 rfl) (H.rd 8 rfl) rfl rfl (by show 1 ≤ 1000000000; omega) rfl).mono ?_
    rintro e w15 ⟨rfl, hb15⟩
    replace H := H.call hb15
    clear hb15
    refine hK.out _ _ ?_ (fun hHeld => ?_)
    · exact ⟨H.range 1 rfl, H.range 5 rfl⟩
    clear hK K
    try simp only [Act.put, List.setIfInBounds_toArray, List.set_cons_zero, List.set_cons_succ]
    refine take_pure 7 (.bool true) rfl (by kernel_rfl) (by kernel_rfl) (by kernel_rfl) (fun _ _ _ h => h) rfl (by intro w hSw; go_simp; try with_reducible rfl) (by assumption) ?_
    try simp only [Act.put, List.setIfInBounds_toArray, List.set_cons_zero, List.set_cons_succ]
    refine take_pure 8 (.bool true) rfl (by kernel_rfl) (by kernel_rfl) (by kernel_rfl) (fun _ _ _ h => h) rfl (by intro w hSw; go_simp; try with_reducible rfl) (by assumption) ?_
    try simp only [Act.put, List.setIfInBounds_toArray, List.set_cons_zero, List.set_cons_succ]
    refine take_pure 9 (l) rfl (by kernel_rfl) (by kernel_rfl) (by kernel_rfl) (fun _ _ _ h => h) rfl (by intro w hSw; go_simp; try with_reducible rfl) (by assumption) ?_
    try simp only [Act.put, List.setIfInBounds_toArray, List.set_cons_zero, List.set_cons_succ]
    refine take_call 10 rfl (by kernel_rfl) (fun K hK => ?_)
    try go_simp
    refine (ledger_runs 1 H 3 rfl (LGood.nil.noted 3 200 1 (by omega)) (by omega) 9 rfl).mono ?_
    rintro e w13 ⟨v13, rfl, H13⟩
    replace H := H13.push_mk rfl
    clear H13
    obtain ⟨At, dt, rfl, -, -⟩ := row_shape (H.row 9 rfl)
    refine hK.out _ _ ?_ (fun hHeld => ?_)
    · exact ⟨H.range 1 rfl, H.range 5 rfl⟩
    clear hK K
    try simp only [Act.put, List.setIfInBounds_toArray, List.set_cons_zero, List.set_cons_succ]
    refine take_call 11 rfl (by kernel_rfl) (fun K hK => ?_)
    try go_simp
    refine (runs_one _).mono ?_
    rintro e w14 ⟨v14, rfl, ho14, hb14⟩
    replace H := (H.pushRow 10 rfl hb14 ho14).push_mk rfl
    clear ho14 hb14
    obtain ⟨Au, du, rfl, -, -⟩ := row_shape (H.row 10 rfl)
    refine hK.out _ _ ?_ (fun hHeld => ?_)
    · exact ⟨H.range 1 rfl, H.range 5 rfl⟩
    clear hK K
    try simp only [Act.put, List.setIfInBounds_toArray, List.set_cons_zero, List.set_cons_succ]
    refine take_call 12 rfl (by kernel_rfl) (fun K hK => ?_)
    try go_simp
    refine (sameRuns_yes At Au _ _ dt du [(3, 200, 1)] [(3, 200, 1)] _ (H.rd 9 rfl) (H.rd 10 rfl) rfl rfl (by show 1 ≤ 1000000000; omega) rfl).mono ?_
    rintro e w15 ⟨rfl, hb15⟩
    replace H := H.call hb15
    clear hb15
    refine hK.out _ _ ?_ (fun hHeld => ?_)
    · exact ⟨H.range 1 rfl, H.range 5 rfl⟩
    clear hK K
    try simp only [Act.put, List.setIfInBounds_toArray, List.set_cons_zero, List.set_cons_succ]
    refine take_pure 13 (.bool true) rfl (by kernel_rfl) (by kernel_rfl) (by kernel_rfl) (fun _ _ _ h => h) rfl (by intro w hSw; go_simp; try with_reducible rfl) (by assumption) ?_
    try simp only [Act.put, List.setIfInBounds_toArray, List.set_cons_zero, List.set_cons_succ]
    refine take_pure 14 (.bool true) rfl (by kernel_rfl) (by kernel_rfl) (by kernel_rfl) (fun _ _ _ h => h) rfl (by intro w hSw; go_simp; try with_reducible rfl) (by assumption) ?_
    try simp only [Act.put, List.setIfInBounds_toArray, List.set_cons_zero, List.set_cons_succ]
    refine take_load 15 g1 (a.map u64v) (fun w h => h.1) hU hl1 rfl (by kernel_rfl) (by kernel_rfl) (by kernel_rfl) (fun _ _ _ h => h) rfl rfl rfl rfl (by assumption) ?_
    try simp only [Act.put, List.setIfInBounds_toArray, List.set_cons_zero, List.set_cons_succ]
    refine take_load 17 g3 (x.map u64v) (fun w h => h.2) hU hl3 rfl (by kernel_rfl) (by kernel_rfl) (by kernel_rfl) (fun _ _ _ h => h) rfl rfl rfl rfl (by assumption) ?_
    try simp only [Act.put, List.setIfInBounds_toArray, List.set_cons_zero, List.set_cons_succ]
    refine take_call 16 rfl (by kernel_rfl) (fun K hK => ?_)
    try go_simp
    refine (permute_s (.pointer none) none 0 a H 0 rfl (LGood.none _) (by omega) La.out).mono ?_
    rintro e w16 ⟨rfl, H16⟩
    replace H := H16.upd_mk (by simp)
    clear H16
    rw [← ex.out]
    refine hK.out _ _ ?_ (fun hHeld => ?_)
    · exact ⟨H.range 1 rfl, H.range 5 rfl⟩
    clear hK K
    try simp only [Act.put, List.setIfInBounds_toArray, List.set_cons_zero, List.set_cons_succ]
    refine take_pure 18 (.bool true) rfl (by kernel_rfl) (by kernel_rfl) (by kernel_rfl) (fun _ _ _ h => h) rfl (by intro w hSw; go_simp; try with_reducible rfl) (by assumption) ?_
    try simp only [Act.put, List.setIfInBounds_toArray, List.set_cons_zero, List.set_cons_succ]
    refine take_pure 19 (.bool true) rfl (by kernel_rfl) (by kernel_rfl) (by kernel_rfl) (fun _ _ _ h => h) rfl (by intro w hSw; go_simp; try with_reducible rfl) (by assumption) ?_
    try simp only [Act.put, List.setIfInBounds_toArray, List.set_cons_zero, List.set_cons_succ]
    refine take_pure 20 (.bool true) rfl (by kernel_rfl) (by kernel_rfl) (by kernel_rfl) (fun _ _ _ h => h) rfl (by intro w hSw; go_simp; try with_reducible rfl) (by assumption) ?_
    try simp only [Act.put, List.setIfInBounds_toArray, List.set_cons_zero, List.set_cons_succ]
    refine wpAnyH_done (by kernel_rfl) ?_ _
    go_wp2_with fail
    go_ret
    exact ⟨rfl, H.below⟩
end Go.Proofs.Ytoodgdcpkkfdgaa
