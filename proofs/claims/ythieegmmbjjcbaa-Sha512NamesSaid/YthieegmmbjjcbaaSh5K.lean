/- The document's SHA-512: a block's words; a block is worked into eight words, walked. -/
import Derived.Test.YthieegmmbjjcbaaSh5X
import Derived.Test.YthieegmmbjjcbaaSh5F
namespace Go.Proofs.Ythieegmmbjjcbaa
open Go.RowKit
set_option linter.unusedVariables false
set_option maxRecDepth 100000

theorem byteAt_in5 (p : List UInt8) (k : Nat) (hk : k < p.length) : byteAt p (k : Int) = (p.getD k 0).toNat := by
  unfold byteAt
  rw [if_pos (by omega), show ((k : Int)).toNat = k by omega]
theorem beTo_succ (l : List UInt8) (a : Int) (k : Nat) : beTo l a (k + 1) = 256 * beTo l a k + byteAt l (a + k) := rfl
theorem beTo_zero (l : List UInt8) (a : Int) : beTo l a 0 = 0 := rfl
theorem wTo5_at (b : List UInt8) (t k : Nat) (ht : t ≤ k) (hk : k < 80) : at64 (wTo5 b t) k = 0 := by
  induction t with
  | zero =>
    show at64 (List.replicate 80 0) k = 0
    unfold at64
    rw [List.getD_eq_getElem?_getD, List.getElem?_replicate, if_pos hk]; rfl
  | succ t ih =>
    have hs : ∃ v, wTo5 b (t + 1) = (wTo5 b t).set t v := ⟨_, rfl⟩
    obtain ⟨v, hv⟩ := hs
    rw [hv]
    unfold at64 at *
    rw [List.getD_eq_getElem?_getD, List.getElem?_set, if_neg (by omega), ← List.getD_eq_getElem?_getD]
    exact ih (by omega)
theorem wTo5_set0 (b : List UInt8) (t : Nat) (ht : t < 80) : (wTo5 b t).set t (UInt64.ofNat (beTo b (8 * t : Nat) 0)) = wTo5 b t := by
  apply List.ext_getElem?
  intro i
  rw [List.getElem?_set]
  by_cases hi : t = i
  · subst hi
    rw [if_pos rfl, wTo5_length, if_pos ht, at64_some (by rw [wTo5_length]; exact ht), wTo5_at b t t (Nat.le_refl _) ht, beTo_zero]; rfl
  · rw [if_neg hi]
theorem at64_set (l : List UInt64) (k : Nat) (x : UInt64) (hk : k < l.length) : at64 (l.set k x) k = x := by
  unfold at64
  rw [List.getD_eq_getElem?_getD, List.getElem?_set, if_pos rfl, if_pos hk]; rfl
theorem ofNat_val {m : Nat} (h : m ≤ 18446744073709551615) : ((UInt64.ofNat m).toNat : Int) = (m : Int) := by
  rw [UInt64.toNat_ofNat', Nat.mod_eq_of_lt (by omega)]
theorem or_b64 {b x : Nat} (hb : b ≤ 72057594037927935) (hx : x ≤ 255) : bits .or .u64 ((b : Int) * 256) (x : Int) = ((256 * b + x : Nat) : Int) := or_byteT_64 hb hx

attribute [local irreducible] wTo5 rTo5 comp5 pOf5 qOf5 rnd5 ror64 kTab5 sg50 sg51 wNext5 beTo hTo

set_option maxHeartbeats 8000000 in
theorem refSched_s (A : Option Addr) (n c : Nat) (b : List UInt8) (w : World) (hA : Rd w 1 A n (b.map vb)) (hn : n = 128) :
    Calls Try.prog 55 #[.slice A n c] w fun e w' => e = .returned (.agg ((wTo5 b 80).map u64v).toArray) ∧ Below w.heap.size w w' := by
  have hl : b.length = n := by simpa using hA.1
  have HN := Lib.hid hn
  clear hn
  have HL := Lib.hid hl
  have HAA := Lib.hid hA
  clear hl hA
  have H0 := St.start_lay w []
  have hz80 := zero80
  go_enter Try.func55, Try.ntmps55
  go_upto_region 2 with fail
  refine absorb_wp (H0.allocAt 0 rfl w.heap.size rfl _ _ |>.push_mk rfl |>.allocAt 1 rfl (w.heap.size + 1) (by simp) _ _ |>.push_mk rfl) ?_
  clear H0
  intro w1 H
  generalize w.heap.size + 1 = gw at H ⊢
  generalize w.heap.size = gr at H ⊢
  replace H : St w [] w1 (lay [.blk gr 80 (List.replicate 80 (.int .u64 0)), .blk gw 80 ((wTo5 b 0).map u64v)]) := by rw [wTo5_zero]; exact H
  clear hz80
  obtain ⟨Zr, hZr⟩ : ∃ Z, List.replicate 80 (Value.int .u64 0) = Z := ⟨_, rfl⟩
  rw [hZr] at H
  have HZR : Hid (Zr.length = 80) := by unfold Hid; rw [← hZr, List.length_replicate]
  clear hZr
  go_wp2
  go_loopw [4] (fun i wr => ∃ k : Nat, k ≤ 16 ∧ i = .int .i64 k ∧ St w [] wr (lay [.blk gr 80 Zr, .blk gw 80 ((wTo5 b k).map u64v)])) (fun i _ => 16 - (intOf i).toNat)
  case atStart => exact ⟨0, by omega, rfl, H⟩
  case round =>
    clear H
    obtain ⟨k, hk, rfl, H⟩ := hrel
    by_cases h16 : k < 16
    · have hk2 : (k : Int) < 16 := by omega
      have HV := Lib.hid (wTo5_lo b k h16)
      have HLn : Hid ((wTo5 b k).length = 80) := wTo5_length _ _
      have HS0 := Lib.hid (wTo5_set0 b k (by omega))
      rw [← HS0.out] at H
      generalize wTo5 b k = W at H HV HLn
      clear HS0
      go_wp2
      go_loopw [5] (fun i wr => ∃ t : Nat, t ≤ 8 ∧ i = .int .i64 t ∧ St w [] wr (lay [.blk gr 80 Zr, .blk gw 80 ((W.set k (UInt64.ofNat (beTo b (8 * k : Nat) t))).map u64v)])) (fun i _ => 8 - (intOf i).toNat)
      case atStart => exact ⟨0, by omega, rfl, H⟩
      case round =>
        clear H
        obtain ⟨t, ht, rfl, H⟩ := hrel
        by_cases hlt4 : t < 8
        · have ht1 : (t : Int) < 8 := by omega
          have hb := beTo_lt b (8 * k : Nat) t
          have hp : 256 ^ t ≤ 72057594037927936 := Nat.le_trans (Nat.pow_le_pow_right (by omega) (show t ≤ 7 by omega)) (by decide)
          have hb' : beTo b (8 * k : Nat) t ≤ 72057594037927935 := by omega
          have HSU := Lib.hid (beTo_succ b (8 * k : Nat) t)
          obtain ⟨ad, x, hA, hx, hc, hbl⟩ := (HAA.out.below H.below).byteIn (k := 8 * k + t) (by have := HN.out; omega)
          have hxx : byteAt b ((8 * k : Nat) + (t : Int)) = x.toNat := by
            rw [show (((8 * k : Nat) : Int) + (t : Int)) = ((8 * k + t : Nat) : Int) by omega, byteAt_in5 b _ (by rw [HL.out, HN.out]; omega), List.getD_eq_getElem?_getD, hx]; rfl
          rw [hxx] at HSU
          have a0 := H.cell 1 rfl (u64_get (l := W.set k (UInt64.ofNat (beTo b (8 * k : Nat) t))) (k := k) (by rw [List.length_set, HLn.out]; omega))
          rw [at64_set _ _ _ (by rw [HLn.out]; omega), ofNat_val (by omega)] at a0
          have f0 := H.free 1 rfl k
          have hxb : x.toNat ≤ 255 := by have := x.toNat_lt; omega
          obtain ⟨ix, hix0⟩ : ∃ ix, 8 * k + t = ix := ⟨_, rfl⟩
          rw [hix0] at hc
          have hix : (8 * (k : Int) + (t : Int)) = (ix : Int) := by omega
          have hin : (ix : Int) < (n : Int) := by have := HN.out; omega
          have hbl2 : (ad.add ix).block < wr.heap.size := by rw [← hix0]; exact hbl
          clear hix0 hbl
          have hk8 : (k : Int) < 80 := by omega
          subst hA
          generalize hv : beTo b (8 * k : Nat) t = v at *
          clear hxx hb hp hx
          go_upto_region 8 with fail
          refine region_quiet_tail 15 (by kernel_rfl) (by kernel_rfl) ?_
          simp only [List.take_succ_cons, List.take_zero, List.drop_succ_cons, List.drop_zero]
          repeat (go_big_quiet_step (fail))
          refine wpQuiet_nil ?_
          intro nq
          have H2 := ((H.drewN nq).store 1 rfl (o := k) (u := u64v (UInt64.ofNat (256 * v + x.toNat)))).upd_mk (by simp)
          rw [u64_set, List.set_set] at H2
          rw [u64v_eq, ofNat_val (by omega)] at H2
          go_wp2
          try rw [wrapu, Int.emod_eq_of_lt (by omega) (by omega)]
          rw [or_b64 hb' hxb]
          go_roundw
          case rel => exact ⟨t + 1, by omega, by go_num, by rw [HSU.out]; exact H2⟩
          case measure => simp [intOf]; omega
        · obtain rfl : t = 8 := by omega
          rw [← HV.out] at H
          go_wp2
          go_roundw
          case rel => exact ⟨k + 1, by omega, by go_num, H⟩
          case measure => simp [intOf]; omega
    · obtain rfl : k = 16 := by omega
      rw [show ((16 : Nat) : Int) = 16 from rfl]
      go_wp2
      go_loopw [6] (fun i wr => ∃ k : Nat, 16 ≤ k ∧ k ≤ 80 ∧ i = .int .i64 k ∧ St w [] wr (lay [.blk gr 80 Zr, .blk gw 80 ((wTo5 b k).map u64v)])) (fun i _ => 80 - (intOf i).toNat)
      case atStart => exact ⟨16, by omega, by omega, rfl, H⟩
      case round =>
        clear H
        obtain ⟨k, hk0, hk, rfl, H⟩ := hrel
        by_cases hlt : k < 80
        · have hk1 : (k : Int) < 80 := by omega
          have k15 : ((k : Int) - 15) = ((k - 15 : Nat) : Int) := by omega
          have k2 : ((k : Int) - 2) = ((k - 2 : Nat) : Int) := by omega
          have k7 : ((k : Int) - 7) = ((k - 7 : Nat) : Int) := by omega
          have k16 : ((k : Int) - 16) = ((k - 16 : Nat) : Int) := by omega
          have hv := wTo5_hi b k (by omega)
          have HV := Lib.hid hv
          clear hv
          have a15 := H.cell 1 rfl (u64_get (l := wTo5 b k) (k := k - 15) (by rw [wTo5_length]; omega))
          have a2 := H.cell 1 rfl (u64_get (l := wTo5 b k) (k := k - 2) (by rw [wTo5_length]; omega))
          have HWN := Lib.hid (wNext5_eq (wTo5 b k) k)
          obtain ⟨x15, hA15⟩ : ∃ x, at64 (wTo5 b k) (k - 15) = x := ⟨_, rfl⟩
          have HA15 := Lib.hid hA15
          rw [hA15] at a15
          clear hA15
          obtain ⟨x2, hA2⟩ : ∃ x, at64 (wTo5 b k) (k - 2) = x := ⟨_, rfl⟩
          have HA2 := Lib.hid hA2
          rw [hA2] at a2
          clear hA2
          obtain ⟨x7, hA7⟩ : ∃ x, at64 (wTo5 b k) (k - 7) = x := ⟨_, rfl⟩
          have HA7 := Lib.hid hA7
          clear hA7
          obtain ⟨x16, hA16⟩ : ∃ x, at64 (wTo5 b k) (k - 16) = x := ⟨_, rfl⟩
          have HA16 := Lib.hid hA16
          clear hA16
          go_wp2_with fail
          rw [← World.drewN_zero wr]
          refine (rr_1 x15 wr 0).mono ?_
          rintro e wx ⟨rfl, q1, rfl⟩
          go_wp2_with fail
          refine (rr_8 x15 wr q1).mono ?_
          rintro e wx ⟨rfl, q2, rfl⟩
          go_wp2_with fail
          refine (rr_19 x2 wr q2).mono ?_
          rintro e wx ⟨rfl, q3, rfl⟩
          go_wp2_with fail
          refine (rr_61 x2 wr q3).mono ?_
          rintro e wx ⟨rfl, q4, rfl⟩
          replace H := H.drewN q4
          generalize wr.drewN q4 = wr2 at H ⊢
          clear a15 a2
          have a7 := H.cell 1 rfl (u64_get (l := wTo5 b k) (k := k - 7) (by rw [wTo5_length]; omega))
          have a16 := H.cell 1 rfl (u64_get (l := wTo5 b k) (k := k - 16) (by rw [wTo5_length]; omega))
          rw [HA7.out] at a7
          rw [HA16.out] at a16
          have f0 := H.free 1 rfl k
          have a0 := H.cell 1 rfl (u64_get (l := wTo5 b k) (k := k) (by rw [wTo5_length]; omega))
          go_upto_region 16 with fail
          rw [sg51_val, sg50_val]
          refine region_quiet_tail 15 (by kernel_rfl) (by kernel_rfl) ?_
          simp only [List.take_succ_cons, List.take_zero, List.drop_succ_cons, List.drop_zero]
          repeat (go_big_quiet_step (fail))
          refine wpQuiet_nil ?_
          intro nq
          have HN : Hid (wTo5 b (k + 1) = (wTo5 b k).set k (sg51 x2 + x7 + sg50 x15 + x16)) := by unfold Hid; rw [HV.out, HWN.out, HA2.out, HA7.out, HA15.out, HA16.out]
          have H2 := ((H.drewN nq).store 1 rfl (o := k) (u := u64v (sg51 x2 + x7 + sg50 x15 + x16))).upd_mk (by simp)
          rw [u64_set, ← HN.out] at H2
          rw [u64v_eq] at H2
          go_wp2
          simp only [wrapu, add64]
          go_roundw
          case rel => exact ⟨k + 1, by omega, by omega, by go_num, H2⟩
          case measure => simp [intOf]; omega
        · obtain rfl : k = 80 := by omega
          rw [show ((80 : Nat) : Int) = 80 from rfl]
          have HWL : Hid ((wTo5 b 80).length = 80) := wTo5_length _ _
          go_upto_region 17 with fail
          go_wp2_with (first | (with_reducible refine hold_store 80 (.tmp 2) (.tmp 77) (by rfl) ?_) | (refine wpList_load_row rfl 80 (.tmp 3) rfl gw rfl _ _ _ _ (H.blk 1 rfl) Try.underlying80 rfl (by rw [tab_size]; simp [HWL.out]) ?_))
          refine Lib.hid ?_
          refine wpList_store_mid rfl 80 (.tmp 2) (.tmp 77) rfl gr 0 ((wTo5 b 80).map u64v).toArray rfl rfl (by have ht := H.there 0 rfl; rw [HZR.out] at ht; rw [List.size_toArray, List.length_map, HWL.out]; exact ht) (by rw [tab_size]; simp [HWL.out]) (all_oneCell_toArray (u64_one _)) ?_
          have H4 := (H.storeAll 0 rfl (vs := (wTo5 b 80).map u64v) (by rw [List.length_map, HWL.out, HZR.out])).upd_mk (by simp)
          show wpList Try.prog _ _ [] _ (wr.setCells gr 0 ((wTo5 b 80).map u64v))
          simp only [Act.put]
          go_wp2
          exact bodyPost_ret (results_cell_row rfl _ _ gr 80 ((wTo5 b 80).map u64v).toArray _ _ rfl (H4.blk 0 rfl) Try.underlying80 rfl (by rw [tab_size]; simp [HWL.out])) rfl ⟨rfl, H4.below⟩

set_option maxHeartbeats 8000000 in
theorem refComp_s (h : List UInt64) (hh : h.length = 8) (A : Option Addr) (n c : Nat) (b : List UInt8) (w : World) (hA : Rd w 1 A n (b.map vb)) (hn : n = 128) :
    Calls Try.prog 51 #[.agg (h.map u64v).toArray, .slice A n c] w fun e w' => e = .returned (.agg ((comp5 h b).map u64v).toArray) ∧ Below w.heap.size w w' := by
  subst hn
  have HH := Lib.hid hh
  have HAA := Lib.hid hA
  clear hh hA
  have H0 := St.start_lay w []
  have hz80 := zero80
  go_enter Try.func51, Try.ntmps51
  go_upto_region 1 with fail
  refine absorb_wp (H0.allocAt 0 rfl w.heap.size rfl _ _ |>.push_mk rfl |>.allocAt 1 rfl (w.heap.size + 1) (by simp) _ _ |>.push_mk rfl) ?_
  clear H0
  intro w1 H
  generalize w.heap.size + 1 = gr at H ⊢
  generalize w.heap.size = gh at H ⊢
  replace H : St w [] w1 (lay [.blk gh 69 (h.map u64v), .blk gr 69 (List.replicate 8 (.int .u64 0))]) := H
  go_wp2_with fail
  refine (refTable_s w1).mono ?_
  rintro e w2 ⟨rfl, hb2⟩
  replace H := H.call hb2
  clear hb2
  obtain ⟨K, hK⟩ : ∃ K, kTab5.map u64v = K := ⟨_, rfl⟩
  have HKL : Hid (K.length = 80) := by unfold Hid; rw [← hK, List.length_map, kTab5_length]
  have HK1 : Hid (∀ u ∈ K, u.oneCell' = true) := by unfold Hid; rw [← hK]; exact u64_one _
  rw [hK]
  have HK := Lib.hid hK
  clear hK
  go_wp2_with (with_reducible refine hold_store 80 (.tmp 5) (.tmp 14) (by rfl) ?_)
  refine Lib.hid ?_
  refine absorb_list (H.allocAt 2 rfl w2.heap.size rfl _ _ |>.push_mk rfl) ?_
  clear H
  intro w3 H
  generalize w2.heap.size = gk at H ⊢
  replace H : St w [] w3 (lay [.blk gh 69 (h.map u64v), .blk gr 69 (List.replicate 8 (.int .u64 0)), .blk gk 80 (List.replicate 80 (.int .u64 0))]) := H
  refine wpList_store_mid rfl 80 (.tmp 5) (.tmp 14) rfl gk 0 K.toArray rfl rfl (by have ht := H.there 2 rfl; rw [List.length_replicate] at ht; rw [List.size_toArray, HKL.out]; exact ht) (by rw [tab_size, List.size_toArray, HKL.out]) (all_oneCell_toArray HK1.out) ?_
  replace H := (H.storeAll 2 rfl (vs := K) (by rw [HKL.out, List.length_replicate])).upd_mk (by simp)
  show wpList Try.prog _ _ [] _ (w3.setCells gk 0 K)
  generalize w3.setCells gk 0 K = w4 at H ⊢
  replace H : St w [] w4 (lay [.blk gh 69 (h.map u64v), .blk gr 69 (List.replicate 8 (.int .u64 0)), .blk gk 80 K]) := H
  simp only [Act.put]
  go_wp2_with fail
  refine (refSched_s A 128 c b w4 (HAA.out.below H.below) rfl).mono ?_
  rintro e w5 ⟨rfl, hb2⟩
  replace H := H.call hb2
  clear hb2
  obtain ⟨W, hW⟩ : ∃ W, wTo5 b 80 = W := ⟨_, rfl⟩
  have HWL : Hid (W.length = 80) := by unfold Hid; rw [← hW]; exact wTo5_length _ _
  rw [hW]
  have HWE := Lib.hid hW
  clear hW
  go_wp2_with (with_reducible refine hold_store 80 (.tmp 6) (.tmp 16) (by rfl) ?_)
  refine Lib.hid ?_
  refine absorb_list (H.allocAt 3 rfl w5.heap.size rfl _ _ |>.push_mk rfl) ?_
  clear H
  intro w6 H
  generalize w5.heap.size = gw at H ⊢
  replace H : St w [] w6 (lay [.blk gh 69 (h.map u64v), .blk gr 69 (List.replicate 8 (.int .u64 0)), .blk gk 80 K, .blk gw 80 (List.replicate 80 (.int .u64 0))]) := H
  refine wpList_store_mid rfl 80 (.tmp 6) (.tmp 16) rfl gw 0 (W.map u64v).toArray rfl rfl (by have ht := H.there 3 rfl; rw [List.length_replicate] at ht; rw [List.size_toArray, List.length_map, HWL.out]; exact ht) (by rw [tab_size, List.size_toArray, List.length_map, HWL.out]) (all_oneCell_toArray (u64_one _)) ?_
  replace H := (H.storeAll 3 rfl (vs := W.map u64v) (by rw [List.length_map, HWL.out, List.length_replicate])).upd_mk (by simp)
  show wpList Try.prog _ _ [] _ (w6.setCells gw 0 (W.map u64v))
  generalize w6.setCells gw 0 (W.map u64v) = w7 at H ⊢
  replace H : St w [] w7 (lay [.blk gh 69 (h.map u64v), .blk gr 69 (List.replicate 8 (.int .u64 0)), .blk gk 80 K, .blk gw 80 (W.map u64v)]) := H
  clear hz80
  simp only [Act.put]
  obtain ⟨X, hX⟩ : ∃ X, R85.of h = X := ⟨_, rfl⟩
  have HX : Hid (R85.of h = X) := hX
  have HM : Hid (h.map u64v = vals8 X) := by unfold Hid; rw [← hX]; exact map_of HH.out
  clear hX
  go_wp2_with (first | (with_reducible refine hold_store 69 (.tmp 7) (.tmp 17) (by rfl) ?_) | (refine wpList_load_row rfl 69 (.tmp 2) rfl gh rfl _ _ _ _ (H.blk 0 rfl) Try.underlying69 rfl (by rw [a8_size]; simp [HH.out]) ?_))
  refine Lib.hid ?_
  refine absorb_list (H.allocAt 4 rfl w7.heap.size rfl _ _ |>.push_mk rfl) ?_
  clear H
  intro w8 H
  generalize w7.heap.size = gv at H ⊢
  replace H : St w [] w8 (lay [.blk gh 69 (h.map u64v), .blk gr 69 (List.replicate 8 (.int .u64 0)), .blk gk 80 K, .blk gw 80 (W.map u64v), .blk gv 69 (List.replicate 8 (.int .u64 0))]) := H
  refine wpList_store_mid rfl 69 (.tmp 7) (.tmp 17) rfl gv 0 (h.map u64v).toArray rfl rfl (by have ht := H.there 4 rfl; rw [List.length_replicate] at ht; rw [List.size_toArray, List.length_map, HH.out]; exact ht) (by rw [a8_size]; simp [HH.out]) (all_oneCell_toArray (u64_one _)) ?_
  replace H := (H.storeAll 4 rfl (vs := h.map u64v) (by rw [List.length_map, HH.out, List.length_replicate])).upd_mk (by simp)
  show wpList Try.prog _ _ [] _ (w8.setCells gv 0 (h.map u64v))
  generalize w8.setCells gv 0 (h.map u64v) = w9 at H ⊢
  replace H : St w [] w9 (lay [.blk gh 69 (h.map u64v), .blk gr 69 (List.replicate 8 (.int .u64 0)), .blk gk 80 K, .blk gw 80 (W.map u64v), .blk gv 69 (vals8 (rTo5 W X 0))]) := by rw [rTo5_zero, ← HM.out]; exact H
  simp only [Act.put]
  go_wp2
  go_loopw [8] (fun i wr => ∃ k : Nat, k ≤ 80 ∧ i = .int .i64 k ∧ St w [] wr (lay [.blk gh 69 (h.map u64v), .blk gr 69 (List.replicate 8 (.int .u64 0)), .blk gk 80 K, .blk gw 80 (W.map u64v), .blk gv 69 (vals8 (rTo5 W X k))])) (fun i _ => 80 - (intOf i).toNat)
  case atStart => exact ⟨0, by omega, rfl, H⟩
  case round =>
    clear H
    obtain ⟨k, hk, rfl, H⟩ := hrel
    have HS : Hid (rTo5 W X (k + 1) = rnd5 (at64 kTab5 k) (at64 W k) (rTo5 W X k)) := rTo5_succ _ _ _
    by_cases hlt : k < 80
    · have hk1 : (k : Int) < 80 := by omega
      have ck := H.cell 2 rfl (o := k) (by rw [← HK.out]; exact u64_get (by rw [kTab5_length]; omega))
      have cw := H.cell 3 rfl (u64_get (l := W) (k := k) (by rw [HWL.out]; omega))
      generalize at64 kTab5 k = kk at ck HS
      generalize at64 W k = ww at cw HS
      generalize rTo5 W X k = x at HS H
      have c0 := H.cell 4 rfl (o := 0) rfl
      have c4 := H.cell 4 rfl (o := 4) rfl
      have c5 := H.cell 4 rfl (o := 5) rfl
      have c6 := H.cell 4 rfl (o := 6) rfl
      have c7 := H.cell 4 rfl (o := 7) rfl
      go_upto_region 9 with fail
      go_quiet (first | (go_at_call 56; first | with_reducible exact rr_14 _ _ _ | with_reducible exact rr_18 _ _ _ | with_reducible exact rr_41 _ _ _))
      replace H := H.drewN nq
      generalize wr.drewN nq = wr3 at H ⊢
      clear ck cw c0 c4 c5 c6 c7
      have c1 := H.cell 4 rfl (o := 1) rfl
      have c2 := H.cell 4 rfl (o := 2) rfl
      go_upto_region 10 with fail
      go_quiet (first | (go_at_call 56; first | with_reducible exact rr_28 _ _ _ | with_reducible exact rr_34 _ _ _ | with_reducible exact rr_39 _ _ _))
      replace H := H.drewN nq
      generalize wr3.drewN nq = wr4 at H ⊢
      clear c1 c2
      rw [pval5, qval5]
      obtain ⟨pv, hpv⟩ : ∃ p, pOf5 kk ww x = p := ⟨_, rfl⟩
      obtain ⟨qv, hqv⟩ : ∃ q, qOf5 x = q := ⟨_, rfl⟩
      rw [hpv, hqv]
      have HR : Hid (rTo5 W X (k + 1) = ⟨pv + qv, x.a, x.b, x.c, x.d + pv, x.e, x.f, x.g⟩) := by unfold Hid; rw [HS.out, rnd5_eq, hpv, hqv]
      clear hpv hqv
      have c1 := H.cell 4 rfl (o := 1) rfl
      have c2 := H.cell 4 rfl (o := 2) rfl
      have c3 := H.cell 4 rfl (o := 3) rfl
      have c5 := H.cell 4 rfl (o := 5) rfl
      have c6 := H.cell 4 rfl (o := 6) rfl
      go_upto_region 11 with fail
      go_wp2_with (with_reducible refine hold_store 69 (.tmp 7) (.tmp 97) (by rfl) ?_)
      refine Lib.hid ?_
      simp only [wrapu, add64]
      refine wpList_store_mid rfl 69 (.tmp 7) (.tmp 97) rfl gv 0 (vals8 ⟨pv + qv, x.a, x.b, x.c, x.d + pv, x.e, x.f, x.g⟩).toArray rfl rfl (by have ht := H.there 4 rfl; exact ht) a8_size (by kernel_rfl) ?_
      have H2 := (H.storeAll 4 rfl (vs := vals8 ⟨pv + qv, x.a, x.b, x.c, x.d + pv, x.e, x.f, x.g⟩) rfl).upd_mk (by simp)
      show wpList Try.prog _ _ [] _ (wr4.setCells gv 0 (vals8 ⟨pv + qv, x.a, x.b, x.c, x.d + pv, x.e, x.f, x.g⟩))
      generalize wr4.setCells gv 0 (vals8 ⟨pv + qv, x.a, x.b, x.c, x.d + pv, x.e, x.f, x.g⟩) = wB at H2 ⊢
      clear c1 c2 c3 c5 c6 H
      clear h
      replace H2 : St w [] wB (lay [.blk gh 69 (h.map u64v), .blk gr 69 (List.replicate 8 (.int .u64 0)), .blk gk 80 K, .blk gw 80 (W.map u64v), .blk gv 69 (vals8 (rTo5 W X (k + 1)))]) := by rw [HR.out]; exact H2
      clear HS HR
      simp only [Act.put]
      go_wp2
      go_roundw
      case rel => exact ⟨k + 1, by omega, by go_num, H2⟩
      case measure => simp [intOf]; omega
    · obtain rfl : k = 80 := by omega
      rw [show ((80 : Nat) : Int) = 80 from rfl]
      obtain ⟨x, hx⟩ : ∃ x, rTo5 W X 80 = x := ⟨_, rfl⟩
      rw [hx] at H
      have HXX := Lib.hid hx
      clear hx HS
      obtain ⟨y, hy⟩ : ∃ y, x.list = y := ⟨_, rfl⟩
      have HYL : Hid (y.length = 8) := by unfold Hid; rw [← hy]; rfl
      have HSA : Hid (sumTo h y 8 = comp5 h b) := by unfold Hid; rw [← hy, ← HXX.out, ← HX.out, ← HWE.out]; exact sumTo_all h b
      replace H : St w [] wr (lay [.blk gh 69 ((sumTo h y 0).map u64v), .blk gr 69 (List.replicate 8 (.int .u64 0)), .blk gk 80 K, .blk gw 80 (W.map u64v), .blk gv 69 (y.map u64v)]) := by rw [sumTo_zero HH.out, ← hy]; exact H
      clear hy
      go_upto_region 13 with fail
      go_loopw [13] (fun i wr => ∃ k : Nat, k ≤ 8 ∧ i = .int .i64 k ∧ St w [] wr (lay [.blk gh 69 ((sumTo h y k).map u64v), .blk gr 69 (List.replicate 8 (.int .u64 0)), .blk gk 80 K, .blk gw 80 (W.map u64v), .blk gv 69 (y.map u64v)])) (fun i _ => 8 - (intOf i).toNat)
      case atStart => exact ⟨0, by omega, rfl, H⟩
      case round =>
        clear H
        obtain ⟨k, hk, rfl, H⟩ := hrel
        by_cases hlt : k < 8
        · have hk1 : (k : Int) < 8 := by omega
          have c0 := H.cell 0 rfl (u64_get (l := sumTo h y k) (k := k) (by rw [sumTo_length]; omega))
          have c1 := H.cell 4 rfl (u64_get (l := y) (k := k) (by rw [HYL.out]; omega))
          have f0 := H.free 0 rfl k
          rw [at64_sumTo _ _ _ hlt] at c0
          have HSS := Lib.hid (sumTo_succ h y k hlt)
          obtain ⟨yk, hyk⟩ : ∃ v, at64 y k = v := ⟨_, rfl⟩
          obtain ⟨hk', hhk⟩ : ∃ v, at64 h k = v := ⟨_, rfl⟩
          rw [hyk] at c1 HSS
          rw [hhk] at c0 HSS
          clear hyk hhk
          go_upto_region 15 with fail
          refine region_quiet_tail 9 (by kernel_rfl) (by kernel_rfl) ?_
          simp only [List.take_succ_cons, List.take_zero, List.drop_succ_cons, List.drop_zero]
          repeat (go_big_quiet_step (fail))
          refine wpQuiet_nil ?_
          intro nq
          have H2 := ((H.drewN nq).store 0 rfl (o := k) (u := u64v (hk' + yk))).upd_mk (by simp)
          rw [u64_set, ← HSS.out] at H2
          rw [u64v_eq] at H2
          go_wp2
          simp only [wrapu, add64]
          go_roundw
          case rel => exact ⟨k + 1, by omega, by go_num, H2⟩
          case measure => simp [intOf]; omega
        · obtain rfl : k = 8 := by omega
          rw [show ((8 : Nat) : Int) = 8 from rfl]
          rw [HSA.out] at H
          have HCL : Hid ((comp5 h b).length = 8) := comp5_length h b
          go_upto_region 16 with fail
          go_wp2_with (first | (with_reducible refine hold_store 69 (.tmp 4) (.tmp 111) (by rfl) ?_) | (refine wpList_load_row rfl 69 (.tmp 2) rfl gh rfl _ _ _ _ (H.blk 0 rfl) Try.underlying69 rfl (by rw [a8_size]; simp [HCL.out]) ?_))
          refine Lib.hid ?_
          refine wpList_store_mid rfl 69 (.tmp 4) (.tmp 111) rfl gr 0 ((comp5 h b).map u64v).toArray rfl rfl (by have ht := H.there 1 rfl; rw [List.length_replicate] at ht; rw [List.size_toArray, List.length_map, HCL.out]; exact ht) (by rw [a8_size]; simp [HCL.out]) (all_oneCell_toArray (u64_one _)) ?_
          have H4 := (H.storeAll 1 rfl (vs := (comp5 h b).map u64v) (by rw [List.length_map, HCL.out, List.length_replicate])).upd_mk (by simp)
          show wpList Try.prog _ _ [] _ (wr.setCells gr 0 ((comp5 h b).map u64v))
          simp only [Act.put]
          go_wp2
          exact bodyPost_ret (results_cell_row rfl _ _ gr 69 ((comp5 h b).map u64v).toArray _ _ rfl (H4.blk 1 rfl) Try.underlying69 rfl (by rw [a8_size]; simp [HCL.out])) rfl ⟨rfl, H4.below⟩
end Go.Proofs.Ythieegmmbjjcbaa
