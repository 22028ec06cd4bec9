/- The document's SHA-256: a block is worked into eight words, walked. -/
import Derived.Test.YtcnphkmcgefjoaaSh2Y
namespace Go.Proofs.Ytcnphkmcgefjoaa
open Go.RowKit
set_option linter.unusedVariables false
set_option maxRecDepth 100000

/-- a block of a list -/
def blkAt (p : List UInt8) (a : Nat) : List UInt8 := (p.drop a).take 64

theorem byteAt_blk (p : List UInt8) (a k : Nat) (hk : k < 64) (hl : a + 64 ≤ p.length) : byteAt (blkAt p a) (k : Int) = (p.getD (a + k) 0).toNat := by
  unfold byteAt blkAt
  rw [if_pos (by rw [List.length_take, List.length_drop]; omega)]
  rw [show ((k : Int)).toNat = k by omega]
  simp [List.getD_eq_getElem?_getD, List.getElem?_take, hk, List.getElem?_drop]

theorem beTo_succ (l : List UInt8) (a : Int) (k : Nat) : beTo l a (k + 1) = 256 * beTo l a k + byteAt l (a + k) := rfl
theorem beTo_zero (l : List UInt8) (a : Int) : beTo l a 0 = 0 := rfl

theorem wTo2_at (b : List UInt8) (t k : Nat) (ht : t ≤ k) (hk : k < 64) : at32 (wTo2 b t) k = 0 := by
  induction t with
  | zero =>
    show at32 (List.replicate 64 0) k = 0
    unfold at32
    rw [List.getD_eq_getElem?_getD, List.getElem?_replicate, if_pos hk]; rfl
  | succ t ih =>
    have hs : ∃ v, wTo2 b (t + 1) = (wTo2 b t).set t v := ⟨_, rfl⟩
    obtain ⟨v, hv⟩ := hs
    rw [hv]
    unfold at32 at *
    rw [List.getD_eq_getElem?_getD, List.getElem?_set, if_neg (by omega), ← List.getD_eq_getElem?_getD]
    exact ih (by omega)

theorem wTo2_set0 (b : List UInt8) (t : Nat) (ht : t < 64) : (wTo2 b t).set t (UInt32.ofNat (beTo b (4 * t : Nat) 0)) = wTo2 b t := by
  apply List.ext_getElem?
  intro i
  rw [List.getElem?_set]
  by_cases hi : t = i
  · subst hi
    rw [if_pos rfl, wTo2_length, if_pos ht, at32_some (by rw [wTo2_length]; exact ht), wTo2_at b t t (Nat.le_refl _) ht, beTo_zero]; rfl
  · rw [if_neg hi]

theorem at32_set (l : List UInt32) (k : Nat) (x : UInt32) (hk : k < l.length) : at32 (l.set k x) k = x := by
  unfold at32
  rw [List.getD_eq_getElem?_getD, List.getElem?_set, if_pos rfl, if_pos hk]; rfl

theorem ofNat_val {m : Nat} (h : m ≤ 4294967295) : ((UInt32.ofNat m).toNat : Int) = (m : Int) := by
  rw [UInt32.toNat_ofNat', Nat.mod_eq_of_lt (by omega)]

theorem map_of {h : List UInt32} (hh : h.length = 8) : h.map u32v = [.int .u32 ((R8.of h).a.toNat : Int), .int .u32 ((R8.of h).b.toNat : Int), .int .u32 ((R8.of h).c.toNat : Int), .int .u32 ((R8.of h).d.toNat : Int), .int .u32 ((R8.of h).e.toNat : Int), .int .u32 ((R8.of h).f.toNat : Int), .int .u32 ((R8.of h).g.toNat : Int), .int .u32 ((R8.of h).h.toNat : Int)] := by
  match h, hh with
  | [_, _, _, _, _, _, _, _], _ => rfl

theorem a8_size : (Try.prog.info? 40).map (·.size) = some 8 := by kernel_rfl

/-- eight words as cells -/
abbrev vals8 (x : R8) : List Value := [.int .u32 (x.a.toNat : Int), .int .u32 (x.b.toNat : Int), .int .u32 (x.c.toNat : Int), .int .u32 (x.d.toNat : Int), .int .u32 (x.e.toNat : Int), .int .u32 (x.f.toNat : Int), .int .u32 (x.g.toNat : Int), .int .u32 (x.h.toNat : Int)]

theorem or_b32 {b x : Nat} (hb : b ≤ 16777215) (hx : x ≤ 255) : bits .or .u32 ((b : Int) * 256) (x : Int) = ((256 * b + x : Nat) : Int) := or_byteT_32 hb hx

attribute [local irreducible] wTo2 rTo2 comp2 pOf2 qOf2 rnd2 ror32 kTab2 sg0 sg1 wNext2 beTo hTo

set_option maxHeartbeats 8000000 in
theorem refComp_s (h : List UInt32) (hh : h.length = 8) (A : Option Addr) (n c : Nat) (p : List UInt8) (a : Nat) (w : World) (hA : Rd w 1 A n (p.map vb)) (hn : n ≤ 100000000000) (ha : a + 64 ≤ n) :
    Calls Try.prog 72 #[.agg (h.map u32v).toArray, .slice A n c, .int .i64 (a : Int)] w fun e w' => e = .returned (.agg ((comp2 h (blkAt p a)).map u32v).toArray) ∧ Below w.heap.size w w' := by
  have hl : p.length = n := by simpa using hA.1
  have HL := Lib.hid hl
  have HH := Lib.hid hh
  have HAA := Lib.hid hA
  clear hl hh hA
  obtain ⟨b, hb⟩ : ∃ b, blkAt p a = b := ⟨_, rfl⟩
  have HBK := Lib.hid hb
  rw [hb]
  clear hb
  have H0 := St.start_lay w []
  go_enter Try.func72, Try.ntmps72
  go_upto_region 1 with fail
  refine absorb_wp (H0.allocAt 0 rfl w.heap.size rfl _ _ |>.push_mk rfl |>.allocAt 1 rfl (w.heap.size + 1) (by simp) _ _ |>.push_mk rfl) ?_
  clear H0
  intro w1 H
  generalize w.heap.size + 1 = gr at H ⊢
  generalize w.heap.size = gh at H ⊢
  replace H : St w [] w1 (lay [.blk gh 40 (h.map u32v), .blk gr 40 (List.replicate 8 (.int .u32 0))]) := H
  go_wp2_with fail
  refine (refTable_s w1).mono ?_
  rintro e w2 ⟨rfl, hb2⟩
  replace H := H.call hb2
  clear hb2
  obtain ⟨K, hK⟩ : ∃ K, kTab2.map u32v = K := ⟨_, rfl⟩
  have HKL : Hid (K.length = 64) := by unfold Hid; rw [← hK, List.length_map, kTab2_length]
  have HK1 : Hid (∀ u ∈ K, u.oneCell' = true) := by unfold Hid; rw [← hK]; exact u32_one _
  rw [hK]
  have HK := Lib.hid hK
  clear hK
  go_wp2_with (with_reducible refine hold_store 103 (.tmp 7) (.tmp 18) (by rfl) ?_)
  refine Lib.hid ?_
  refine absorb_list (H.allocAt 2 rfl w2.heap.size rfl _ _ |>.push_mk rfl) ?_
  clear H
  intro w3 H
  generalize w2.heap.size = gk at H ⊢
  replace H : St w [] w3 (lay [.blk gh 40 (h.map u32v), .blk gr 40 (List.replicate 8 (.int .u32 0)), .blk gk 103 (List.replicate 64 (.int .u32 0))]) := H
  refine wpList_store_mid rfl 103 (.tmp 7) (.tmp 18) rfl gk 0 K.toArray rfl rfl (by have ht := H.there 2 rfl; rw [List.length_replicate] at ht; rw [List.size_toArray, HKL.out]; exact ht) (by rw [tab_size, List.size_toArray, HKL.out]) (all_oneCell_toArray HK1.out) ?_
  replace H := (H.storeAll 2 rfl (vs := K) (by rw [HKL.out, List.length_replicate])).upd_mk (by simp)
  generalize w3.setCells gk 0 K = w4 at H ⊢
  go_upto_region 3 with fail
  refine absorb_wp (H.allocAt 3 rfl w4.heap.size rfl _ _ |>.push_mk rfl) ?_
  clear H
  intro w5 H
  generalize w4.heap.size = gw at H ⊢
  replace H : St w [] w5 (lay [.blk gh 40 (h.map u32v), .blk gr 40 (List.replicate 8 (.int .u32 0)), .blk gk 103 K, .blk gw 103 ((wTo2 b 0).map u32v)]) := by rw [wTo2_zero]; exact H
  go_wp2
  go_loopw [9] (fun i wr => ∃ k : Nat, k ≤ 64 ∧ i = .int .i64 k ∧ St w [] wr (lay [.blk gh 40 (h.map u32v), .blk gr 40 (List.replicate 8 (.int .u32 0)), .blk gk 103 K, .blk gw 103 ((wTo2 b k).map u32v)])) (fun i _ => 64 - (intOf i).toNat)
  case atStart => exact ⟨0, by omega, rfl, H⟩
  case round =>
    clear H
    obtain ⟨k, hk, rfl, H⟩ := hrel
    by_cases hlt : k < 64
    · have hk1 : (k : Int) < 64 := by omega
      by_cases h16 : k < 16
      · have hk2 : (k : Int) < 16 := by omega
        have HV := Lib.hid (wTo2_lo b k h16)
        have HLn : Hid ((wTo2 b k).length = 64) := wTo2_length _ _
        have HS0 := Lib.hid (wTo2_set0 b k hlt)
        rw [← HS0.out] at H
        generalize wTo2 b k = W at H HV HLn
        clear HS0
        go_wp2
        go_loopw [10] (fun i wr => ∃ t : Nat, t ≤ 4 ∧ i = .int .i64 t ∧ St w [] wr (lay [.blk gh 40 (h.map u32v), .blk gr 40 (List.replicate 8 (.int .u32 0)), .blk gk 103 K, .blk gw 103 ((W.set k (UInt32.ofNat (beTo b (4 * k : Nat) t))).map u32v)])) (fun i _ => 4 - (intOf i).toNat)
        case atStart => exact ⟨0, by omega, rfl, H⟩
        case round =>
          clear H
          obtain ⟨t, ht, rfl, H⟩ := hrel
          by_cases hlt4 : t < 4
          · have ht1 : (t : Int) < 4 := by omega
            have hb := beTo_lt b (4 * k : Nat) t
            have hp : 256 ^ t ≤ 16777216 := Nat.le_trans (Nat.pow_le_pow_right (by omega) (show t ≤ 3 by omega)) (by decide)
            have hb' : beTo b (4 * k : Nat) t ≤ 16777215 := by omega
            have HSU := Lib.hid (beTo_succ b (4 * k : Nat) t)
            obtain ⟨ad, x, hA, hx, hc, hbl⟩ := (HAA.out.below H.below).byteIn (k := a + (4 * k + t)) (by omega)
            have hxx : byteAt b ((4 * k : Nat) + (t : Int)) = x.toNat := by
              rw [show (((4 * k : Nat) : Int) + (t : Int)) = ((4 * k + t : Nat) : Int) by omega, ← HBK.out, byteAt_blk p a _ (by omega) (by rw [HL.out]; exact ha), List.getD_eq_getElem?_getD, hx]; rfl
            rw [hxx] at HSU
            have a0 := H.cell 3 rfl (u32_get (l := W.set k (UInt32.ofNat (beTo b (4 * k : Nat) t))) (k := k) (by rw [List.length_set, HLn.out]; omega))
            rw [at32_set _ _ _ (by rw [HLn.out]; omega), ofNat_val (by omega)] at a0
            have f0 := H.free 3 rfl k
            have hxb : x.toNat ≤ 255 := by have := x.toNat_lt; omega
            have hix : ((a : Int) + 4 * (k : Int) + (t : Int)) = ((a + (4 * k + t) : Nat) : Int) := by omega
            have hin : ((a + (4 * k + t) : Nat) : Int) < (n : Int) := by omega
            subst hA
            generalize hv : beTo b (4 * k : Nat) t = v at *
            clear hxx hb hp hx
            go_upto_region 10 with fail
            refine region_quiet_tail 17 (by kernel_rfl) (by kernel_rfl) ?_
            simp only [List.take_succ_cons, List.take_zero, List.drop_succ_cons, List.drop_zero]
            repeat (go_big_quiet_step (fail))
            refine wpQuiet_nil ?_
            intro nq
            have H2 := ((H.drewN nq).store 3 rfl (o := k) (u := u32v (UInt32.ofNat (256 * v + x.toNat)))).upd_mk (by simp)
            rw [u32_set, List.set_set] at H2
            unfold u32v at H2
            rw [ofNat_val (by omega)] at H2
            go_wp2
            rw [or_b32 hb' hxb]
            go_roundw
            case rel => exact ⟨t + 1, by omega, by go_num, by rw [HSU.out]; exact H2⟩
            case measure => simp [intOf]; omega
          · obtain rfl : t = 4 := by omega
            rw [← HV.out] at H
            go_wp2
            go_roundw
            case rel => exact ⟨k + 1, by omega, by go_num, H⟩
            case measure => simp [intOf]; omega
      · have h16' : ¬ ((k : Int) < 16) := by omega
        have k15 : ((k : Int) - 15) = ((k - 15 : Nat) : Int) := by omega
        have k2 : ((k : Int) - 2) = ((k - 2 : Nat) : Int) := by omega
        have k7 : ((k : Int) - 7) = ((k - 7 : Nat) : Int) := by omega
        have k16 : ((k : Int) - 16) = ((k - 16 : Nat) : Int) := by omega
        have hv := wTo2_hi b k (by omega)
        have HV := Lib.hid hv
        clear hv
        have a15 := H.cell 3 rfl (u32_get (l := wTo2 b k) (k := k - 15) (by rw [wTo2_length]; omega))
        have a2 := H.cell 3 rfl (u32_get (l := wTo2 b k) (k := k - 2) (by rw [wTo2_length]; omega))
        have a7 := H.cell 3 rfl (u32_get (l := wTo2 b k) (k := k - 7) (by rw [wTo2_length]; omega))
        have a16 := H.cell 3 rfl (u32_get (l := wTo2 b k) (k := k - 16) (by rw [wTo2_length]; omega))
        have f0 := H.free 3 rfl k
        have a0 := H.cell 3 rfl (u32_get (l := wTo2 b k) (k := k) (by rw [wTo2_length]; omega))
        have HWN := Lib.hid (wNext2_eq (wTo2 b k) k)
        obtain ⟨x15, hA15⟩ : ∃ x, at32 (wTo2 b k) (k - 15) = x := ⟨_, rfl⟩
        have HA15 := Lib.hid hA15
        rw [hA15] at a15
        clear hA15
        obtain ⟨x2, hA2⟩ : ∃ x, at32 (wTo2 b k) (k - 2) = x := ⟨_, rfl⟩
        have HA2 := Lib.hid hA2
        rw [hA2] at a2
        clear hA2
        obtain ⟨x7, hA7⟩ : ∃ x, at32 (wTo2 b k) (k - 7) = x := ⟨_, rfl⟩
        have HA7 := Lib.hid hA7
        rw [hA7] at a7
        clear hA7
        obtain ⟨x16, hA16⟩ : ∃ x, at32 (wTo2 b k) (k - 16) = x := ⟨_, rfl⟩
        have HA16 := Lib.hid hA16
        rw [hA16] at a16
        clear hA16
        go_upto_region 11 with fail
        go_quiet (first | (go_at_call 77; first | with_reducible exact rr_7 _ _ _ | with_reducible exact rr_18 _ _ _))
        replace H := H.drewN nq
        generalize wr.drewN nq = wr2 at H ⊢
        clear a15 a2 a7 a16 f0 a0
        have a2 := H.cell 3 rfl (u32_get (l := wTo2 b k) (k := k - 2) (by rw [wTo2_length]; omega))
        rw [HA2.out] at a2
        go_upto_region 12 with fail
        go_quiet (first | (go_at_call 77; first | with_reducible exact rr_17 _ _ _ | with_reducible exact rr_19 _ _ _))
        replace H := H.drewN nq
        generalize wr2.drewN nq = wr3 at H ⊢
        clear a2
        have a7 := H.cell 3 rfl (u32_get (l := wTo2 b k) (k := k - 7) (by rw [wTo2_length]; omega))
        have a16 := H.cell 3 rfl (u32_get (l := wTo2 b k) (k := k - 16) (by rw [wTo2_length]; omega))
        rw [HA7.out] at a7
        rw [HA16.out] at a16
        have f0 := H.free 3 rfl k
        have a0 := H.cell 3 rfl (u32_get (l := wTo2 b k) (k := k) (by rw [wTo2_length]; omega))
        go_upto_region 13 with fail
        refine region_quiet_tail 15 (by kernel_rfl) (by kernel_rfl) ?_
        simp only [List.take_succ_cons, List.take_zero, List.drop_succ_cons, List.drop_zero]
        repeat (go_big_quiet_step (fail))
        refine wpQuiet_nil ?_
        intro nq
        have HN : Hid (wTo2 b (k + 1) = (wTo2 b k).set k (sg1 x2 + x7 + sg0 x15 + x16)) := by unfold Hid; rw [HV.out, HWN.out, HA2.out, HA7.out, HA15.out, HA16.out]
        have H2 := ((H.drewN nq).store 3 rfl (o := k) (u := u32v (sg1 x2 + x7 + sg0 x15 + x16))).upd_mk (by simp)
        rw [u32_set, ← HN.out] at H2
        unfold u32v at H2
        go_wp2
        rw [sg1_val, sg0_val, sum4]
        go_roundw
        case rel => exact ⟨k + 1, by omega, by go_num, H2⟩
        case measure => simp [intOf]; omega
    · obtain rfl : k = 64 := by omega
      rw [show ((64 : Nat) : Int) = 64 from rfl]
      obtain ⟨W, hW⟩ : ∃ W, wTo2 b 64 = W := ⟨_, rfl⟩
      have HWL : Hid (W.length = 64) := by unfold Hid; rw [← hW]; exact wTo2_length _ _
      rw [hW] at H
      have HWE := Lib.hid hW
      clear hW
      obtain ⟨X, hX⟩ : ∃ X, R8.of h = X := ⟨_, rfl⟩
      have HX : Hid (R8.of h = X) := hX
      have HM : Hid (h.map u32v = [.int .u32 (X.a.toNat : Int), .int .u32 (X.b.toNat : Int), .int .u32 (X.c.toNat : Int), .int .u32 (X.d.toNat : Int), .int .u32 (X.e.toNat : Int), .int .u32 (X.f.toNat : Int), .int .u32 (X.g.toNat : Int), .int .u32 (X.h.toNat : Int)]) := by unfold Hid; rw [← hX]; exact map_of HH.out
      clear hX
      rw [HM.out] at H
      go_upto_region 14 with fail
      go_wp2_with (first | (with_reducible refine hold_store 40 (.tmp 13) (.tmp 95) (by rfl) ?_) | (refine wpList_load_row rfl 40 (.tmp 3) rfl gh rfl _ _ _ _ (H.blk 0 rfl) Try.underlying40 rfl a8_size ?_))
      refine Lib.hid ?_
      refine absorb_list (H.allocAt 4 rfl wr.heap.size rfl _ _ |>.push_mk rfl) ?_
      clear H
      intro w6 H
      generalize wr.heap.size = gx at H ⊢
      replace H : St w [] w6 (lay [.blk gh 40 (vals8 X), .blk gr 40 (List.replicate 8 (.int .u32 0)), .blk gk 103 K, .blk gw 103 (W.map u32v), .blk gx 40 (List.replicate 8 (.int .u32 0))]) := H
      refine wpList_store_mid rfl 40 (.tmp 13) (.tmp 95) rfl gx 0 (vals8 X).toArray rfl rfl (by have ht := H.there 4 rfl; rw [List.length_replicate] at ht; exact ht) a8_size (by kernel_rfl) ?_
      replace H := (H.storeAll 4 rfl (vs := vals8 X) rfl).upd_mk (by simp)
      replace H : St w [] (w6.setCells gx 0 (vals8 X)) (lay [.blk gh 40 (h.map u32v), .blk gr 40 (List.replicate 8 (.int .u32 0)), .blk gk 103 K, .blk gw 103 (W.map u32v), .blk gx 40 (vals8 X)]) := by rw [HM.out]; exact H
      go_wp2
      generalize w6.setCells gx 0 (vals8 X) = w7 at H ⊢
      go_loopw [14] (fun i wr => ∃ k : Nat, k ≤ 64 ∧ i = .int .i64 k ∧ St w [] wr (lay [.blk gh 40 (h.map u32v), .blk gr 40 (List.replicate 8 (.int .u32 0)), .blk gk 103 K, .blk gw 103 (W.map u32v), .blk gx 40 (vals8 (rTo2 W X k))])) (fun i _ => 64 - (intOf i).toNat)
      case atStart => exact ⟨0, by omega, rfl, by rw [rTo2_zero]; exact H⟩
      case round =>
        clear H
        obtain ⟨k, hk, rfl, H⟩ := hrel
        have HS : Hid (rTo2 W X (k + 1) = rnd2 (at32 kTab2 k) (at32 W k) (rTo2 W X k)) := rTo2_succ _ _ _
        by_cases hlt : k < 64
        · have hk1 : (k : Int) < 64 := by omega
          have ck := H.cell 2 rfl (o := k) (by rw [← HK.out]; exact u32_get (by rw [kTab2_length]; omega))
          have cw := H.cell 3 rfl (u32_get (l := W) (k := k) (by rw [HWL.out]; omega))
          generalize at32 kTab2 k = kk at ck HS
          generalize at32 W k = ww at cw HS
          generalize rTo2 W X k = x at HS H
          have c4 := H.cell 4 rfl (o := 4) rfl
          have c5 := H.cell 4 rfl (o := 5) rfl
          have c6 := H.cell 4 rfl (o := 6) rfl
          have c7 := H.cell 4 rfl (o := 7) rfl
          go_upto_region 18 with fail
          go_quiet (first | (go_at_call 77; first | with_reducible exact rr_6 _ _ _ | with_reducible exact rr_11 _ _ _ | with_reducible exact rr_25 _ _ _))
          replace H := H.drewN nq
          generalize wr.drewN nq = wr3 at H ⊢
          clear ck cw c4 c5 c6 c7
          have c0 := H.cell 4 rfl (o := 0) rfl
          have c1 := H.cell 4 rfl (o := 1) rfl
          have c2 := H.cell 4 rfl (o := 2) rfl
          go_upto_region 19 with fail
          go_quiet (first | (go_at_call 77; first | with_reducible exact rr_2 _ _ _ | with_reducible exact rr_13 _ _ _ | with_reducible exact rr_22 _ _ _))
          replace H := H.drewN nq
          generalize wr3.drewN nq = wr4 at H ⊢
          clear c0 c1 c2
          rw [pval2, qval2]
          obtain ⟨pv, hpv⟩ : ∃ p, pOf2 kk ww x = p := ⟨_, rfl⟩
          obtain ⟨qv, hqv⟩ : ∃ q, qOf2 x = q := ⟨_, rfl⟩
          rw [hpv, hqv]
          have HR : Hid (rTo2 W X (k + 1) = ⟨pv + qv, x.a, x.b, x.c, x.d + pv, x.e, x.f, x.g⟩) := by unfold Hid; rw [HS.out, rnd2_eq, hpv, hqv]
          clear hpv hqv
          have c0 := H.cell 4 rfl (o := 0) rfl
          have c1 := H.cell 4 rfl (o := 1) rfl
          have c2 := H.cell 4 rfl (o := 2) rfl
          have c3 := H.cell 4 rfl (o := 3) rfl
          have c4 := H.cell 4 rfl (o := 4) rfl
          have c5 := H.cell 4 rfl (o := 5) rfl
          have c6 := H.cell 4 rfl (o := 6) rfl
          go_upto_region 20 with fail
          go_wp2_with (with_reducible refine hold_store 40 (.tmp 13) (.tmp 183) (by rfl) ?_)
          refine Lib.hid ?_
          rw [add32, add32]
          refine wpList_store_mid rfl 40 (.tmp 13) (.tmp 183) rfl gx 0 (vals8 ⟨pv + qv, x.a, x.b, x.c, x.d + pv, x.e, x.f, x.g⟩).toArray rfl rfl (by have ht := H.there 4 rfl; exact ht) a8_size (by kernel_rfl) ?_
          have H2 := (H.storeAll 4 rfl (vs := vals8 ⟨pv + qv, x.a, x.b, x.c, x.d + pv, x.e, x.f, x.g⟩) rfl).upd_mk (by simp)
          show wpList Try.prog _ _ [] _ (wr4.setCells gx 0 (vals8 ⟨pv + qv, x.a, x.b, x.c, x.d + pv, x.e, x.f, x.g⟩))
          generalize wr4.setCells gx 0 (vals8 ⟨pv + qv, x.a, x.b, x.c, x.d + pv, x.e, x.f, x.g⟩) = w8 at H2 ⊢
          clear c0 c1 c2 c3 c4 c5 c6 H
          clear h
          replace H2 : St w [] w8 (lay [.blk gh 40 (h.map u32v), .blk gr 40 (List.replicate 8 (.int .u32 0)), .blk gk 103 K, .blk gw 103 (W.map u32v), .blk gx 40 (vals8 (rTo2 W X (k + 1)))]) := by rw [HR.out]; exact H2
          clear HS HR
          go_wp2
          go_roundw
          case rel => exact ⟨k + 1, by omega, by go_num, H2⟩
          case measure => simp [intOf]; omega
        · obtain rfl : k = 64 := by omega
          rw [show ((64 : Nat) : Int) = 64 from rfl]
          obtain ⟨x, hx⟩ : ∃ x, rTo2 W X 64 = x := ⟨_, rfl⟩
          rw [hx] at H
          have HXX := Lib.hid hx
          clear hx HS
          obtain ⟨y, hy⟩ : ∃ y, x.list = y := ⟨_, rfl⟩
          have HYL : Hid (y.length = 8) := by unfold Hid; rw [← hy]; rfl
          have HSA : Hid (sumTo h y 8 = comp2 h b) := by unfold Hid; rw [← hy, ← HXX.out, ← HX.out, ← HWE.out]; exact sumTo_all h b
          replace H : St w [] wr (lay [.blk gh 40 ((sumTo h y 0).map u32v), .blk gr 40 (List.replicate 8 (.int .u32 0)), .blk gk 103 K, .blk gw 103 (W.map u32v), .blk gx 40 (y.map u32v)]) := by rw [sumTo_zero HH.out, ← hy]; exact H
          clear hy
          go_upto_region 22 with fail
          go_loopw [17] (fun i wr => ∃ k : Nat, k ≤ 8 ∧ i = .int .i64 k ∧ St w [] wr (lay [.blk gh 40 ((sumTo h y k).map u32v), .blk gr 40 (List.replicate 8 (.int .u32 0)), .blk gk 103 K, .blk gw 103 (W.map u32v), .blk gx 40 (y.map u32v)])) (fun i _ => 8 - (intOf i).toNat)
          case atStart => exact ⟨0, by omega, rfl, H⟩
          case round =>
            clear H
            obtain ⟨k, hk, rfl, H⟩ := hrel
            by_cases hlt : k < 8
            · have hk1 : (k : Int) < 8 := by omega
              have c0 := H.cell 0 rfl (u32_get (l := sumTo h y k) (k := k) (by rw [sumTo_length]; omega))
              have c1 := H.cell 4 rfl (u32_get (l := y) (k := k) (by rw [HYL.out]; omega))
              have f0 := H.free 0 rfl k
              rw [at32_sumTo _ _ _ hlt] at c0
              have HSS := Lib.hid (sumTo_succ h y k hlt)
              obtain ⟨yk, hyk⟩ : ∃ v, at32 y k = v := ⟨_, rfl⟩
              obtain ⟨hk', hhk⟩ : ∃ v, at32 h k = v := ⟨_, rfl⟩
              rw [hyk] at c1 HSS
              rw [hhk] at c0 HSS
              clear hyk hhk
              go_upto_region 24 with fail
              refine region_quiet_tail 9 (by kernel_rfl) (by kernel_rfl) ?_
              simp only [List.take_succ_cons, List.take_zero, List.drop_succ_cons, List.drop_zero]
              repeat (go_big_quiet_step (fail))
              refine wpQuiet_nil ?_
              intro nq
              have H2 := ((H.drewN nq).store 0 rfl (o := k) (u := u32v (hk' + yk))).upd_mk (by simp)
              rw [u32_set, ← HSS.out] at H2
              unfold u32v at H2
              go_wp2
              rw [add32]
              go_roundw
              case rel => exact ⟨k + 1, by omega, by go_num, H2⟩
              case measure => simp [intOf]; omega
            · obtain rfl : k = 8 := by omega
              rw [show ((8 : Nat) : Int) = 8 from rfl]
              rw [HSA.out] at H
              have HCL : Hid ((comp2 h b).length = 8) := comp2_length h b
              go_upto_region 25 with fail
              go_wp2_with (first | (with_reducible refine hold_store 40 (.tmp 6) (.tmp 197) (by rfl) ?_) | (refine wpList_load_row rfl 40 (.tmp 3) rfl gh rfl _ _ _ _ (H.blk 0 rfl) Try.underlying40 rfl (by rw [a8_size]; simp [HCL.out]) ?_))
              refine Lib.hid ?_
              refine wpList_store_mid rfl 40 (.tmp 6) (.tmp 197) rfl gr 0 ((comp2 h b).map u32v).toArray rfl rfl (by have ht := H.there 1 rfl; rw [List.length_replicate] at ht; rw [List.size_toArray, List.length_map, HCL.out]; exact ht) (by rw [a8_size]; simp [HCL.out]) (all_oneCell_toArray (u32_one _)) ?_
              have H4 := (H.storeAll 1 rfl (vs := (comp2 h b).map u32v) (by rw [List.length_map, HCL.out, List.length_replicate])).upd_mk (by simp)
              show wpList Try.prog _ _ [] _ (wr.setCells gr 0 ((comp2 h b).map u32v))
              go_wp2
              exact bodyPost_ret (results_cell_row rfl _ _ gr 40 ((comp2 h b).map u32v).toArray _ _ rfl (H4.blk 1 rfl) Try.underlying40 rfl (by rw [a8_size]; simp [HCL.out])) rfl ⟨rfl, H4.below⟩
end Go.Proofs.Ytcnphkmcgefjoaa
