/- SHA-512: a block is worked into eight words. -/
import Derived.Test.YthieegmmbjjcbaaSh5R
import Derived.Test.YthieegmmbjjcbaaTake
import Derived.Test.YthieegmmbjjcbaaLedR
import Derived.Test.YthieegmmbjjcbaaQTail
import Derived.Test.YthieegmmbjjcbaaHeld2
import Derived.Test.YthieegmmbjjcbaaKitO
namespace Go.Proofs.Ythieegmmbjjcbaa
open Go.RowKit
set_option linter.unusedVariables false
set_option maxRecDepth 100000

theorem putAt_all {b c : List UInt8} (h : c.length = b.length) : putAt b 0 c = c := by
  unfold putAt
  rw [List.take_zero, List.nil_append, Nat.zero_add, h, List.drop_length, List.append_nil]

theorem wTo5_lo (b : List UInt8) (t : Nat) (ht : t < 16) : wTo5 b (t + 1) = (wTo5 b t).set t (UInt64.ofNat (beTo b (8 * t : Nat) 8)) := by
  show (wTo5 b t).set t (if t < 16 then _ else _) = _
  rw [if_pos ht]

theorem wTo5_hi (b : List UInt8) (t : Nat) (ht : ¬ t < 16) : wTo5 b (t + 1) = (wTo5 b t).set t (wNext5 (wTo5 b t) t) := by
  show (wTo5 b t).set t (if t < 16 then _ else _) = _
  rw [if_neg ht]

theorem be8_u64 (b : List UInt8) (a : Int) : Value.int .u64 ((beTo b a 8 : Nat) : Int) = u64v (UInt64.ofNat (beTo b a 8)) := by
  have := beTo_lt b a 8
  unfold u64v
  rw [UInt64.toNat_ofNat', Nat.mod_eq_of_lt (by omega)]

theorem sg51_val (x : UInt64) : bits .xor .u64 (bits .xor .u64 ((ror64 x 19).toNat : Int) ((ror64 x 61).toNat : Int)) ((x.toNat : Int) / 64) = ((sg51 x).toNat : Int) := by
  have h := shr64 x 6 (by omega)
  rw [show ((2 : Int) ^ 6) = 64 from rfl] at h
  rw [xor64, h, xor64]; rfl

theorem sg50_val (x : UInt64) : bits .xor .u64 (bits .xor .u64 ((ror64 x 1).toNat : Int) ((ror64 x 8).toNat : Int)) ((x.toNat : Int) / 128) = ((sg50 x).toNat : Int) := by
  have h := shr64 x 7 (by omega)
  rw [show ((2 : Int) ^ 7) = 128 from rfl] at h
  rw [xor64, h, xor64]; rfl

theorem sum4 (a b c d : UInt64) : ((a.toNat : Int) + (b.toNat : Int) + (c.toNat : Int) + (d.toNat : Int)) % 18446744073709551616 = ((a + b + c + d).toNat : Int) := by
  rw [UInt64.toNat_add, UInt64.toNat_add, UInt64.toNat_add]; omega

theorem wrapu (x : Int) : IntKind.u64.wrap x = x % 18446744073709551616 := rfl

theorem pval5 (kk ww : UInt64) (x : R85) : IntKind.u64.wrap (IntKind.u64.wrap (IntKind.u64.wrap (IntKind.u64.wrap ((x.h.toNat : Int) + bits .xor .u64 (bits .xor .u64 ((ror64 x.e 14).toNat : Int) ((ror64 x.e 18).toNat : Int)) ((ror64 x.e 41).toNat : Int)) + bits .xor .u64 (bits .and .u64 (x.e.toNat : Int) (x.f.toNat : Int)) (bits .and .u64 (bits .xor .u64 (if IntKind.u64.signed = true then -1 else IntKind.u64.max) (x.e.toNat : Int)) (x.g.toNat : Int))) + (kk.toNat : Int)) + (ww.toNat : Int)) = ((pOf5 kk ww x).toNat : Int) := by
  simp only [wrapu]
  rw [xor64, xor64, and64, not64, and64, xor64, add64, add64, add64, add64]; rfl

theorem qval5 (x : R85) : IntKind.u64.wrap (bits .xor .u64 (bits .xor .u64 ((ror64 x.a 28).toNat : Int) ((ror64 x.a 34).toNat : Int)) ((ror64 x.a 39).toNat : Int) + bits .xor .u64 (bits .xor .u64 (bits .and .u64 (x.a.toNat : Int) (x.b.toNat : Int)) (bits .and .u64 (x.a.toNat : Int) (x.c.toNat : Int))) (bits .and .u64 (x.b.toNat : Int) (x.c.toNat : Int))) = ((qOf5 x).toNat : Int) := by
  simp only [wrapu]
  rw [xor64, xor64, and64, and64, and64, xor64, xor64, add64]; rfl

theorem comp5_eq (h : List UInt64) (b : List UInt8) : comp5 h b = (List.range 8).map fun i => at64 h i + at64 (rTo5 (wTo5 b 80) (R85.of h) 80).list i := rfl

/-- the sums of a state's words, as far as they are laid -/
def sumTo (h y : List UInt64) (k : Nat) : List UInt64 := (List.range 8).map fun i => if i < k then at64 h i + at64 y i else at64 h i

theorem sumTo_length (h y : List UInt64) (k : Nat) : (sumTo h y k).length = 8 := by unfold sumTo; rw [List.length_map, List.length_range]

theorem sumTo_get (h y : List UInt64) (k i : Nat) : (sumTo h y k)[i]? = if i < 8 then some (if i < k then at64 h i + at64 y i else at64 h i) else none := by
  unfold sumTo
  rw [List.getElem?_map]
  by_cases hi : i < 8
  · rw [List.getElem?_range hi, if_pos hi]; rfl
  · rw [if_neg hi, List.getElem?_eq_none (by rw [List.length_range]; omega)]; rfl

theorem at64_some {h : List UInt64} {i : Nat} (hi : i < h.length) : h[i]? = some (at64 h i) := by
  unfold at64
  rw [List.getD_eq_getElem?_getD, List.getElem?_eq_getElem hi]; rfl

theorem sumTo_zero {h : List UInt64} (hh : h.length = 8) (y : List UInt64) : sumTo h y 0 = h := by
  apply List.ext_getElem?
  intro i
  rw [sumTo_get]
  by_cases hi : i < 8
  · rw [if_pos hi, if_neg (Nat.not_lt_zero _), at64_some (by omega)]
  · rw [if_neg hi, List.getElem?_eq_none (by omega)]

theorem at64_sumTo (h y : List UInt64) (k : Nat) (hk : k < 8) : at64 (sumTo h y k) k = at64 h k := by
  unfold sumTo at64
  rw [List.getD_eq_getElem?_getD, List.getElem?_map, List.getElem?_range hk]
  simp

theorem sumTo_succ (h y : List UInt64) (k : Nat) (hk : k < 8) : sumTo h y (k + 1) = (sumTo h y k).set k (at64 h k + at64 y k) := by
  apply List.ext_getElem?
  intro i
  rw [List.getElem?_set, sumTo_get, sumTo_get, sumTo_length]
  by_cases hi : k = i
  · subst hi
    rw [if_pos hk, if_pos (Nat.lt_succ_self k), if_pos rfl, if_pos hk]
  · rw [if_neg hi]
    by_cases h8 : i < 8
    · rw [if_pos h8, if_pos h8]
      by_cases h3 : i < k
      · rw [if_pos h3, if_pos (by omega)]
      · rw [if_neg h3, if_neg (by omega)]
    · rw [if_neg h8, if_neg h8]

theorem sumTo_all (h : List UInt64) (b : List UInt8) : sumTo h (rTo5 (wTo5 b 80) (R85.of h) 80).list 8 = comp5 h b := by
  unfold sumTo
  rw [comp5_eq]
  apply List.map_congr_left
  intro i hi
  rw [if_pos (List.mem_range.1 hi)]

theorem R85.list_at (x : R85) : at64 x.list 0 = x.a ∧ at64 x.list 1 = x.b ∧ at64 x.list 2 = x.c ∧ at64 x.list 3 = x.d ∧ at64 x.list 4 = x.e ∧ at64 x.list 5 = x.f ∧ at64 x.list 6 = x.g ∧ at64 x.list 7 = x.h := ⟨rfl, rfl, rfl, rfl, rfl, rfl, rfl, rfl⟩

theorem wNext5_eq (w : List UInt64) (t : Nat) : wNext5 w t = sg51 (at64 w (t - 2)) + at64 w (t - 7) + sg50 (at64 w (t - 15)) + at64 w (t - 16) := rfl
theorem rTo5_succ (w : List UInt64) (x : R85) (t : Nat) : rTo5 w x (t + 1) = rnd5 (at64 kTab5 t) (at64 w t) (rTo5 w x t) := rfl
theorem rTo5_zero (w : List UInt64) (x : R85) : rTo5 w x 0 = x := rfl
theorem rnd5_eq (k w : UInt64) (x : R85) : rnd5 k w x = ⟨pOf5 k w x + qOf5 x, x.a, x.b, x.c, x.d + pOf5 k w x, x.e, x.f, x.g⟩ := rfl
theorem wTo5_zero (b : List UInt8) : (wTo5 b 0).map u64v = List.replicate 80 (.int .u64 0) := rfl
theorem R85.of_eq (l : List UInt64) : R85.of l = ⟨at64 l 0, at64 l 1, at64 l 2, at64 l 3, at64 l 4, at64 l 5, at64 l 6, at64 l 7⟩ := rfl

theorem u64v_eq (x : UInt64) : u64v x = .int .u64 (x.toNat : Int) := rfl
theorem b128_size : (Try.prog.info? 71).map (·.size) = some 128 := by kernel_rfl
theorem u64_notAgg : ∀ w, (isAgg 68).run Try.prog w = .ok false w := by intro w; kernel_rfl
theorem u64_size : (Try.prog.info? 68).map (·.size) = some 1 := by kernel_rfl
theorem k80_ix (k : Nat) (hk : k < 80) (w : World) : (Instr.index 80 (.agg (kTab5.map u64v).toArray) (.int .i64 (k : Int))).run Try.prog w = .ok (.int .u64 ((at64 kTab5 k).toNat : Int)) w :=
  run_index_agg (P := Try.prog) 80 68 80 (kTab5.map u64v).toArray k _ Try.underlying80 u64_size u64_notAgg hk (by have := u64_get (l := kTab5) (k := k) (by rw [kTab5_length]; omega); simpa using this) w
theorem upd_laid5 {L : List Own} {k : Nat} {A : Own} (h : k < L.length) : upd (lay L) k A = lay (L.set k A) := by
  funext i
  by_cases hi : i = k
  · subst hi; simp [upd, lay, List.getElem?_set_self h]
  · simp [upd, lay, hi, List.getElem?_set_ne (Ne.symm hi)]
/-- eight words as cells -/
abbrev vals8 (x : R85) : List Value := [.int .u64 (x.a.toNat : Int), .int .u64 (x.b.toNat : Int), .int .u64 (x.c.toNat : Int), .int .u64 (x.d.toNat : Int), .int .u64 (x.e.toNat : Int), .int .u64 (x.f.toNat : Int), .int .u64 (x.g.toNat : Int), .int .u64 (x.h.toNat : Int)]
theorem map_of {h : List UInt64} (hh : h.length = 8) : h.map u64v = vals8 (R85.of h) := by
  match h, hh with
  | [_, _, _, _, _, _, _, _], _ => rfl

attribute [local irreducible] wTo5 rTo5 comp5 pOf5 qOf5 rnd5 ror64 kTab5 sg50 sg51 wNext5

section
variable {w0 w : World} {F0 : List Nat} {E : Env}

set_option maxHeartbeats 8000000 in
theorem sh5Comp_s (l : Value) (r : Option (List RunT)) (m : Nat) (c : Int) (h : List UInt64) (b : List UInt8) (H : St w0 F0 w E) (i : Nat) (hi : E i = some (led l r)) (hg : LW r m c) (hm : m ≤ 999999999999) (hc : c ≤ 4000000000000000000) (hh : h.length = 8) (hb : b.length = 128) :
    Calls Try.prog 38 #[l, .agg (h.map u64v).toArray, .agg (b.map vb).toArray] w fun e w' => e = .returned (.agg ((comp5 h b).map u64v).toArray) ∧ St w0 F0 w' (upd E i (led l (noteN r 2 128 1))) := by
  obtain ⟨F, HF, -, -, hback⟩ := H.frame1 i hi
  have HB := Lib.hid hback
  replace HF := HF.as1
  have HH := Lib.hid hh
  have HBL := Lib.hid hb
  clear H hback hi hh hb
  have hz80 := zero80
  go_enter Try.func38, Try.ntmps38
  go_upto_region 1 with fail
  refine absorb_wp (HF.allocAt 1 rfl w.heap.size rfl _ _ |>.push_mk rfl |>.allocAt 2 rfl (w.heap.size + 1) (by simp) _ _ |>.push_mk rfl |>.allocAt 3 rfl (w.heap.size + 1 + 1) (by simp) _ _ |>.push_mk rfl) ?_
  clear HF
  intro w1 H
  generalize w.heap.size + 1 + 1 = gr at H ⊢
  generalize w.heap.size + 1 = gb at H ⊢
  generalize w.heap.size = gh at H ⊢
  replace H : St w F w1 (lay [led l r, .blk gh 69 (h.map u64v), .blk gb 71 (b.map vb), .blk gr 69 (List.replicate 8 (.int .u64 0))]) := H
  go_wp2_with fail
  refine (ledger_note_w m c 2 128 H 0 rfl hg (by omega) (by omega)).mono ?_
  rintro e w2 ⟨rfl, H1⟩
  replace H : St w F w2 (lay [led l (noteN r 2 128 1), .blk gh 69 (h.map u64v), .blk gb 71 (b.map vb), .blk gr 69 (List.replicate 8 (.int .u64 0))]) := H1.upd_mk (by simp)
  clear H1 hg
  go_upto_region 3 with fail
  refine absorb_wp (H.allocAt 4 rfl w2.heap.size rfl _ _ |>.push_mk rfl) ?_
  clear H
  intro w3 H
  generalize w2.heap.size = gw at H ⊢
  replace H : St w F w3 (lay [led l (noteN r 2 128 1), .blk gh 69 (h.map u64v), .blk gb 71 (b.map vb), .blk gr 69 (List.replicate 8 (.int .u64 0)), .blk gw 80 ((wTo5 b 0).map u64v)]) := by rw [wTo5_zero]; exact H
  go_wp2
  go_loopw [22] (fun i wr => ∃ k : Nat, k ≤ 80 ∧ i = .int .i64 k ∧ St w F wr (lay [led l (noteN r 2 128 1), .blk gh 69 (h.map u64v), .blk gb 71 (b.map vb), .blk gr 69 (List.replicate 8 (.int .u64 0)), .blk gw 80 ((wTo5 b k).map u64v)])) (fun i _ => 80 - (intOf i).toNat)
  case atStart => exact ⟨0, by omega, rfl, H⟩
  case round =>
    clear H
    obtain ⟨k, hk, rfl, H⟩ := hrel
    by_cases hlt : k < 80
    · have hk1 : (k : Int) < 80 := by omega
      by_cases h16 : k < 16
      · have hk2 : (k : Int) < 16 := by omega
        have f0 := H.free 4 rfl k
        have a0 := H.cell 4 rfl (u64_get (l := wTo5 b k) (k := k) (by rw [wTo5_length]; omega))
        have hR : Rd wr 1 (some ⟨gb, 0, none⟩) 128 (b.map vb) := H.rdBlk 2 rfl 1 128 (by rw [List.length_map, HBL.out])
        go_wp2_with fail
        refine (take_u64 (some ⟨gb, 0, none⟩) 128 128 b (8 * k) wr hR (by omega)).mono ?_
        rintro e w6 ⟨rfl, rfl⟩
        rw [be8_u64]
        have hv := wTo5_lo b k h16
        rw [show ((8 * k : Nat) : Int) = 8 * (k : Int) by omega] at hv
        have HV := Lib.hid hv
        clear hv hR
        generalize UInt64.ofNat (beTo b (8 * (k : Int)) 8) = v at HV ⊢
        have H2 := (H.store 4 rfl (o := k) (u := u64v v)).upd_mk (by simp)
        rw [u64_set, ← HV.out] at H2
        rw [u64v_eq v] at H2 ⊢
        go_wp2
        go_roundw
        case rel => exact ⟨k + 1, by omega, by go_num, H2⟩
        case measure => simp [intOf]; omega
      · have h16' : ¬ ((k : Int) < 16) := by omega
        have k15 : ((k : Int) - 15) = ((k - 15 : Nat) : Int) := by omega
        have k2 : ((k : Int) - 2) = ((k - 2 : Nat) : Int) := by omega
        have k7 : ((k : Int) - 7) = ((k - 7 : Nat) : Int) := by omega
        have k16 : ((k : Int) - 16) = ((k - 16 : Nat) : Int) := by omega
        have hv := wTo5_hi b k (by omega)
        have HV := Lib.hid hv
        clear hv
        have a15 := H.cell 4 rfl (u64_get (l := wTo5 b k) (k := k - 15) (by rw [wTo5_length]; omega))
        have a2 := H.cell 4 rfl (u64_get (l := wTo5 b k) (k := k - 2) (by rw [wTo5_length]; omega))
        have HWN := Lib.hid (wNext5_eq (wTo5 b k) k)
        obtain ⟨x15, hA15⟩ : ∃ x, at64 (wTo5 b k) (k - 15) = x := ⟨_, rfl⟩
        have HA15 := Lib.hid hA15
        rw [hA15] at a15
        clear hA15
        obtain ⟨x2, hA2⟩ : ∃ x, at64 (wTo5 b k) (k - 2) = x := ⟨_, rfl⟩
        have HA2 := Lib.hid hA2
        rw [hA2] at a2
        clear hA2
        obtain ⟨x7, hA7⟩ : ∃ x, at64 (wTo5 b k) (k - 7) = x := ⟨_, rfl⟩
        have HA7 := Lib.hid hA7
        clear hA7
        obtain ⟨x16, hA16⟩ : ∃ x, at64 (wTo5 b k) (k - 16) = x := ⟨_, rfl⟩
        have HA16 := Lib.hid hA16
        clear hA16
        go_upto_region 8 with fail
        go_quiet (fail)
        replace H := H.drewN nq
        generalize wr.drewN nq = wr2 at H ⊢
        clear a15 a2
        have a7 := H.cell 4 rfl (u64_get (l := wTo5 b k) (k := k - 7) (by rw [wTo5_length]; omega))
        have a16 := H.cell 4 rfl (u64_get (l := wTo5 b k) (k := k - 16) (by rw [wTo5_length]; omega))
        rw [HA7.out] at a7
        rw [HA16.out] at a16
        have f0 := H.free 4 rfl k
        have a0 := H.cell 4 rfl (u64_get (l := wTo5 b k) (k := k) (by rw [wTo5_length]; omega))
        go_upto_region 9 with fail
        refine region_quiet_tail 29 (by kernel_rfl) (by kernel_rfl) ?_
        simp only [List.take_succ_cons, List.take_zero, List.drop_succ_cons, List.drop_zero]
        repeat (go_big_quiet_step (first | (go_at_call 46; first | with_reducible exact rq_1 _ _ _ | with_reducible exact rq_8 _ _ _ | with_reducible exact rq_19 _ _ _ | with_reducible exact rq_61 _ _ _)))
        refine wpQuiet_nil ?_
        intro nq
        have HN : Hid (wTo5 b (k + 1) = (wTo5 b k).set k (sg51 x2 + x7 + sg50 x15 + x16)) := by unfold Hid; rw [HV.out, HWN.out, HA2.out, HA7.out, HA15.out, HA16.out]
        have H2 := ((H.drewN nq).store 4 rfl (o := k) (u := u64v (sg51 x2 + x7 + sg50 x15 + x16))).upd_mk (by simp)
        rw [u64_set, ← HN.out] at H2
        rw [u64v_eq] at H2
        go_wp2
        rw [sg51_val, sg50_val]
        simp only [wrapu, add64]
        go_roundw
        case rel => exact ⟨k + 1, by omega, by go_num, H2⟩
        case measure => simp [intOf]; omega
    · obtain rfl : k = 80 := by omega
      rw [show ((80 : Nat) : Int) = 80 from rfl]
      obtain ⟨W, hW⟩ : ∃ W, wTo5 b 80 = W := ⟨_, rfl⟩
      have HWL : Hid (W.length = 80) := by unfold Hid; rw [← hW]; exact wTo5_length _ _
      rw [hW] at H
      have HWE := Lib.hid hW
      clear hW
      obtain ⟨X, hX⟩ : ∃ X, R85.of h = X := ⟨_, rfl⟩
      have HX : Hid (R85.of h = X) := hX
      have HM : Hid (h.map u64v = vals8 X) := by unfold Hid; rw [← hX]; exact map_of HH.out
      clear hX
      go_upto_region 11 with fail
      go_wp2_with (first | (with_reducible refine hold_store 69 (.tmp 11) (.tmp 71) (by rfl) ?_) | (refine wpList_load_row rfl 69 (.tmp 4) rfl gh rfl _ _ _ _ (H.blk 1 rfl) Try.underlying69 rfl (by rw [a8_size]; simp [HH.out]) ?_))
      refine Lib.hid ?_
      refine absorb_list (H.allocAt 5 rfl wr.heap.size rfl _ _ |>.push_mk rfl) ?_
      clear H
      intro w6 H
      generalize wr.heap.size = gv at H ⊢
      replace H : St w F w6 (lay [led l (noteN r 2 128 1), .blk gh 69 (h.map u64v), .blk gb 71 (b.map vb), .blk gr 69 (List.replicate 8 (.int .u64 0)), .blk gw 80 (W.map u64v), .blk gv 69 (List.replicate 8 (.int .u64 0))]) := H
      refine wpList_store_mid rfl 69 (.tmp 11) (.tmp 71) rfl gv 0 (h.map u64v).toArray rfl rfl (by have ht := H.there 5 rfl; rw [List.length_replicate] at ht; rw [List.size_toArray, List.length_map, HH.out]; exact ht) (by rw [a8_size]; simp [HH.out]) (all_oneCell_toArray (u64_one _)) ?_
      replace H := (H.storeAll 5 rfl (vs := h.map u64v) (by rw [List.length_map, HH.out, List.length_replicate])).upd_mk (by simp)
      generalize w6.setCells gv 0 (h.map u64v) = w7 at H ⊢
      replace H : St w F w7 (lay [led l (noteN r 2 128 1), .blk gh 69 (h.map u64v), .blk gb 71 (b.map vb), .blk gr 69 (List.replicate 8 (.int .u64 0)), .blk gw 80 (W.map u64v), .blk gv 69 (vals8 (rTo5 W X 0))]) := by rw [rTo5_zero, ← HM.out]; exact H
      go_wp2_with fail
      refine (table_s w7).mono ?_
      rintro e w8 ⟨rfl, hb2⟩
      replace H := H.call hb2
      clear hb2
      obtain ⟨K, hK⟩ : ∃ K, (kTab5.map u64v).toArray = K := ⟨_, rfl⟩
      have HKX : Hid (∀ (k : Nat), k < 80 → ∀ w : World, (Instr.index 80 (.agg K) (.int .i64 (k : Int))).run Try.prog w = .ok (.int .u64 ((at64 kTab5 k).toNat : Int)) w) := by unfold Hid; rw [← hK]; exact k80_ix
      rw [hK]
      clear hK
      go_wp2
      go_loopw [73] (fun i wr => ∃ k : Nat, k ≤ 80 ∧ i = .int .i64 k ∧ St w F wr (lay [led l (noteN r 2 128 1), .blk gh 69 (h.map u64v), .blk gb 71 (b.map vb), .blk gr 69 (List.replicate 8 (.int .u64 0)), .blk gw 80 (W.map u64v), .blk gv 69 (vals8 (rTo5 W X k))])) (fun i _ => 80 - (intOf i).toNat)
      case atStart => exact ⟨0, by omega, rfl, H⟩
      case round =>
        clear H
        obtain ⟨k, hk, rfl, H⟩ := hrel
        have HS : Hid (rTo5 W X (k + 1) = rnd5 (at64 kTab5 k) (at64 W k) (rTo5 W X k)) := rTo5_succ _ _ _
        by_cases hlt : k < 80
        · have hk1 : (k : Int) < 80 := by omega
          have hix := HKX.out k hlt
          have HCW : Hid (∀ w' X', St w F w' X' → X' 4 = some (.blk gw 80 (W.map u64v)) → w'.cell? ⟨gw, k, none⟩ = some (.int .u64 ((at64 W k).toNat : Int))) := fun w' X' h hX => h.cell 4 hX (u64_get (by rw [HWL.out]; omega))
          generalize at64 kTab5 k = kk at hix HS
          generalize at64 W k = ww at HCW HS
          generalize rTo5 W X k = x at HS H
          have c0 := H.cell 5 rfl (o := 0) rfl
          have c4 := H.cell 5 rfl (o := 4) rfl
          go_upto_region 15 with fail
          go_quiet (fail)
          replace H := H.drewN nq
          generalize wr.drewN nq = wr2 at H ⊢
          clear c0 c4 hix
          have cw := HCW.out _ _ H rfl
          have c5 := H.cell 5 rfl (o := 5) rfl
          have c6 := H.cell 5 rfl (o := 6) rfl
          have c7 := H.cell 5 rfl (o := 7) rfl
          go_upto_region 16 with fail
          go_quiet (first | (go_at_call 46; first | with_reducible exact rq_14 _ _ _ | with_reducible exact rq_18 _ _ _ | with_reducible exact rq_41 _ _ _))
          replace H := H.drewN nq
          generalize wr2.drewN nq = wr3 at H ⊢
          clear cw c5 c6 c7
          have c1 := H.cell 5 rfl (o := 1) rfl
          have c2 := H.cell 5 rfl (o := 2) rfl
          go_upto_region 17 with fail
          go_quiet (first | (go_at_call 46; first | with_reducible exact rq_28 _ _ _ | with_reducible exact rq_34 _ _ _ | with_reducible exact rq_39 _ _ _))
          replace H := H.drewN nq
          generalize wr3.drewN nq = wr4 at H ⊢
          clear c1 c2
          rw [pval5, qval5]
          obtain ⟨pv, hpv⟩ : ∃ p, pOf5 kk ww x = p := ⟨_, rfl⟩
          obtain ⟨qv, hqv⟩ : ∃ q, qOf5 x = q := ⟨_, rfl⟩
          rw [hpv, hqv]
          have HR : Hid (rTo5 W X (k + 1) = ⟨pv + qv, x.a, x.b, x.c, x.d + pv, x.e, x.f, x.g⟩) := by unfold Hid; rw [HS.out, rnd5_eq, hpv, hqv]
          clear hpv hqv
          have c0 := H.cell 5 rfl (o := 0) rfl
          have c1 := H.cell 5 rfl (o := 1) rfl
          have c2 := H.cell 5 rfl (o := 2) rfl
          have c3 := H.cell 5 rfl (o := 3) rfl
          have c4 := H.cell 5 rfl (o := 4) rfl
          have c5 := H.cell 5 rfl (o := 5) rfl
          have c6 := H.cell 5 rfl (o := 6) rfl
          have c7 := H.cell 5 rfl (o := 7) rfl
          have f0 := H.free 5 rfl 0
          have f1 := H.free 5 rfl 1
          have f2 := H.free 5 rfl 2
          have f3 := H.free 5 rfl 3
          have f4 := H.free 5 rfl 4
          have f5 := H.free 5 rfl 5
          have f6 := H.free 5 rfl 6
          have f7 := H.free 5 rfl 7
          go_upto_region 18 with fail
          go_wp2
          go_roundw
          case rel =>
            simp only [wrapu, add64]
            have H1 := (H.store 5 rfl (o := 7) (u := .int .u64 (x.g.toNat : Int))).upd_mk (by simp)
            have H2 := (H1.store 5 rfl (o := 6) (u := .int .u64 (x.f.toNat : Int))).upd_mk (by simp)
            have H3 := (H2.store 5 rfl (o := 5) (u := .int .u64 (x.e.toNat : Int))).upd_mk (by simp)
            have H4 := (H3.store 5 rfl (o := 4) (u := .int .u64 ((x.d + pv).toNat : Int))).upd_mk (by simp)
            have H5 := (H4.store 5 rfl (o := 3) (u := .int .u64 (x.c.toNat : Int))).upd_mk (by simp)
            have H6 := (H5.store 5 rfl (o := 2) (u := .int .u64 (x.b.toNat : Int))).upd_mk (by simp)
            have H7 := (H6.store 5 rfl (o := 1) (u := .int .u64 (x.a.toNat : Int))).upd_mk (by simp)
            have H8 := (H7.store 5 rfl (o := 0) (u := .int .u64 ((pv + qv).toNat : Int))).upd_mk (by simp)
            exact ⟨k + 1, by omega, by go_num, by rw [HR.out]; exact H8⟩
          case measure => simp [intOf]; omega
        · obtain rfl : k = 80 := by omega
          rw [show ((80 : Nat) : Int) = 80 from rfl]
          obtain ⟨x, hx⟩ : ∃ x, rTo5 W X 80 = x := ⟨_, rfl⟩
          rw [hx] at H
          have HXX := Lib.hid hx
          clear hx HS
          obtain ⟨y, hy⟩ : ∃ y, x.list = y := ⟨_, rfl⟩
          have HYL : Hid (y.length = 8) := by unfold Hid; rw [← hy]; rfl
          have HSA : Hid (sumTo h y 8 = comp5 h b) := by unfold Hid; rw [← hy, ← HXX.out, ← HX.out, ← HWE.out]; exact sumTo_all h b
          replace H : St w F wr (lay [led l (noteN r 2 128 1), .blk gh 69 ((sumTo h y 0).map u64v), .blk gb 71 (b.map vb), .blk gr 69 (List.replicate 8 (.int .u64 0)), .blk gw 80 (W.map u64v), .blk gv 69 (y.map u64v)]) := by rw [sumTo_zero HH.out, ← hy]; exact H
          clear hy
          go_upto_region 21 with fail
          go_loopw [161] (fun i wr => ∃ k : Nat, k ≤ 8 ∧ i = .int .i64 k ∧ St w F wr (lay [led l (noteN r 2 128 1), .blk gh 69 ((sumTo h y k).map u64v), .blk gb 71 (b.map vb), .blk gr 69 (List.replicate 8 (.int .u64 0)), .blk gw 80 (W.map u64v), .blk gv 69 (y.map u64v)])) (fun i _ => 8 - (intOf i).toNat)
          case atStart => exact ⟨0, by omega, rfl, H⟩
          case round =>
            clear H
            obtain ⟨k, hk, rfl, H⟩ := hrel
            by_cases hlt : k < 8
            · have hk1 : (k : Int) < 8 := by omega
              have c0 := H.cell 1 rfl (u64_get (l := sumTo h y k) (k := k) (by rw [sumTo_length]; omega))
              have c1 := H.cell 5 rfl (u64_get (l := y) (k := k) (by rw [HYL.out]; omega))
              have f0 := H.free 1 rfl k
              rw [at64_sumTo _ _ _ hlt] at c0
              have HSS := Lib.hid (sumTo_succ h y k hlt)
              obtain ⟨yk, hyk⟩ : ∃ v, at64 y k = v := ⟨_, rfl⟩
              obtain ⟨hk', hhk⟩ : ∃ v, at64 h k = v := ⟨_, rfl⟩
              rw [hyk] at c1 HSS
              rw [hhk] at c0 HSS
              clear hyk hhk
              go_upto_region 23 with fail
              refine region_quiet_tail 8 (by kernel_rfl) (by kernel_rfl) ?_
              simp only [List.take_succ_cons, List.take_zero, List.drop_succ_cons, List.drop_zero]
              repeat (go_big_quiet_step (fail))
              refine wpQuiet_nil ?_
              intro nq
              have H2 := ((H.drewN nq).store 1 rfl (o := k) (u := u64v (hk' + yk))).upd_mk (by simp)
              rw [u64_set, ← HSS.out] at H2
              rw [u64v_eq] at H2
              go_wp2
              simp only [wrapu, add64]
              go_roundw
              case rel => exact ⟨k + 1, by omega, by go_num, H2⟩
              case measure => simp [intOf]; omega
            · obtain rfl : k = 8 := by omega
              rw [show ((8 : Nat) : Int) = 8 from rfl]
              rw [HSA.out] at H
              have HCL : Hid ((comp5 h b).length = 8) := comp5_length h b
              go_upto_region 25 with fail
              go_wp2_with (first | (with_reducible refine hold_store 69 (.tmp 6) (.tmp 173) (by rfl) ?_) | (refine wpList_load_row rfl 69 (.tmp 4) rfl gh rfl _ _ _ _ (H.blk 1 rfl) Try.underlying69 rfl (by rw [a8_size]; simp [HCL.out]) ?_))
              refine Lib.hid ?_
              refine wpList_store_mid rfl 69 (.tmp 6) (.tmp 173) rfl gr 0 ((comp5 h b).map u64v).toArray rfl rfl (by have ht := H.there 3 rfl; rw [List.length_replicate] at ht; rw [List.size_toArray, List.length_map, HCL.out]; exact ht) (by rw [a8_size]; simp [HCL.out]) (all_oneCell_toArray (u64_one _)) ?_
              have H4 := (H.storeAll 3 rfl (vs := (comp5 h b).map u64v) (by rw [List.length_map, HCL.out, List.length_replicate])).upd_mk (by simp)
              show wpList Try.prog _ _ [] _ (wr.setCells gr 0 ((comp5 h b).map u64v))
              go_wp2
              exact bodyPost_ret (results_cell_row rfl _ _ gr 69 ((comp5 h b).map u64v).toArray _ _ rfl (H4.blk 3 rfl) Try.underlying69 rfl (by rw [a8_size]; simp [HCL.out])) rfl ⟨rfl, HB.out _ _ ((H4.front 1).to1 rfl)⟩
end
end Go.Proofs.Ythieegmmbjjcbaa
