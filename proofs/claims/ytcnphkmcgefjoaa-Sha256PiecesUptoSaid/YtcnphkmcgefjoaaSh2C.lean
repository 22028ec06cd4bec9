/- SHA-256: a state's block is worked into its words. -/
import Derived.Test.YtcnphkmcgefjoaaSh2R
import Derived.Test.YtcnphkmcgefjoaaTake
import Derived.Test.YtcnphkmcgefjoaaLedW
import Derived.Test.YtcnphkmcgefjoaaQTail
import Derived.Test.YtcnphkmcgefjoaaHeld2
import Derived.Test.YtcnphkmcgefjoaaKitO
namespace Go.Proofs.Ytcnphkmcgefjoaa
open Go.RowKit
set_option linter.unusedVariables false
set_option maxRecDepth 100000

theorem hold_store {P : Program} {ops : Array Oper} {rest : List Oper} {o : Oper} {a : Act} {Q : Exit → Act → World → Prop} {w : World} (ty : TypeId) (x y : Operand) (ho : o.op = .store ty x y) (h : Hid (wpList P ops Q (o :: rest) a w)) : wpList P ops Q (o :: rest) a w := h

/-- a state's cells -/
def shVs (h : List UInt32) (n : Nat) (b : List UInt8) : List Value := h.map u32v ++ (.int .i64 n :: (b.map vb ++ [.bool true]))

section
variable {h : List UInt32} {n : Nat} {b : List UInt8}
theorem shVs_length (hh : h.length = 8) (hb : b.length = 64) : (shVs h n b).length = 74 := by
  unfold shVs; rw [List.length_append, List.length_map, hh, List.length_cons, List.length_append, List.length_map, hb]; rfl
theorem shVs_h {k : Nat} (hh : h.length = 8) (hk : k < 8) : (shVs h n b)[k]? = some (.int .u32 ((at32 h k).toNat : Int)) := by
  unfold shVs; rw [List.getElem?_append_left (by rw [List.length_map, hh]; exact hk)]; exact u32_get (by omega)
theorem shVs_n (hh : h.length = 8) : (shVs h n b)[8]? = some (.int .i64 n) := by
  unfold shVs; rw [List.getElem?_append_right (by rw [List.length_map, hh]; omega), List.length_map, hh]; rfl
theorem shVs_b {k : Nat} (hh : h.length = 8) (hb : b.length = 64) (hk : k < 64) : (shVs h n b)[9 + k]? = some (vb (b.getD k 0)) := by
  unfold shVs
  rw [List.getElem?_append_right (by rw [List.length_map, hh]; omega), List.length_map, hh, show 9 + k - 8 = k + 1 by omega, List.getElem?_cons_succ, List.getElem?_append_left (by rw [List.length_map, hb]; exact hk), List.getElem?_map, List.getElem?_eq_getElem (by omega)]
  simp [List.getD_eq_getElem?_getD, List.getElem?_eq_getElem (show k < b.length by omega)]
theorem shVs_made (hh : h.length = 8) (hb : b.length = 64) : (shVs h n b)[73]? = some (.bool true) := by
  unfold shVs
  rw [List.getElem?_append_right (by rw [List.length_map, hh]; omega), List.length_map, hh, show 73 - 8 = 64 + 1 from rfl, List.getElem?_cons_succ, List.getElem?_append_right (by rw [List.length_map, hb]; omega), List.length_map, hb]; rfl
theorem shVs_seth {k : Nat} (hh : h.length = 8) (hk : k < 8) (x : UInt32) : (shVs h n b).set k (u32v x) = shVs (h.set k x) n b := by
  unfold shVs; rw [List.set_append_left _ _ (by rw [List.length_map, hh]; exact hk), List.map_set]
theorem shVs_setn (hh : h.length = 8) (m : Nat) : (shVs h n b).set 8 (.int .i64 m) = shVs h m b := by
  unfold shVs; rw [List.set_append_right _ _ (by rw [List.length_map, hh]; omega), List.length_map, hh]; rfl
theorem shVs_setb (hh : h.length = 8) (hb : b.length = 64) (c : List UInt8) (o : Nat) (ho : o + c.length ≤ 64) : (shVs h n b).take (9 + o) ++ c.map vb ++ (shVs h n b).drop (9 + o + (c.map vb).length) = shVs h n (putAt b o c) := by
  unfold shVs putAt
  have e1 : (h.map u32v ++ (Value.int .i64 n :: (b.map vb ++ [Value.bool true]))).take (9 + o) = h.map u32v ++ (Value.int .i64 n :: (b.take o).map vb) := by
    rw [List.take_append, List.take_of_length_le (by rw [List.length_map, hh]; omega), List.length_map, hh, show 9 + o - 8 = o + 1 by omega, List.take_succ_cons, List.take_append_of_le_length (by rw [List.length_map, hb]; omega), List.map_take]
  have e2 : (h.map u32v ++ (Value.int .i64 n :: (b.map vb ++ [Value.bool true]))).drop (9 + o + (c.map vb).length) = (b.drop (o + c.length)).map vb ++ [Value.bool true] := by
    rw [List.length_map, List.drop_append, List.drop_eq_nil_of_le (by rw [List.length_map, hh]; omega), List.length_map, hh, show 9 + o + c.length - 8 = (o + c.length) + 1 by omega, List.drop_succ_cons, List.drop_append_of_le_length (by rw [List.length_map, hb]; omega), List.map_drop, List.nil_append]
  rw [e1, e2]
  simp
theorem shVs_one : ∀ u ∈ shVs h n b, u.oneCell' = true := by
  intro u hu
  unfold shVs at hu
  rcases List.mem_append.1 hu with hu | hu
  · exact u32_one _ u hu
  · rcases List.mem_cons.1 hu with rfl | hu
    · rfl
    · rcases List.mem_append.1 hu with hu | hu
      · exact vb_one _ u hu
      · simp at hu; subst hu; rfl
end

section
variable {w0 w : World} {F0 : List Nat} {E : Env}

theorem St.shRd {g : Nat} {T : TypeId} {h : List UInt32} {n : Nat} {b : List UInt8} (H : St w0 F0 w E) (k : Nat) (hk : E k = some (.blk g T (shVs h n b))) (hh : h.length = 8) (hb : b.length = 64) : Rd w 1 (some ⟨g, 9, none⟩) 64 (b.map vb) :=
  ⟨by rw [List.length_map, hb], fun _ => ⟨_, rfl, H.lt k hk, fun j u hu => by
    have hj : j < 64 := by rw [← hb]; have := (List.getElem?_eq_some_iff.1 hu).1; rwa [List.length_map] at this
    rw [Addr.add_mid, H.cell k hk (shVs_b hh hb hj)]
    rw [List.getElem?_map, List.getElem?_eq_getElem (by omega)] at hu
    simp [List.getD_eq_getElem?_getD, List.getElem?_eq_getElem (show j < b.length by omega)] at hu ⊢
    exact hu⟩⟩

theorem St.storeMid2 {g : Nat} {T : TypeId} {cs vs : List Value} (H : St w0 F0 w E) (k : Nat) (hk : E k = some (.blk g T cs)) (o : Nat) (hl : o + vs.length ≤ cs.length) : St w0 F0 (w.setCells g o vs) (upd E k (.blk g T (cs.take o ++ vs ++ cs.drop (o + vs.length)))) := by
  obtain ⟨F, ⟨h, e⟩, -, -, hc⟩ := H.change k hk
  subst e
  exact hc _ _ [g] ⟨setCells_heap vs w g o T cs h hl, rfl⟩ (setCells_low vs w g o) (by simp)

theorem St.thereMid {g : Nat} {T : TypeId} {cs : List Value} (H : St w0 F0 w E) (k : Nat) (hk : E k = some (.blk g T cs)) (o n : Nat) (hl : o + n ≤ cs.length) : w.there g o n := fun j hj => by
  have h := H.there k hk (o + j) (by omega)
  rw [Nat.zero_add] at h
  exact h

theorem putAt_all {b c : List UInt8} (h : c.length = b.length) : putAt b 0 c = c := by
  unfold putAt
  rw [List.take_zero, List.nil_append, Nat.zero_add, h, List.drop_length, List.append_nil]

theorem u32_notAgg : ∀ w, (isAgg 39).run Try.prog w = .ok false w := by intro w; kernel_rfl
theorem h8_size : (Try.prog.info? 39).map (·.size) = some 1 := by kernel_rfl
theorem w64_size : (Try.prog.info? 75).map (·.size) = some 64 := by kernel_rfl

theorem wTo2_lo (b : List UInt8) (t : Nat) (ht : t < 16) : wTo2 b (t + 1) = (wTo2 b t).set t (UInt32.ofNat (beTo b (4 * t : Nat) 4)) := by
  show (wTo2 b t).set t (if t < 16 then _ else _) = _
  rw [if_pos ht]

theorem wTo2_hi (b : List UInt8) (t : Nat) (ht : ¬ t < 16) : wTo2 b (t + 1) = (wTo2 b t).set t (wNext2 (wTo2 b t) t) := by
  show (wTo2 b t).set t (if t < 16 then _ else _) = _
  rw [if_neg ht]

theorem be4_u32 (b : List UInt8) (a : Int) : Value.int .u32 ((beTo b a 4 : Nat) : Int) = u32v (UInt32.ofNat (beTo b a 4)) := by
  have := beTo_lt b a 4
  unfold u32v
  rw [UInt32.toNat_ofNat', Nat.mod_eq_of_lt (by omega)]

theorem sg1_val (x : UInt32) : bits .xor .u32 (bits .xor .u32 ((ror32 x 17).toNat : Int) ((ror32 x 19).toNat : Int)) ((x.toNat : Int) / 1024) = ((sg1 x).toNat : Int) := by
  have h := shr32 x 10 (by omega)
  rw [show ((2 : Int) ^ 10) = 1024 from rfl] at h
  rw [xor32, h, xor32]; rfl

theorem sg0_val (x : UInt32) : bits .xor .u32 (bits .xor .u32 ((ror32 x 7).toNat : Int) ((ror32 x 18).toNat : Int)) ((x.toNat : Int) / 8) = ((sg0 x).toNat : Int) := by
  have h := shr32 x 3 (by omega)
  rw [show ((2 : Int) ^ 3) = 8 from rfl] at h
  rw [xor32, h, xor32]; rfl

theorem sum4 (a b c d : UInt32) : ((a.toNat : Int) + (b.toNat : Int) + (c.toNat : Int) + (d.toNat : Int)) % 4294967296 = ((a + b + c + d).toNat : Int) := by
  rw [UInt32.toNat_add, UInt32.toNat_add, UInt32.toNat_add]; omega

theorem pval2 (kk ww : UInt32) (x : R8) : ((((x.h.toNat : Int) + bits .xor .u32 (bits .xor .u32 ((ror32 x.e 6).toNat : Int) ((ror32 x.e 11).toNat : Int)) ((ror32 x.e 25).toNat : Int) + bits .xor .u32 (bits .and .u32 (x.e.toNat : Int) (x.f.toNat : Int)) (bits .and .u32 (bits .xor .u32 (if IntKind.u32.signed = true then -1 else IntKind.u32.max) (x.e.toNat : Int)) (x.g.toNat : Int)) + (kk.toNat : Int)) % 4294967296 + (ww.toNat : Int)) % 4294967296) = ((pOf2 kk ww x).toNat : Int) := by
  rw [xor32, xor32, and32, not32, and32, xor32, sum4, add32]; rfl

theorem qval2 (x : R8) : ((bits .xor .u32 (bits .xor .u32 ((ror32 x.a 2).toNat : Int) ((ror32 x.a 13).toNat : Int)) ((ror32 x.a 22).toNat : Int) + bits .xor .u32 (bits .xor .u32 (bits .and .u32 (x.a.toNat : Int) (x.b.toNat : Int)) (bits .and .u32 (x.a.toNat : Int) (x.c.toNat : Int))) (bits .and .u32 (x.b.toNat : Int) (x.c.toNat : Int))) % 4294967296) = ((qOf2 x).toNat : Int) := by
  rw [xor32, xor32, and32, and32, and32, xor32, xor32, add32]; rfl

theorem comp2_eq (h : List UInt32) (b : List UInt8) : comp2 h b = (List.range 8).map fun i => at32 h i + at32 (rTo2 (wTo2 b 64) (R8.of h) 64).list i := rfl

/-- the sums of a state's words, as far as they are laid -/
def sumTo (h y : List UInt32) (k : Nat) : List UInt32 := (List.range 8).map fun i => if i < k then at32 h i + at32 y i else at32 h i

theorem sumTo_length (h y : List UInt32) (k : Nat) : (sumTo h y k).length = 8 := by unfold sumTo; rw [List.length_map, List.length_range]

theorem sumTo_get (h y : List UInt32) (k i : Nat) : (sumTo h y k)[i]? = if i < 8 then some (if i < k then at32 h i + at32 y i else at32 h i) else none := by
  unfold sumTo
  rw [List.getElem?_map]
  by_cases hi : i < 8
  · rw [List.getElem?_range hi, if_pos hi]; rfl
  · rw [if_neg hi, List.getElem?_eq_none (by rw [List.length_range]; omega)]; rfl

theorem at32_some {h : List UInt32} {i : Nat} (hi : i < h.length) : h[i]? = some (at32 h i) := by
  unfold at32
  rw [List.getD_eq_getElem?_getD, List.getElem?_eq_getElem hi]; rfl

theorem sumTo_zero {h : List UInt32} (hh : h.length = 8) (y : List UInt32) : sumTo h y 0 = h := by
  apply List.ext_getElem?
  intro i
  rw [sumTo_get]
  by_cases hi : i < 8
  · rw [if_pos hi, if_neg (Nat.not_lt_zero _), at32_some (by omega)]
  · rw [if_neg hi, List.getElem?_eq_none (by omega)]

theorem at32_sumTo (h y : List UInt32) (k : Nat) (hk : k < 8) : at32 (sumTo h y k) k = at32 h k := by
  unfold sumTo at32
  rw [List.getD_eq_getElem?_getD, List.getElem?_map, List.getElem?_range hk]
  simp

theorem sumTo_succ (h y : List UInt32) (k : Nat) (hk : k < 8) : sumTo h y (k + 1) = (sumTo h y k).set k (at32 h k + at32 y k) := by
  apply List.ext_getElem?
  intro i
  rw [List.getElem?_set, sumTo_get, sumTo_get, sumTo_length]
  by_cases hi : k = i
  · subst hi
    rw [if_pos hk, if_pos (Nat.lt_succ_self k), if_pos rfl, if_pos hk]
  · rw [if_neg hi]
    by_cases h8 : i < 8
    · rw [if_pos h8, if_pos h8]
      by_cases h3 : i < k
      · rw [if_pos h3, if_pos (by omega)]
      · rw [if_neg h3, if_neg (by omega)]
    · rw [if_neg h8, if_neg h8]

theorem sumTo_all (h : List UInt32) (b : List UInt8) : sumTo h (rTo2 (wTo2 b 64) (R8.of h) 64).list 8 = comp2 h b := by
  unfold sumTo
  rw [comp2_eq]
  apply List.map_congr_left
  intro i hi
  rw [if_pos (List.mem_range.1 hi)]

theorem R8.list_at (x : R8) : at32 x.list 0 = x.a ∧ at32 x.list 1 = x.b ∧ at32 x.list 2 = x.c ∧ at32 x.list 3 = x.d ∧ at32 x.list 4 = x.e ∧ at32 x.list 5 = x.f ∧ at32 x.list 6 = x.g ∧ at32 x.list 7 = x.h := ⟨rfl, rfl, rfl, rfl, rfl, rfl, rfl, rfl⟩

theorem wNext2_eq (w : List UInt32) (t : Nat) : wNext2 w t = sg1 (at32 w (t - 2)) + at32 w (t - 7) + sg0 (at32 w (t - 15)) + at32 w (t - 16) := rfl
theorem rTo2_succ (w : List UInt32) (x : R8) (t : Nat) : rTo2 w x (t + 1) = rnd2 (at32 kTab2 t) (at32 w t) (rTo2 w x t) := rfl
theorem rTo2_zero (w : List UInt32) (x : R8) : rTo2 w x 0 = x := rfl
theorem rnd2_eq (k w : UInt32) (x : R8) : rnd2 k w x = ⟨pOf2 k w x + qOf2 x, x.a, x.b, x.c, x.d + pOf2 k w x, x.e, x.f, x.g⟩ := rfl
theorem wTo2_zero (b : List UInt8) : (wTo2 b 0).map u32v = List.replicate 64 (.int .u32 0) := rfl
theorem R8.of_eq (l : List UInt32) : R8.of l = ⟨at32 l 0, at32 l 1, at32 l 2, at32 l 3, at32 l 4, at32 l 5, at32 l 6, at32 l 7⟩ := rfl

attribute [local irreducible] wTo2 rTo2 comp2 pOf2 qOf2 rnd2 ror32 kTab2 sg0 sg1 wNext2

set_option maxHeartbeats 8000000 in
theorem sh2Comp_s (l : Value) (r : Option (List RunT)) (m : Nat) (c : Int) (g : Nat) (h : List UInt32) (n : Nat) (b : List UInt8) (H : St w0 F0 w E) (i j : Nat) (hij : i ≠ j) (hi : E i = some (led l r)) (hj : E j = some (.blk g 77 (shVs h n b))) (hg : LW r m c) (hm : m ≤ 999999999999) (hc : c ≤ 4000000000000000000) (hh : h.length = 8) (hb : b.length = 64) :
    Calls Try.prog 58 #[lptr g, l] w fun e w' => e = .returned (.tuple #[]) ∧ St w0 F0 w' (upd (upd E i (led l (noteN r 1 64 1))) j (.blk g 77 (shVs (comp2 h b) n (List.replicate 64 0)))) := by
  obtain ⟨F, HF, -, -, hback⟩ := H.frame2 i j hij hi hj
  have HB := Lib.hid hback
  replace HF := HF.as2
  have HH := Lib.hid hh
  have HBL := Lib.hid hb
  clear H hback hi hj hh hb
  unfold lptr
  go_enter Try.func58, Try.ntmps58
  go_wp2_with fail
  refine (ledger_note_w m c 1 64 HF 0 rfl hg (by omega) (by omega)).mono ?_
  rintro e w1 ⟨rfl, H1⟩
  replace H1 := H1.upd_mk (by simp)
  clear HF hg
  go_wp2_with fail
  refine (table_s w1).mono ?_
  rintro e w2 ⟨rfl, hb2⟩
  replace H1 := H1.call hb2
  clear hb2
  replace H1 : St w F w2 (lay [led l (noteN r 1 64 1), .blk g 77 (shVs h n b)]) := H1
  obtain ⟨K, hK⟩ : ∃ K, kTab2.map u32v = K := ⟨_, rfl⟩
  have HKL : Hid (K.length = 64) := by unfold Hid; rw [← hK, List.length_map, kTab2_length]
  have HK1 : Hid (∀ u ∈ K, u.oneCell' = true) := by unfold Hid; rw [← hK]; exact u32_one _
  rw [hK]
  have HK := Lib.hid hK
  clear hK
  go_wp2_with (with_reducible refine hold_store 103 (.tmp 4) (.tmp 26) (by rfl) ?_)
  refine Lib.hid ?_
  refine absorb_list (H1.allocAt 2 rfl w2.heap.size rfl _ _ |>.push_mk rfl) ?_
  clear H1
  intro w3 H
  generalize w2.heap.size = gk at H ⊢
  replace H : St w F w3 (lay [led l (noteN r 1 64 1), .blk g 77 (shVs h n b), .blk gk 103 (List.replicate 64 (.int .u32 0))]) := H
  refine wpList_store_mid rfl 103 (.tmp 4) (.tmp 26) rfl gk 0 K.toArray rfl rfl (by have ht := H.there 2 rfl; rw [List.length_replicate] at ht; rw [List.size_toArray, HKL.out]; exact ht) (by rw [tab_size, List.size_toArray, HKL.out]) (all_oneCell_toArray HK1.out) ?_
  replace H := (H.storeAll 2 rfl (vs := K) (by rw [HKL.out, List.length_replicate])).upd_mk (by simp)
  generalize w3.setCells gk 0 K = w4 at H ⊢
  go_upto_region 3 with fail
  refine absorb_wp (H.allocAt 3 rfl w4.heap.size rfl _ _ |>.push_mk rfl) ?_
  clear H
  intro w5 H
  generalize w4.heap.size = gw at H ⊢
  replace H : St w F w5 (lay [led l (noteN r 1 64 1), .blk g 77 (shVs h n b), .blk gk 103 K, .blk gw 103 ((wTo2 b 0).map u32v)]) := by rw [wTo2_zero]; exact H
  go_wp2
  go_loopw [27] (fun i wr => ∃ k : Nat, k ≤ 16 ∧ i = .int .i64 k ∧ St w F wr (lay [led l (noteN r 1 64 1), .blk g 77 (shVs h n b), .blk gk 103 K, .blk gw 103 ((wTo2 b k).map u32v)])) (fun i _ => 16 - (intOf i).toNat)
  case atStart => exact ⟨0, by omega, rfl, H⟩
  case round =>
    clear H
    obtain ⟨k, hk, rfl, H⟩ := hrel
    by_cases hlt : k < 16
    · have hk1 : (k : Int) < 16 := by omega
      have hk2 : (k : Int) < 64 := by omega
      have f0 := H.free 3 rfl k
      have a0 := H.cell 3 rfl (u32_get (l := wTo2 b k) (k := k) (by rw [wTo2_length]; omega))
      have hR := H.shRd 1 rfl HH.out HBL.out
      go_wp2_with fail
      refine (take_u32 (some ⟨g, 9, none⟩) 64 64 b (4 * k) wr hR (by omega)).mono ?_
      rintro e w6 ⟨rfl, rfl⟩
      rw [be4_u32]
      have hv := wTo2_lo b k hlt
      rw [show ((4 * k : Nat) : Int) = 4 * (k : Int) by omega] at hv
      have HV := Lib.hid hv
      clear hv hR
      generalize UInt32.ofNat (beTo b (4 * (k : Int)) 4) = v at HV ⊢
      have H2 := (H.store 3 rfl (o := k) (u := u32v v)).upd_mk (by simp)
      rw [u32_set, ← HV.out] at H2
      unfold u32v at H2 ⊢
      go_wp2
      go_roundw
      case rel => exact ⟨k + 1, by omega, by go_num, H2⟩
      case measure => simp [intOf]; omega
    · obtain rfl : k = 16 := by omega
      rw [show ((16 : Nat) : Int) = 16 from rfl]
      go_wp2
      go_loopw [7] (fun i wr => ∃ k : Nat, 16 ≤ k ∧ k ≤ 64 ∧ i = .int .i64 k ∧ St w F wr (lay [led l (noteN r 1 64 1), .blk g 77 (shVs h n b), .blk gk 103 K, .blk gw 103 ((wTo2 b k).map u32v)])) (fun i _ => 64 - (intOf i).toNat)
      case atStart => exact ⟨16, by omega, by omega, rfl, H⟩
      case round =>
        clear H
        obtain ⟨k, hk0, hk, rfl, H⟩ := hrel
        by_cases hlt : k < 64
        · have hk1 : (k : Int) < 64 := by omega
          have k15 : ((k : Int) - 15) = ((k - 15 : Nat) : Int) := by omega
          have k2 : ((k : Int) - 2) = ((k - 2 : Nat) : Int) := by omega
          have k7 : ((k : Int) - 7) = ((k - 7 : Nat) : Int) := by omega
          have k16 : ((k : Int) - 16) = ((k - 16 : Nat) : Int) := by omega
          have hv := wTo2_hi b k (by omega)
          have HV := Lib.hid hv
          clear hv
          have a15 := H.cell 3 rfl (u32_get (l := wTo2 b k) (k := k - 15) (by rw [wTo2_length]; omega))
          have a2 := H.cell 3 rfl (u32_get (l := wTo2 b k) (k := k - 2) (by rw [wTo2_length]; omega))
          have a7 := H.cell 3 rfl (u32_get (l := wTo2 b k) (k := k - 7) (by rw [wTo2_length]; omega))
          have a16 := H.cell 3 rfl (u32_get (l := wTo2 b k) (k := k - 16) (by rw [wTo2_length]; omega))
          have f0 := H.free 3 rfl k
          have a0 := H.cell 3 rfl (u32_get (l := wTo2 b k) (k := k) (by rw [wTo2_length]; omega))
          have HWN := Lib.hid (wNext2_eq (wTo2 b k) k)
          obtain ⟨x15, hA15⟩ : ∃ x, at32 (wTo2 b k) (k - 15) = x := ⟨_, rfl⟩
          have HA15 := Lib.hid hA15
          rw [hA15] at a15
          clear hA15
          obtain ⟨x2, hA2⟩ : ∃ x, at32 (wTo2 b k) (k - 2) = x := ⟨_, rfl⟩
          have HA2 := Lib.hid hA2
          rw [hA2] at a2
          clear hA2
          obtain ⟨x7, hA7⟩ : ∃ x, at32 (wTo2 b k) (k - 7) = x := ⟨_, rfl⟩
          have HA7 := Lib.hid hA7
          rw [hA7] at a7
          clear hA7
          obtain ⟨x16, hA16⟩ : ∃ x, at32 (wTo2 b k) (k - 16) = x := ⟨_, rfl⟩
          have HA16 := Lib.hid hA16
          rw [hA16] at a16
          clear hA16
          go_upto_region 11 with fail
          go_quiet (first | (go_at_call 70; first | with_reducible exact rq_7 _ _ _ | with_reducible exact rq_18 _ _ _))
          replace H := H.drewN nq
          generalize wr.drewN nq = wr2 at H ⊢
          clear a15 a2 a7 a16 f0 a0
          have a2 := H.cell 3 rfl (u32_get (l := wTo2 b k) (k := k - 2) (by rw [wTo2_length]; omega))
          rw [HA2.out] at a2
          go_upto_region 12 with fail
          go_quiet (first | (go_at_call 70; first | with_reducible exact rq_17 _ _ _ | with_reducible exact rq_19 _ _ _))
          replace H := H.drewN nq
          generalize wr2.drewN nq = wr3 at H ⊢
          clear a2
          have a7 := H.cell 3 rfl (u32_get (l := wTo2 b k) (k := k - 7) (by rw [wTo2_length]; omega))
          have a16 := H.cell 3 rfl (u32_get (l := wTo2 b k) (k := k - 16) (by rw [wTo2_length]; omega))
          rw [HA7.out] at a7
          rw [HA16.out] at a16
          have f0 := H.free 3 rfl k
          have a0 := H.cell 3 rfl (u32_get (l := wTo2 b k) (k := k) (by rw [wTo2_length]; omega))
          go_upto_region 13 with fail
          refine region_quiet_tail 15 (by kernel_rfl) (by kernel_rfl) ?_
          simp only [List.take_succ_cons, List.take_zero, List.drop_succ_cons, List.drop_zero]
          repeat (go_big_quiet_step (fail))
          refine wpQuiet_nil ?_
          intro nq
          have HN : Hid (wTo2 b (k + 1) = (wTo2 b k).set k (sg1 x2 + x7 + sg0 x15 + x16)) := by unfold Hid; rw [HV.out, HWN.out, HA2.out, HA7.out, HA15.out, HA16.out]
          have H2 := ((H.drewN nq).store 3 rfl (o := k) (u := u32v (sg1 x2 + x7 + sg0 x15 + x16))).upd_mk (by simp)
          rw [u32_set, ← HN.out] at H2
          unfold u32v at H2
          go_wp2
          rw [sg1_val, sg0_val, sum4]
          go_roundw
          case rel => exact ⟨k + 1, by omega, by omega, by go_num, H2⟩
          case measure => simp [intOf]; omega
        · obtain rfl : k = 64 := by omega
          rw [show ((64 : Nat) : Int) = 64 from rfl]
          have e0 := H.cell 1 rfl (shVs_h (k := 0) HH.out (by omega))
          have e1 := H.cell 1 rfl (shVs_h (k := 1) HH.out (by omega))
          have e2 := H.cell 1 rfl (shVs_h (k := 2) HH.out (by omega))
          have e3 := H.cell 1 rfl (shVs_h (k := 3) HH.out (by omega))
          have e4 := H.cell 1 rfl (shVs_h (k := 4) HH.out (by omega))
          have e5 := H.cell 1 rfl (shVs_h (k := 5) HH.out (by omega))
          have e6 := H.cell 1 rfl (shVs_h (k := 6) HH.out (by omega))
          have e7 := H.cell 1 rfl (shVs_h (k := 7) HH.out (by omega))
          go_upto_region 14 with fail
          go_quiet (fail)
          go_upto_region 15 with fail
          replace H := H.drewN nq
          generalize wr.drewN nq = wr at H ⊢
          clear e0 e1 e2 e3 e4 e5 e6 e7
          obtain ⟨W, hW⟩ : ∃ W, wTo2 b 64 = W := ⟨_, rfl⟩
          have HWL : Hid (W.length = 64) := by unfold Hid; rw [← hW]; exact wTo2_length _ _
          rw [hW] at H
          have HWE := Lib.hid hW
          clear hW
          obtain ⟨X, hX⟩ : ∃ X, R8.of h = X := ⟨_, rfl⟩
          have HX : Hid (R8.of h = X) := hX
          rw [show at32 h 0 = X.a by rw [← hX]; rfl, show at32 h 1 = X.b by rw [← hX]; rfl, show at32 h 2 = X.c by rw [← hX]; rfl, show at32 h 3 = X.d by rw [← hX]; rfl, show at32 h 4 = X.e by rw [← hX]; rfl, show at32 h 5 = X.f by rw [← hX]; rfl, show at32 h 6 = X.g by rw [← hX]; rfl, show at32 h 7 = X.h by rw [← hX]; rfl]
          clear hX
          go_wp2
          go_loopw [10, 11, 12, 13, 14, 15, 16, 17, 133] (fun za zb zc zd ze zf zg zh i wr => ∃ k : Nat, k ≤ 64 ∧ i = .int .i64 k ∧ (za = .int .u32 ((rTo2 W X k).a.toNat : Int) ∧ zb = .int .u32 ((rTo2 W X k).b.toNat : Int) ∧ zc = .int .u32 ((rTo2 W X k).c.toNat : Int) ∧ zd = .int .u32 ((rTo2 W X k).d.toNat : Int) ∧ ze = .int .u32 ((rTo2 W X k).e.toNat : Int) ∧ zf = .int .u32 ((rTo2 W X k).f.toNat : Int) ∧ zg = .int .u32 ((rTo2 W X k).g.toNat : Int) ∧ zh = .int .u32 ((rTo2 W X k).h.toNat : Int)) ∧ St w F wr (lay [led l (noteN r 1 64 1), .blk g 77 (shVs h n b), .blk gk 103 K, .blk gw 103 (W.map u32v)])) (fun _ _ _ _ _ _ _ _ i _ => 64 - (intOf i).toNat)
          case atStart => exact ⟨0, by omega, rfl, by rw [rTo2_zero]; exact ⟨rfl, rfl, rfl, rfl, rfl, rfl, rfl, rfl⟩, H⟩
          case round =>
            clear H
            obtain ⟨k, hk, rfl, ⟨rfl, rfl, rfl, rfl, rfl, rfl, rfl, rfl⟩, H⟩ := hrel
            have HS : Hid (rTo2 W X (k + 1) = rnd2 (at32 kTab2 k) (at32 W k) (rTo2 W X k)) := rTo2_succ _ _ _
            by_cases hlt : k < 64
            · have hk1 : (k : Int) < 64 := by omega
              have ck := H.cell 2 rfl (o := k) (by rw [← HK.out]; exact u32_get (by rw [kTab2_length]; omega))
              have cw := H.cell 3 rfl (u32_get (l := W) (k := k) (by rw [HWL.out]; omega))
              generalize at32 kTab2 k = kk at ck HS
              generalize at32 W k = ww at cw HS
              generalize rTo2 W X k = x at HS ⊢
              go_upto_region 18 with fail
              go_quiet (first | (go_at_call 70; first | with_reducible exact rq_6 _ _ _ | with_reducible exact rq_11 _ _ _ | with_reducible exact rq_25 _ _ _))
              replace H := H.drewN nq
              generalize wr.drewN nq = wr3 at H ⊢
              clear ck cw
              rw [pval2]
              obtain ⟨pv, hpv⟩ : ∃ p, pOf2 kk ww x = p := ⟨_, rfl⟩
              rw [hpv]
              have HPV := Lib.hid hpv
              clear hpv
              go_wp2_with fail
              refine (right_any x.a 2 (by omega) (by omega) 2 rfl _).mono ?_
              rintro e wx ⟨rfl, q, rfl⟩
              replace H := H.drewN q
              generalize wr3.drewN q = wr4 at H ⊢
              go_wp2_with fail
              refine (right_any x.a 13 (by omega) (by omega) 13 rfl _).mono ?_
              rintro e wx ⟨rfl, q, rfl⟩
              replace H := H.drewN q
              generalize wr4.drewN q = wr5 at H ⊢
              go_wp2_with fail
              refine (right_any x.a 22 (by omega) (by omega) 22 rfl _).mono ?_
              rintro e wx ⟨rfl, q, rfl⟩
              replace H := H.drewN q
              generalize wr5.drewN q = wr6 at H ⊢
              go_upto_region 20 with fail
              rw [qval2]
              obtain ⟨qv, hqv⟩ : ∃ q, qOf2 x = q := ⟨_, rfl⟩
              rw [hqv]
              have HR : Hid (rTo2 W X (k + 1) = ⟨pv + qv, x.a, x.b, x.c, x.d + pv, x.e, x.f, x.g⟩) := by unfold Hid; rw [HS.out, rnd2_eq, HPV.out, hqv]
              clear hqv
              go_wp2
              rw [add32, add32]
              go_roundw
              case rel => exact ⟨k + 1, by omega, by go_num, by rw [HR.out]; exact ⟨rfl, rfl, rfl, rfl, rfl, rfl, rfl, rfl⟩, H⟩
              case measure => simp [intOf]; omega
            · obtain rfl : k = 64 := by omega
              rw [show ((64 : Nat) : Int) = 64 from rfl]
              obtain ⟨x, hx⟩ : ∃ x, rTo2 W X 64 = x := ⟨_, rfl⟩
              rw [hx]
              have HXX := Lib.hid hx
              clear hx HS
              have hix : ∀ (k : Nat), k < 8 → ∀ w, (Instr.index 40 (.agg #[.int .u32 (x.a.toNat : Int), .int .u32 (x.b.toNat : Int), .int .u32 (x.c.toNat : Int), .int .u32 (x.d.toNat : Int), .int .u32 (x.e.toNat : Int), .int .u32 (x.f.toNat : Int), .int .u32 (x.g.toNat : Int), .int .u32 (x.h.toNat : Int)]) (.int .i64 (k : Int))).run Try.prog w = .ok (.int .u32 ((at32 x.list k).toNat : Int)) w := fun k hk w => by
                refine run_index_agg (P := Try.prog) 40 39 8 #[.int .u32 (x.a.toNat : Int), .int .u32 (x.b.toNat : Int), .int .u32 (x.c.toNat : Int), .int .u32 (x.d.toNat : Int), .int .u32 (x.e.toNat : Int), .int .u32 (x.f.toNat : Int), .int .u32 (x.g.toNat : Int), .int .u32 (x.h.toNat : Int)] k _ Try.underlying40 h8_size u32_notAgg hk ?_ w
                match k, hk with
                | 0, _ => rfl
                | 1, _ => rfl
                | 2, _ => rfl
                | 3, _ => rfl
                | 4, _ => rfl
                | 5, _ => rfl
                | 6, _ => rfl
                | 7, _ => rfl
              have HIX := Lib.hid hix
              clear hix
              obtain ⟨y, hy⟩ : ∃ y, x.list = y := ⟨_, rfl⟩
              rw [hy] at HIX
              have HSA : Hid (sumTo h y 8 = comp2 h b) := by unfold Hid; rw [← hy, ← HXX.out, ← HX.out, ← HWE.out]; exact sumTo_all h b
              clear hy
              go_upto_region 23 with fail
              go_loopw [205] (fun i wr => ∃ k : Nat, k ≤ 8 ∧ i = .int .i64 k ∧ St w F wr (lay [led l (noteN r 1 64 1), .blk g 77 (shVs (sumTo h y k) n b), .blk gk 103 K, .blk gw 103 (W.map u32v)])) (fun i _ => 8 - (intOf i).toNat)
              case atStart => exact ⟨0, by omega, rfl, by rw [sumTo_zero HH.out]; exact H⟩
              case round =>
                clear H
                obtain ⟨k, hk, rfl, H⟩ := hrel
                by_cases hlt : k < 8
                · have hk1 : (k : Int) < 8 := by omega
                  have hi := HIX.out k hlt
                  have c0 := H.cell 1 rfl (shVs_h (k := k) (sumTo_length _ _ _) hlt)
                  have f0 := H.free 1 rfl k
                  rw [at32_sumTo _ _ _ hlt] at c0
                  have HSS := Lib.hid (sumTo_succ h y k hlt)
                  obtain ⟨yk, hyk⟩ : ∃ v, at32 y k = v := ⟨_, rfl⟩
                  obtain ⟨hk', hhk⟩ : ∃ v, at32 h k = v := ⟨_, rfl⟩
                  rw [hyk] at hi HSS
                  rw [hhk] at c0 HSS
                  clear hyk hhk
                  go_upto_region 25 with fail
                  refine region_quiet_tail 11 (by kernel_rfl) (by kernel_rfl) ?_
                  simp only [List.take_succ_cons, List.take_zero, List.drop_succ_cons, List.drop_zero]
                  repeat (go_big_quiet_step (fail))
                  refine wpQuiet_nil ?_
                  intro nq
                  have H2 := ((H.drewN nq).store 1 rfl (o := k) (u := u32v (hk' + yk))).upd_mk (by simp)
                  replace H2 : St w F _ (lay [led l (noteN r 1 64 1), .blk g 77 ((shVs (sumTo h y k) n b).set k (u32v (hk' + yk))), .blk gk 103 K, .blk gw 103 (W.map u32v)]) := H2
                  rw [shVs_seth (sumTo_length _ _ _) hlt, ← HSS.out] at H2
                  unfold u32v at H2
                  go_wp2
                  rw [add32]
                  go_roundw
                  case rel => exact ⟨k + 1, by omega, by go_num, H2⟩
                  case measure => simp [intOf]; omega
                · obtain rfl : k = 8 := by omega
                  rw [HSA.out] at H
                  go_wp2_with (with_reducible refine hold_store 75 (.tmp 224) (.tmp 222) (by rfl) ?_)
                  refine Lib.hid ?_
                  have hcl := comp2_length h b
                  have hvl := shVs_length (h := comp2 h b) (n := n) (b := b) hcl HBL.out
                  have hz : (List.replicate 64 (Value.int .u8 0)) = (List.replicate 64 (0 : UInt8)).map vb := by rw [List.map_replicate]; rfl
                  refine wpList_store_mid rfl 75 (.tmp 224) (.tmp 222) rfl g 9 (List.replicate 64 (Value.int .u8 0)).toArray rfl rfl (by rw [List.size_toArray, List.length_replicate]; exact H.thereMid 1 rfl 9 64 (by rw [hvl]; omega)) (by rw [w64_size, List.size_toArray, List.length_replicate]) (all_oneCell_toArray (by intro u hu; rw [List.mem_replicate] at hu; rw [hu.2]; rfl)) ?_
                  have H5 := (H.storeMid2 1 rfl 9 (vs := List.replicate 64 (Value.int .u8 0)) (by rw [hvl, List.length_replicate]; omega)).upd_mk (by simp)
                  rw [hz] at H5
                  have hs := shVs_setb (h := comp2 h b) (n := n) (b := b) hcl HBL.out (List.replicate 64 0) 0 (by rw [List.length_replicate]; omega)
                  rw [Nat.add_zero, putAt_all (by rw [List.length_replicate, HBL.out])] at hs
                  replace H5 : St w F _ (lay [led l (noteN r 1 64 1), .blk g 77 ((shVs (comp2 h b) n b).take 9 ++ (List.replicate 64 (0 : UInt8)).map vb ++ (shVs (comp2 h b) n b).drop (9 + ((List.replicate 64 (0 : UInt8)).map vb).length)), .blk gk 103 K, .blk gw 103 (W.map u32v)]) := H5
                  rw [hs] at H5
                  show wpList Try.prog _ _ [] _ (wr.setCells g 9 (List.replicate 64 (Value.int .u8 0)))
                  rw [hz]
                  go_wp2
                  go_end0
                  exact ⟨rfl, HB.out _ _ _ (H5.to2 rfl rfl)⟩

end
end Go.Proofs.Ytcnphkmcgefjoaa
