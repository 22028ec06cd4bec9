/- SHA-512: form, length, a copy, back to the beginning, wiped; the function Sum; what is no state. -/
import Derived.Test.YthieegmmbjjcbaaSh5D
namespace Go.Proofs.Ythieegmmbjjcbaa
open Go.RowKit
set_option linter.unusedVariables false
set_option maxRecDepth 100000
attribute [local irreducible] comp5 hTo

def form5 (M : List UInt8) : List UInt8 := laid8 (h5 M) 8 ++ beL 8 M.length ++ w5' M
theorem form5_length (M : List UInt8) : (form5 M).length = 200 := by
  unfold form5
  rw [List.length_append, List.length_append, laid8_length (by rw [h5_length]; omega), beL_length, w5_length]

/-- how many blocks the digest of n bytes takes -/
def allN5 (n : Nat) : Nat := n / 128 + lastN5 n

section
variable {w0 w : World} {F0 : List Nat} {E : Env}

set_option maxHeartbeats 4000000 in
theorem s5Form_s (g : Nat) (M : List UInt8) (H : St w0 F0 w E) (j k0 : Nat) (hj : E j = some (.blk g 73 (s5S M))) (hk : E k0 = none) (hn : M.length ≤ 281474976710656) :
    Calls Try.prog 26 #[lptr g] w fun e w' => ∃ v, e = .returned v ∧ St w0 F0 w' (upd E k0 (.row 5 1 v 200 ((form5 M).map vb))) := by
  obtain ⟨i0, hi0, hz0, hz1, hz2⟩ := info_parts u8_info
  have HI0 := Lib.hid (⟨hi0, hz0, hz1, hz2⟩ : _ ∧ _ ∧ _ ∧ _)
  clear hi0 hz0 hz1 hz2
  obtain ⟨F, HF, -, -, hback⟩ := H.frame1 j hj
  have HB := Lib.hid hback
  have HJ := Lib.hid hj
  have HK := Lib.hid hk
  replace HF := HF.as1
  clear H hback hj hk
  have c0 := HF.cell 0 rfl (o := 0) s5Vs_made
  go_enter Try.func26, Try.ntmps26
  go_wp2_with fail
  refine (s5Is_yes g w c0).mono ?_
  rintro e w1 ⟨rfl, rfl⟩
  unfold lptr
  have H : St w F w (lay [.blk g 73 (s5S M)]) := HF
  clear HF c0
  have HHL : Hid ((h5 M).length = 8) := h5_length _
  have hr := s5_front (h := h5 M) H 0 rfl HHL.out
  obtain ⟨hh, hhh⟩ : ∃ hh, h5 M = hh := ⟨_, rfl⟩
  rw [hhh] at hr HHL
  have HH5 := Lib.hid hhh
  clear hhh
  go_wp2_with (refine wpList_load_mid rfl 69 (.tmp 11) rfl g 1 rfl (hh.map u64v) _ hr Try.underlying69 rfl (by rw [a8_size, List.length_map, HHL.out]) ?_)
  replace H := (H.nilRow 1 rfl 5 1).push_mk rfl
  replace H : St w F w (lay [.blk g 73 (s5S M), .row 5 1 (.slice none 0 0) (8 * 0) ((laid8 hh 0).map vb)]) := H
  clear hr
  go_loopw [3, 13] (fun v i wr => ∃ k : Nat, k ≤ 8 ∧ i = .int .i64 k ∧ St w F wr (lay [.blk g 73 (s5S M), .row 5 1 v (8 * k) ((laid8 hh k).map vb)])) (fun _ i _ => 8 - (intOf i).toNat)
  case atStart => exact ⟨0, by omega, rfl, H⟩
  case round =>
    clear H
    obtain ⟨k, hk, rfl, H⟩ := hrel
    obtain ⟨AV, cV, rfl, -, -⟩ := row_form (H.row 1 rfl)
    by_cases hlt : k < 8
    · have hk1 : (k : Int) < 8 := by omega
      have hi := h85_ix hh HHL.out k hlt
      have HS := Lib.hid (laid8_succ (l := hh) (k := k) (by rw [HHL.out]; exact hlt))
      generalize at64 hh k = x at hi HS
      go_wp2_with fail
      refine (lay_u64 x.toNat wr x.toNat_lt).mono ?_
      rintro e w2 ⟨v2, rfl, ho, hb⟩
      replace H := (H.pushRow 2 rfl hb ho).push_mk rfl
      clear ho hb
      rw [beL_length] at H
      obtain ⟨A2, c2, rfl, -, -⟩ := row_form (H.row 2 rfl)
      go_wp2_with (at_builtin; refine hold_here' ?_)
      refine Lib.hid ?_
      obtain ⟨hi0, hz0, hz1, hz2⟩ := HI0.out
      refine wpList_append_any _ rfl (.tmp 16) (.tmp 18) _ rfl 0 5 i0 _ 1 1 Try.underlying22 hi0 hz0 hz1 hz2 rfl (by omega) (.slice AV (8 * k) cV) (8 * k) ((laid8 hh k).map vb) rfl (H.row 1 rfl) A2 8 c2 ((beL 8 x.toNat).map vb) rfl (H.rd 2 rfl) (vb_one _) (by simp only [maxLen]; omega) (by omega) (by omega) ?_
      intro v6 w6 hown6 hg6 hat6
      replace H := ((H.grow 1 rfl hown6 hg6 hat6).upd_mk (by simp)).front 2
      clear hown6 hg6 hat6 hi0 hz0 hz1 hz2
      have H7 : St w F w6 (lay [.blk g 73 (s5S M), .row 5 1 v6 (8 * (k + 1)) ((laid8 hh (k + 1)).map vb)]) := by rw [HS.out, List.map_append]; exact H
      clear H
      go_wp2
      go_roundw
      case rel => exact ⟨k + 1, by omega, by go_num, H7⟩
      case measure => simp [intOf]; omega
    · obtain rfl : k = 8 := by omega
      have c9 := H.cell 0 rfl (s5Vs_n (n := M.length) (b := w5' M) (h5_length M))
      go_wp2_with fail
      refine (lay_u64 M.length wr (by omega)).mono ?_
      rintro e w5 ⟨v3, rfl, ho, hb⟩
      replace H := (H.pushRow 2 rfl hb ho).push_mk rfl
      rw [beL_length] at H
      clear ho hb c9
      obtain ⟨A3, c3, rfl, -, -⟩ := row_form (H.row 2 rfl)
      go_wp2_with (at_builtin; refine hold_here' ?_)
      refine Lib.hid ?_
      obtain ⟨hi0, hz0, hz1, hz2⟩ := HI0.out
      refine wpList_append_any _ rfl (.tmp 21) (.tmp 26) _ rfl 0 5 i0 _ 1 1 Try.underlying22 hi0 hz0 hz1 hz2 rfl (by omega) (.slice AV (8 * 8) cV) (8 * 8) ((laid8 hh 8).map vb) rfl (H.row 1 rfl) A3 8 c3 ((beL 8 M.length).map vb) rfl (H.rd 2 rfl) (vb_one _) (by simp only [maxLen]; omega) (by omega) (by omega) ?_
      intro v7 w8 hown6 hg6 hat6
      replace H := ((H.grow 1 rfl hown6 hg6 hat6).upd_mk (by simp)).front 2
      clear hown6 hg6 hat6 hi0 hz0 hz1 hz2
      replace H : St w F w8 (lay [.blk g 73 (s5S M), .row 5 1 v7 72 ((laid8 hh 8 ++ beL 8 M.length).map vb)]) := by rw [List.map_append]; exact H
      obtain ⟨A4, c4, rfl, -, -⟩ := row_form (H.row 1 rfl)
      go_wp2_with (at_builtin; refine hold_here' ?_)
      refine Lib.hid ?_
      obtain ⟨hi0, hz0, hz1, hz2⟩ := HI0.out
      have HWR : Rd w8 1 (some ⟨g, 10, none⟩) 128 ((w5' M).map vb) := ⟨by rw [List.length_map, w5_length], fun _ => ⟨_, rfl, H.lt 0 rfl, fun j u hu => by rw [Addr.add_mid]; exact H.cell 0 rfl (s5Vs_back (h5_length M) hu)⟩⟩
      refine wpList_append_any _ rfl (.tmp 28) (.tmp 32) _ rfl 0 5 i0 _ 1 1 Try.underlying22 hi0 hz0 hz1 hz2 rfl (by omega) (.slice A4 72 c4) 72 ((laid8 hh 8 ++ beL 8 M.length).map vb) rfl (H.row 1 rfl) (some ⟨g, 10, none⟩) 128 128 ((w5' M).map vb) rfl HWR (vb_one _) (by simp only [maxLen]; omega) (by omega) (by omega) ?_
      intro v9 wA hown6 hg6 hat6
      replace H := (H.grow 1 rfl hown6 hg6 hat6).upd_mk (by simp)
      clear hown6 hg6 hat6 hi0 hz0 hz1 hz2 HWR
      have HFE : Hid (form5 M = laid8 hh 8 ++ beL 8 M.length ++ w5' M) := by unfold Hid form5; rw [HH5.out]
      replace H : St w F wA (lay [.blk g 73 (s5S M), .row 5 1 v9 200 ((form5 M).map vb)]) := by rw [HFE.out, List.map_append]; exact H
      go_wp2
      go_ret
      exact ⟨_, rfl, by have h := St.one_more2 HJ.out HK.out HB.out H; rw [upd_id HJ.out] at h; exact h⟩

theorem s5Form_none (s : Value) (h : s = .pointer none ∨ ∃ g, s = lptr g ∧ w.cell? ⟨g, 0, none⟩ = some (.bool false)) : Calls Try.prog 26 #[s] w fun e w' => e = .returned (.slice none 0 0) ∧ w = w' := by
  rcases h with rfl | ⟨g, rfl, c0⟩
  · go_enter Try.func26, Try.ntmps26
    go_wp2_with fail
    refine (s5Is_nil w).mono ?_
    rintro e w1 ⟨rfl, rfl⟩
    go_wp2
    go_ret
    exact ⟨rfl, rfl⟩
  · go_enter Try.func26, Try.ntmps26
    go_wp2_with fail
    refine (s5Is_off g w c0).mono ?_
    rintro e w1 ⟨rfl, rfl⟩
    go_wp2
    go_ret
    exact ⟨rfl, rfl⟩

theorem s5Len_none (s : Value) (h : s = .pointer none ∨ ∃ g, s = lptr g ∧ w.cell? ⟨g, 0, none⟩ = some (.bool false)) : Calls Try.prog 27 #[s] w fun e w' => e = .returned (.int .i64 0) ∧ w = w' := by
  rcases h with rfl | ⟨g, rfl, c0⟩
  · go_enter Try.func27, Try.ntmps27
    go_wp2_with fail
    refine (s5Is_nil w).mono ?_
    rintro e w1 ⟨rfl, rfl⟩
    go_wp2
    go_ret
    exact ⟨rfl, rfl⟩
  · go_enter Try.func27, Try.ntmps27
    go_wp2_with fail
    refine (s5Is_off g w c0).mono ?_
    rintro e w1 ⟨rfl, rfl⟩
    go_wp2
    go_ret
    exact ⟨rfl, rfl⟩

theorem s5Wipe_none (l s : Value) (h : s = .pointer none ∨ ∃ g, s = lptr g ∧ w.cell? ⟨g, 0, none⟩ = some (.bool false)) : Calls Try.prog 24 #[s, l] w fun e w' => e = .returned (.int .i64 1) ∧ w = w' := by
  rcases h with rfl | ⟨g, rfl, c0⟩
  · go_enter Try.func24, Try.ntmps24
    go_wp2_with fail
    refine (s5Is_nil w).mono ?_
    rintro e w1 ⟨rfl, rfl⟩
    go_wp2
    go_ret
    exact ⟨rfl, rfl⟩
  · go_enter Try.func24, Try.ntmps24
    go_wp2_with fail
    refine (s5Is_off g w c0).mono ?_
    rintro e w1 ⟨rfl, rfl⟩
    go_wp2
    go_ret
    exact ⟨rfl, rfl⟩

theorem s5Len_s (g : Nat) (M : List UInt8) (H : St w0 F0 w E) (j : Nat) (hj : E j = some (.blk g 73 (s5S M))) (hn : M.length ≤ 281474976710656) :
    Calls Try.prog 27 #[lptr g] w fun e w' => e = .returned (.int .i64 (M.length : Int)) ∧ w = w' := by
  have c0 := H.cell j hj (o := 0) s5Vs_made
  have c9 := H.cell j hj (s5Vs_n (n := M.length) (b := w5' M) (h5_length M))
  clear H hj
  go_enter Try.func27, Try.ntmps27
  go_wp2_with fail
  refine (s5Is_yes g w c0).mono ?_
  rintro e w1 ⟨rfl, rfl⟩
  unfold lptr
  go_wp2
  go_ret
  exact ⟨rfl, rfl⟩

set_option maxHeartbeats 1000000 in
theorem s5Clone_s (g : Nat) (M : List UInt8) (H : St w0 F0 w E) (j k : Nat) (hj : E j = some (.blk g 73 (s5S M))) (hk : E k = none) :
    Calls Try.prog 28 #[lptr g] w fun e w' => ∃ g', e = .returned (.tuple #[lptr g', .int .i64 0]) ∧ St w0 F0 w' (upd E k (.blk g' 73 (s5S M))) := by
  have c0 := H.cell j hj (o := 0) s5Vs_made
  have hz0 := zero_s5
  have HJ := Lib.hid hj
  have HK := Lib.hid hk
  clear hj hk
  go_enter Try.func28, Try.ntmps28
  go_wp2_with fail
  refine (s5Is_yes g w c0).mono ?_
  rintro e w1 ⟨rfl, rfl⟩
  unfold lptr
  go_wp2_with (first | (with_reducible refine hold_store 73 (.tmp 4) (.tmp 10) (by rfl) ?_) | (refine wpList_load_row rfl 73 (.tmp 9) rfl g rfl _ _ _ _ (H.blk j HJ.out) Try.underlying73 rfl (by rw [s5_size]; simp [s5S_length]) ?_))
  refine Lib.hid ?_
  refine absorb_list (H.allocAt k HK.out w.heap.size rfl s5Z.toArray 73) ?_
  clear H c0
  intro w3 H
  generalize w.heap.size = gt at H ⊢
  refine wpList_store_mid rfl 73 (.tmp 4) (.tmp 10) rfl gt 0 (s5S M).toArray rfl rfl (by have ht := H.there k upd_same; rw [List.size_toArray, s5S_length]; exact ht) (by rw [s5_size, List.size_toArray, s5S_length]) (all_oneCell_toArray (s5S_one M)) ?_
  have H2 := H.storeAll k upd_same (vs := s5S M) (by rw [s5S_length]; rfl)
  rw [upd_upd] at H2
  show wpList Try.prog _ _ [] _ (w3.setCells gt 0 (s5S M))
  generalize w3.setCells gt 0 (s5S M) = w4 at H2 ⊢
  go_wp2
  go_ret2
  exact ⟨_, rfl, H2⟩

set_option maxHeartbeats 1000000 in
theorem s5Reset_s (g : Nat) (M : List UInt8) (H : St w0 F0 w E) (j : Nat) (hj : E j = some (.blk g 73 (s5S M))) :
    Calls Try.prog 29 #[lptr g] w fun e w' => e = .returned (.int .i64 0) ∧ St w0 F0 w' (upd E j (.blk g 73 (s5S []))) := by
  obtain ⟨F, HF, -, -, hback⟩ := H.frame1 j hj
  have HB := Lib.hid hback
  replace HF := HF.as1
  clear H hback hj
  have c0 := HF.cell 0 rfl (o := 0) s5Vs_made
  go_enter Try.func29, Try.ntmps29
  go_wp2_with fail
  refine (s5Is_yes g w c0).mono ?_
  rintro e w1 ⟨rfl, rfl⟩
  unfold lptr
  go_wp2_with fail
  refine (s5New_s HF 1 rfl).mono ?_
  rintro e w2 ⟨g', rfl, H1⟩
  have H : St w F w2 (lay [.blk g 73 (s5S M), .blk g' 73 (s5S [])]) := H1.push_mk rfl
  clear H1 HF c0
  unfold lptr
  go_wp2_with (first | (with_reducible refine hold_store 73 (.tmp 10) (.tmp 9) (by rfl) ?_) | (refine wpList_load_row rfl 73 (.tmp 8) rfl g' rfl _ _ _ _ (H.blk 1 rfl) Try.underlying73 rfl (by rw [s5_size]; simp [s5S_length]) ?_))
  refine Lib.hid ?_
  refine wpList_store_mid rfl 73 (.tmp 10) (.tmp 9) rfl g 0 (s5S []).toArray rfl rfl (by have ht := H.there 0 rfl; rw [s5S_length] at ht; rw [List.size_toArray, s5S_length]; exact ht) (by rw [s5_size, List.size_toArray, s5S_length]) (all_oneCell_toArray (s5S_one [])) ?_
  have H2 := ((H.storeAll 0 rfl (vs := s5S []) (by rw [s5S_length, s5S_length])).upd_mk (by simp)).front 1
  show wpList Try.prog _ _ [] _ (w2.setCells g 0 (s5S []))
  generalize w2.setCells g 0 (s5S []) = w4 at H2 ⊢
  go_wp2
  go_ret
  exact ⟨rfl, HB.out _ _ (H2.to1 rfl)⟩

set_option maxHeartbeats 1000000 in
theorem s5Wipe_s (l : Value) (r : Option (List RunT)) (m : Nat) (b : Int) (g : Nat) (M : List UInt8) (H : St w0 F0 w E) (i j : Nat) (hij : i ≠ j) (hi : E i = some (led l r)) (hj : E j = some (.blk g 73 (s5S M))) (hg : LW r m b) (hm : m ≤ 999999999999) (hb : b ≤ 4000000000000000000) :
    Calls Try.prog 24 #[lptr g, l] w fun e w' => e = .returned (.int .i64 0) ∧ St w0 F0 w' (upd (upd E i (led l (noteN r 8 200 1))) j (.blk g 73 s5Z)) := by
  have c0 := H.cell j hj (o := 0) s5Vs_made
  have hz0 := zero_s5
  have HI := Lib.hid hi
  have HJ := Lib.hid hj
  have HG := Lib.hid hg
  have HIJ := Lib.hid hij
  clear hi hj hg hij
  go_enter Try.func24, Try.ntmps24
  go_wp2_with fail
  refine (s5Is_yes g w c0).mono ?_
  rintro e w1 ⟨rfl, rfl⟩
  unfold lptr
  go_wp2_with fail
  refine (ledger_note_w m b 8 200 H i HI.out HG.out (by omega) (by omega)).mono ?_
  rintro e w3 ⟨rfl, H3⟩
  have HJ2 : Hid (upd E i (led l (noteN r 8 200 1)) j = some (.blk g 73 (s5S M))) := by unfold Hid; rw [show upd E i (led l (noteN r 8 200 1)) j = E j from if_neg (Ne.symm HIJ.out)]; exact HJ.out
  clear H
  go_wp2_with (with_reducible refine hold_store 73 (.tmp 13) (.tmp 12) (by rfl) ?_)
  refine Lib.hid ?_
  refine wpList_store_mid rfl 73 (.tmp 13) (.tmp 12) rfl g 0 s5Z.toArray rfl rfl (by have h := H3.there j HJ2.out; rw [s5S_length] at h; exact h) (by rw [s5_size]; rfl) (all_oneCell_toArray s5Z_one) ?_
  have H4 := H3.storeAll j HJ2.out (vs := s5Z) (by rw [s5S_length]; rfl)
  show wpList Try.prog _ _ [] _ (w3.setCells g 0 s5Z)
  go_wp2
  go_ret
  exact ⟨rfl, H4⟩

set_option maxHeartbeats 4000000 in
theorem s5Fn_s (l : Value) (r : Option (List RunT)) (m : Nat) (c : Int) (A : Option Addr) (n cA : Nat) (p : List UInt8) (H : St w0 F0 w E) (i k0 : Nat) (hi : E i = some (led l r)) (hk : E k0 = none) (hg : LW r m c) (hm : m ≤ 99999999) (hc : c ≤ 300000000000000000)
    (hR : ∀ w' X, St w0 F0 w' (upd E i X) → Rd w' 1 A n (p.map vb)) (hcap : n ≤ cA) (hn : n ≤ 281474976710000) :
    Calls Try.prog 10 #[l, .slice A n cA] w fun e w' => ∃ v, e = .returned v ∧ St w0 F0 w' (upd (upd E i (led l (noteN r 2 128 (allN5 n)))) k0 (.row 5 1 v 64 ((dig5 p).map vb))) := by
  have hl : p.length = n := by have h := (hR w _ (by rw [upd_id hi]; exact H)).1; simpa using h
  obtain ⟨F, HF, -, -, hback⟩ := H.frame1 i hi
  have HB := Lib.hid hback
  have HR0 : Hid (∀ w' X, St w F w' (lay [X]) → Rd w' 1 A n (p.map vb)) := fun w' X h => hR w' X (hback w' X (h.to1 rfl))
  have HI := Lib.hid hi
  have HK := Lib.hid hk
  have HG := Lib.hid hg
  have HL := Lib.hid hl
  replace HF := HF.as1
  clear H hback hi hk hR hl hg
  have hnb : n / 128 ≤ n := Nat.div_le_self _ _
  go_enter Try.func10, Try.ntmps10
  go_wp2_with fail
  refine (s5New_s HF 1 rfl).mono ?_
  rintro e w1 ⟨g, rfl, H1⟩
  replace H1 := H1.push_mk rfl
  clear HF
  unfold lptr
  go_wp2_with fail
  refine (s5Write_s l r m c g [] A n cA p H1 0 1 (by omega) rfl rfl HG.out (by omega) (by omega) (fun w' X Y h => HR0.out w' X (h.sub fun k C hC => by
    match k, hC with
    | 0, hC => simp only [lay, List.getElem?_cons_zero, Option.some.injEq] at hC; subst hC; rfl
    | k + 1, hC => simp [lay] at hC)) hcap (by rw [List.length_nil]; omega)).mono ?_
  rintro e w2 ⟨rfl, H2⟩
  rw [upd_laid5 (by simp), upd_laid5 (by simp), List.length_nil, Nat.zero_add, Nat.zero_div, Nat.sub_zero, List.nil_append] at H2
  clear H1
  go_wp2_with fail
  refine (s5Sum_s l _ (m + 1) (c + ((n / 128 : Nat) : Int)) g p H2 0 1 2 (by omega) rfl rfl rfl (HG.out.noteN 2 128 _) (by omega) (by omega) (by rw [HL.out]; omega)).mono ?_
  rintro e w3 ⟨v, rfl, H3⟩
  rw [noteN_noteN, HL.out, upd_laid5 (by simp), upd_laid5 (by simp)] at H3
  replace H3 := H3.push_mk rfl
  clear H2
  have H4 : St w F w3 (lay [led l (noteN r 2 128 (allN5 n)), .row 5 1 v 64 ((dig5 p).map vb)]) := H3.permS [0, 2] 2 rfl (by decide) (fun i hi => by
    match i, hi with
    | 0, _ => rfl
    | 1, _ => rfl)
  clear H3
  obtain ⟨A3, c3, rfl, -, -⟩ := row_form (H4.row 1 rfl)
  go_wp2
  go_ret
  exact ⟨_, rfl, St.one_more2 HI.out HK.out HB.out H4⟩
end
end Go.Proofs.Ythieegmmbjjcbaa
