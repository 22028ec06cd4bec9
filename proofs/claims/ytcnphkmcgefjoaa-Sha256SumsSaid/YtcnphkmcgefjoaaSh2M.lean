/- The document's SHA-256: the words behind whole blocks; the digest; what is recorded, walked. -/
import Derived.Test.YtcnphkmcgefjoaaSh2K
import Derived.Test.YtcnphkmcgefjoaaSh2L
import Derived.Test.YtcnphkmcgefjoaaLedR
namespace Go.Proofs.Ytcnphkmcgefjoaa
open Go.RowKit
set_option linter.unusedVariables false
set_option maxRecDepth 100000

def hT2 (p : List UInt8) (k : Nat) : List UInt32 := hTo 64 comp2 hBeg2 p k
theorem hT2_zero (p : List UInt8) : hT2 p 0 = hBeg2 := rfl
theorem hT2_succ (p : List UInt8) (k : Nat) : hT2 p (k + 1) = comp2 (hT2 p k) (blkAt p (64 * k)) := rfl
theorem hT2_length (p : List UInt8) (k : Nat) : (hT2 p k).length = 8 := by
  cases k with
  | zero => rfl
  | succ k => exact comp2_length _ _
theorem hT2_all (p : List UInt8) : hT2 p (p.length / 64) = h2 p := rfl

attribute [local irreducible] comp2 hTo hT2 blkAt

set_option maxHeartbeats 4000000 in
theorem refWords_s (A : Option Addr) (n c : Nat) (p : List UInt8) (w : World) (hA : Rd w 1 A n (p.map vb)) (hn : n ≤ 100000000000) :
    Calls Try.prog 60 #[.slice A n c] w fun e w' => e = .returned (.agg ((h2 p).map u32v).toArray) ∧ Below w.heap.size w w' := by
  have hl : p.length = n := by simpa using hA.1
  have HL := Lib.hid hl
  have HAA := Lib.hid hA
  clear hl hA
  have H0 := St.start_lay w []
  go_enter Try.func60, Try.ntmps60
  go_upto_region 1 with fail
  refine absorb_wp (H0.allocAt 0 rfl w.heap.size rfl _ _ |>.push_mk rfl) ?_
  clear H0
  intro w1 H
  generalize w.heap.size = gr at H ⊢
  replace H : St w [] w1 (lay [.blk gr 40 (List.replicate 8 (.int .u32 0))]) := H
  go_wp2_with fail
  refine (refBegin_s w1).mono ?_
  rintro e w2 ⟨rfl, hb2⟩
  replace H := H.call hb2
  clear hb2
  go_wp2_with (with_reducible refine hold_store 40 (.tmp 3) (.tmp 5) (by rfl) ?_)
  refine Lib.hid ?_
  refine absorb_list (H.allocAt 1 rfl w2.heap.size rfl _ _ |>.push_mk rfl) ?_
  clear H
  intro w3 H
  generalize w2.heap.size = gh at H ⊢
  replace H : St w [] w3 (lay [.blk gr 40 (List.replicate 8 (.int .u32 0)), .blk gh 40 (List.replicate 8 (.int .u32 0))]) := H
  refine wpList_store_mid rfl 40 (.tmp 3) (.tmp 5) rfl gh 0 (hBeg2.map u32v).toArray rfl rfl (by have ht := H.there 1 rfl; exact ht) (by rw [a8_size]; rfl) (all_oneCell_toArray (u32_one _)) ?_
  replace H := (H.storeAll 1 rfl (vs := hBeg2.map u32v) rfl).upd_mk (by simp)
  generalize w3.setCells gh 0 (hBeg2.map u32v) = w4 at H ⊢
  replace H : St w [] w4 (lay [.blk gr 40 (List.replicate 8 (.int .u32 0)), .blk gh 40 ((hT2 p 0).map u32v)]) := by rw [hT2_zero]; exact H
  go_wp2
  go_loopw [4] (fun i wr => ∃ k : Nat, 64 * k ≤ n ∧ i = .int .i64 ((64 * k : Nat) : Int) ∧ St w [] wr (lay [.blk gr 40 (List.replicate 8 (.int .u32 0)), .blk gh 40 ((hT2 p k).map u32v)])) (fun i _ => 100000000100 - (intOf i).toNat)
  case atStart => exact ⟨0, by omega, rfl, H⟩
  case round =>
    clear H
    obtain ⟨k, hk, rfl, H⟩ := hrel
    have HHL := Lib.hid (hT2_length p k)
    by_cases hlt : 64 * k + 64 ≤ n
    · have hgo : ((64 * k : Nat) : Int) + 64 ≤ (n : Int) := by omega
      have hkb : ((64 * k : Nat) : Int) ≤ 100000000000 := by omega
      have HS := Lib.hid (hT2_succ p k)
      generalize hT2 p k = h at H HHL HS
      obtain ⟨a, ha⟩ : ∃ a, 64 * k = a := ⟨_, rfl⟩
      have HAE := Lib.hid ha
      rw [ha] at HS hgo hkb hlt ⊢
      clear ha hk
      go_wp2_with (refine wpList_load_row rfl 40 (.tmp 3) rfl gh rfl _ _ _ _ (H.blk 1 rfl) Try.underlying40 rfl (by rw [a8_size]; simp [HHL.out]) ?_)
      go_wp2_with fail
      refine (refComp_s h HHL.out A n c p a _ (HAA.out.below H.below) hn hlt).mono ?_
      rintro e w5 ⟨rfl, hb2⟩
      replace H := H.call hb2
      clear hb2
      have HCL : Hid ((comp2 h (blkAt p a)).length = 8) := comp2_length _ _
      go_wp2_with (with_reducible refine hold_store 40 (.tmp 3) (.tmp 16) (by rfl) ?_)
      refine Lib.hid ?_
      refine wpList_store_mid rfl 40 (.tmp 3) (.tmp 16) rfl gh 0 ((comp2 h (blkAt p a)).map u32v).toArray rfl rfl (by have ht := H.there 1 rfl; rw [List.length_map, HHL.out] at ht; rw [List.size_toArray, List.length_map, HCL.out]; exact ht) (by rw [a8_size]; simp [HCL.out]) (all_oneCell_toArray (u32_one _)) ?_
      have H2 := (H.storeAll 1 rfl (vs := (comp2 h (blkAt p a)).map u32v) (by rw [List.length_map, HCL.out, List.length_map, HHL.out])).upd_mk (by simp)
      show wpList Try.prog _ _ [] _ (w5.setCells gh 0 ((comp2 h (blkAt p a)).map u32v))
      generalize w5.setCells gh 0 ((comp2 h (blkAt p a)).map u32v) = w6 at H2 ⊢
      replace H2 : St w [] w6 (lay [.blk gr 40 (List.replicate 8 (.int .u32 0)), .blk gh 40 ((hT2 p (k + 1)).map u32v)]) := by rw [HS.out]; exact H2
      clear H HS HCL HHL
      go_wp2
      go_roundw
      case rel => exact ⟨k + 1, by have := HAE.out; omega, by rw [← HAE.out]; go_num, H2⟩
      case measure => simp [intOf]; omega
    · have hgo : ¬ (((64 * k : Nat) : Int) + 64 ≤ (n : Int)) := by omega
      have hkb : ((64 * k : Nat) : Int) ≤ 100000000000 := by omega
      have HE : Hid (hT2 p k = h2 p) := by
        unfold Hid
        rw [← hT2_all, HL.out]
        congr 1
        omega
      rw [HE.out] at H HHL
      go_upto_region 6 with fail
      go_wp2_with (first | (with_reducible refine hold_store 40 (.tmp 2) (.tmp 17) (by rfl) ?_) | (refine wpList_load_row rfl 40 (.tmp 3) rfl gh rfl _ _ _ _ (H.blk 1 rfl) Try.underlying40 rfl (by rw [a8_size]; simp [HHL.out]) ?_))
      refine Lib.hid ?_
      refine wpList_store_mid rfl 40 (.tmp 2) (.tmp 17) rfl gr 0 ((h2 p).map u32v).toArray rfl rfl (by have ht := H.there 0 rfl; rw [List.length_replicate] at ht; rw [List.size_toArray, List.length_map, HHL.out]; exact ht) (by rw [a8_size]; simp [HHL.out]) (all_oneCell_toArray (u32_one _)) ?_
      have H4 := (H.storeAll 0 rfl (vs := (h2 p).map u32v) (by rw [List.length_map, HHL.out, List.length_replicate])).upd_mk (by simp)
      show wpList Try.prog _ _ [] _ (wr.setCells gr 0 ((h2 p).map u32v))
      go_wp2
      exact bodyPost_ret (results_cell_row rfl _ _ gr 40 ((h2 p).map u32v).toArray _ _ rfl (H4.blk 0 rfl) Try.underlying40 rfl (by rw [a8_size]; simp [HHL.out])) rfl ⟨rfl, H4.below⟩

attribute [local irreducible] h2 padM

theorem dig2_eq (p : List UInt8) (n : Nat) (h : p.length = n) : laid4 (h2 (p ++ padM n)) 8 = dig2 p := by unfold dig2; rw [h]

set_option maxHeartbeats 1000000 in
theorem refDigest_s (A : Option Addr) (n c : Nat) (p : List UInt8) (w : World) (hA : Rd w 1 A n (p.map vb)) (hn : n ≤ 1000000000) :
    Calls Try.prog 43 #[.slice A n c] w fun e w' => ∃ v, e = .returned v ∧ OwnB w' w.heap.size v (dig2 p) ∧ Below w.heap.size w w' := by
  have hl : p.length = n := by simpa using hA.1
  have HD := Lib.hid (dig2_eq p n hl)
  have HDL : Hid ((dig2 p).length = 32) := dig2_length p
  have hPL : (p ++ padM n).length = n + (9 + padZ n) := by rw [List.length_append, hl, padM_length]
  have hZb : padZ n ≤ 63 := by unfold padZ; omega
  generalize padZ n = Z at hPL hZb
  have HPL := Lib.hid hPL
  have H := St.start_lay w []
  clear hl hPL
  go_enter Try.func43, Try.ntmps43
  go_wp2_with fail
  refine (refPadded_s A n c p w hA (by omega)).mono ?_
  rintro e w1 ⟨v1, rfl, ho, hb⟩
  unfold OwnB at ho
  rw [HPL.out] at ho
  replace H := (H.pushRow 0 rfl hb ho).push_mk rfl
  clear ho hb hA
  obtain ⟨A1, c1, rfl, -, -⟩ := row_form (H.row 0 rfl)
  go_wp2_with fail
  refine (refWords_s A1 (n + (9 + Z)) c1 (p ++ padM n) w1 (H.rd 0 rfl) (by omega)).mono ?_
  rintro e w2 ⟨rfl, hb⟩
  replace H := H.call hb
  clear hb
  go_wp2_with fail
  refine (refLaid_s (h2 (p ++ padM n)) (h2_length _) w2).mono ?_
  rintro e w3 ⟨v3, rfl, ho, hb⟩
  unfold OwnB at ho
  rw [HD.out, HDL.out] at ho
  replace H := (H.pushRow 1 rfl hb ho).push_mk rfl
  clear ho hb
  go_wp2
  go_ret
  exact ⟨_, rfl, (by unfold OwnB; rw [HDL.out]; exact H.newRow' 1 rfl), H.below⟩

theorem all_blocks (n : Nat) : (n + (9 + padZ n)) / 64 = allN n := by
  unfold allN lastN padZ
  omega

theorem ev_size : (Try.prog.info? 43).map (·.size) = some 2 := by kernel_rfl

set_option maxHeartbeats 1000000 in
theorem refEvent_s (w : World) : Calls Try.prog 41 #[] w fun e w' => e = .returned (.agg #[.int .u8 1, .int .i64 64]) ∧ Below w.heap.size w w' := by
  go_enter Try.func41, Try.ntmps41
  go_upto_region 1 with fail
  refine absorb_wp (St.start_lay w [] |>.allocAt 0 rfl w.heap.size rfl _ _ |>.push_mk rfl) ?_
  intro w3 H3
  generalize w.heap.size = g1 at H3 ⊢
  replace H3 : St w [] w3 (lay [.blk g1 43 [.int .u8 0, .int .i64 0]]) := H3
  go_wp2_with (with_reducible refine hold_store 43 (.tmp 0) (.tmp 1) (by rfl) ?_)
  refine Lib.hid ?_
  refine wpList_store_mid rfl 43 (.tmp 0) (.tmp 1) rfl g1 0 #[.int .u8 1, .int .i64 64] rfl rfl (by have ht := H3.there 0 rfl; exact ht) (by rw [ev_size]; rfl) (by kernel_rfl) ?_
  have H4 := (H3.storeAll 0 rfl (vs := [.int .u8 1, .int .i64 64]) rfl).upd_mk (by simp)
  show wpList Try.prog _ _ [] _ (w3.setCells g1 0 [.int .u8 1, .int .i64 64])
  go_wp2
  exact bodyPost_ret (results_cell_row rfl _ _ g1 43 #[.int .u8 1, .int .i64 64] _ _ rfl (H4.blk 0 rfl) Try.underlying43 rfl (by rw [ev_size]; rfl)) rfl ⟨rfl, H4.below⟩

section
variable {w0 w : World} {F0 : List Nat} {E : Env}

set_option maxHeartbeats 1000000 in
theorem refSum_s (l : Value) (r : Option (List RunT)) (m : Nat) (c : Int) (A : Option Addr) (n cA : Nat) (p : List UInt8) (H : St w0 F0 w E) (i k0 : Nat) (hi : E i = some (ledR l r)) (hk : E k0 = none) (hg : LW r m c) (hm : m ≤ 99999999) (hc : c ≤ 300000000000000000)
    (hR : ∀ w' X, St w0 F0 w' (upd E i X) → Rd w' 1 A n (p.map vb)) (hn : n ≤ 1000000000) :
    Calls Try.prog 13 #[l, .slice A n cA] w fun e w' => ∃ v, e = .returned v ∧ St w0 F0 w' (upd (upd E i (ledR l (noteN r 1 64 (allN n)))) k0 (.row 5 1 v 32 ((dig2 p).map vb))) := by
  have hl : p.length = n := by have h := (hR w _ (by rw [upd_id hi]; exact H)).1; simpa using h
  obtain ⟨F, HF, -, -, hback⟩ := H.frame1 i hi
  have HB := Lib.hid hback
  have HR0 : Hid (∀ w' X, St w F w' (lay [X]) → Rd w' 1 A n (p.map vb)) := fun w' X h => hR w' X (hback w' X (h.to1 rfl))
  have HI := Lib.hid hi
  have HK := Lib.hid hk
  have HG := Lib.hid hg
  have HDL : Hid ((dig2 p).length = 32) := dig2_length p
  have hPL : (p ++ padM n).length = n + (9 + padZ n) := by rw [List.length_append, hl, padM_length]
  have hZb : padZ n ≤ 63 := by unfold padZ; omega
  have hAL : (n + (9 + padZ n)) / 64 = allN n := all_blocks n
  generalize padZ n = Z at hPL hZb hAL
  have HPL := Lib.hid hPL
  have HAL := Lib.hid hAL
  have hAb : allN n ≤ n + 2 := by omega
  have hqq : (((n + (9 + Z) : Nat) : Int) / 64) = ((allN n : Nat) : Int) := by omega
  generalize allN n = K at hAL HAL hAb hqq ⊢
  have HQQ := Lib.hid hqq
  replace HF := HF.as1
  clear H hback hi hk hR hg hPL hAL hqq hl
  go_enter Try.func13, Try.ntmps13
  go_wp2_with fail
  refine (refEvent_s w).mono ?_
  rintro e w1 ⟨rfl, hb⟩
  have H : St w F w1 (lay [ledR l r]) := HF.call hb
  clear hb HF
  go_wp2_with fail
  refine (refPadded_s A n cA p w1 (HR0.out _ _ H) (by omega)).mono ?_
  rintro e w2 ⟨v2, rfl, ho, hb⟩
  unfold OwnB at ho
  rw [HPL.out] at ho
  replace H := (H.pushRow 1 rfl hb ho).push_mk rfl
  clear ho hb
  obtain ⟨A1, c1, rfl, -, -⟩ := row_form (H.row 1 rfl)
  go_wp2_with fail
  refine (refNoteTimes_w m c 1 64 K _ (by exact HQQ.out) H 0 rfl HG.out (by omega) (by omega) (by omega)).mono ?_
  rintro e w3 ⟨rfl, H1⟩
  rw [upd_laid2 (by simp)] at H1
  replace H : St w F w3 (lay [ledR l (noteN r 1 64 K)]) := H1.front 1
  clear H1
  go_wp2_with fail
  refine (refDigest_s A n cA p w3 (HR0.out _ _ H) hn).mono ?_
  rintro e w4 ⟨v4, rfl, ho, hb⟩
  unfold OwnB at ho
  rw [HDL.out] at ho
  replace H : St w F w4 (lay [ledR l (noteN r 1 64 K), .row 5 1 v4 32 ((dig2 p).map vb)]) := (H.pushRow 1 rfl hb ho).push_mk rfl
  clear ho hb
  go_wp2
  go_ret
  exact ⟨_, rfl, St.one_more2 HI.out HK.out HB.out H⟩
end
end Go.Proofs.Ytcnphkmcgefjoaa
