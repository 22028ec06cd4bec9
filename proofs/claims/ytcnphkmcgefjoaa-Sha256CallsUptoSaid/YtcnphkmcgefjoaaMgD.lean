/- Texts of this claim, merged: Sh2M, Slot, BSt, Calls, Sh2Q, Sh2Z, Sh2Any, Sh2Sm, Pick, Sh2Act. -/
import Derived.Deep.Cut
import Derived.Lib.AppendZerosOnto
import Derived.Test.YtcnphkmcgefjoaaRows
import Derived.Test.YtcnphkmcgefjoaaMgC
set_option linter.unusedVariables false

namespace Go.Proofs.Ytcnphkmcgefjoaa
open Go.RowKit
set_option linter.unusedVariables false
set_option maxRecDepth 100000

def hT2 (p : List UInt8) (k : Nat) : List UInt32 := hTo 64 comp2 hBeg2 p k
theorem hT2_zero (p : List UInt8) : hT2 p 0 = hBeg2 := rfl
theorem hT2_succ (p : List UInt8) (k : Nat) : hT2 p (k + 1) = comp2 (hT2 p k) (blkAt p (64 * k)) := rfl
theorem hT2_length (p : List UInt8) (k : Nat) : (hT2 p k).length = 8 := by
  cases k with
  | zero => rfl
  | succ k => exact comp2_length _ _
theorem hT2_all (p : List UInt8) : hT2 p (p.length / 64) = h2 p := rfl

attribute [local irreducible] comp2 hTo hT2 blkAt

set_option maxHeartbeats 4000000 in
theorem refWords_s (A : Option Addr) (n c : Nat) (p : List UInt8) (w : World) (hA : Rd w 1 A n (p.map vb)) (hn : n ≤ 100000000000) :
    Calls Try.prog 60 #[.slice A n c] w fun e w' => e = .returned (.agg ((h2 p).map u32v).toArray) ∧ Below w.heap.size w w' := by
  have hl : p.length = n := by simpa using hA.1
  have HL := Lib.hid hl
  have HAA := Lib.hid hA
  clear hl hA
  have H0 := St.start_lay w []
  go_enter Try.func60, Try.ntmps60
  go_upto_region 1 with fail
  refine absorb_wp (H0.allocAt 0 rfl w.heap.size rfl _ _ |>.push_mk rfl) ?_
  clear H0
  intro w1 H
  generalize w.heap.size = gr at H ⊢
  replace H : St w [] w1 (lay [.blk gr 40 (List.replicate 8 (.int .u32 0))]) := H
  go_wp2_with fail
  refine (refBegin_s w1).mono ?_
  rintro e w2 ⟨rfl, hb2⟩
  replace H := H.call hb2
  clear hb2
  go_wp2_with (with_reducible refine hold_store 40 (.tmp 3) (.tmp 5) (by rfl) ?_)
  refine Lib.hid ?_
  refine absorb_list (H.allocAt 1 rfl w2.heap.size rfl _ _ |>.push_mk rfl) ?_
  clear H
  intro w3 H
  generalize w2.heap.size = gh at H ⊢
  replace H : St w [] w3 (lay [.blk gr 40 (List.replicate 8 (.int .u32 0)), .blk gh 40 (List.replicate 8 (.int .u32 0))]) := H
  refine wpList_store_mid rfl 40 (.tmp 3) (.tmp 5) rfl gh 0 (hBeg2.map u32v).toArray rfl rfl (by have ht := H.there 1 rfl; exact ht) (by rw [a8_size]; rfl) (all_oneCell_toArray (u32_one _)) ?_
  replace H := (H.storeAll 1 rfl (vs := hBeg2.map u32v) rfl).upd_mk (by simp)
  generalize w3.setCells gh 0 (hBeg2.map u32v) = w4 at H ⊢
  replace H : St w [] w4 (lay [.blk gr 40 (List.replicate 8 (.int .u32 0)), .blk gh 40 ((hT2 p 0).map u32v)]) := by rw [hT2_zero]; exact H
  go_wp2
  go_loopw [4] (fun i wr => ∃ k : Nat, 64 * k ≤ n ∧ i = .int .i64 ((64 * k : Nat) : Int) ∧ St w [] wr (lay [.blk gr 40 (List.replicate 8 (.int .u32 0)), .blk gh 40 ((hT2 p k).map u32v)])) (fun i _ => 100000000100 - (intOf i).toNat)
  case atStart => exact ⟨0, by omega, rfl, H⟩
  case round =>
    clear H
    obtain ⟨k, hk, rfl, H⟩ := hrel
    have HHL := Lib.hid (hT2_length p k)
    by_cases hlt : 64 * k + 64 ≤ n
    · have hgo : ((64 * k : Nat) : Int) + 64 ≤ (n : Int) := by omega
      have hkb : ((64 * k : Nat) : Int) ≤ 100000000000 := by omega
      have HS := Lib.hid (hT2_succ p k)
      generalize hT2 p k = h at H HHL HS
      obtain ⟨a, ha⟩ : ∃ a, 64 * k = a := ⟨_, rfl⟩
      have HAE := Lib.hid ha
      rw [ha] at HS hgo hkb hlt ⊢
      clear ha hk
      go_wp2_with (refine wpList_load_row rfl 40 (.tmp 3) rfl gh rfl _ _ _ _ (H.blk 1 rfl) Try.underlying40 rfl (by rw [a8_size]; simp [HHL.out]) ?_)
      go_wp2_with fail
      refine (refComp_s h HHL.out A n c p a _ (HAA.out.below H.below) hn hlt).mono ?_
      rintro e w5 ⟨rfl, hb2⟩
      replace H := H.call hb2
      clear hb2
      have HCL : Hid ((comp2 h (blkAt p a)).length = 8) := comp2_length _ _
      go_wp2_with (with_reducible refine hold_store 40 (.tmp 3) (.tmp 16) (by rfl) ?_)
      refine Lib.hid ?_
      refine wpList_store_mid rfl 40 (.tmp 3) (.tmp 16) rfl gh 0 ((comp2 h (blkAt p a)).map u32v).toArray rfl rfl (by have ht := H.there 1 rfl; rw [List.length_map, HHL.out] at ht; rw [List.size_toArray, List.length_map, HCL.out]; exact ht) (by rw [a8_size]; simp [HCL.out]) (all_oneCell_toArray (u32_one _)) ?_
      have H2 := (H.storeAll 1 rfl (vs := (comp2 h (blkAt p a)).map u32v) (by rw [List.length_map, HCL.out, List.length_map, HHL.out])).upd_mk (by simp)
      show wpList Try.prog _ _ [] _ (w5.setCells gh 0 ((comp2 h (blkAt p a)).map u32v))
      generalize w5.setCells gh 0 ((comp2 h (blkAt p a)).map u32v) = w6 at H2 ⊢
      replace H2 : St w [] w6 (lay [.blk gr 40 (List.replicate 8 (.int .u32 0)), .blk gh 40 ((hT2 p (k + 1)).map u32v)]) := by rw [HS.out]; exact H2
      clear H HS HCL HHL
      go_wp2
      go_roundw
      case rel => exact ⟨k + 1, by have := HAE.out; omega, by rw [← HAE.out]; go_num, H2⟩
      case measure => simp [intOf]; omega
    · have hgo : ¬ (((64 * k : Nat) : Int) + 64 ≤ (n : Int)) := by omega
      have hkb : ((64 * k : Nat) : Int) ≤ 100000000000 := by omega
      have HE : Hid (hT2 p k = h2 p) := by
        unfold Hid
        rw [← hT2_all, HL.out]
        congr 1
        omega
      rw [HE.out] at H HHL
      go_upto_region 6 with fail
      go_wp2_with (first | (with_reducible refine hold_store 40 (.tmp 2) (.tmp 17) (by rfl) ?_) | (refine wpList_load_row rfl 40 (.tmp 3) rfl gh rfl _ _ _ _ (H.blk 1 rfl) Try.underlying40 rfl (by rw [a8_size]; simp [HHL.out]) ?_))
      refine Lib.hid ?_
      refine wpList_store_mid rfl 40 (.tmp 2) (.tmp 17) rfl gr 0 ((h2 p).map u32v).toArray rfl rfl (by have ht := H.there 0 rfl; rw [List.length_replicate] at ht; rw [List.size_toArray, List.length_map, HHL.out]; exact ht) (by rw [a8_size]; simp [HHL.out]) (all_oneCell_toArray (u32_one _)) ?_
      have H4 := (H.storeAll 0 rfl (vs := (h2 p).map u32v) (by rw [List.length_map, HHL.out, List.length_replicate])).upd_mk (by simp)
      show wpList Try.prog _ _ [] _ (wr.setCells gr 0 ((h2 p).map u32v))
      go_wp2
      exact bodyPost_ret (results_cell_row rfl _ _ gr 40 ((h2 p).map u32v).toArray _ _ rfl (H4.blk 0 rfl) Try.underlying40 rfl (by rw [a8_size]; simp [HHL.out])) rfl ⟨rfl, H4.below⟩

attribute [local irreducible] h2 padM

theorem dig2_eq (p : List UInt8) (n : Nat) (h : p.length = n) : laid4 (h2 (p ++ padM n)) 8 = dig2 p := by unfold dig2; rw [h]

set_option maxHeartbeats 1000000 in
theorem refDigest_s (A : Option Addr) (n c : Nat) (p : List UInt8) (w : World) (hA : Rd w 1 A n (p.map vb)) (hn : n ≤ 1000000000) :
    Calls Try.prog 43 #[.slice A n c] w fun e w' => ∃ v, e = .returned v ∧ OwnB w' w.heap.size v (dig2 p) ∧ Below w.heap.size w w' := by
  have hl : p.length = n := by simpa using hA.1
  have HD := Lib.hid (dig2_eq p n hl)
  have HDL : Hid ((dig2 p).length = 32) := dig2_length p
  have hPL : (p ++ padM n).length = n + (9 + padZ n) := by rw [List.length_append, hl, padM_length]
  have hZb : padZ n ≤ 63 := by unfold padZ; omega
  generalize padZ n = Z at hPL hZb
  have HPL := Lib.hid hPL
  have H := St.start_lay w []
  clear hl hPL
  go_enter Try.func43, Try.ntmps43
  go_wp2_with fail
  refine (refPadded_s A n c p w hA (by omega)).mono ?_
  rintro e w1 ⟨v1, rfl, ho, hb⟩
  unfold OwnB at ho
  rw [HPL.out] at ho
  replace H := (H.pushRow 0 rfl hb ho).push_mk rfl
  clear ho hb hA
  obtain ⟨A1, c1, rfl, -, -⟩ := row_form (H.row 0 rfl)
  go_wp2_with fail
  refine (refWords_s A1 (n + (9 + Z)) c1 (p ++ padM n) w1 (H.rd 0 rfl) (by omega)).mono ?_
  rintro e w2 ⟨rfl, hb⟩
  replace H := H.call hb
  clear hb
  go_wp2_with fail
  refine (refLaid_s (h2 (p ++ padM n)) (h2_length _) w2).mono ?_
  rintro e w3 ⟨v3, rfl, ho, hb⟩
  unfold OwnB at ho
  rw [HD.out, HDL.out] at ho
  replace H := (H.pushRow 1 rfl hb ho).push_mk rfl
  clear ho hb
  go_wp2
  go_ret
  exact ⟨_, rfl, (by unfold OwnB; rw [HDL.out]; exact H.newRow' 1 rfl), H.below⟩

theorem all_blocks (n : Nat) : (n + (9 + padZ n)) / 64 = allN n := by
  unfold allN lastN padZ
  omega

theorem ev_size : (Try.prog.info? 43).map (·.size) = some 2 := by kernel_rfl

set_option maxHeartbeats 1000000 in
theorem refEvent_s (w : World) : Calls Try.prog 41 #[] w fun e w' => e = .returned (.agg #[.int .u8 1, .int .i64 64]) ∧ Below w.heap.size w w' := by
  go_enter Try.func41, Try.ntmps41
  go_upto_region 1 with fail
  refine absorb_wp (St.start_lay w [] |>.allocAt 0 rfl w.heap.size rfl _ _ |>.push_mk rfl) ?_
  intro w3 H3
  generalize w.heap.size = g1 at H3 ⊢
  replace H3 : St w [] w3 (lay [.blk g1 43 [.int .u8 0, .int .i64 0]]) := H3
  go_wp2_with (with_reducible refine hold_store 43 (.tmp 0) (.tmp 1) (by rfl) ?_)
  refine Lib.hid ?_
  refine wpList_store_mid rfl 43 (.tmp 0) (.tmp 1) rfl g1 0 #[.int .u8 1, .int .i64 64] rfl rfl (by have ht := H3.there 0 rfl; exact ht) (by rw [ev_size]; rfl) (by kernel_rfl) ?_
  have H4 := (H3.storeAll 0 rfl (vs := [.int .u8 1, .int .i64 64]) rfl).upd_mk (by simp)
  show wpList Try.prog _ _ [] _ (w3.setCells g1 0 [.int .u8 1, .int .i64 64])
  go_wp2
  exact bodyPost_ret (results_cell_row rfl _ _ g1 43 #[.int .u8 1, .int .i64 64] _ _ rfl (H4.blk 0 rfl) Try.underlying43 rfl (by rw [ev_size]; rfl)) rfl ⟨rfl, H4.below⟩

section
variable {w0 w : World} {F0 : List Nat} {E : Env}

set_option maxHeartbeats 1000000 in
theorem refSum_s (l : Value) (r : Option (List RunT)) (m : Nat) (c : Int) (A : Option Addr) (n cA : Nat) (p : List UInt8) (H : St w0 F0 w E) (i k0 : Nat) (hi : E i = some (ledR l r)) (hk : E k0 = none) (hg : LW r m c) (hm : m ≤ 99999999) (hc : c ≤ 300000000000000000)
    (hR : ∀ w' X, St w0 F0 w' (upd E i X) → Rd w' 1 A n (p.map vb)) (hn : n ≤ 1000000000) :
    Calls Try.prog 13 #[l, .slice A n cA] w fun e w' => ∃ v, e = .returned v ∧ St w0 F0 w' (upd (upd E i (ledR l (noteN r 1 64 (allN n)))) k0 (.row 5 1 v 32 ((dig2 p).map vb))) := by
  have hl : p.length = n := by have h := (hR w _ (by rw [upd_id hi]; exact H)).1; simpa using h
  obtain ⟨F, HF, -, -, hback⟩ := H.frame1 i hi
  have HB := Lib.hid hback
  have HR0 : Hid (∀ w' X, St w F w' (lay [X]) → Rd w' 1 A n (p.map vb)) := fun w' X h => hR w' X (hback w' X (h.to1 rfl))
  have HI := Lib.hid hi
  have HK := Lib.hid hk
  have HG := Lib.hid hg
  have HDL : Hid ((dig2 p).length = 32) := dig2_length p
  have hPL : (p ++ padM n).length = n + (9 + padZ n) := by rw [List.length_append, hl, padM_length]
  have hZb : padZ n ≤ 63 := by unfold padZ; omega
  have hAL : (n + (9 + padZ n)) / 64 = allN n := all_blocks n
  generalize padZ n = Z at hPL hZb hAL
  have HPL := Lib.hid hPL
  have HAL := Lib.hid hAL
  have hAb : allN n ≤ n + 2 := by omega
  have hqq : (((n + (9 + Z) : Nat) : Int) / 64) = ((allN n : Nat) : Int) := by omega
  generalize allN n = K at hAL HAL hAb hqq ⊢
  have HQQ := Lib.hid hqq
  replace HF := HF.as1
  clear H hback hi hk hR hg hPL hAL hqq hl
  go_enter Try.func13, Try.ntmps13
  go_wp2_with fail
  refine (refEvent_s w).mono ?_
  rintro e w1 ⟨rfl, hb⟩
  have H : St w F w1 (lay [ledR l r]) := HF.call hb
  clear hb HF
  go_wp2_with fail
  refine (refPadded_s A n cA p w1 (HR0.out _ _ H) (by omega)).mono ?_
  rintro e w2 ⟨v2, rfl, ho, hb⟩
  unfold OwnB at ho
  rw [HPL.out] at ho
  replace H := (H.pushRow 1 rfl hb ho).push_mk rfl
  clear ho hb
  obtain ⟨A1, c1, rfl, -, -⟩ := row_form (H.row 1 rfl)
  go_wp2_with fail
  refine (refNoteTimes_w m c 1 64 K _ (by exact HQQ.out) H 0 rfl HG.out (by omega) (by omega) (by omega)).mono ?_
  rintro e w3 ⟨rfl, H1⟩
  rw [upd_laid2 (by simp)] at H1
  replace H : St w F w3 (lay [ledR l (noteN r 1 64 K)]) := H1.front 1
  clear H1
  go_wp2_with fail
  refine (refDigest_s A n cA p w3 (HR0.out _ _ H) hn).mono ?_
  rintro e w4 ⟨v4, rfl, ho, hb⟩
  unfold OwnB at ho
  rw [HDL.out] at ho
  replace H : St w F w4 (lay [ledR l (noteN r 1 64 K), .row 5 1 v4 32 ((dig2 p).map vb)]) := (H.pushRow 1 rfl hb ho).push_mk rfl
  clear ho hb
  go_wp2
  go_ret
  exact ⟨_, rfl, St.one_more2 HI.out HK.out HB.out H⟩
end
end Go.Proofs.Ytcnphkmcgefjoaa

namespace Go.Proofs.Ytcnphkmcgefjoaa
open Go.RowKit
set_option linter.unusedVariables false
set_option maxRecDepth 100000

section
variable {w0 w : World} {F0 : List Nat} {E : Env}

theorem St.recast2 {A A' : Own} (H : St w0 F0 w E) (k : Nat) (hk : E k = some A) (h : ∀ w F, A.holds w F → ∃ F', A'.holds w F' ∧ ∀ g ∈ F', g ∈ F) : St w0 F0 w (upd E k A') := by
  obtain ⟨F, hA, -, -, hc⟩ := H.change k hk
  obtain ⟨F', h1, h2⟩ := h w F hA
  exact hc w A' F' h1 (Low.refl _ _) fun g hg => .inl (h2 g hg)

variable {α : Type} {f : α → Own}

theorem bigO_take {e : α} (he : ∀ w, (f e).holds w []) : ∀ (L : List α) (k : Nat) (x : α) (w : World) (F : List Nat), L[k]? = some x → (bigO f L).holds w F → ∃ F', (Own.sep (bigO f (L.set k e)) (f x)).holds w F' ∧ ∀ g ∈ F', g ∈ F := by
  intro L
  induction L with
  | nil => intro k x w F h; simp at h
  | cons y t ih =>
    rintro k x w F hx ⟨G, H, rfl, hG, hH, d⟩
    cases k with
    | zero =>
      simp only [List.getElem?_cons_zero, Option.some.injEq] at hx
      subst hx
      exact ⟨([] ++ H) ++ G, ⟨[] ++ H, G, rfl, ⟨[], H, rfl, he w, hH, by simp⟩, hG, fun g hg h2 => d g h2 (by simpa using hg)⟩, fun g hg => by simp at hg ⊢; exact hg.symm⟩
    | succ k =>
      obtain ⟨F', ⟨G2, H2, rfl, h1, h2, d2⟩, hs⟩ := ih k x w H (by simpa using hx) hH
      refine ⟨(G ++ G2) ++ H2, ⟨G ++ G2, H2, rfl, ⟨G, G2, rfl, hG, h1, fun g hg h => d g hg (hs g (by simp [h]))⟩, h2, fun g hg h => ?_⟩, fun g hg => ?_⟩
      · rcases List.mem_append.1 hg with k1 | k1
        · exact d g k1 (hs g (by simp [h]))
        · exact d2 g k1 h
      · rcases List.mem_append.1 hg with k1 | k1
        · rcases List.mem_append.1 k1 with k2 | k2
          · simp [k2]
          · exact List.mem_append.2 (.inr (hs g (by simp [k2])))
        · exact List.mem_append.2 (.inr (hs g (by simp [k1])))

theorem bigO_put : ∀ (L : List α) (k : Nat) (x : α) (w : World) (F : List Nat), k < L.length → (Own.sep (bigO f L) (f x)).holds w F → ∃ F', (bigO f (L.set k x)).holds w F' ∧ ∀ g ∈ F', g ∈ F := by
  intro L
  induction L with
  | nil => intro k x w F h; simp at h
  | cons y t ih =>
    rintro k x w F hk ⟨G, H, rfl, ⟨G1, G2, rfl, h1, h2, d1⟩, hH, d⟩
    cases k with
    | zero => exact ⟨H ++ G2, ⟨H, G2, rfl, hH, h2, fun g hg h => d g (by simp [h]) hg⟩, fun g hg => by simp at hg ⊢; rcases hg with h | h <;> simp [h]⟩
    | succ k =>
      obtain ⟨F', h3, hs⟩ := ih k x w (G2 ++ H) (by simpa using hk) ⟨G2, H, rfl, h2, hH, fun g hg => d g (by simp [hg])⟩
      refine ⟨G1 ++ F', ⟨G1, F', rfl, h1, h3, fun g hg h => ?_⟩, fun g hg => ?_⟩
      · rcases List.mem_append.1 (hs g h) with k1 | k1
        · exact d1 g hg k1
        · exact d g (by simp [hg]) k1
      · rcases List.mem_append.1 hg with k1 | k1
        · simp [k1]
        · rcases List.mem_append.1 (hs g k1) with k2 | k2 <;> simp [k2]

theorem St.takeSlot {e : α} (he : ∀ w, (f e).holds w []) {L0 : List Own} {L : List α} {x : α} (H : St w0 F0 w (lay L0)) (i k : Nat) (hi : L0[i]? = some (bigO f L)) (hx : L[k]? = some x) : St w0 F0 w (lay (L0.set i (bigO f (L.set k e)) ++ [f x])) := by
  have hl : i < L0.length := (List.getElem?_eq_some_iff.1 hi).1
  have h1 := (H.recast2 (A := bigO f L) (A' := .sep (bigO f (L.set k e)) (f x)) i hi (fun w F h => bigO_take he L k x w F hx h)).upd_mk hl
  have h2 := h1.part_mk i (List.getElem?_set_self hl)
  rwa [List.set_set] at h2

theorem St.putSlot {L0 : List Own} {L : List α} {x : α} (H : St w0 F0 w (lay (L0 ++ [f x]))) (i k : Nat) (hi : L0[i]? = some (bigO f L)) (hk : k < L.length) : St w0 F0 w (lay (L0.set i (bigO f (L.set k x)))) := by
  have hl : i < L0.length := (List.getElem?_eq_some_iff.1 hi).1
  have h1 := H.join i L0.length (by omega) (A := bigO f L) (B := f x) (by simp only [lay]; rw [List.getElem?_append_left hl]; exact hi) (by simp [lay])
  have h2 := h1.recast2 (A := .sep (bigO f L) (f x)) (A' := bigO f (L.set k x)) i (by simp [upd]) (fun w F h => bigO_put L k x w F hk h)
  refine h2.sub fun n C hC => ?_
  simp only [lay] at hC
  simp only [upd, del, lay]
  by_cases hn : n = i
  · subst hn
    rw [List.getElem?_set_self hl] at hC
    rw [if_pos rfl]; exact hC
  · rw [List.getElem?_set_ne (fun e => hn e.symm)] at hC
    have hnl : n < L0.length := (List.getElem?_eq_some_iff.1 hC).1
    rw [if_neg hn, if_neg hn, if_neg (by omega), List.getElem?_append_left hnl]
    exact hC

/-- two pieces that are one -/
theorem St.join_mk {L : List Own} {A B : Own} (H : St w0 F0 w (lay (L ++ [B]))) (i : Nat) (hi : L[i]? = some A) : St w0 F0 w (lay (L.set i (.sep A B))) := by
  have hl : i < L.length := (List.getElem?_eq_some_iff.1 hi).1
  have h1 := H.join i L.length (by omega) (A := A) (B := B) (by simp only [lay]; rw [List.getElem?_append_left hl]; exact hi) (by simp [lay])
  refine h1.sub fun n C hC => ?_
  simp only [lay] at hC
  simp only [upd, del, lay]
  by_cases hn : n = i
  · subst hn
    rw [List.getElem?_set_self hl] at hC
    rw [if_pos rfl]; exact hC
  · rw [List.getElem?_set_ne (fun e => hn e.symm)] at hC
    have hnl : n < L.length := (List.getElem?_eq_some_iff.1 hC).1
    rw [if_neg hn, if_neg (by omega), List.getElem?_append_left hnl]
    exact hC

/-- a walk of its own over a piece and one that is two -/
theorem St.loc {A B C : Own} (H : St w0 F0 w E) (i j : Nat) (hij : i ≠ j) (hi : E i = some A) (hj : E j = some (.sep B C)) :
    ∃ F, St w F w (lay [A, B, C]) ∧ (∀ (w' : World) (A' B' C' : Own), St w F w' (lay [A', B', C']) → St w0 F0 w' (upd (upd E i A') j (.sep B' C'))) ∧
      ∀ (w' : World) (A' B' C' R : Own) (k : Nat), E k = none → St w F w' (lay [A', B', C', R]) → St w0 F0 w' (upd (upd (upd E i A') j (.sep B' C')) k R) := by
  obtain ⟨F, HF, -, -, hback⟩ := H.frame2 i j hij hi hj
  have base : ∀ (w' : World) (A' B' C' : Own), St w F w' (lay [A', B', C']) → St w0 F0 w' (upd (upd E i A') j (.sep B' C')) := fun w' A' B' C' h => by
    refine hback w' A' (.sep B' C') ?_
    exact (St.join_mk (L := [A', B']) (A := B') (B := C') h 1 rfl).to2 rfl rfl
  refine ⟨F, HF.as2.part_mk 1 rfl, base, fun w' A' B' C' R k hk h => ?_⟩
  have hki : k ≠ i := fun e => by rw [e, hi] at hk; cases hk
  have hkj : k ≠ j := fun e => by rw [e, hj] at hk; cases hk
  have h1 : St w F w' (lay [.sep A' R, B', C']) := St.join_mk (L := [A', B', C']) (A := A') (B := R) h 0 rfl
  have h2 := base w' (.sep A' R) B' C' h1
  have h3 := h2.part (A := A') (B := R) i k (Ne.symm hki) (by simp [upd, hij]) (by simp [upd, hki, hkj, hk])
  refine h3.env fun n => ?_
  simp only [upd]
  by_cases hk' : n = k
  · simp [hk']
  · by_cases hj' : n = j
    · subst hj'; simp [Ne.symm hij, Ne.symm hkj]
    · by_cases hi' : n = i
      · subst hi'; simp [hij, Ne.symm hki]
      · simp [hk', hj', hi']
theorem St.loc1 {A : Own} (H : St w0 F0 w E) (i : Nat) (hi : E i = some A) :
    ∃ F, St w F w (lay [A]) ∧ (∀ (w' : World) (A' : Own), St w F w' (lay [A']) → St w0 F0 w' (upd E i A')) ∧
      ∀ (w' : World) (A' R : Own) (k : Nat), E k = none → St w F w' (lay [A', R]) → St w0 F0 w' (upd (upd E i A') k R) := by
  obtain ⟨F, HF, -, -, hback⟩ := H.frame1 i hi
  have base : ∀ (w' : World) (A' : Own), St w F w' (lay [A']) → St w0 F0 w' (upd E i A') := fun w' A' h => hback w' A' (h.to1 rfl)
  refine ⟨F, HF.as1, base, fun w' A' R k hk h => ?_⟩
  have hki : k ≠ i := fun e => by rw [e, hi] at hk; cases hk
  have h1 : St w F w' (lay [.sep A' R]) := St.join_mk (L := [A']) (A := A') (B := R) h 0 rfl
  have h3 := (base w' (.sep A' R) h1).part (A := A') (B := R) i k (Ne.symm hki) (by simp [upd]) (by simp [upd, hki, hk])
  refine h3.env fun n => ?_
  simp only [upd]
  by_cases hk' : n = k
  · simp [hk']
  · by_cases hi' : n = i
    · subst hi'; simp [Ne.symm hki]
    · simp [hk', hi']

theorem upd2_id {A B : Own} {i j : Nat} (hi : E i = some A) (hj : E j = some B) : upd (upd E i A) j B = E := by
  rw [upd_id hi, upd_id hj]
theorem upd_mid {A X : Own} {i j : Nat} (hij : i ≠ j) (hj : E j = some A) : upd (upd E i X) j A = upd E i X :=
  upd_id (by simp [upd, Ne.symm hij, hj])
/-- one of two pieces is let go -/
theorem sep_left {A B : Own} {w : World} {F : List Nat} (h : (Own.sep A B).holds w F) : ∃ F', A.holds w F' ∧ ∀ g ∈ F', g ∈ F := by
  obtain ⟨G, K, rfl, hA, -, -⟩ := h
  exact ⟨G, hA, fun g hg => by simp [hg]⟩
end

/-- what was told, and what was wanted: two slices that hold the same -/
structure Tp where
  v : Value
  u : Value
  l : List UInt8
def Tp.own (p : Tp) : Own := .sep (.row 5 1 p.v p.l.length (p.l.map vb)) (.row 5 1 p.u p.l.length (p.l.map vb))

theorem tp_hp {w : World} : ∀ {L : List Tp} {F : List Nat}, (bigO Tp.own L).holds w F →
    (∀ (i : Nat) (p : Tp), L[i]? = some p → w.ownsRow 0 5 1 p.v p.l.length (p.l.map vb) ∧ ∀ g ∈ p.v.ownBlock.toList, g ∈ F) ∧
    ∀ (i j : Nat) (p q : Tp), i ≠ j → L[i]? = some p → L[j]? = some q → p.v.ownBlock = none ∨ p.v.ownBlock ≠ q.v.ownBlock := by
  intro L
  induction L with
  | nil => intro F _; exact ⟨fun i p h => by simp at h, fun i j p q _ h => by simp at h⟩
  | cons y t ih =>
    rintro F ⟨G, H, rfl, ⟨G1, G2, rfl, ⟨h1, e1⟩, h2, d1⟩, hH, d⟩
    obtain ⟨k1, k2⟩ := ih hH
    have hy : ∀ (j : Nat) (q : Tp), t[j]? = some q → y.v.ownBlock = none ∨ y.v.ownBlock ≠ q.v.ownBlock := by
      intro j q hq
      cases hb : y.v.ownBlock with
      | none => exact .inl rfl
      | some g =>
        refine .inr fun e => ?_
        exact d g (by rw [e1, hb]; simp) ((k1 j q hq).2 g (by rw [← e]; simp))
    refine ⟨fun i p hp => ?_, fun i j p q hij hp hq => ?_⟩
    · cases i with
      | zero =>
        simp only [List.getElem?_cons_zero, Option.some.injEq] at hp
        subst hp
        exact ⟨h1, fun g hg => by rw [← e1] at hg; simp [hg]⟩
      | succ i =>
        obtain ⟨a, b⟩ := k1 i p (by simpa using hp)
        exact ⟨a, fun g hg => List.mem_append.2 (.inr (b g hg))⟩
    · cases i with
      | zero =>
        simp only [List.getElem?_cons_zero, Option.some.injEq] at hp
        subst hp
        cases j with
        | zero => exact absurd rfl hij
        | succ j => exact hy j q (by simpa using hq)
      | succ i =>
        cases j with
        | zero =>
          simp only [List.getElem?_cons_zero, Option.some.injEq] at hq
          subst hq
          rcases hy i p (by simpa using hp) with h | h
          · cases hb : p.v.ownBlock with
            | none => exact .inl rfl
            | some g => exact .inr (by rw [h]; simp)
          · exact .inr (Ne.symm h)
        | succ j => exact k2 i j p q (by omega) (by simpa using hp) (by simpa using hq)

set_option maxHeartbeats 1000000 in
theorem apart_nil (w : World) : Calls Try.prog 19 #[.slice none 0 0] w fun e w' => e = .returned (.bool true) ∧ w = w' := by
  go_enter Try.func19, Try.ntmps19
  go_wp2
  go_loopw [3] (fun i wr => i = .int .i64 0 ∧ w = wr) (fun _ _ => 0)
  case atStart => exact ⟨rfl, rfl⟩
  case round =>
    obtain ⟨rfl, e1⟩ := hrel
    go_wp2
    go_loopw [6] (fun i wr2 => i = .int .i64 0 ∧ w = wr2) (fun _ _ => 0)
    case atStart => exact ⟨rfl, e1⟩
    case round =>
      obtain ⟨rfl, e2⟩ := hrel
      go_wp2
      go_loopw [9] (fun i wr3 => i = .int .i64 0 ∧ w = wr3) (fun _ _ => 0)
      case atStart => exact ⟨rfl, e2⟩
      case round =>
        obtain ⟨rfl, e3⟩ := hrel
        go_wp2
        go_ret
        exact ⟨rfl, e3⟩

theorem apart_big {w0 w : World} {E : Env} (H : St w0 [] w E) (k kt : Nat) (tps : List Tp) (A : Option Addr) (n c : Nat) (hk : E k = some (bigO Tp.own tps)) (ht : E kt = some (.row 22 1 (.slice A n c) n (tps.map Tp.v))) (hn : tps.length = n) (hn' : n ≤ 1000) (hl : ∀ p ∈ tps, p.l.length ≤ 140737488355320) :
    Calls Try.prog 19 #[.slice A n c] w fun e w' => e = .returned (.bool true) ∧ Below w0.heap.size w0 w' := by
  rcases (H.row kt ht).2 with ⟨e, -⟩ | ⟨gL, cap, cur, e, -⟩
  · rw [e]
    refine (apart_nil w).mono ?_
    rintro e w' ⟨rfl, rfl⟩
    exact ⟨rfl, H.below⟩
  · injection e with e1 e2 e3
    subst e1
    obtain ⟨F, hF, hF0, -, -⟩ := H.change k hk
    obtain ⟨k1, k2⟩ := tp_hp hF
    have hp : Hp w w0.heap.size (tps.map fun p => (p.v, p.l)) := by
      refine ⟨fun i p hp => ?_, fun i j p q hij hp hq => ?_⟩
      · rw [List.getElem?_map] at hp
        obtain ⟨t, h1, rfl⟩ := Option.map_eq_some_iff.1 hp
        obtain ⟨a, b⟩ := k1 i t h1
        exact ownsRow_base a fun g hg => by have := hF0 g (b g hg); simpa using this
      · rw [List.getElem?_map] at hp hq
        obtain ⟨t, h1, rfl⟩ := Option.map_eq_some_iff.1 hp
        obtain ⟨s, h2, rfl⟩ := Option.map_eq_some_iff.1 hq
        exact k2 i j t s hij h1 h2
    have hfam := hp.fam
    rw [List.length_map, hn, List.map_map, List.map_map] at hfam
    have hL : LR w gL n c (tps.map Tp.v) := H.row kt ht
    refine (apartBytes_any gL n c w0.heap.size _ _ w hL hfam hn' H.low.size ?_).mono fun e w' he => ⟨he.1, H.below.trans he.2⟩
    intro j hj
    rw [List.getD_eq_getElem?_getD, List.getElem?_map, List.getElem?_eq_getElem (by omega)]
    exact hl _ (List.getElem_mem _)
end Go.Proofs.Ytcnphkmcgefjoaa

namespace Go.Proofs.Ytcnphkmcgefjoaa
open Go.RowKit
set_option linter.unusedVariables false

/-- n bytes from a on -/
def fld (l : List UInt8) (a n : Nat) : List UInt8 := (l.drop a).take n
theorem fld_length (l : List UInt8) (a n : Nat) (h : a + n ≤ l.length) : (fld l a n).length = n := by simp [fld]; omega
theorem Rd.fld {w : World} {b o n : Nat} {l : List UInt8} (h : Rd w 1 (some ⟨b, o, none⟩) n (l.map vb)) (a m : Nat) (hm : a + m ≤ n) {A : Option Addr} (hA : A = some ⟨b, o + a, none⟩) : Rd w 1 A m ((fld l a m).map vb) := by
  have hl : l.length = n := by simpa using h.1
  refine ⟨by simp [Go.Proofs.Ytcnphkmcgefjoaa.fld]; omega, fun hn => ⟨_, hA, ?_, fun j u hu => ?_⟩⟩
  · obtain ⟨ad, e, hb, -⟩ := h.2 (by omega)
    injection e with e; subst e; exact hb
  · obtain ⟨ad, e, -, hc⟩ := h.2 (by omega)
    injection e with e; subst e
    have hj : j < ((Go.Proofs.Ytcnphkmcgefjoaa.fld l a m).map vb).length := (List.getElem?_eq_some_iff.1 hu).1
    have hj2 : j < m := by simp [Go.Proofs.Ytcnphkmcgefjoaa.fld] at hj; omega
    have h2 := hc (a + j) u (by
      rw [← hu]
      simp [Go.Proofs.Ytcnphkmcgefjoaa.fld, List.getElem?_drop, hj2])
    rw [Addr.add_mid] at h2 ⊢
    rw [Nat.add_assoc]; exact h2

theorem Rd.fld_if {w : World} {b o n : Nat} {l : List UInt8} (h : Rd w 1 (some ⟨b, o, none⟩) n (l.map vb)) (a m c : Nat) (hm : a + m ≤ n) (hc : n ≤ c) : Rd w 1 (if c = a then some ⟨b, o, none⟩ else some ⟨b, o + a, none⟩) m ((Go.Proofs.Ytcnphkmcgefjoaa.fld l a m).map vb) := by
  by_cases hca : c = a
  · obtain rfl : m = 0 := by omega
    exact ⟨by simp [Go.Proofs.Ytcnphkmcgefjoaa.fld], fun h => by omega⟩
  · exact h.fld a m hm (by rw [if_neg hca])
def Held (p : Prop) : Prop := p
theorem hold_here {p : Prop} (h : Held p) : p := h
theorem Held.go {p : Prop} (h : p) : Held p := h
theorem absorb_post {Q : Exit → Act → World → Prop} {a : Act} {w0 w : World} {F0 : List Nat} {E : Env} (H : St w0 F0 w E) (h : ∀ w', St w0 F0 w' E → Q .normal a w') : Q .normal a w := h w H
theorem Rd.zero {w : World} {A : Option Addr} {m : Nat} (h : m = 0) : Rd w 1 A m (([] : List UInt8).map vb) := ⟨by simp [h], fun h' => by omega⟩

theorem own_enc {w : World} {base n : Nat} {v : Value} {l : List UInt8} {xs : List Value} (h : l.map vb = xs) (ho : w.ownsRow base 5 1 v n xs) (hn : n = l.length) : OwnB w base v l := by
  subst h hn; exact ho
theorem St.pushOwnB {w0 w w' : World} {F0 : List Nat} {E : Env} {v : Value} {l : List UInt8} (H : St w0 F0 w E) (k : Nat) (hk : E k = none) (ho : OwnB w' w.heap.size v l) (hb : Below w.heap.size w w') : St w0 F0 w' (upd E k (.row 5 1 v l.length (l.map vb))) := H.pushRow k hk hb ho
theorem St.lit {w0 w : World} {F0 : List Nat} {E : Env} (H : St w0 F0 w E) (k : Nat) (hk : E k = none) (e : TypeId) (cs : Array Value) (n : Nat) (hn : cs.size = n) (h1 : n ≤ 1000) (b : Nat) (hb : b = w.heap.size) : St w0 F0 (w.alloc (.cells cs e)) (upd E k (.row e 1 (.slice (some ⟨b, 0, none⟩) n n) n cs.toList)) := by
  subst hb
  exact H.pushRow k hk ((Below.refl _ _).alloc (Nat.le_refl _) _) (World.ownsRow_lit w cs n (Nat.le_refl _) (by simp only [maxLen]; omega) (by omega))
theorem St.shape_row {w0 w : World} {F0 : List Nat} {L : List Own} {e : TypeId} {v : Value} {n n' : Nat} {xs xs' : List Value} (H : St w0 F0 w (lay L)) (k : Nat) (hk : L[k]? = some (.row e 1 v n xs)) (hn : n = n') (hx : xs = xs') : St w0 F0 w (lay (L.set k (.row e 1 v n' xs'))) := by
  subst hn hx
  have h := List.getElem?_eq_some_iff.1 hk
  obtain ⟨h1, h2⟩ := h
  rw [← h2, List.set_getElem_self]
  exact H
theorem St.perm {w0 w : World} {F0 : List Nat} {L L' : List Own} (H : St w0 F0 w (lay L)) (p : List Nat) (n : Nat) (hn : L'.length = n) (hp : ∀ i, i < n → ∀ j, j < n → p.getD i 0 = p.getD j 0 → i = j) (h : ∀ i, i < n → L[p.getD i 0]? = L'[i]?) : St w0 F0 w (lay L') := by
  obtain ⟨lo, Fs, h1, h2⟩ := H
  have hl : ∀ i A, lay L' i = some A → i < n ∧ lay L (p.getD i 0) = some A := by
    intro i A hA
    have hi : i < n := by rw [← hn]; exact (List.getElem?_eq_some_iff.1 hA).1
    exact ⟨hi, (h i hi).trans hA⟩
  exact ⟨lo, fun k => Fs (p.getD k 0), fun i A hA => h1 _ A (hl i A hA).2, fun i j A B hij hA hB => h2 _ _ A B (fun e => hij (hp i (hl i A hA).1 j (hl j B hB).1 e)) (hl i A hA).2 (hl j B hB).2⟩
/-- one piece alone is kept -/
theorem St.only {w0 w : World} {F0 : List Nat} {L : List Own} {A : Own} (H : St w0 F0 w (lay L)) (i : Nat) (h : L[i]? = some A) : St w0 F0 w (lay [A]) :=
  H.perm [i] 1 rfl (by intro i hi j hj _; omega) (by
    intro j hj
    obtain rfl : j = 0 := by omega
    exact h)
theorem Rd.front {w : World} {A : Option Addr} {n m : Nat} {l k : List UInt8} (h : Rd w 1 A m ((l ++ k).map vb)) (hn : l.length = n) (hm : n ≤ m) : Rd w 1 A n (l.map vb) := by
  have := h.take hm
  rw [List.take_left' hn] at this
  exact this
theorem b_bne (x : Int) : (x != x) = false := by simp
theorem u8_wrap (x : Nat) : IntKind.u8.wrap (x : Int) = ((UInt8.ofNat (x % 256)).toNat : Int) := by
  rw [UInt8.toNat_ofNat', IntKind.wrap_u8]
  omega

/-- append of noughts: 'append(s, make([]byte, k)...)' -/
theorem zeroCells_one (z : Value) (k : Nat) : (Builtin.zeroCells #[z] k).toList = List.replicate k z := by
  refine List.ext_getElem? fun i => ?_
  simp [Builtin.zeroCells, List.getElem?_replicate]
  by_cases h : i < k
  · simp [h, Nat.mod_one]
  · simp [h]
theorem run_append_zeros {P : Program} (w : World) (base : Nat) (t tn ty e : TypeId) (i : TypeInfo) (z : Value) (kn : IntKind) (ht : P.underlying t = some (.slice e)) (htn : P.underlying tn = some (.int kn)) (hi : P.info? e = some i) (hz : i.zero = some z)
    (hsize : i.size = 1) (hby : i.bytes = 1) (hzs : z.cells = #[z]) (hz1 : z.oneCell' = true)
    (v : Value) (n : Nat) (xs : List Value) (hown : w.ownsRow base e 1 v n xs) (k : Nat) (hk : n + k ≤ 140737488355328) (hbase : base ≤ w.heap.size) :
    ∃ v' w', (Builtin.append_ #[t, tn] ty #[v, .int .i64 (k : Int)]).run P w = .ok v' w' ∧ w'.ownsRow base e 1 v' (n + k) (xs ++ List.replicate k z) ∧ w.grownBy w' v.ownBlock ∧ (v'.ownBlock = v.ownBlock ∨ v'.ownBlock = some w.heap.size) := by
  have hw : IntKind.i64.wrap (k : Int) = k := by rw [IntKind.wrap_i64]; omega
  have hneg : ¬ ((k : Int) < 0) := by omega
  have h48i : ¬ (281474976710656 < (k : Int)) := by omega
  have hlen : (xs ++ List.replicate k z).length = (n + k) * 1 := by rw [List.length_append, hown.1, List.length_replicate]; omega
  have hzl : (Builtin.zeroCells z.cells k).size = k := by rw [hzs]; simp [Builtin.zeroCells]
  have grown : ∀ (old : Nat) (pre : Array Value), pre.toList = xs →
      (w.drew.alloc (.cells (pre ++ Builtin.zeroCells z.cells k ++ Builtin.zeroCells z.cells (grownCap w (n + k) old e - (n + k))) e)).ownsRow base e 1
        (.slice (some ⟨w.heap.size, 0, none⟩) (n + k) (grownCap w (n + k) old e)) (n + k) (xs ++ List.replicate k z) := by
    intro old pre hpre
    have hge := grownCap_ge w (n + k) old e
    have hcm : grownCap w (n + k) old e ≤ maxLen := grownCap_le_maxLen w (n + k) old e (by simp only [maxLen]; omega)
    have hps : pre.size = n := by rw [← Array.length_toList, hpre]; have := hown.1; omega
    refine ⟨hlen, .inr ⟨w.heap.size, _, _, rfl, hbase, heap_alloc_new w.drew _, hge, hcm, ?_, ?_⟩⟩
    · simp only [Array.size_append, hps, hzl]
      rw [hzs]
      simp [Builtin.zeroCells]
      try omega
    · simp only [Array.toList_append]
      rw [hpre, hzs, zeroCells_one, ← hlen]
      exact List.take_left
  have hbel : ∀ o, w.grownBy (w.drew.alloc o) v.ownBlock := fun o => by
    have hb : Below w.heap.size w (w.drew.alloc o) := (Below.refl _ _).drew.alloc (Nat.le_refl _) _
    exact ⟨hb.os, hb.tape, hb.output, hb.size, fun k hk _ => hb.block k hk⟩
  rcases hown.2 with ⟨rfl, rfl⟩ | ⟨g, cap, cur, rfl, hbg, hg, hnc, hcm, hcs, htake⟩
  · have hx : xs = [] := List.eq_nil_of_length_eq_zero (by simpa using hown.1)
    subst hx
    rcases Nat.eq_zero_or_pos k with h0 | h0
    · subst h0
      refine ⟨.slice none 0 0, w, ?_, by simpa using hown, World.grownBy.refl w _, .inl rfl⟩
      simp [Builtin.append_, run_underlying ht, run_underlying htn, sizeOf, typeInfo, hi, asInt, asIntOf, show IntKind.i64.wrap 0 = 0 from rfl]
    · have hr := Go.Lib.run_append_nil_zeros (P := P) w t tn ty e i z .i64 kn ht htn hi hz k h0 (by omega) (by omega) (by rw [hby]; omega)
      have hgr := grown 0 #[] rfl
      simp only [Nat.zero_add, Array.empty_append] at hgr
      refine ⟨_, _, hr, ?_, hbel _, .inr rfl⟩
      simpa using hgr
  · by_cases hroom : n + k ≤ cap
    · rcases Nat.eq_zero_or_pos k with h0 | h0
      · subst h0
        refine ⟨.slice (some ⟨g, 0, none⟩) n cap, w, ?_, by simpa using hown, World.grownBy.refl w _, .inl rfl⟩
        simp [Builtin.append_, run_underlying ht, run_underlying htn, sizeOf, typeInfo, hi, asInt, asIntOf, show IntKind.i64.wrap 0 = 0 from rfl, hnc, storeCells]
      · have hst := run_storeCells_at P g (n * 1) e (List.replicate k z) 0 cur w hg (by simp; omega) (by intro u hu; rw [List.eq_of_mem_replicate hu]; exact hz1)
        simp only [Nat.add_zero, Nat.mul_one] at hst
        have hns : ¬ (k = 0) := by omega
        have hzt : (Builtin.zeroCells z.cells k).toList = List.replicate k z := by rw [hzs]; exact zeroCells_one z k
        have hrun : (Builtin.append_ #[t, tn] ty #[.slice (some ⟨g, 0, none⟩) n cap, .int .i64 (k : Int)]).run P w = .ok (.slice (some ⟨g, 0, none⟩) (n + k) cap) (w.setRow g (cur.toList.take n ++ List.replicate k z ++ cur.toList.drop (n + (List.replicate k z).length)).toArray) := by
          simp [Builtin.append_, run_underlying ht, run_underlying htn, sizeOf, typeInfo, zeroValue, hi, hz, hsize, hby, asInt, asIntOf, hw, hneg, h48i, hns, hroom, hzt, Addr.add_lit]
          have h9 := hst
          simp at h9 ⊢
          rw [h9]
          rfl
        refine ⟨_, _, hrun, ⟨hlen, .inr ⟨g, cap, _, rfl, hbg, setRow_heap w g cur _ e _ hg, hroom, hcm, ?_, ?_⟩⟩, ⟨rfl, rfl, rfl, by simp, fun k _ hk => setRow_other w g k _ (fun e => hk (by simp [Value.ownBlock, e]))⟩, .inl rfl⟩
        · simp only [List.size_toArray, List.length_append, List.length_take, List.length_drop, Array.length_toList, List.length_replicate]
          omega
        · rw [← hlen]
          have : cur.toList.take n = xs := by rw [← htake, Nat.mul_one]
          rw [this]
          exact List.take_left
    · have hx1 : cur.toList.take (n * 1) = xs := htake
      have hold := run_firstCells_some (P := P) w.drew i.size n ⟨g, 0, none⟩ n cap xs (by rw [hsize]; exact hown.1) (by simpa using hown.cells (g := g) rfl)
      have h0 : 0 < k := by omega
      have hr := Go.Lib.run_append_grow_zeros (P := P) w t tn ty e i z .i64 kn ht htn hi hz (some ⟨g, 0, none⟩) n cap xs hold k h0 (by omega) (by omega) (by omega) (by rw [hby]; omega) (growslice_fits (by omega) (by rw [hby]; omega))
      exact ⟨_, _, hr, grown cap xs.toArray (by simp), hbel _, .inr rfl⟩
end Go.Proofs.Ytcnphkmcgefjoaa

namespace Go.Proofs.Ytcnphkmcgefjoaa
open Go.RowKit
set_option linter.unusedVariables false
set_option maxRecDepth 100000

theorem Rd.frontB {w : World} {A : Option Addr} {n m : Nat} {l k : List UInt8} (h : Rd w 1 A m ((l ++ k).map vb)) (hn : l.length = n) (hm : n ≤ m) : Rd w 1 A n (l.map vb) := by
  have := h.take hm
  rw [List.take_left' hn] at this
  exact this

/-- a piece known less well -/
theorem St.blur {w0 w : World} {F0 : List Nat} {L : List Own} {α : Type} {A : α → Own} (H : St w0 F0 w (lay L)) (a : α) (i : Nat) (hi : L[i]? = some (A a)) : St w0 F0 w (lay (L.set i (.ex A))) :=
  (St.shutEx a H i hi).upd_mk (List.getElem?_eq_some_iff.1 hi).1

theorem upd_push {L : List Own} {k : Nat} {A : Own} (h : k = L.length) : upd (lay L) k A = lay (L ++ [A]) := by
  funext i
  subst h
  simp only [lay, upd]
  by_cases hi : i = L.length
  · subst hi; simp
  · rw [if_neg hi]
    rcases Nat.lt_or_ge i L.length with h1 | h1
    · rw [List.getElem?_append_left h1]
    · rw [List.getElem?_eq_none h1, List.getElem?_eq_none (by rw [List.length_append, List.length_singleton]; omega)]

theorem load_guard2 {P : Program} {ops : Array Oper} {rest : List Oper} {o : Oper} {a : Act} {w : World} {Q : Exit → Act → World → Prop} (hw : Region.wanted o (yielded ops a.tmps) = true) (ty : TypeId) (x : Operand) (ho : o.op = .load ty x)
    (g : Nat) (hx : a.eval x = .pointer (some ⟨g, 0, none⟩)) (t : TypeId) (cs : Array Value) (fr : Nat × Nat) (d : TypeDesc) (hg : w.heap[g]? = some (.cells cs t fr))
    (hu : P.underlying ty = some d) (hd : (match d with | .struct _ | .array _ _ => true | _ => false) = true) (hi : (P.info? ty).map (·.size) = some cs.size)
    (h : wpList P ops Q rest (a.put o.dst (.agg cs)) w) : wpList P ops Q (o :: rest) a w := by
  unfold wpList
  rw [if_pos hw]
  exact .inl (wp_load_row ty x ho g hx t cs fr d hg hu hd hi h)

theorem hx_cell {w : World} {g o : Nat} {T : TypeId} {cs : List Value} {u : Value} (h : w.heap[g]? = some (.cells cs.toArray T (0, 0))) (hu : cs[o]? = some u) : w.cell? ⟨g, o, none⟩ = some u := by
  rw [cell_of_row w g o _ _ _ h]; simpa using hu

theorem tp_cell {w : World} {e : TypeId} {g n c j : Nat} {tps : List Tp} {tp : Tp} {f : Tp → Value} (h : w.ownsRow 0 e 1 (.slice (some ⟨g, 0, none⟩) n c) n (tps.map f)) (hj : tps[j]? = some tp) (hn : tps.length = n) : w.cell? ⟨g, j, none⟩ = some (f tp) := by
  have hl : j < tps.length := (List.getElem?_eq_some_iff.1 hj).1
  rw [World.ownsRow.cellAt h j (by omega), List.getElem?_map, hj]
  rfl

section
variable {w0 w : World} {F0 : List Nat} {E : Env}

theorem lent_st {L : List Own} (A : Option Addr) (n c : Nat) (l : List UInt8) (H : St w0 F0 w (lay L)) (hR : Rd w 1 A n (l.map vb)) (hn : n ≤ 140737488355320) :
    Calls Try.prog 9 #[.slice A n c] w fun e w' => ∃ g cF, n + 6 ≤ cF ∧ e = .returned (.slice (some ⟨g, 0, none⟩) (n + 6) cF) ∧ St w0 F0 w' (lay (L ++ [.row 5 1 (.slice (some ⟨g, 0, none⟩) (n + 6) cF) (n + 6) ((l ++ marksB 7 0 6).map vb)])) := by
  have hl : l.length = n := by simpa using hR.1
  refine (lentBytes_any A n c l w hR hn).mono ?_
  rintro e w' ⟨v, rfl, ho, hb⟩
  obtain ⟨g, cF, rfl, hcF, -, -⟩ := ho.lent hl
  refine ⟨g, cF, hcF, rfl, ?_⟩
  unfold OwnB at ho
  rw [List.length_append, marksB_length, hl] at ho
  exact (H.pushRow L.length (by simp [lay]) hb ho).push_mk rfl
end
end Go.Proofs.Ytcnphkmcgefjoaa

namespace Go.Proofs.Ytcnphkmcgefjoaa
open Go.RowKit
set_option linter.unusedVariables false
set_option maxRecDepth 100000

attribute [local irreducible] comp2 hTo dig2 laid4 h2 padM form2 lastN

theorem St.dropOne {w0 w : World} {F0 : List Nat} {L : List Own} {X A : Own} (H : St w0 F0 w (lay (L ++ [X, A]))) : St w0 F0 w (lay (L ++ [A])) :=
  H.pick (fun i => if i < L.length then i else i + 1) (fun i j h => by split at h <;> split at h <;> omega) fun k C hC => by
    simp only [lay] at hC ⊢
    by_cases hk : k < L.length
    · rw [if_pos hk, List.getElem?_append_left hk]
      rwa [List.getElem?_append_left hk] at hC
    · rw [if_neg hk, List.getElem?_append_right (by omega)]
      rw [List.getElem?_append_right (by omega)] at hC
      have e : k - L.length = 0 := by
        have := (List.getElem?_eq_some_iff.1 hC).1
        simp at this
        exact this
      rw [show k + 1 - L.length = 1 by omega]
      rw [e] at hC
      exact hC

theorem wr_div (n k : Nat) (hn : n ≤ 1000000000) (hk : k ≤ 1000000000) : IntKind.i64.wrap (IntKind.i64.wrap (((n : Int) + (k : Int)) / 64) - (n : Int) / 64) = (((n + k) / 64 - n / 64 : Nat) : Int) := by
  rw [IntWalk.i64_in (((n : Int) + (k : Int)) / 64) (by omega), IntWalk.i64_in _ (by omega)]
  omega

theorem rst_size : (Try.prog.info? 90).map (·.size) = some 2 := by kernel_rfl
theorem zero_rst (w : World) : (zeroValue 90).run Try.prog w = .ok (.agg #[.slice none 0 0, .bool false]) w := by kernel_rfl

/-- nil, or a State that is not made -/
def RtNo (w : World) (s : Value) : Prop := s = .pointer none ∨ ∃ g, s = lptr g ∧ w.cell? ⟨g, 1, none⟩ = some (.bool false)

theorem hold_store2 {P : Program} {ops : Array Oper} {rest : List Oper} {o : Oper} {a : Act} {Q : Exit → Act → World → Prop} {w : World} (ty : TypeId) (x y : Operand) (ho : o.op = .store ty x y) (h : Hid (wpList P ops Q (o :: rest) a w)) : wpList P ops Q (o :: rest) a w := h

section
variable {w0 w : World} {F0 : List Nat} {E : Env}

theorem rtNone_no (g : Nat) (w : World) (hc : w.cell? ⟨g, 1, none⟩ = some (.bool true)) : Calls Try.prog 63 #[lptr g] w fun e w' => e = .returned (.bool false) ∧ w = w' := by
  unfold lptr
  go_enter Try.func63, Try.ntmps63
  go_wp2
  go_ret
  exact ⟨rfl, rfl⟩
theorem rtNone_nil (w : World) : Calls Try.prog 63 #[.pointer none] w fun e w' => e = .returned (.bool true) ∧ w = w' := by
  go_enter Try.func63, Try.ntmps63
  go_wp2
  go_ret
  exact ⟨rfl, rfl⟩
theorem rtNone_off (g : Nat) (w : World) (hc : w.cell? ⟨g, 1, none⟩ = some (.bool false)) : Calls Try.prog 63 #[lptr g] w fun e w' => e = .returned (.bool true) ∧ w = w' := by
  unfold lptr
  go_enter Try.func63, Try.ntmps63
  go_wp2
  go_ret
  exact ⟨rfl, rfl⟩

theorem rtSum_none (l : Value) (s : Value) (h : RtNo w s) : Calls Try.prog 50 #[s, l] w fun e w' => e = .returned (.tuple #[.slice none 0 0, .int .i64 1]) ∧ w = w' := by
  rcases h with rfl | ⟨g, rfl, c0⟩
  · go_enter Try.func50, Try.ntmps50
    go_wp2_with fail
    refine (rtNone_nil w).mono ?_
    rintro e w1 ⟨rfl, rfl⟩
    go_wp2
    go_ret2
    exact ⟨rfl, rfl⟩
  · go_enter Try.func50, Try.ntmps50
    go_wp2_with fail
    refine (rtNone_off g w c0).mono ?_
    rintro e w1 ⟨rfl, rfl⟩
    go_wp2
    go_ret2
    exact ⟨rfl, rfl⟩

theorem rtClone_none (s : Value) (h : RtNo w s) : Calls Try.prog 52 #[s] w fun e w' => e = .returned (.tuple #[.pointer none, .int .i64 1]) ∧ w = w' := by
  rcases h with rfl | ⟨g, rfl, c0⟩
  · go_enter Try.func52, Try.ntmps52
    go_wp2_with fail
    refine (rtNone_nil w).mono ?_
    rintro e w1 ⟨rfl, rfl⟩
    go_wp2
    go_ret2
    exact ⟨rfl, rfl⟩
  · go_enter Try.func52, Try.ntmps52
    go_wp2_with fail
    refine (rtNone_off g w c0).mono ?_
    rintro e w1 ⟨rfl, rfl⟩
    go_wp2
    go_ret2
    exact ⟨rfl, rfl⟩

theorem rtWrite_none (l v : Value) (s : Value) (h : RtNo w s) : Calls Try.prog 48 #[s, l, v] w fun e w' => e = .returned (.int .i64 1) ∧ w = w' := by
  rcases h with rfl | ⟨g, rfl, c0⟩
  · go_enter Try.func48, Try.ntmps48
    go_wp2_with fail
    refine (rtNone_nil w).mono ?_
    rintro e w1 ⟨rfl, rfl⟩
    go_wp2
    go_ret
    exact ⟨rfl, rfl⟩
  · go_enter Try.func48, Try.ntmps48
    go_wp2_with fail
    refine (rtNone_off g w c0).mono ?_
    rintro e w1 ⟨rfl, rfl⟩
    go_wp2
    go_ret
    exact ⟨rfl, rfl⟩

theorem rtReset_none (s : Value) (h : RtNo w s) : Calls Try.prog 53 #[s] w fun e w' => e = .returned (.int .i64 1) ∧ w = w' := by
  rcases h with rfl | ⟨g, rfl, c0⟩
  · go_enter Try.func53, Try.ntmps53
    go_wp2_with fail
    refine (rtNone_nil w).mono ?_
    rintro e w1 ⟨rfl, rfl⟩
    go_wp2
    go_ret
    exact ⟨rfl, rfl⟩
  · go_enter Try.func53, Try.ntmps53
    go_wp2_with fail
    refine (rtNone_off g w c0).mono ?_
    rintro e w1 ⟨rfl, rfl⟩
    go_wp2
    go_ret
    exact ⟨rfl, rfl⟩

theorem rtWipe_none (l : Value) (s : Value) (h : RtNo w s) : Calls Try.prog 54 #[s, l] w fun e w' => e = .returned (.int .i64 1) ∧ w = w' := by
  rcases h with rfl | ⟨g, rfl, c0⟩
  · go_enter Try.func54, Try.ntmps54
    go_wp2_with fail
    refine (rtNone_nil w).mono ?_
    rintro e w1 ⟨rfl, rfl⟩
    go_wp2
    go_ret
    exact ⟨rfl, rfl⟩
  · go_enter Try.func54, Try.ntmps54
    go_wp2_with fail
    refine (rtNone_off g w c0).mono ?_
    rintro e w1 ⟨rfl, rfl⟩
    go_wp2
    go_ret
    exact ⟨rfl, rfl⟩

theorem rtForm_none (s : Value) (h : RtNo w s) : Calls Try.prog 55 #[s] w fun e w' => e = .returned (.slice none 0 0) ∧ w = w' := by
  rcases h with rfl | ⟨g, rfl, c0⟩
  · go_enter Try.func55, Try.ntmps55
    go_wp2_with fail
    refine (rtNone_nil w).mono ?_
    rintro e w1 ⟨rfl, rfl⟩
    go_wp2
    go_ret
    exact ⟨rfl, rfl⟩
  · go_enter Try.func55, Try.ntmps55
    go_wp2_with fail
    refine (rtNone_off g w c0).mono ?_
    rintro e w1 ⟨rfl, rfl⟩
    go_wp2
    go_ret
    exact ⟨rfl, rfl⟩

theorem rtLen_none (s : Value) (h : RtNo w s) : Calls Try.prog 56 #[s] w fun e w' => e = .returned (.int .i64 0) ∧ w = w' := by
  rcases h with rfl | ⟨g, rfl, c0⟩
  · go_enter Try.func56, Try.ntmps56
    go_wp2_with fail
    refine (rtNone_nil w).mono ?_
    rintro e w1 ⟨rfl, rfl⟩
    go_wp2
    go_ret
    exact ⟨rfl, rfl⟩
  · go_enter Try.func56, Try.ntmps56
    go_wp2_with fail
    refine (rtNone_off g w c0).mono ?_
    rintro e w1 ⟨rfl, rfl⟩
    go_wp2
    go_ret
    exact ⟨rfl, rfl⟩

theorem rtLen_s (g : Nat) (l : Value) (r : Option (List RunT)) (Av : Option Addr) (n cv : Nat) (M : List UInt8) (H : St w0 F0 w (lay [ledR l r, .blk g 90 [.slice Av n cv, .bool true], .row 5 1 (.slice Av n cv) n (M.map vb)])) :
    Calls Try.prog 56 #[lptr g] w fun e w' => e = .returned (.int .i64 (n : Int)) ∧ w = w' := by
  have c1 := H.cell 1 rfl (o := 1) rfl
  have c0 := H.cell 1 rfl (o := 0) rfl
  go_enter Try.func56, Try.ntmps56
  go_wp2_with fail
  refine (rtNone_no g w c1).mono ?_
  rintro e w1 ⟨rfl, rfl⟩
  unfold lptr
  go_wp2
  go_ret
  exact ⟨rfl, rfl⟩

theorem rtReset_s (g : Nat) (l : Value) (r : Option (List RunT)) (Av : Option Addr) (n cv : Nat) (M : List UInt8) (H : St w0 F0 w (lay [ledR l r, .blk g 90 [.slice Av n cv, .bool true], .row 5 1 (.slice Av n cv) n (M.map vb)])) :
    Calls Try.prog 53 #[lptr g] w fun e w' => e = .returned (.int .i64 0) ∧ St w0 F0 w' (lay [ledR l r, .blk g 90 [.slice none 0 0, .bool true], .row 5 1 (.slice none 0 0) 0 (([] : List UInt8).map vb)]) := by
  have c1 := H.cell 1 rfl (o := 1) rfl
  have c0 := H.cell 1 rfl (o := 0) rfl
  have hfr := H.free 1 rfl 0
  have hst := (H.store 1 rfl (o := 0) (u := .slice none 0 0)).upd_mk (by simp)
  go_enter Try.func53, Try.ntmps53
  go_wp2_with fail
  refine (rtNone_no g w c1).mono ?_
  rintro e w1 ⟨rfl, rfl⟩
  unfold lptr
  go_wp2
  go_ret
  have h2 := (hst.front 2).nilRow 2 rfl 5 1 |>.push_mk rfl
  exact ⟨rfl, h2⟩

theorem rtWipe_s (g : Nat) (l : Value) (r : Option (List RunT)) (m : Nat) (b : Int) (Av : Option Addr) (n cv : Nat) (M : List UInt8) (H : St w0 F0 w (lay [ledR l r, .blk g 90 [.slice Av n cv, .bool true], .row 5 1 (.slice Av n cv) n (M.map vb)])) (hg : LW r m b) (hm : m ≤ 999999999999) (hb : b ≤ 4000000000000000000) :
    Calls Try.prog 54 #[lptr g, l] w fun e w' => e = .returned (.int .i64 0) ∧ St w0 F0 w' (lay [ledR l (noteN r 8 104 1), .blk g 90 [.slice none 0 0, .bool false]]) := by
  have c1 := H.cell 1 rfl (o := 1) rfl
  have c0 := H.cell 1 rfl (o := 0) rfl
  have hz := zero_rst
  go_enter Try.func54, Try.ntmps54
  go_wp2_with fail
  refine (rtNone_no g w c1).mono ?_
  rintro e w1 ⟨rfl, rfl⟩
  unfold lptr
  clear c0 c1
  go_wp2_with (with_reducible refine hold_store2 90 (.tmp 9) (.tmp 8) (by rfl) ?_)
  refine Lib.hid ?_
  refine wpList_store_mid rfl 90 (.tmp 9) (.tmp 8) rfl g 0 #[.slice none 0 0, .bool false] rfl rfl (by have h := H.there 1 rfl; exact h) (by rw [rst_size]; rfl) (by kernel_rfl) ?_
  have H4 := (H.storeAll 1 rfl (vs := [.slice none 0 0, .bool false]) rfl).upd_mk (by simp)
  show wpList Try.prog _ _ [] _ (w.setCells g 0 [.slice none 0 0, .bool false])
  simp only [Act.put]
  refine absorb_list (H4.front 2) ?_
  clear H4 H
  intro w2 H
  go_wp2_with fail
  refine (refNote_w m b 8 104 H 0 rfl hg (by omega) (by omega)).mono ?_
  rintro e w3 ⟨rfl, H1⟩
  rw [upd_laid2 (by simp)] at H1
  go_wp2
  go_ret
  exact ⟨rfl, H1⟩

theorem rtNew_s (H : St w0 F0 w E) (k1 k2 : Nat) (hk1 : E k1 = none) (hk2 : E k2 = none) (h12 : k1 ≠ k2) :
    Calls Try.prog 29 #[] w fun e w' => ∃ g, e = .returned (lptr g) ∧ St w0 F0 w' (upd (upd E k1 (.blk g 90 [.slice none 0 0, .bool true])) k2 (.row 5 1 (.slice none 0 0) 0 (([] : List UInt8).map vb))) := by
  have H1 := (H.allocAt k1 hk1 w.heap.size rfl #[.slice none 0 0, .bool true] 90).nilRow k2 (by simp [upd, Ne.symm h12, hk2]) 5 1
  go_enter Try.func29, Try.ntmps29
  go_wp2
  go_ret
  exact ⟨_, rfl, H1⟩

def lastI (n : Nat) : Int := if n % 64 > 55 then 2 else 1
theorem rtLast_s (n : Nat) (w : World) (hn : n ≤ 100000000000) : Calls Try.prog 64 #[.int .i64 (n : Int)] w fun e w' => e = .returned (.int .i64 (lastI n)) ∧ w = w' := by
  by_cases h : n % 64 > 55
  · have h1 : decide ((n : Int) % 64 > 55) = true := by simp; omega
    rw [show lastI n = 2 from if_pos h]
    clear h
    go_enter Try.func64, Try.ntmps64
    go_wp2
    go_ret
    exact ⟨rfl, rfl⟩
  · have h1 : decide ((n : Int) % 64 > 55) = false := by simp; omega
    rw [show lastI n = 1 from if_neg h]
    clear h
    go_enter Try.func64, Try.ntmps64
    go_wp2
    go_ret
    exact ⟨rfl, rfl⟩

set_option maxHeartbeats 4000000 in
theorem rtWrite_s (g : Nat) (l : Value) (r : Option (List RunT)) (m : Nat) (b : Int) (Av : Option Addr) (n cv : Nat) (M : List UInt8) (A : Option Addr) (k cA : Nat) (q : List UInt8) (H : St w0 F0 w (lay [ledR l r, .blk g 90 [.slice Av n cv, .bool true], .row 5 1 (.slice Av n cv) n (M.map vb)])) (hg : LW r m b) (hm : m ≤ 999999999999) (hb : b ≤ 4000000000000000000)
    (hR : ∀ w' X Y Z, St w0 F0 w' (lay [X, Y, Z]) → Rd w' 1 A k (q.map vb)) (hn : n ≤ 1000000000) (hk : k ≤ 1000000000) :
    Calls Try.prog 48 #[lptr g, l, .slice A k cA] w fun e w' => ∃ A7 c7, e = .returned (.int .i64 0) ∧ St w0 F0 w' (lay [ledR l (noteN r 1 64 ((n + k) / 64 - n / 64)), .blk g 90 [.slice A7 (n + k) c7, .bool true], .row 5 1 (.slice A7 (n + k) c7) (n + k) ((M ++ q).map vb)]) := by
  have c1 := H.cell 1 rfl (o := 1) rfl
  have c0 := H.cell 1 rfl (o := 0) rfl
  obtain ⟨i0, hi0, hz0, hz1, hz2⟩ := info_parts u8_info
  have HI := Lib.hid (⟨hi0, hz0, hz1, hz2⟩ : _ ∧ _ ∧ _ ∧ _)
  clear hi0 hz0 hz1 hz2
  have HG := Lib.hid hg
  have HRR := Lib.hid hR
  clear hg hR
  go_enter Try.func48, Try.ntmps48
  go_wp2_with fail
  refine (rtNone_no g w c1).mono ?_
  rintro e w1 ⟨rfl, rfl⟩
  unfold lptr
  have hq1 : (n : Int).tdiv 64 = ((n / 64 : Nat) : Int) := by rw [Int.tdiv_eq_ediv_of_nonneg (by omega)]; omega
  go_wp2_with (at_builtin; refine hold_here' ?_)
  refine Lib.hid ?_
  replace H := (H.nilRow 3 rfl 5 1).push_mk rfl
  refine wpList_append_any _ rfl (.const (.slice none 0 0)) (.tmp 20) _ rfl 0 5 i0 _ 1 1 Try.underlying22 HI.out.1 HI.out.2.1 HI.out.2.2.1 HI.out.2.2.2 rfl (by omega) (.slice none 0 0) 0 [] rfl (H.row 3 rfl) Av n cv (M.map vb) rfl (H.rd 2 rfl) (vb_one _) (by simp only [maxLen]; omega) (by omega) (by omega) ?_
  intro v6 w6 hown6 hg6 hat6
  replace H := ((H.grow 3 rfl hown6 hg6 hat6).upd_mk (by simp))
  clear hown6 hg6 hat6 c0 c1
  replace H := St.dropOne (L := [ledR l r, .blk g 90 [.slice Av n cv, .bool true]]) H
  replace H : St w0 F0 w6 (lay [ledR l r, .blk g 90 [.slice Av n cv, .bool true], .row 5 1 v6 n (M.map vb)]) := by rw [Nat.zero_add, List.nil_append] at H; exact H
  obtain ⟨A6, c6, rfl, -, -⟩ := row_form (H.row 2 rfl)
  go_wp2_with (at_builtin; refine hold_here' ?_)
  refine Lib.hid ?_
  refine wpList_append_any _ rfl (.tmp 21) (.tmp 22) _ rfl 0 5 i0 _ 1 1 Try.underlying22 HI.out.1 HI.out.2.1 HI.out.2.2.1 HI.out.2.2.2 rfl (by omega) (.slice A6 n c6) n (M.map vb) rfl (H.row 2 rfl) A k cA (q.map vb) rfl (HRR.out _ _ _ _ H) (vb_one _) (by simp only [maxLen]; omega) (by omega) (by omega) ?_
  intro v7 w7 hown6 hg6 hat6
  replace H := ((H.grow 2 rfl hown6 hg6 hat6).upd_mk (by simp))
  clear hown6 hg6 hat6
  replace H : St w0 F0 w7 (lay [ledR l r, .blk g 90 [.slice Av n cv, .bool true], .row 5 1 v7 (n + k) ((M ++ q).map vb)]) := by rw [← List.map_append] at H; exact H
  obtain ⟨A7, c7, rfl, -, -⟩ := row_form (H.row 2 rfl)
  have hfr := H.free 1 rfl 0
  have hce := H.cell 1 rfl (o := 0) rfl
  have hst := (H.store 1 rfl (o := 0) (u := .slice A7 (n + k) c7)).upd_mk (by simp)
  clear H
  replace hst : St w0 F0 (w7.setCell ⟨g, 0, none⟩ (.slice A7 (n + k) c7)) (lay [ledR l r, .blk g 90 [.slice A7 (n + k) c7, .bool true], .row 5 1 (.slice A7 (n + k) c7) (n + k) ((M ++ q).map vb)]) := hst
  go_upto_region 5 with (fail)
  refine absorb_wp hst ?_
  clear hst hfr hce
  intro w8 H
  replace H := H.drew
  have HS := H.blur (A := fun r => ledR l r) r 0 rfl
  refine wp_region_held_drew (S := fun w' : World => St w0 F0 w' (lay [.ex (fun r => ledR l r), .blk g 90 [.slice A7 (n + k) c7, .bool true], .row 5 1 (.slice A7 (n + k) c7) (n + k) ((M ++ q).map vb)])) (by kernel_rfl) ?_ (fun hHeld => ?_)
  · exact HS
  refine takeV 0 rfl (by intro w h; clear h; go_simp; try with_reducible rfl) (by kernel_rfl) (by kernel_rfl) (by kernel_rfl) (by exact fun _ _ _ h => h) (by rfl) (by assumption) ?_
  try simp only [Act.put, List.setIfInBounds_toArray, List.set_cons_zero, List.set_cons_succ]
  refine takeV 2 rfl (by intro w h; clear h; go_simp; try with_reducible rfl) (by kernel_rfl) (by kernel_rfl) (by kernel_rfl) (by exact fun _ _ _ h => h) (by rfl) (by assumption) ?_
  try simp only [Act.put, List.setIfInBounds_toArray, List.set_cons_zero, List.set_cons_succ]
  refine takeV 3 rfl (by intro w h; clear h; go_simp; try with_reducible rfl) (by kernel_rfl) (by kernel_rfl) (by kernel_rfl) (by exact fun _ _ _ h => h) (by rfl) (by assumption) ?_
  try simp only [Act.put, List.setIfInBounds_toArray, List.set_cons_zero, List.set_cons_succ]
  refine takeV 4 rfl (by intro w h; clear h; go_simp; try with_reducible rfl) (by kernel_rfl) (by kernel_rfl) (by kernel_rfl) (by exact fun _ _ _ h => h) (by rfl) (by assumption) ?_
  try simp only [Act.put, List.setIfInBounds_toArray, List.set_cons_zero, List.set_cons_succ]
  refine takeV 5 rfl (by intro w h; have hc := h.cell 1 rfl (o := 0) rfl; clear h; go_simp; try with_reducible rfl) (by kernel_rfl) (by kernel_rfl) (by kernel_rfl) (by exact fun _ _ _ h => h) (by rfl) (by assumption) ?_
  try simp only [Act.put, List.setIfInBounds_toArray, List.set_cons_zero, List.set_cons_succ]
  refine takeV 6 rfl (by intro w h; clear h; go_simp; try with_reducible rfl) (by kernel_rfl) (by kernel_rfl) (by kernel_rfl) (by exact fun _ _ _ h => h) (by rfl) (by assumption) ?_
  try simp only [Act.put, List.setIfInBounds_toArray, List.set_cons_zero, List.set_cons_succ]
  refine takeV 7 rfl (by intro w h; clear h; go_simp; try with_reducible rfl) (by kernel_rfl) (by kernel_rfl) (by kernel_rfl) (by exact fun _ _ _ h => h) (by rfl) (by assumption) ?_
  try simp only [Act.put, List.setIfInBounds_toArray, List.set_cons_zero, List.set_cons_succ]
  refine takeV 8 rfl (by intro w h; clear h; go_simp; try with_reducible rfl) (by kernel_rfl) (by kernel_rfl) (by kernel_rfl) (by exact fun _ _ _ h => h) (by rfl) (by assumption) ?_
  try simp only [Act.put, List.setIfInBounds_toArray, List.set_cons_zero, List.set_cons_succ]
  refine takeV 9 rfl (by intro w h; clear h; go_simp; try with_reducible rfl) (by kernel_rfl) (by kernel_rfl) (by kernel_rfl) (by exact fun _ _ _ h => h) (by rfl) (by assumption) ?_
  try simp only [Act.put, List.setIfInBounds_toArray, List.set_cons_zero, List.set_cons_succ]
  refine take_call 1 rfl (by kernel_rfl) (fun K hK => ?_)
  try go_simp
  clear HS hHeld
  refine (refEvent_s _).mono ?_
  rintro e wx ⟨rfl, hb5⟩
  replace H := H.call hb5
  clear hb5
  have HS := (H.blur (A := fun r => ledR l r) _ 0 rfl)
  refine hK.out _ _ ?_ (fun hHeld => ?_)
  · exact HS
  clear hK K
  try simp only [Act.put, List.setIfInBounds_toArray, List.set_cons_zero, List.set_cons_succ]
  refine take_call 10 rfl (by kernel_rfl) (fun K hK => ?_)
  try go_simp
  clear HS hHeld
  refine (refNoteTimes_w m b 1 64 ((n + k) / 64 - n / 64) _ (wr_div n k hn hk) H 0 rfl HG.out (by omega) (by omega) (by omega)).mono ?_
  rintro e wx ⟨rfl, H1⟩
  rw [upd_laid2 (by simp)] at H1
  clear H
  have H : St w0 F0 wx (lay [ledR l (noteN r 1 64 ((n + k) / 64 - n / 64)), .blk g 90 [.slice A7 (n + k) c7, .bool true], .row 5 1 (.slice A7 (n + k) c7) (n + k) ((M ++ q).map vb)]) := H1
  clear H1
  have HS := (H.blur (A := fun r => ledR l r) _ 0 rfl)
  refine hK.out _ _ ?_ (fun hHeld => ?_)
  · exact HS
  clear hK K
  try simp only [Act.put, List.setIfInBounds_toArray, List.set_cons_zero, List.set_cons_succ]
  refine wpAnyH_done (by kernel_rfl) ?_ _
  go_wp2
  go_ret
  exact ⟨_, _, rfl, H⟩

theorem lastN_last (n : Nat) : lastI n = ((lastN n : Nat) : Int) := by
  unfold lastI lastN padZ
  split <;> omega

set_option maxHeartbeats 4000000 in
theorem rtSum_s (g : Nat) (l : Value) (r : Option (List RunT)) (m : Nat) (b : Int) (Av : Option Addr) (n cv : Nat) (M : List UInt8) (H : St w0 F0 w (lay [ledR l r, .blk g 90 [.slice Av n cv, .bool true], .row 5 1 (.slice Av n cv) n (M.map vb)])) (hg : LW r m b) (hm : m ≤ 999999999999) (hb : b ≤ 4000000000000000000) (hn : n ≤ 1000000000) :
    Calls Try.prog 50 #[lptr g, l] w fun e w' => ∃ v, e = .returned (.tuple #[v, .int .i64 0]) ∧ St w0 F0 w' (lay [ledR l (noteN r 1 64 (lastN n)), .blk g 90 [.slice Av n cv, .bool true], .row 5 1 (.slice Av n cv) n (M.map vb), .row 5 1 v 32 ((dig2 M).map vb)]) := by
  have c1 := H.cell 1 rfl (o := 1) rfl
  have c0 := H.cell 1 rfl (o := 0) rfl
  have HG := Lib.hid hg
  clear hg
  have HLN := Lib.hid (lastN_le n)
  have HLT := Lib.hid (lastN_last n)
  go_enter Try.func50, Try.ntmps50
  go_wp2_with fail
  refine (rtNone_no g w c1).mono ?_
  rintro e w1 ⟨rfl, rfl⟩
  unfold lptr
  clear c0 c1
  go_upto_region 3 with (fail)
  refine absorb_wp H ?_
  clear H
  intro w8 H
  replace H := H.drew
  have HS := H.blur (A := fun r => ledR l r) r 0 rfl
  refine wp_region_held_drew (S := fun w' : World => St w0 F0 w' (lay [.ex (fun r => ledR l r), .blk g 90 [.slice Av n cv, .bool true], .row 5 1 (.slice Av n cv) n (M.map vb)])) (by kernel_rfl) ?_ (fun hHeld => ?_)
  · exact HS
  refine takeV 0 rfl (by intro w h; clear h; go_simp; try with_reducible rfl) (by kernel_rfl) (by kernel_rfl) (by kernel_rfl) (by exact fun _ _ _ h => h) (by rfl) (by assumption) ?_
  try simp only [Act.put, List.setIfInBounds_toArray, List.set_cons_zero, List.set_cons_succ]
  refine takeV 2 rfl (by intro w h; clear h; go_simp; try with_reducible rfl) (by kernel_rfl) (by kernel_rfl) (by kernel_rfl) (by exact fun _ _ _ h => h) (by rfl) (by assumption) ?_
  try simp only [Act.put, List.setIfInBounds_toArray, List.set_cons_zero, List.set_cons_succ]
  refine takeV 3 rfl (by intro w h; clear h; go_simp; try with_reducible rfl) (by kernel_rfl) (by kernel_rfl) (by kernel_rfl) (by exact fun _ _ _ h => h) (by rfl) (by assumption) ?_
  try simp only [Act.put, List.setIfInBounds_toArray, List.set_cons_zero, List.set_cons_succ]
  refine takeV 4 rfl (by intro w h; clear h; go_simp; try with_reducible rfl) (by kernel_rfl) (by kernel_rfl) (by kernel_rfl) (by exact fun _ _ _ h => h) (by rfl) (by assumption) ?_
  try simp only [Act.put, List.setIfInBounds_toArray, List.set_cons_zero, List.set_cons_succ]
  refine takeV 5 rfl (by intro w h; have hc := h.cell 1 rfl (o := 0) rfl; clear h; go_simp; try with_reducible rfl) (by kernel_rfl) (by kernel_rfl) (by kernel_rfl) (by exact fun _ _ _ h => h) (by rfl) (by assumption) ?_
  try simp only [Act.put, List.setIfInBounds_toArray, List.set_cons_zero, List.set_cons_succ]
  refine takeV 6 rfl (by intro w h; clear h; go_simp; try with_reducible rfl) (by kernel_rfl) (by kernel_rfl) (by kernel_rfl) (by exact fun _ _ _ h => h) (by rfl) (by assumption) ?_
  try simp only [Act.put, List.setIfInBounds_toArray, List.set_cons_zero, List.set_cons_succ]
  refine take_call 1 rfl (by kernel_rfl) (fun K hK => ?_)
  try go_simp
  clear HS hHeld
  refine (refEvent_s _).mono ?_
  rintro e wx ⟨rfl, hb5⟩
  replace H := H.call hb5
  clear hb5
  have HS := (H.blur (A := fun r => ledR l r) _ 0 rfl)
  refine hK.out _ _ ?_ (fun hHeld => ?_)
  · exact HS
  clear hK K
  try simp only [Act.put, List.setIfInBounds_toArray, List.set_cons_zero, List.set_cons_succ]
  refine take_call 7 rfl (by kernel_rfl) (fun K hK => ?_)
  try go_simp
  refine (rtLast_s n _ (by omega)).mono ?_
  rintro e wx ⟨rfl, rfl⟩
  refine hK.out _ _ ?_ (fun hHeld => ?_)
  · exact HS
  clear hK K
  try simp only [Act.put, List.setIfInBounds_toArray, List.set_cons_zero, List.set_cons_succ]
  refine take_call 8 rfl (by kernel_rfl) (fun K hK => ?_)
  try go_simp
  clear HS hHeld
  refine (refNoteTimes_w m b 1 64 (lastN n) _ HLT.out H 0 rfl HG.out (by omega) (by have := HLN.out; omega) (by have := HLN.out; omega)).mono ?_
  rintro e wx ⟨rfl, H1⟩
  rw [upd_laid2 (by simp)] at H1
  clear H
  have H : St w0 F0 wx (lay [ledR l (noteN r 1 64 (lastN n)), .blk g 90 [.slice Av n cv, .bool true], .row 5 1 (.slice Av n cv) n (M.map vb)]) := H1
  clear H1
  have HS := (H.blur (A := fun r => ledR l r) _ 0 rfl)
  refine hK.out _ _ ?_ (fun hHeld => ?_)
  · exact HS
  clear hK K
  try simp only [Act.put, List.setIfInBounds_toArray, List.set_cons_zero, List.set_cons_succ]
  refine wpAnyH_done (by kernel_rfl) ?_ _
  have c0 := H.cell 1 rfl (o := 0) rfl
  go_wp2_with fail
  refine (refDigest_s Av n cv M _ (H.rd 2 rfl) hn).mono ?_
  rintro e w9 ⟨v, rfl, ho, hb9⟩
  unfold OwnB at ho
  rw [dig2_length] at ho
  replace H := (H.pushRow 3 rfl hb9 ho).push_mk rfl
  clear ho hb9 c0
  go_wp2
  go_ret2
  exact ⟨_, rfl, H⟩

set_option maxHeartbeats 4000000 in
theorem rtClone_s (g : Nat) (l : Value) (r : Option (List RunT)) (Av : Option Addr) (n cv : Nat) (M : List UInt8) (H : St w0 F0 w (lay [ledR l r, .blk g 90 [.slice Av n cv, .bool true], .row 5 1 (.slice Av n cv) n (M.map vb)])) (hn : n ≤ 1000000000) :
    Calls Try.prog 52 #[lptr g] w fun e w' => ∃ g' A6 c6, e = .returned (.tuple #[lptr g', .int .i64 0]) ∧ St w0 F0 w' (lay [ledR l r, .blk g 90 [.slice Av n cv, .bool true], .row 5 1 (.slice Av n cv) n (M.map vb), .blk g' 90 [.slice A6 n c6, .bool true], .row 5 1 (.slice A6 n c6) n (M.map vb)]) := by
  have c1 := H.cell 1 rfl (o := 1) rfl
  have c0 := H.cell 1 rfl (o := 0) rfl
  obtain ⟨i0, hi0, hz0, hz1, hz2⟩ := info_parts u8_info
  have HI := Lib.hid (⟨hi0, hz0, hz1, hz2⟩ : _ ∧ _ ∧ _ ∧ _)
  clear hi0 hz0 hz1 hz2
  go_enter Try.func52, Try.ntmps52
  go_wp2_with fail
  refine (rtNone_no g w c1).mono ?_
  rintro e w1 ⟨rfl, rfl⟩
  unfold lptr
  go_wp2_with (at_builtin; refine hold_here' ?_)
  refine Lib.hid ?_
  have H4 := H.nilRow 4 rfl 5 1
  refine wpList_append_any _ rfl (.const (.slice none 0 0)) (.tmp 9) _ rfl 0 5 i0 _ 1 1 Try.underlying22 HI.out.1 HI.out.2.1 HI.out.2.2.1 HI.out.2.2.2 rfl (by omega) (.slice none 0 0) 0 [] rfl (H4.row 4 rfl) Av n cv (M.map vb) rfl (H.rd 2 rfl) (vb_one _) (by simp only [maxLen]; omega) (by omega) (by omega) ?_
  intro v6 w6 hown6 hg6 hat6
  have H5 := H4.grow 4 rfl hown6 hg6 hat6
  clear hown6 hg6 hat6 c0 c1 H4 H
  rw [upd_upd, Nat.zero_add, List.nil_append] at H5
  obtain ⟨A6, c6, rfl, -, -⟩ := row_form (H5.row 4 upd_same)
  have H6 := H5.allocAt 3 rfl w6.heap.size rfl #[.slice A6 n c6, .bool true] 90
  clear H5
  go_wp2
  go_ret2
  first | refine ⟨_, A6, c6, rfl, H6.env fun i => ?_⟩ | refine ⟨_, rfl, A6, c6, H6.env fun i => ?_⟩
  match i with
  | 0 => simp [upd, lay]
  | 1 => simp [upd, lay]
  | 2 => simp [upd, lay]
  | 3 => simp [upd, lay]
  | 4 => simp [upd, lay]
  | i + 5 => simp [upd, lay]
end
end Go.Proofs.Ytcnphkmcgefjoaa

namespace Go.Proofs.Ytcnphkmcgefjoaa
open Go.RowKit
set_option linter.unusedVariables false
set_option maxRecDepth 100000

theorem form2_alt (M : List UInt8) (n : Nat) (h : M.length = n) : form2 M = laid4 (h2 M) 8 ++ beL 8 n ++ M.drop (64 * (n / 64)) ++ List.replicate (64 - n % 64) 0 := by
  unfold form2 w2' waitOf restOf
  rw [h]
  simp only [List.append_assoc]

attribute [local irreducible] comp2 hTo dig2 laid4 h2 padM form2 lastN

set_option maxHeartbeats 8000000 in
theorem rtFormOf_s (A : Option Addr) (n c : Nat) (M : List UInt8) (w : World) (hA : Rd w 1 A n (M.map vb)) (hc : n ≤ c) (hAs : (A = none ∧ n = 0 ∧ c = 0) ∨ ∃ g, A = some ⟨g, 0, none⟩) (hn : n ≤ 1000000000) :
    Calls Try.prog 66 #[.slice A n c] w fun e w' => ∃ v, e = .returned v ∧ OwnB w' w.heap.size v (form2 M) ∧ Below w.heap.size w w' := by
  have hl : M.length = n := by simpa using hA.1
  have HFM := Lib.hid (form2_alt M n hl)
  have HML := Lib.hid hl
  clear hl
  obtain ⟨i0, hi0, hz0, hz1, hz2⟩ := info_parts u8_info
  have HI := Lib.hid (⟨hi0, hz0, hz1, hz2⟩ : _ ∧ _ ∧ _ ∧ _)
  clear hi0 hz0 hz1 hz2
  have HYL := Lib.hid (laid4_length (l := h2 M) (k := 8) (by rw [h2_length]; omega))
  have H := St.start_lay w []
  have HAS := Lib.hid hAs
  clear hAs
  go_enter Try.func66, Try.ntmps66
  go_wp2_with fail
  refine (refWords_s A n c M w hA (by omega)).mono ?_
  rintro e w1 ⟨rfl, hb1⟩
  replace H := H.call hb1
  clear hb1
  go_wp2_with fail
  refine (refLaid_s (h2 M) (h2_length M) w1).mono ?_
  rintro e w2 ⟨v2, rfl, ho, hb2⟩
  obtain ⟨Y, hY⟩ : ∃ Y, laid4 (h2 M) 8 = Y := ⟨_, rfl⟩
  rw [hY] at ho HFM HYL
  unfold OwnB at ho
  rw [HYL.out] at ho
  replace H := (H.pushRow 0 rfl hb2 ho).push_mk rfl
  replace H : St w [] w2 (lay [.row 5 1 v2 32 (Y.map vb)]) := H
  clear ho hb2 hY
  go_wp2
  have HNB := Lib.hid hn
  clear hn
  go_loopw [3, 5] (fun v i wr => ∃ j : Nat, j ≤ 8 ∧ i = .int .i64 j ∧ St w [] wr (lay [.row 5 1 v (32 + j) ((Y ++ (beL 8 n).take j).map vb)])) (fun _ i _ => 8 - (intOf i).toNat)
  case atStart => exact ⟨0, by omega, rfl, by rw [List.take_zero, List.append_nil]; exact H⟩
  case round =>
    clear H
    obtain ⟨j, hj, rfl, H⟩ := hrel
    obtain ⟨AV, cV, rfl, -, -⟩ := row_form (H.row 0 rfl)
    have hj9 : j = 0 ∨ j = 1 ∨ j = 2 ∨ j = 3 ∨ j = 4 ∨ j = 5 ∨ j = 6 ∨ j = 7 ∨ j = 8 := by omega
    rcases hj9 with rfl | rfl | rfl | rfl | rfl | rfl | rfl | rfl | rfl
    · rw [show ((0 : Nat) : Int) = 0 from rfl]
      have hbe : Value.int .u8 ((n : Int) / 72057594037927936 % 256) = vb (UInt8.ofNat (n / 256 ^ (8 - 1 - 0))) := by unfold vb; rw [← byte_eq]; simp
      have HT := Lib.hid (beL_take 8 n 0 (by omega))
      go_wp2_with (at_builtin; refine hold_here' ?_)
      refine Lib.hid ?_
      refine absorb_list (H.allocAt 1 rfl wr.heap.size rfl #[.int .u8 ((n : Int) / 72057594037927936 % 256)] 5 |>.push_mk rfl) ?_
      clear H
      intro w5 H
      generalize wr.heap.size = gN at H ⊢
      refine wpList_append_any _ rfl (.tmp 16) (.tmp 23) _ rfl 0 5 i0 _ 1 1 Try.underlying22 HI.out.1 HI.out.2.1 HI.out.2.2.1 HI.out.2.2.2 rfl (by omega) (.slice AV (32 + 0) cV) (32 + 0) ((Y ++ (beL 8 n).take 0).map vb) rfl (H.row 0 rfl) (some ⟨gN, 0, none⟩) 1 1 [.int .u8 ((n : Int) / 72057594037927936 % 256)] rfl (H.rdBlk 1 rfl 1 1 rfl) (by intro u hu; simp at hu; subst hu; rfl) (by simp only [maxLen]; omega) (by omega) (by omega) ?_
      intro v6 w6 hown6 hg6 hat6
      replace H := ((H.grow 0 rfl hown6 hg6 hat6).upd_mk (by simp)).front 1
      clear hown6 hg6 hat6
      have H7 : St w [] w6 (lay [.row 5 1 v6 (32 + 1) ((Y ++ (beL 8 n).take 1).map vb)]) := by
        rw [HT.out, ← List.append_assoc, List.map_append, List.map_cons, List.map_nil, ← hbe]; exact H
      clear H hbe
      go_wp2
      go_roundw
      case rel => exact ⟨1, by omega, by first | rfl | go_num, H7⟩
      case measure => simp [intOf]
    · rw [show ((1 : Nat) : Int) = 1 from rfl]
      have hbe : Value.int .u8 ((n : Int) / 281474976710656 % 256) = vb (UInt8.ofNat (n / 256 ^ (8 - 1 - 1))) := by unfold vb; rw [← byte_eq]; simp
      have HT := Lib.hid (beL_take 8 n 1 (by omega))
      go_wp2_with (at_builtin; refine hold_here' ?_)
      refine Lib.hid ?_
      refine absorb_list (H.allocAt 1 rfl wr.heap.size rfl #[.int .u8 ((n : Int) / 281474976710656 % 256)] 5 |>.push_mk rfl) ?_
      clear H
      intro w5 H
      generalize wr.heap.size = gN at H ⊢
      refine wpList_append_any _ rfl (.tmp 16) (.tmp 23) _ rfl 0 5 i0 _ 1 1 Try.underlying22 HI.out.1 HI.out.2.1 HI.out.2.2.1 HI.out.2.2.2 rfl (by omega) (.slice AV (32 + 1) cV) (32 + 1) ((Y ++ (beL 8 n).take 1).map vb) rfl (H.row 0 rfl) (some ⟨gN, 0, none⟩) 1 1 [.int .u8 ((n : Int) / 281474976710656 % 256)] rfl (H.rdBlk 1 rfl 1 1 rfl) (by intro u hu; simp at hu; subst hu; rfl) (by simp only [maxLen]; omega) (by omega) (by omega) ?_
      intro v6 w6 hown6 hg6 hat6
      replace H := ((H.grow 0 rfl hown6 hg6 hat6).upd_mk (by simp)).front 1
      clear hown6 hg6 hat6
      have H7 : St w [] w6 (lay [.row 5 1 v6 (32 + 2) ((Y ++ (beL 8 n).take 2).map vb)]) := by
        rw [HT.out, ← List.append_assoc, List.map_append, List.map_cons, List.map_nil, ← hbe]; exact H
      clear H hbe
      go_wp2
      go_roundw
      case rel => exact ⟨2, by omega, by first | rfl | go_num, H7⟩
      case measure => simp [intOf]
    · rw [show ((2 : Nat) : Int) = 2 from rfl]
      have hbe : Value.int .u8 ((n : Int) / 1099511627776 % 256) = vb (UInt8.ofNat (n / 256 ^ (8 - 1 - 2))) := by unfold vb; rw [← byte_eq]; simp
      have HT := Lib.hid (beL_take 8 n 2 (by omega))
      go_wp2_with (at_builtin; refine hold_here' ?_)
      refine Lib.hid ?_
      refine absorb_list (H.allocAt 1 rfl wr.heap.size rfl #[.int .u8 ((n : Int) / 1099511627776 % 256)] 5 |>.push_mk rfl) ?_
      clear H
      intro w5 H
      generalize wr.heap.size = gN at H ⊢
      refine wpList_append_any _ rfl (.tmp 16) (.tmp 23) _ rfl 0 5 i0 _ 1 1 Try.underlying22 HI.out.1 HI.out.2.1 HI.out.2.2.1 HI.out.2.2.2 rfl (by omega) (.slice AV (32 + 2) cV) (32 + 2) ((Y ++ (beL 8 n).take 2).map vb) rfl (H.row 0 rfl) (some ⟨gN, 0, none⟩) 1 1 [.int .u8 ((n : Int) / 1099511627776 % 256)] rfl (H.rdBlk 1 rfl 1 1 rfl) (by intro u hu; simp at hu; subst hu; rfl) (by simp only [maxLen]; omega) (by omega) (by omega) ?_
      intro v6 w6 hown6 hg6 hat6
      replace H := ((H.grow 0 rfl hown6 hg6 hat6).upd_mk (by simp)).front 1
      clear hown6 hg6 hat6
      have H7 : St w [] w6 (lay [.row 5 1 v6 (32 + 3) ((Y ++ (beL 8 n).take 3).map vb)]) := by
        rw [HT.out, ← List.append_assoc, List.map_append, List.map_cons, List.map_nil, ← hbe]; exact H
      clear H hbe
      go_wp2
      go_roundw
      case rel => exact ⟨3, by omega, by first | rfl | go_num, H7⟩
      case measure => simp [intOf]
    · rw [show ((3 : Nat) : Int) = 3 from rfl]
      have hbe : Value.int .u8 ((n : Int) / 4294967296 % 256) = vb (UInt8.ofNat (n / 256 ^ (8 - 1 - 3))) := by unfold vb; rw [← byte_eq]; simp
      have HT := Lib.hid (beL_take 8 n 3 (by omega))
      go_wp2_with (at_builtin; refine hold_here' ?_)
      refine Lib.hid ?_
      refine absorb_list (H.allocAt 1 rfl wr.heap.size rfl #[.int .u8 ((n : Int) / 4294967296 % 256)] 5 |>.push_mk rfl) ?_
      clear H
      intro w5 H
      generalize wr.heap.size = gN at H ⊢
      refine wpList_append_any _ rfl (.tmp 16) (.tmp 23) _ rfl 0 5 i0 _ 1 1 Try.underlying22 HI.out.1 HI.out.2.1 HI.out.2.2.1 HI.out.2.2.2 rfl (by omega) (.slice AV (32 + 3) cV) (32 + 3) ((Y ++ (beL 8 n).take 3).map vb) rfl (H.row 0 rfl) (some ⟨gN, 0, none⟩) 1 1 [.int .u8 ((n : Int) / 4294967296 % 256)] rfl (H.rdBlk 1 rfl 1 1 rfl) (by intro u hu; simp at hu; subst hu; rfl) (by simp only [maxLen]; omega) (by omega) (by omega) ?_
      intro v6 w6 hown6 hg6 hat6
      replace H := ((H.grow 0 rfl hown6 hg6 hat6).upd_mk (by simp)).front 1
      clear hown6 hg6 hat6
      have H7 : St w [] w6 (lay [.row 5 1 v6 (32 + 4) ((Y ++ (beL 8 n).take 4).map vb)]) := by
        rw [HT.out, ← List.append_assoc, List.map_append, List.map_cons, List.map_nil, ← hbe]; exact H
      clear H hbe
      go_wp2
      go_roundw
      case rel => exact ⟨4, by omega, by first | rfl | go_num, H7⟩
      case measure => simp [intOf]
    · rw [show ((4 : Nat) : Int) = 4 from rfl]
      have hbe : Value.int .u8 ((n : Int) / 16777216 % 256) = vb (UInt8.ofNat (n / 256 ^ (8 - 1 - 4))) := by unfold vb; rw [← byte_eq]; simp
      have HT := Lib.hid (beL_take 8 n 4 (by omega))
      go_wp2_with (at_builtin; refine hold_here' ?_)
      refine Lib.hid ?_
      refine absorb_list (H.allocAt 1 rfl wr.heap.size rfl #[.int .u8 ((n : Int) / 16777216 % 256)] 5 |>.push_mk rfl) ?_
      clear H
      intro w5 H
      generalize wr.heap.size = gN at H ⊢
      refine wpList_append_any _ rfl (.tmp 16) (.tmp 23) _ rfl 0 5 i0 _ 1 1 Try.underlying22 HI.out.1 HI.out.2.1 HI.out.2.2.1 HI.out.2.2.2 rfl (by omega) (.slice AV (32 + 4) cV) (32 + 4) ((Y ++ (beL 8 n).take 4).map vb) rfl (H.row 0 rfl) (some ⟨gN, 0, none⟩) 1 1 [.int .u8 ((n : Int) / 16777216 % 256)] rfl (H.rdBlk 1 rfl 1 1 rfl) (by intro u hu; simp at hu; subst hu; rfl) (by simp only [maxLen]; omega) (by omega) (by omega) ?_
      intro v6 w6 hown6 hg6 hat6
      replace H := ((H.grow 0 rfl hown6 hg6 hat6).upd_mk (by simp)).front 1
      clear hown6 hg6 hat6
      have H7 : St w [] w6 (lay [.row 5 1 v6 (32 + 5) ((Y ++ (beL 8 n).take 5).map vb)]) := by
        rw [HT.out, ← List.append_assoc, List.map_append, List.map_cons, List.map_nil, ← hbe]; exact H
      clear H hbe
      go_wp2
      go_roundw
      case rel => exact ⟨5, by omega, by first | rfl | go_num, H7⟩
      case measure => simp [intOf]
    · rw [show ((5 : Nat) : Int) = 5 from rfl]
      have hbe : Value.int .u8 ((n : Int) / 65536 % 256) = vb (UInt8.ofNat (n / 256 ^ (8 - 1 - 5))) := by unfold vb; rw [← byte_eq]; simp
      have HT := Lib.hid (beL_take 8 n 5 (by omega))
      go_wp2_with (at_builtin; refine hold_here' ?_)
      refine Lib.hid ?_
      refine absorb_list (H.allocAt 1 rfl wr.heap.size rfl #[.int .u8 ((n : Int) / 65536 % 256)] 5 |>.push_mk rfl) ?_
      clear H
      intro w5 H
      generalize wr.heap.size = gN at H ⊢
      refine wpList_append_any _ rfl (.tmp 16) (.tmp 23) _ rfl 0 5 i0 _ 1 1 Try.underlying22 HI.out.1 HI.out.2.1 HI.out.2.2.1 HI.out.2.2.2 rfl (by omega) (.slice AV (32 + 5) cV) (32 + 5) ((Y ++ (beL 8 n).take 5).map vb) rfl (H.row 0 rfl) (some ⟨gN, 0, none⟩) 1 1 [.int .u8 ((n : Int) / 65536 % 256)] rfl (H.rdBlk 1 rfl 1 1 rfl) (by intro u hu; simp at hu; subst hu; rfl) (by simp only [maxLen]; omega) (by omega) (by omega) ?_
      intro v6 w6 hown6 hg6 hat6
      replace H := ((H.grow 0 rfl hown6 hg6 hat6).upd_mk (by simp)).front 1
      clear hown6 hg6 hat6
      have H7 : St w [] w6 (lay [.row 5 1 v6 (32 + 6) ((Y ++ (beL 8 n).take 6).map vb)]) := by
        rw [HT.out, ← List.append_assoc, List.map_append, List.map_cons, List.map_nil, ← hbe]; exact H
      clear H hbe
      go_wp2
      go_roundw
      case rel => exact ⟨6, by omega, by first | rfl | go_num, H7⟩
      case measure => simp [intOf]
    · rw [show ((6 : Nat) : Int) = 6 from rfl]
      have hbe : Value.int .u8 ((n : Int) / 256 % 256) = vb (UInt8.ofNat (n / 256 ^ (8 - 1 - 6))) := by unfold vb; rw [← byte_eq]; simp
      have HT := Lib.hid (beL_take 8 n 6 (by omega))
      go_wp2_with (at_builtin; refine hold_here' ?_)
      refine Lib.hid ?_
      refine absorb_list (H.allocAt 1 rfl wr.heap.size rfl #[.int .u8 ((n : Int) / 256 % 256)] 5 |>.push_mk rfl) ?_
      clear H
      intro w5 H
      generalize wr.heap.size = gN at H ⊢
      refine wpList_append_any _ rfl (.tmp 16) (.tmp 23) _ rfl 0 5 i0 _ 1 1 Try.underlying22 HI.out.1 HI.out.2.1 HI.out.2.2.1 HI.out.2.2.2 rfl (by omega) (.slice AV (32 + 6) cV) (32 + 6) ((Y ++ (beL 8 n).take 6).map vb) rfl (H.row 0 rfl) (some ⟨gN, 0, none⟩) 1 1 [.int .u8 ((n : Int) / 256 % 256)] rfl (H.rdBlk 1 rfl 1 1 rfl) (by intro u hu; simp at hu; subst hu; rfl) (by simp only [maxLen]; omega) (by omega) (by omega) ?_
      intro v6 w6 hown6 hg6 hat6
      replace H := ((H.grow 0 rfl hown6 hg6 hat6).upd_mk (by simp)).front 1
      clear hown6 hg6 hat6
      have H7 : St w [] w6 (lay [.row 5 1 v6 (32 + 7) ((Y ++ (beL 8 n).take 7).map vb)]) := by
        rw [HT.out, ← List.append_assoc, List.map_append, List.map_cons, List.map_nil, ← hbe]; exact H
      clear H hbe
      go_wp2
      go_roundw
      case rel => exact ⟨7, by omega, by first | rfl | go_num, H7⟩
      case measure => simp [intOf]
    · rw [show ((7 : Nat) : Int) = 7 from rfl]
      have hbe : Value.int .u8 ((n : Int) % 256) = vb (UInt8.ofNat (n / 256 ^ (8 - 1 - 7))) := by unfold vb; rw [← byte_eq]; simp
      have HT := Lib.hid (beL_take 8 n 7 (by omega))
      go_wp2_with (at_builtin; refine hold_here' ?_)
      refine Lib.hid ?_
      refine absorb_list (H.allocAt 1 rfl wr.heap.size rfl #[.int .u8 ((n : Int) % 256)] 5 |>.push_mk rfl) ?_
      clear H
      intro w5 H
      generalize wr.heap.size = gN at H ⊢
      refine wpList_append_any _ rfl (.tmp 16) (.tmp 23) _ rfl 0 5 i0 _ 1 1 Try.underlying22 HI.out.1 HI.out.2.1 HI.out.2.2.1 HI.out.2.2.2 rfl (by omega) (.slice AV (32 + 7) cV) (32 + 7) ((Y ++ (beL 8 n).take 7).map vb) rfl (H.row 0 rfl) (some ⟨gN, 0, none⟩) 1 1 [.int .u8 ((n : Int) % 256)] rfl (H.rdBlk 1 rfl 1 1 rfl) (by intro u hu; simp at hu; subst hu; rfl) (by simp only [maxLen]; omega) (by omega) (by omega) ?_
      intro v6 w6 hown6 hg6 hat6
      replace H := ((H.grow 0 rfl hown6 hg6 hat6).upd_mk (by simp)).front 1
      clear hown6 hg6 hat6
      have H7 : St w [] w6 (lay [.row 5 1 v6 (32 + 8) ((Y ++ (beL 8 n).take 8).map vb)]) := by
        rw [HT.out, ← List.append_assoc, List.map_append, List.map_cons, List.map_nil, ← hbe]; exact H
      clear H hbe
      go_wp2
      go_roundw
      case rel => exact ⟨8, by omega, by first | rfl | go_num, H7⟩
      case measure => simp [intOf]
    · rw [show ((8 : Nat) : Int) = 8 from rfl]
      rw [List.take_of_length_le (by rw [beL_length]; omega)] at H
      obtain ⟨Z, hZ⟩ : ∃ Z, Y ++ beL 8 n = Z := ⟨_, rfl⟩
      rw [hZ] at H HFM
      clear hZ
      obtain ⟨k, hk⟩ : ∃ k, 64 * (n / 64) = k := ⟨_, rfl⟩
      obtain ⟨t0, ht0⟩ : ∃ t, n - k = t := ⟨_, rfl⟩
      have hkk : (n : Int) / 64 * 64 = (k : Int) := by omega
      have hkn : k ≤ n := by omega
      have ht64 : t0 = n % 64 := by omega
      rw [hk, ← ht64] at HFM
      have hki : (k : Int) ≤ n := by omega
      have hkc : (k : Int) ≤ c := by omega
      have HHK := Lib.hid hk
      have HHT := Lib.hid ht64
      clear hk ht64
      have hnb := HNB.out
      rcases HAS.out with ⟨rfl, rfl, rfl⟩ | ⟨gA, rfl⟩
      · obtain rfl : k = 0 := by omega
        obtain rfl : t0 = 0 := by omega
        go_wp2_with (at_builtin; refine hold_here' ?_)
        refine Lib.hid ?_
        refine wpList_append_any _ rfl (.tmp 25) (.tmp 31) _ rfl 0 5 i0 _ 1 1 Try.underlying22 HI.out.1 HI.out.2.1 HI.out.2.2.1 HI.out.2.2.2 rfl (by omega) (.slice AV (32 + 8) cV) (32 + 8) (Z.map vb) rfl (H.row 0 rfl) none 0 0 (([] : List UInt8).map vb) rfl Rd.none_ (vb_one _) (by simp only [maxLen]; omega) (by omega) (by omega) ?_
        intro v6 w6 hown6 hg6 hat6
        replace H := ((H.grow 0 rfl hown6 hg6 hat6).upd_mk (by simp))
        clear hown6 hg6 hat6
        obtain ⟨X, hX⟩ : ∃ X, Z = X := ⟨_, rfl⟩
        replace H : St w [] w6 (lay [.row 5 1 v6 (40 + 0) (X.map vb)]) := by rw [← hX]; simpa using H
        have HE : Hid (form2 M = X ++ List.replicate (64 - 0) 0) := by unfold Hid; rw [HFM.out, ← hX]; have hm := HML.out; rw [List.length_eq_zero_iff] at hm; rw [hm]; simp
        clear hX
        go_wp2
        go_loopw [3] (fun v wr => ∃ t : Nat, t ≤ 64 - 0 ∧ St w [] wr (lay [.row 5 1 v (40 + 0 + t) ((X ++ List.replicate t 0).map vb)])) (fun v _ => match v with | .slice _ k _ => 1000 - k | _ => 0)
        case atStart => exact ⟨0, Nat.zero_le _, by rw [List.replicate_zero, List.append_nil]; exact H⟩
        case round =>
          clear H
          obtain ⟨t, ht, H⟩ := hrel
          obtain ⟨AV, cV, rfl, -, -⟩ := row_form (H.row 0 rfl)
          have ht0b : 0 ≤ 63 := by omega
          by_cases htt : t = 64 - 0
          · rw [htt] at H
            have e104 : 40 + 0 + (64 - 0) = 104 := by omega
            rw [htt, e104]
            rw [e104, ← HE.out] at H
            try rw [show ((104 : Nat) : Int) = 104 from rfl]
            clear htt e104 ht
            go_wp2
            go_ret
            refine ⟨_, rfl, ?_, H.below⟩
            unfold OwnB
            rw [form2_length]
            exact H.ownRow 0 rfl
          · obtain ⟨N, hN⟩ : ∃ N, 40 + 0 + t = N := ⟨_, rfl⟩
            have hNi : (N : Int) < 104 := by omega
            have hHN := Lib.hid hN
            rw [hN] at H ⊢
            clear hN
            go_wp2_with (at_builtin; refine hold_here' ?_)
            refine Lib.hid ?_
            refine absorb_list (H.allocAt 1 rfl wr.heap.size rfl #[.int .u8 0] 5 |>.push_mk rfl) ?_
            clear H
            intro w7 H
            generalize wr.heap.size = gN at H ⊢
            refine wpList_append_any _ rfl (.tmp 36) (.tmp 37) _ rfl 0 5 i0 _ 1 1 Try.underlying22 HI.out.1 HI.out.2.1 HI.out.2.2.1 HI.out.2.2.2 rfl (by omega) (.slice AV N cV) N ((X ++ List.replicate t 0).map vb) rfl (H.row 0 rfl) (some ⟨gN, 0, none⟩) 1 1 [.int .u8 0] rfl (H.rdBlk 1 rfl 1 1 rfl) (by intro u hu; simp at hu; subst hu; rfl) (by simp only [maxLen]; omega) (by omega) (by omega) ?_
            intro v8 w8 hown6 hg6 hat6
            obtain ⟨A8, c8, rfl, -, -⟩ := row_form hown6
            replace H := ((H.grow 0 rfl hown6 hg6 hat6).upd_mk (by simp)).front 1
            clear hown6 hg6 hat6
            replace H : St w [] w8 (lay [.row 5 1 (.slice A8 (N + 1) c8) (N + 1) ((X ++ List.replicate (t + 1) 0).map vb)]) := by rw [List.replicate_succ', ← List.append_assoc, List.map_append]; exact H
            go_wp2
            go_roundw
            case rel => exact ⟨t + 1, by omega, by have e := hHN.out; rw [show 40 + 0 + (t + 1) = N + 1 by omega]; exact H⟩
            case measure => simp; omega
      · by_cases hck : c = k
        · have hck' : (c = k) = True := by simp [hck]
          have hrd := Rd.drop_if (x := k) hA hkn hc
          rw [if_pos hck, ht0] at hrd
          have HRD := Lib.hid hrd
          clear hrd
          subst hck
          go_wp2_with (at_builtin; refine hold_here' ?_)
          refine Lib.hid ?_
          refine wpList_append_any _ rfl (.tmp 25) (.tmp 31) _ rfl 0 5 i0 _ 1 1 Try.underlying22 HI.out.1 HI.out.2.1 HI.out.2.2.1 HI.out.2.2.2 rfl (by omega) (.slice AV (32 + 8) cV) (32 + 8) (Z.map vb) rfl (H.row 0 rfl) (some ⟨gA, 0, none⟩) t0 0 ((M.drop c).map vb) rfl (H.arg0 HRD.out) (vb_one _) (by simp only [maxLen]; omega) (by omega) (by omega) ?_
          intro v6 w6 hown6 hg6 hat6
          replace H := ((H.grow 0 rfl hown6 hg6 hat6).upd_mk (by simp))
          clear hown6 hg6 hat6
          obtain ⟨X, hX⟩ : ∃ X, (Z ++ M.drop c) = X := ⟨_, rfl⟩
          replace H : St w [] w6 (lay [.row 5 1 v6 (40 + t0) (X.map vb)]) := by rw [← hX]; first | exact H | (rw [List.map_append]; exact H)
          have HE : Hid (form2 M = X ++ List.replicate (64 - t0) 0) := by unfold Hid; rw [HFM.out, ← hX]
          clear hX
          go_wp2
          go_loopw [3] (fun v wr => ∃ t : Nat, t ≤ 64 - t0 ∧ St w [] wr (lay [.row 5 1 v (40 + t0 + t) ((X ++ List.replicate t 0).map vb)])) (fun v _ => match v with | .slice _ k _ => 1000 - k | _ => 0)
          case atStart => exact ⟨0, Nat.zero_le _, by rw [List.replicate_zero, List.append_nil]; exact H⟩
          case round =>
            clear H
            obtain ⟨t, ht, H⟩ := hrel
            obtain ⟨AV, cV, rfl, -, -⟩ := row_form (H.row 0 rfl)
            have ht0b : t0 ≤ 63 := by have := HHT.out; omega
            by_cases htt : t = 64 - t0
            · rw [htt] at H
              have e104 : 40 + t0 + (64 - t0) = 104 := by omega
              rw [htt, e104]
              rw [e104, ← HE.out] at H
              try rw [show ((104 : Nat) : Int) = 104 from rfl]
              clear htt e104 ht
              go_wp2
              go_ret
              refine ⟨_, rfl, ?_, H.below⟩
              unfold OwnB
              rw [form2_length]
              exact H.ownRow 0 rfl
            · obtain ⟨N, hN⟩ : ∃ N, 40 + t0 + t = N := ⟨_, rfl⟩
              have hNi : (N : Int) < 104 := by omega
              have hHN := Lib.hid hN
              rw [hN] at H ⊢
              clear hN
              go_wp2_with (at_builtin; refine hold_here' ?_)
              refine Lib.hid ?_
              refine absorb_list (H.allocAt 1 rfl wr.heap.size rfl #[.int .u8 0] 5 |>.push_mk rfl) ?_
              clear H
              intro w7 H
              generalize wr.heap.size = gN at H ⊢
              refine wpList_append_any _ rfl (.tmp 36) (.tmp 37) _ rfl 0 5 i0 _ 1 1 Try.underlying22 HI.out.1 HI.out.2.1 HI.out.2.2.1 HI.out.2.2.2 rfl (by omega) (.slice AV N cV) N ((X ++ List.replicate t 0).map vb) rfl (H.row 0 rfl) (some ⟨gN, 0, none⟩) 1 1 [.int .u8 0] rfl (H.rdBlk 1 rfl 1 1 rfl) (by intro u hu; simp at hu; subst hu; rfl) (by simp only [maxLen]; omega) (by omega) (by omega) ?_
              intro v8 w8 hown6 hg6 hat6
              obtain ⟨A8, c8, rfl, -, -⟩ := row_form hown6
              replace H := ((H.grow 0 rfl hown6 hg6 hat6).upd_mk (by simp)).front 1
              clear hown6 hg6 hat6
              replace H : St w [] w8 (lay [.row 5 1 (.slice A8 (N + 1) c8) (N + 1) ((X ++ List.replicate (t + 1) 0).map vb)]) := by rw [List.replicate_succ', ← List.append_assoc, List.map_append]; exact H
              go_wp2
              go_roundw
              case rel => exact ⟨t + 1, by omega, by have e := hHN.out; rw [show 40 + t0 + (t + 1) = N + 1 by omega]; exact H⟩
              case measure => simp; omega
        · have hrd := Rd.drop_if (x := k) hA hkn hc
          rw [if_neg hck, ht0] at hrd
          have HRD := Lib.hid hrd
          clear hrd
          go_wp2_with (at_builtin; refine hold_here' ?_)
          refine Lib.hid ?_
          refine wpList_append_any _ rfl (.tmp 25) (.tmp 31) _ rfl 0 5 i0 _ 1 1 Try.underlying22 HI.out.1 HI.out.2.1 HI.out.2.2.1 HI.out.2.2.2 rfl (by omega) (.slice AV (32 + 8) cV) (32 + 8) (Z.map vb) rfl (H.row 0 rfl) (some ⟨gA, k, none⟩) t0 (c - k) ((M.drop k).map vb) rfl (by have h := H.arg0 HRD.out; rwa [Nat.zero_add] at h) (vb_one _) (by simp only [maxLen]; omega) (by omega) (by omega) ?_
          intro v6 w6 hown6 hg6 hat6
          replace H := ((H.grow 0 rfl hown6 hg6 hat6).upd_mk (by simp))
          clear hown6 hg6 hat6
          obtain ⟨X, hX⟩ : ∃ X, (Z ++ M.drop k) = X := ⟨_, rfl⟩
          replace H : St w [] w6 (lay [.row 5 1 v6 (40 + t0) (X.map vb)]) := by rw [← hX]; first | exact H | (rw [List.map_append]; exact H)
          have HE : Hid (form2 M = X ++ List.replicate (64 - t0) 0) := by unfold Hid; rw [HFM.out, ← hX]
          clear hX
          go_wp2
          go_loopw [3] (fun v wr => ∃ t : Nat, t ≤ 64 - t0 ∧ St w [] wr (lay [.row 5 1 v (40 + t0 + t) ((X ++ List.replicate t 0).map vb)])) (fun v _ => match v with | .slice _ k _ => 1000 - k | _ => 0)
          case atStart => exact ⟨0, Nat.zero_le _, by rw [List.replicate_zero, List.append_nil]; exact H⟩
          case round =>
            clear H
            obtain ⟨t, ht, H⟩ := hrel
            obtain ⟨AV, cV, rfl, -, -⟩ := row_form (H.row 0 rfl)
            have ht0b : t0 ≤ 63 := by have := HHT.out; omega
            by_cases htt : t = 64 - t0
            · rw [htt] at H
              have e104 : 40 + t0 + (64 - t0) = 104 := by omega
              rw [htt, e104]
              rw [e104, ← HE.out] at H
              try rw [show ((104 : Nat) : Int) = 104 from rfl]
              clear htt e104 ht
              go_wp2
              go_ret
              refine ⟨_, rfl, ?_, H.below⟩
              unfold OwnB
              rw [form2_length]
              exact H.ownRow 0 rfl
            · obtain ⟨N, hN⟩ : ∃ N, 40 + t0 + t = N := ⟨_, rfl⟩
              have hNi : (N : Int) < 104 := by omega
              have hHN := Lib.hid hN
              rw [hN] at H ⊢
              clear hN
              go_wp2_with (at_builtin; refine hold_here' ?_)
              refine Lib.hid ?_
              refine absorb_list (H.allocAt 1 rfl wr.heap.size rfl #[.int .u8 0] 5 |>.push_mk rfl) ?_
              clear H
              intro w7 H
              generalize wr.heap.size = gN at H ⊢
              refine wpList_append_any _ rfl (.tmp 36) (.tmp 37) _ rfl 0 5 i0 _ 1 1 Try.underlying22 HI.out.1 HI.out.2.1 HI.out.2.2.1 HI.out.2.2.2 rfl (by omega) (.slice AV N cV) N ((X ++ List.replicate t 0).map vb) rfl (H.row 0 rfl) (some ⟨gN, 0, none⟩) 1 1 [.int .u8 0] rfl (H.rdBlk 1 rfl 1 1 rfl) (by intro u hu; simp at hu; subst hu; rfl) (by simp only [maxLen]; omega) (by omega) (by omega) ?_
              intro v8 w8 hown6 hg6 hat6
              obtain ⟨A8, c8, rfl, -, -⟩ := row_form hown6
              replace H := ((H.grow 0 rfl hown6 hg6 hat6).upd_mk (by simp)).front 1
              clear hown6 hg6 hat6
              replace H : St w [] w8 (lay [.row 5 1 (.slice A8 (N + 1) c8) (N + 1) ((X ++ List.replicate (t + 1) 0).map vb)]) := by rw [List.replicate_succ', ← List.append_assoc, List.map_append]; exact H
              go_wp2
              go_roundw
              case rel => exact ⟨t + 1, by omega, by have e := hHN.out; rw [show 40 + t0 + (t + 1) = N + 1 by omega]; exact H⟩
              case measure => simp; omega

theorem row_as {w : World} {e : TypeId} {size n c : Nat} {A : Option Addr} {xs : List Value} (h : w.ownsRow 0 e size (.slice A n c) n xs) : n ≤ c ∧ ((A = none ∧ n = 0 ∧ c = 0) ∨ ∃ g, A = some ⟨g, 0, none⟩) := by
  rcases h.2 with ⟨h1, h2⟩ | ⟨g, cap, cur, h1, _, hg, hc, _⟩
  · injection h1 with e1 e2 e3
    subst e1 e2 e3
    exact ⟨by omega, .inl ⟨rfl, rfl, rfl⟩⟩
  · injection h1 with e1 e2 e3
    subst e1 e3
    exact ⟨hc, .inr ⟨g, rfl⟩⟩

section
variable {w0 w : World} {F0 : List Nat} {E : Env}
theorem rtForm_s (g : Nat) (l : Value) (r : Option (List RunT)) (Av : Option Addr) (n cv : Nat) (M : List UInt8) (H : St w0 F0 w (lay [ledR l r, .blk g 90 [.slice Av n cv, .bool true], .row 5 1 (.slice Av n cv) n (M.map vb)])) (hn : n ≤ 1000000000) :
    Calls Try.prog 55 #[lptr g] w fun e w' => ∃ v, e = .returned v ∧ St w0 F0 w' (lay [ledR l r, .blk g 90 [.slice Av n cv, .bool true], .row 5 1 (.slice Av n cv) n (M.map vb), .row 5 1 v 104 ((form2 M).map vb)]) := by
  have hsh := row_as (H.row 2 rfl)
  have c1 := H.cell 1 rfl (o := 1) rfl
  have c0 := H.cell 1 rfl (o := 0) rfl
  go_enter Try.func55, Try.ntmps55
  go_wp2_with fail
  refine (rtNone_no g w c1).mono ?_
  rintro e w1 ⟨rfl, rfl⟩
  unfold lptr
  go_wp2_with fail
  refine (rtFormOf_s Av n cv M w (H.rd 2 rfl) hsh.1 hsh.2 hn).mono ?_
  rintro e w9 ⟨v, rfl, ho, hb9⟩
  unfold OwnB at ho
  rw [form2_length] at ho
  replace H := (H.pushRow 3 rfl hb9 ho).push_mk rfl
  clear ho hb9 c0 c1
  go_wp2
  go_ret
  exact ⟨_, rfl, H⟩
end
end Go.Proofs.Ytcnphkmcgefjoaa

namespace Go.Proofs.Ytcnphkmcgefjoaa
open Go.RowKit
set_option linter.unusedVariables false
set_option maxRecDepth 100000

attribute [local irreducible] comp2 hTo dig2 laid4 h2 padM form2 lastN sh2S shZ

inductive KA where
  | nil
  | dead (g : Nat)
  | live (g : Nat) (M : List UInt8)

/-- what a state is, but for where it lies -/
abbrev KS := Option (Option (List UInt8))
def KA.abs : KA → KS
  | .nil => none
  | .dead _ => some none
  | .live _ M => some (some M)
def KA.v : KA → Value
  | .nil => .pointer none
  | .dead g => lptr g
  | .live g _ => lptr g
def KS.Ok (N : Nat) (s : KS) : Prop := ∀ M, s = some (some M) → M.length ≤ N

def erA : KS → Int
  | some (some _) => 0
  | _ => 1
def wrA (s : KS) (q : List UInt8) : KS := match s with
  | some (some M) => some (some (M ++ q))
  | s => s
def wrL (s : KS) (r : Option (List RunT)) (n : Nat) : Option (List RunT) := match s with
  | some (some M) => noteN r 1 64 ((M.length + n) / 64 - M.length / 64)
  | _ => r
def suB : KS → List UInt8
  | some (some M) => dig2 M
  | _ => []
def suL (s : KS) (r : Option (List RunT)) : Option (List RunT) := match s with
  | some (some M) => noteN r 1 64 (lastN M.length)
  | _ => r
def clA : KS → KS
  | some (some p) => some (some p)
  | _ => none
def rsA : KS → KS
  | some (some _) => some (some [])
  | s => s
def wiA : KS → KS
  | some (some p) => some none
  | s => s
def wiL (s : KS) (r : Option (List RunT)) : Option (List RunT) := match s with
  | some (some _) => noteN r 8 104 1
  | _ => r
def foB : KS → List UInt8
  | some (some M) => form2 M
  | _ => []
def leA : KS → Int
  | some (some M) => M.length
  | _ => 0

theorem KS.Ok.more {N N' : Nat} {s : KS} (h : s.Ok N) (hN : N ≤ N') : s.Ok N' := fun M e => Nat.le_trans (h M e) hN
theorem wrA_ok {N n : Nat} {s : KS} (h : s.Ok N) (q : List UInt8) (hq : q.length ≤ n) : (wrA s q).Ok (N + n) := by
  match s, h with
  | none, h => exact h.more (by omega)
  | some none, h => exact h.more (by omega)
  | some (some x), h =>
    intro x' e
    injection e with e
    injection e with e
    subst e
    have h1 := h x rfl
    rw [List.length_append]
    omega
theorem clA_ok {N : Nat} {s : KS} (h : s.Ok N) : (clA s).Ok N := by
  match s, h with
  | none, h => exact h
  | some none, h => intro x e; cases e
  | some (some x), h => exact h
theorem wiA_ok {N : Nat} {s : KS} (h : s.Ok N) : (wiA s).Ok N := by
  match s, h with
  | none, h => exact h
  | some none, h => exact h
  | some (some x), h => intro x e; cases e
theorem rsA_ok {N : Nat} {s : KS} (h : s.Ok N) : (rsA s).Ok N := by
  match s, h with
  | none, h => exact h
  | some none, h => exact h
  | some (some x), h =>
    intro x' e
    injection e with e
    injection e with e
    subst e
    exact Nat.zero_le _
theorem newA_ok (N : Nat) : KS.Ok N (some (some [])) := by
  intro x' e
  injection e with e
  injection e with e
  subst e
  exact Nat.zero_le _

theorem wrL_lw {s : KS} {r : Option (List RunT)} {m n N : Nat} {b : Int} (h : s.Ok N) (hN : N ≤ 100000000) (hg : LW r m b) (hn : n ≤ 1000000) : LW (wrL s r n) (m + 1) (b + 200000000) := by
  match s, h with
  | none, h => exact hg.more (by omega) (by omega)
  | some none, h => exact hg.more (by omega) (by omega)
  | some (some x), h =>
    have h1 := h x rfl
    exact (hg.noteN 1 64 ((x.length + n) / 64 - x.length / 64)).more (by omega) (by omega)
theorem suL_lw {s : KS} {r : Option (List RunT)} {m : Nat} {b : Int} (hg : LW r m b) : LW (suL s r) (m + 1) (b + 200000000) := by
  match s with
  | none => exact hg.more (by omega) (by omega)
  | some none => exact hg.more (by omega) (by omega)
  | some (some x) =>
    have := lastN_le x.length
    exact (hg.noteN 1 64 (lastN x.length)).more (by omega) (by omega)
theorem wiL_lw {s : KS} {r : Option (List RunT)} {m : Nat} {b : Int} (hg : LW r m b) : LW (wiL s r) (m + 1) (b + 200000000) := by
  match s with
  | none => exact hg.more (by omega) (by omega)
  | some none => exact hg.more (by omega) (by omega)
  | some (some x) => exact (hg.noteN 8 104 1).more (by omega) (by omega)
theorem suB_le (s : KS) : (suB s).length ≤ 65536 := by
  unfold suB
  split
  · rw [dig2_length]; omega
  · simp
theorem foB_le (s : KS) : (foB s).length ≤ 65536 := by
  unfold foB
  split
  · rw [form2_length]; omega
  · simp

/-- a state's memory: the module's -/
def KA.ownM : KA → Own
  | .nil => .emp
  | .dead g => .blk g 77 shZ
  | .live g M => .blk g 77 (sh2S M)
/-- the document's state, and its bytes -/
abbrev rtP (g : Nat) (M : List UInt8) (p : Option Addr × Nat) : Own := .sep (.blk g 90 [.slice p.1 M.length p.2, .bool true]) (.row 5 1 (.slice p.1 M.length p.2) M.length (M.map vb))
def KA.ownR : KA → Own
  | .nil => .emp
  | .dead g => .blk g 90 [.slice none 0 0, .bool false]
  | .live g M => .ex (rtP g M)

section
variable {w0 w : World} {F0 : List Nat} {E : Env}

theorem smWrite_any (l : Value) (r : Option (List RunT)) (m : Nat) (b : Int) (a : KA) {N : Nat} (ha : a.abs.Ok N) (hN : N ≤ 500000000) (A : Option Addr) (n c : Nat) (q : List UInt8) (H : St w0 F0 w E) (i j : Nat) (hij : i ≠ j) (hi : E i = some (led l r)) (hj : E j = some a.ownM) (hg : LW r m b) (hm : m ≤ 99999999) (hb : b ≤ 100000000000000000) (hR : ∀ w' X Y, St w0 F0 w' (upd (upd E i X) j Y) → Rd w' 1 A n (q.map vb)) (hcap : n ≤ c) (hn : n ≤ 100000000) :
    Calls Try.prog 23 #[a.v, l, .slice A n c] w fun e w' => ∃ a' : KA, a'.abs = wrA a.abs q ∧ a'.v = a.v ∧ e = .returned (.int .i64 (erA a.abs)) ∧ St w0 F0 w' (upd (upd E i (led l (wrL a.abs r n))) j a'.ownM) := by
  cases a with
  | nil =>
    refine (sh2Write_none l (.slice A n c) _ (.inl rfl)).mono ?_
    rintro e w' ⟨rfl, rfl⟩
    exact ⟨.nil, rfl, rfl, rfl, H.env fun k => congrFun (upd2_id hi hj) k⟩
  | dead g =>
    refine (sh2Write_none l (.slice A n c) _ (H.sh2No j hj)).mono ?_
    rintro e w' ⟨rfl, rfl⟩
    exact ⟨.dead g, rfl, rfl, rfl, H.env fun k => congrFun (upd2_id hi hj) k⟩
  | live g M =>
    change E j = some (.blk g 77 (sh2S M)) at hj
    have h1 := ha M rfl
    refine (sh2Write_s l r m b g M A n c q H i j hij hi hj hg (by omega) (by omega) hR hcap (by omega)).mono ?_
    rintro e w' ⟨rfl, H1⟩
    exact ⟨.live g (M ++ q), rfl, rfl, rfl, H1⟩

theorem smSum_any (l : Value) (r : Option (List RunT)) (m : Nat) (b : Int) (a : KA) {N : Nat} (ha : a.abs.Ok N) (hN : N ≤ 500000000) (H : St w0 F0 w E) (i j k0 : Nat) (hij : i ≠ j) (hi : E i = some (led l r)) (hj : E j = some a.ownM) (hk : E k0 = none) (hg : LW r m b) (hm : m ≤ 99999999) (hb : b ≤ 100000000000000000)  :
    Calls Try.prog 25 #[a.v, l] w fun e w' => ∃ v, e = .returned (.tuple #[v, .int .i64 (erA a.abs)]) ∧ St w0 F0 w' (upd (upd (upd E i (led l (suL a.abs r))) j a.ownM) k0 (.row 5 1 v (suB a.abs).length ((suB a.abs).map vb))) := by
  cases a with
  | nil =>
    refine (sh2Sum_none l _ (.inl rfl)).mono ?_
    rintro e w' ⟨rfl, rfl⟩
    exact ⟨_, rfl, by show St w0 F0 w (upd (upd (upd E i (led l r)) j _) k0 _); rw [upd2_id hi hj]; exact H.nilRow k0 hk _ _⟩
  | dead g =>
    refine (sh2Sum_none l _ (H.sh2No j hj)).mono ?_
    rintro e w' ⟨rfl, rfl⟩
    exact ⟨_, rfl, by show St w0 F0 w (upd (upd (upd E i (led l r)) j _) k0 _); rw [upd2_id hi hj]; exact H.nilRow k0 hk _ _⟩
  | live g M =>
    change E j = some (.blk g 77 (sh2S M)) at hj
    have h1 := ha M rfl
    refine (sh2Sum_s l r m b g M H i j k0 hij hi hj hk hg (by omega) (by omega) (by omega)).mono ?_
    rintro e w' ⟨v, rfl, H1⟩
    refine ⟨v, rfl, ?_⟩
    rw [show (suB (KA.live g M).abs).length = 32 from dig2_length M]
    exact H1

theorem smClone_any (a : KA) {N : Nat} (ha : a.abs.Ok N) (hN : N ≤ 500000000) (H : St w0 F0 w E) (j k : Nat) (hj : E j = some a.ownM) (hk : E k = none) :
    Calls Try.prog 33 #[a.v] w fun e w' => ∃ a' : KA, a'.abs = clA a.abs ∧ e = .returned (.tuple #[a'.v, .int .i64 (erA a.abs)]) ∧ St w0 F0 w' (upd E k a'.ownM) := by
  cases a with
  | nil =>
    refine (sh2Clone_none _ (.inl rfl)).mono ?_
    rintro e w' ⟨rfl, rfl⟩
    exact ⟨.nil, rfl, rfl, H.nothing k hk⟩
  | dead g =>
    refine (sh2Clone_none _ (H.sh2No j hj)).mono ?_
    rintro e w' ⟨rfl, rfl⟩
    exact ⟨.nil, rfl, rfl, H.nothing k hk⟩
  | live g M =>
    change E j = some (.blk g 77 (sh2S M)) at hj
    refine (sh2Clone_s g M H j k hj hk).mono ?_
    rintro e w' ⟨g', rfl, H1⟩
    exact ⟨.live g' M, rfl, rfl, H1⟩

theorem smReset_any (a : KA) {N : Nat} (ha : a.abs.Ok N) (hN : N ≤ 500000000) (H : St w0 F0 w E) (j : Nat) (hj : E j = some a.ownM) :
    Calls Try.prog 35 #[a.v] w fun e w' => ∃ a' : KA, a'.abs = rsA a.abs ∧ a'.v = a.v ∧ e = .returned (.int .i64 (erA a.abs)) ∧ St w0 F0 w' (upd E j a'.ownM) := by
  cases a with
  | nil =>
    refine (sh2Reset_none _ (.inl rfl)).mono ?_
    rintro e w' ⟨rfl, rfl⟩
    exact ⟨.nil, rfl, rfl, rfl, by rw [upd_id hj]; exact H⟩
  | dead g =>
    refine (sh2Reset_none _ (H.sh2No j hj)).mono ?_
    rintro e w' ⟨rfl, rfl⟩
    exact ⟨.dead g, rfl, rfl, rfl, by rw [upd_id hj]; exact H⟩
  | live g M =>
    change E j = some (.blk g 77 (sh2S M)) at hj
    refine (sh2Reset_s g M H j hj).mono ?_
    rintro e w' ⟨rfl, H1⟩
    exact ⟨.live g [], rfl, rfl, rfl, H1⟩

theorem smWipe_any (l : Value) (r : Option (List RunT)) (m : Nat) (b : Int) (a : KA) {N : Nat} (ha : a.abs.Ok N) (hN : N ≤ 500000000) (H : St w0 F0 w E) (i j : Nat) (hij : i ≠ j) (hi : E i = some (led l r)) (hj : E j = some a.ownM) (hg : LW r m b) (hm : m ≤ 99999999) (hb : b ≤ 100000000000000000)  :
    Calls Try.prog 34 #[a.v, l] w fun e w' => ∃ a' : KA, a'.abs = wiA a.abs ∧ a'.v = a.v ∧ e = .returned (.int .i64 (erA a.abs)) ∧ St w0 F0 w' (upd (upd E i (led l (wiL a.abs r))) j a'.ownM) := by
  cases a with
  | nil =>
    refine (sh2Wipe_none l _ (.inl rfl)).mono ?_
    rintro e w' ⟨rfl, rfl⟩
    exact ⟨.nil, rfl, rfl, rfl, H.env fun k => congrFun (upd2_id hi hj) k⟩
  | dead g =>
    refine (sh2Wipe_none l _ (H.sh2No j hj)).mono ?_
    rintro e w' ⟨rfl, rfl⟩
    exact ⟨.dead g, rfl, rfl, rfl, H.env fun k => congrFun (upd2_id hi hj) k⟩
  | live g M =>
    change E j = some (.blk g 77 (sh2S M)) at hj
    refine (sh2Wipe_s l r m b g M H i j hij hi hj hg (by omega) (by omega)).mono ?_
    rintro e w' ⟨rfl, H1⟩
    exact ⟨.dead g, rfl, rfl, rfl, H1⟩

theorem smForm_any (a : KA) {N : Nat} (ha : a.abs.Ok N) (hN : N ≤ 500000000) (H : St w0 F0 w E) (j k : Nat) (hj : E j = some a.ownM) (hk : E k = none) :
    Calls Try.prog 22 #[a.v] w fun e w' => ∃ v, e = .returned v ∧ St w0 F0 w' (upd E k (.row 5 1 v (foB a.abs).length ((foB a.abs).map vb))) := by
  cases a with
  | nil =>
    refine (sh2Form_none _ (.inl rfl)).mono ?_
    rintro e w' ⟨rfl, rfl⟩
    exact ⟨_, rfl, H.nilRow k hk _ _⟩
  | dead g =>
    refine (sh2Form_none _ (H.sh2No j hj)).mono ?_
    rintro e w' ⟨rfl, rfl⟩
    exact ⟨_, rfl, H.nilRow k hk _ _⟩
  | live g M =>
    change E j = some (.blk g 77 (sh2S M)) at hj
    have h1 := ha M rfl
    refine (sh2Form_s g M H j k hj hk (by omega)).mono ?_
    rintro e w' ⟨v, rfl, H1⟩
    refine ⟨v, rfl, ?_⟩
    rw [show (foB (KA.live g M).abs).length = 104 from form2_length M]
    exact H1

theorem smLen_any (a : KA) (H : St w0 F0 w E) (j : Nat) (hj : E j = some a.ownM) :
    Calls Try.prog 27 #[a.v] w fun e w' => e = .returned (.int .i64 (leA a.abs)) ∧ w = w' := by
  cases a with
  | nil => exact sh2Len_none _ (.inl rfl)
  | dead g => exact sh2Len_none _ (H.sh2No j hj)
  | live g M => exact sh2Len_s g M H j hj

theorem upd_ji {i j : Nat} {X A Y : Own} : upd (upd (upd E j X) i A) j Y = upd (upd E i A) j Y := by
  funext k
  simp only [upd]
  by_cases hk : k = j <;> simp [hk]
theorem upd_kj {j k : Nat} (hkj : k ≠ j) {S R Y : Own} : upd (upd (upd E j S) k R) j Y = upd (upd E j Y) k R := by
  funext n
  simp only [upd]
  by_cases hn : n = j
  · subst hn; simp [Ne.symm hkj]
  · simp [hn]
theorem rtNo_dead {g : Nat} (H : St w0 F0 w E) (j : Nat) (hj : E j = some (KA.dead g).ownR) : RtNo w (lptr g) := .inr ⟨g, rfl, H.cell (g := g) (T := 90) (cs := [.slice none 0 0, .bool false]) j hj rfl⟩

/-- the document's state, opened beside a ledger -/
theorem KA.openR {g : Nat} {M : List UInt8} {A : Own} (H : St w0 F0 w E) (i j : Nat) (hij : i ≠ j) (hi : E i = some A) (hj : E j = some (KA.live g M).ownR) :
    ∃ Av cv F, St w F w (lay [A, .blk g 90 [.slice Av M.length cv, .bool true], .row 5 1 (.slice Av M.length cv) M.length (M.map vb)]) ∧ (∀ (w' : World) (A' B' C' : Own), St w F w' (lay [A', B', C']) → St w0 F0 w' (upd (upd E i A') j (.sep B' C'))) ∧
      ∀ (w' : World) (A' B' C' R : Own) (k : Nat), E k = none → St w F w' (lay [A', B', C', R]) → St w0 F0 w' (upd (upd (upd E i A') j (.sep B' C')) k R) := by
  obtain ⟨⟨Av, cv⟩, H1⟩ := H.openEx j hj
  obtain ⟨F, HF, hb3, hb4⟩ := H1.loc i j hij (A := A) (by simp [upd, hij, hi]) upd_same
  refine ⟨Av, cv, F, HF, fun w' A' B' C' h => ?_, fun w' A' B' C' R k hk h => ?_⟩
  · have h1 := hb3 w' A' B' C' h
    rwa [upd_ji] at h1
  · have hkj : k ≠ j := fun e => by rw [e, hj] at hk; cases hk
    have h1 := hb4 w' A' B' C' R k (by simp [upd, hkj, hk]) h
    rwa [upd_ji] at h1
theorem KA.shutR {g n cv j : Nat} {Av : Option Addr} {M : List UInt8} (H : St w0 F0 w (upd E j (.sep (.blk g 90 [.slice Av n cv, .bool true]) (.row 5 1 (.slice Av n cv) n (M.map vb))))) (hn : M.length = n) : St w0 F0 w (upd E j (KA.live g M).ownR) := by
  subst hn
  have h := H.shutEx (A := rtP g M) (Av, cv) j upd_same
  rwa [upd_upd] at h
theorem KA.shutRk {g n cv j k : Nat} {Av : Option Addr} {M : List UInt8} {R : Own} (hkj : k ≠ j) (H : St w0 F0 w (upd (upd E j (.sep (.blk g 90 [.slice Av n cv, .bool true]) (.row 5 1 (.slice Av n cv) n (M.map vb)))) k R)) (hn : M.length = n) : St w0 F0 w (upd (upd E j (KA.live g M).ownR) k R) := by
  subst hn
  have h := H.shutEx (A := rtP g M) (Av, cv) j (by simp [upd, Ne.symm hkj])
  rwa [upd_kj hkj] at h

theorem rmWrite_any (l : Value) (r : Option (List RunT)) (m : Nat) (b : Int) (a : KA) {N : Nat} (ha : a.abs.Ok N) (hN : N ≤ 500000000) (A : Option Addr) (n c : Nat) (q : List UInt8) (H : St w0 F0 w E) (i j : Nat) (hij : i ≠ j) (hi : E i = some (ledR l r)) (hj : E j = some a.ownR) (hg : LW r m b) (hm : m ≤ 99999999) (hb : b ≤ 100000000000000000) (hR : ∀ w' X Y, St w0 F0 w' (upd (upd E i X) j Y) → Rd w' 1 A n (q.map vb)) (hcap : n ≤ c) (hn : n ≤ 100000000) :
    Calls Try.prog 48 #[a.v, l, .slice A n c] w fun e w' => ∃ a' : KA, a'.abs = wrA a.abs q ∧ a'.v = a.v ∧ e = .returned (.int .i64 (erA a.abs)) ∧ St w0 F0 w' (upd (upd E i (ledR l (wrL a.abs r n))) j a'.ownR) := by
  cases a with
  | nil =>
    refine (rtWrite_none l (.slice A n c) _ (.inl rfl)).mono ?_
    rintro e w' ⟨rfl, rfl⟩
    exact ⟨.nil, rfl, rfl, rfl, H.env fun k => congrFun (upd2_id hi hj) k⟩
  | dead g =>
    refine (rtWrite_none l (.slice A n c) _ (rtNo_dead H j hj)).mono ?_
    rintro e w' ⟨rfl, rfl⟩
    exact ⟨.dead g, rfl, rfl, rfl, H.env fun k => congrFun (upd2_id hi hj) k⟩
  | live g M =>
    have h1 := ha M rfl
    obtain ⟨Av, cv, F, HF, hb3, hb4⟩ := KA.openR H i j hij hi hj
    have hln : q.length = n := by
      have h := (hR w _ _ (by rw [upd_id hi, upd_id hj]; exact H)).1
      simpa using h
    refine (rtWrite_s g l r m b Av M.length cv M A n c q HF hg (by omega) (by omega) (fun w' X Y Z h => hR w' X _ (hb3 w' X Y Z h)) (by omega) (by omega)).mono ?_
    rintro e w' ⟨A7, c7, rfl, H1⟩
    exact ⟨.live g (M ++ q), rfl, rfl, rfl, KA.shutR (hb3 _ _ _ _ H1) (by rw [List.length_append, hln])⟩

theorem rmSum_any (l : Value) (r : Option (List RunT)) (m : Nat) (b : Int) (a : KA) {N : Nat} (ha : a.abs.Ok N) (hN : N ≤ 500000000) (H : St w0 F0 w E) (i j k0 : Nat) (hij : i ≠ j) (hi : E i = some (ledR l r)) (hj : E j = some a.ownR) (hk : E k0 = none) (hg : LW r m b) (hm : m ≤ 99999999) (hb : b ≤ 100000000000000000)  :
    Calls Try.prog 50 #[a.v, l] w fun e w' => ∃ v, e = .returned (.tuple #[v, .int .i64 (erA a.abs)]) ∧ St w0 F0 w' (upd (upd (upd E i (ledR l (suL a.abs r))) j a.ownR) k0 (.row 5 1 v (suB a.abs).length ((suB a.abs).map vb))) := by
  cases a with
  | nil =>
    refine (rtSum_none l _ (.inl rfl)).mono ?_
    rintro e w' ⟨rfl, rfl⟩
    exact ⟨_, rfl, by show St w0 F0 w (upd (upd (upd E i (ledR l r)) j _) k0 _); rw [upd2_id hi hj]; exact H.nilRow k0 hk _ _⟩
  | dead g =>
    refine (rtSum_none l _ (rtNo_dead H j hj)).mono ?_
    rintro e w' ⟨rfl, rfl⟩
    exact ⟨_, rfl, by show St w0 F0 w (upd (upd (upd E i (ledR l r)) j _) k0 _); rw [upd2_id hi hj]; exact H.nilRow k0 hk _ _⟩
  | live g M =>
    have h1 := ha M rfl
    obtain ⟨Av, cv, F, HF, hb3, hb4⟩ := KA.openR H i j hij hi hj
    have hkj : k0 ≠ j := fun e => by rw [e, hj] at hk; cases hk
    refine (rtSum_s g l r m b Av M.length cv M HF hg (by omega) (by omega) (by omega)).mono ?_
    rintro e w' ⟨v, rfl, H1⟩
    refine ⟨v, rfl, ?_⟩
    rw [show (suB (KA.live g M).abs).length = 32 from dig2_length M]
    exact KA.shutRk hkj (hb4 _ _ _ _ _ k0 hk H1) rfl

theorem rmClone_any (l : Value) (r : Option (List RunT)) (a : KA) {N : Nat} (ha : a.abs.Ok N) (hN : N ≤ 500000000) (H : St w0 F0 w E) (i j k0 : Nat) (hij : i ≠ j) (hi : E i = some (ledR l r)) (hj : E j = some a.ownR) (hk : E k0 = none)  :
    Calls Try.prog 52 #[a.v] w fun e w' => ∃ a' : KA, a'.abs = clA a.abs ∧ e = .returned (.tuple #[a'.v, .int .i64 (erA a.abs)]) ∧ St w0 F0 w' (upd E k0 a'.ownR) := by
  cases a with
  | nil =>
    refine (rtClone_none _ (.inl rfl)).mono ?_
    rintro e w' ⟨rfl, rfl⟩
    exact ⟨.nil, rfl, rfl, H.nothing k0 hk⟩
  | dead g =>
    refine (rtClone_none _ (rtNo_dead H j hj)).mono ?_
    rintro e w' ⟨rfl, rfl⟩
    exact ⟨.nil, rfl, rfl, H.nothing k0 hk⟩
  | live g M =>
    have h1 := ha M rfl
    obtain ⟨Av, cv, F, HF, hb3, hb4⟩ := KA.openR H i j hij hi hj
    have hkj : k0 ≠ j := fun e => by rw [e, hj] at hk; cases hk
    refine (rtClone_s g l r Av M.length cv M HF (by omega)).mono ?_
    rintro e w' ⟨g', A6, c6, rfl, H1⟩
    have H2 := St.join_mk (L := [ledR l r, .blk g 90 [.slice Av M.length cv, .bool true], .row 5 1 (.slice Av M.length cv) M.length (M.map vb), .blk g' 90 [.slice A6 M.length c6, .bool true]]) H1 3 rfl
    have H3 := KA.shutRk hkj (hb4 _ _ _ _ _ k0 hk H2) rfl
    rw [upd_mid hij hj, upd_id hi] at H3
    exact ⟨.live g' M, rfl, rfl, KA.shutR H3 rfl⟩

theorem rmReset_any (l : Value) (r : Option (List RunT)) (a : KA) {N : Nat} (ha : a.abs.Ok N) (hN : N ≤ 500000000) (H : St w0 F0 w E) (i j : Nat) (hij : i ≠ j) (hi : E i = some (ledR l r)) (hj : E j = some a.ownR)  :
    Calls Try.prog 53 #[a.v] w fun e w' => ∃ a' : KA, a'.abs = rsA a.abs ∧ a'.v = a.v ∧ e = .returned (.int .i64 (erA a.abs)) ∧ St w0 F0 w' (upd E j a'.ownR) := by
  cases a with
  | nil =>
    refine (rtReset_none _ (.inl rfl)).mono ?_
    rintro e w' ⟨rfl, rfl⟩
    exact ⟨.nil, rfl, rfl, rfl, by rw [upd_id hj]; exact H⟩
  | dead g =>
    refine (rtReset_none _ (rtNo_dead H j hj)).mono ?_
    rintro e w' ⟨rfl, rfl⟩
    exact ⟨.dead g, rfl, rfl, rfl, by rw [upd_id hj]; exact H⟩
  | live g M =>
    have h1 := ha M rfl
    obtain ⟨Av, cv, F, HF, hb3, hb4⟩ := KA.openR H i j hij hi hj
    refine (rtReset_s g l r Av M.length cv M HF).mono ?_
    rintro e w' ⟨rfl, H1⟩
    have h := KA.shutR (M := []) (hb3 _ _ _ _ H1) rfl
    rw [upd_id hi] at h
    exact ⟨.live g [], rfl, rfl, rfl, h⟩

theorem rmWipe_any (l : Value) (r : Option (List RunT)) (m : Nat) (b : Int) (a : KA) {N : Nat} (ha : a.abs.Ok N) (hN : N ≤ 500000000) (H : St w0 F0 w E) (i j : Nat) (hij : i ≠ j) (hi : E i = some (ledR l r)) (hj : E j = some a.ownR) (hg : LW r m b) (hm : m ≤ 99999999) (hb : b ≤ 100000000000000000)  :
    Calls Try.prog 54 #[a.v, l] w fun e w' => ∃ a' : KA, a'.abs = wiA a.abs ∧ a'.v = a.v ∧ e = .returned (.int .i64 (erA a.abs)) ∧ St w0 F0 w' (upd (upd E i (ledR l (wiL a.abs r))) j a'.ownR) := by
  cases a with
  | nil =>
    refine (rtWipe_none l _ (.inl rfl)).mono ?_
    rintro e w' ⟨rfl, rfl⟩
    exact ⟨.nil, rfl, rfl, rfl, H.env fun k => congrFun (upd2_id hi hj) k⟩
  | dead g =>
    refine (rtWipe_none l _ (rtNo_dead H j hj)).mono ?_
    rintro e w' ⟨rfl, rfl⟩
    exact ⟨.dead g, rfl, rfl, rfl, H.env fun k => congrFun (upd2_id hi hj) k⟩
  | live g M =>
    have h1 := ha M rfl
    obtain ⟨Av, cv, F, HF, hb3, hb4⟩ := KA.openR H i j hij hi hj
    refine (rtWipe_s g l r m b Av M.length cv M HF hg (by omega) (by omega)).mono ?_
    rintro e w' ⟨rfl, H1⟩
    have h := (hb3 _ _ _ _ (H1.nothing 2 rfl |>.push_mk rfl)).recast2 j upd_same (fun w F => sep_left)
    rw [upd_upd] at h
    exact ⟨.dead g, rfl, rfl, rfl, h⟩

theorem rmForm_any (l : Value) (r : Option (List RunT)) (a : KA) {N : Nat} (ha : a.abs.Ok N) (hN : N ≤ 500000000) (H : St w0 F0 w E) (i j k0 : Nat) (hij : i ≠ j) (hi : E i = some (ledR l r)) (hj : E j = some a.ownR) (hk : E k0 = none)  :
    Calls Try.prog 55 #[a.v] w fun e w' => ∃ v, e = .returned v ∧ St w0 F0 w' (upd E k0 (.row 5 1 v (foB a.abs).length ((foB a.abs).map vb))) := by
  cases a with
  | nil =>
    refine (rtForm_none _ (.inl rfl)).mono ?_
    rintro e w' ⟨rfl, rfl⟩
    exact ⟨_, rfl, H.nilRow k0 hk _ _⟩
  | dead g =>
    refine (rtForm_none _ (rtNo_dead H j hj)).mono ?_
    rintro e w' ⟨rfl, rfl⟩
    exact ⟨_, rfl, H.nilRow k0 hk _ _⟩
  | live g M =>
    have h1 := ha M rfl
    obtain ⟨Av, cv, F, HF, hb3, hb4⟩ := KA.openR H i j hij hi hj
    have hkj : k0 ≠ j := fun e => by rw [e, hj] at hk; cases hk
    refine (rtForm_s g l r Av M.length cv M HF (by omega)).mono ?_
    rintro e w' ⟨v, rfl, H1⟩
    refine ⟨v, rfl, ?_⟩
    rw [show (foB (KA.live g M).abs).length = 104 from form2_length M]
    have h := KA.shutRk hkj (hb4 _ _ _ _ _ k0 hk H1) rfl
    rw [upd_mid hij hj, upd_id hi] at h
    exact h

theorem rmLen_any (l : Value) (r : Option (List RunT)) (a : KA) (H : St w0 F0 w E) (i j : Nat) (hij : i ≠ j) (hi : E i = some (ledR l r)) (hj : E j = some a.ownR) :
    Calls Try.prog 56 #[a.v] w fun e w' => e = .returned (.int .i64 (leA a.abs)) ∧ w = w' := by
  cases a with
  | nil => exact rtLen_none _ (.inl rfl)
  | dead g => exact rtLen_none _ (rtNo_dead H j hj)
  | live g M =>
    obtain ⟨Av, cv, F, HF, hb3, hb4⟩ := KA.openR H i j hij hi hj
    exact rtLen_s g l r Av M.length cv M HF
end
end Go.Proofs.Ytcnphkmcgefjoaa

namespace Go.Proofs.Ytcnphkmcgefjoaa
open Go.RowKit
set_option linter.unusedVariables false
set_option maxRecDepth 100000

def sactN (s : SactR) : Nat := s.n3
def ssTo {α : Type} (f : α → Nat) (l : List α) (k : Nat) : Nat := ((l.take k).map f).sum

theorem ssTo_succ {α : Type} (f : α → Nat) {l : List α} {k : Nat} {x : α} (h : l[k]? = some x) : ssTo f l (k + 1) = ssTo f l k + f x := by
  unfold ssTo; rw [List.take_add_one, h]; simp
theorem ssTo_le {α : Type} (f : α → Nat) (l : List α) (k b : Nat) (h : ∀ x ∈ l, f x ≤ b) : ssTo f l k ≤ b * k := by
  induction k with
  | zero => simp [ssTo]
  | succ k ih =>
    rcases Nat.lt_or_ge k l.length with hk | hk
    · rw [ssTo_succ f (List.getElem?_eq_getElem hk)]
      have := h _ (List.getElem_mem hk)
      rw [Nat.mul_succ]
      omega
    · have : ssTo f l (k + 1) = ssTo f l k := by unfold ssTo; rw [List.take_of_length_le (by omega), List.take_of_length_le hk]
      rw [this, Nat.mul_succ]; omega
theorem ssTo_mem {α : Type} (f : α → Nat) {l : List α} {k i : Nat} {x : α} (h : l[i]? = some x) (hi : i < k) : f x ≤ ssTo f l k := by
  induction k with
  | zero => omega
  | succ k ih =>
    rcases Nat.lt_or_ge k l.length with hk | hk
    · rw [ssTo_succ f (List.getElem?_eq_getElem hk)]
      by_cases e : i = k
      · subst e
        rw [List.getElem?_eq_getElem hk] at h
        injection h with h
        rw [h]; omega
      · have := ih (by omega); omega
    · have hl : i < l.length := (List.getElem?_eq_some_iff.1 h).1
      have e : ssTo f l (k + 1) = ssTo f l k := by unfold ssTo; rw [List.take_of_length_le (by omega), List.take_of_length_le hk]
      rw [e]
      exact ih (by omega)

set_option maxHeartbeats 4000000 in
theorem sh2Small_s (A : Option Addr) (n c : Nat) (ks : List SactR) (w : World) (hA : Rd w 5 A n (sactsV ks)) (hn : n ≤ 1048576) (ha : ∀ s ∈ ks, s.n3 ≤ 1048576) :
    Calls Try.prog 28 #[.slice A n c] w fun e w' => ∃ b : Bool, e = .returned (.bool b) ∧ (b = true → n ≤ 60 ∧ ssTo sactN ks n ≤ 16384) ∧ Below w.heap.size w w' := by
  have hla : ks.length = n := by have := hA.1; rw [sactsV_length] at this; omega
  have HLA := Lib.hid hla
  have HA := Lib.hid ha
  clear hla ha
  have H := St.start_lay w []
  go_enter Try.func28, Try.ntmps28
  go_wp2
  go_loopw [3, 4] (fun v i wr => ∃ j : Nat, j ≤ n ∧ i = .int .i64 (j : Int) ∧ v = .int .i64 ((ssTo sactN ks j : Nat) : Int) ∧ ssTo sactN ks j ≤ j * 1048576 ∧ St w [] wr (lay [])) (fun _ i _ => n - (intOf i).toNat)
  case atStart => exact ⟨0, Nat.zero_le _, rfl, rfl, Nat.zero_le _, H⟩
  case round =>
    clear H
    obtain ⟨j, hj, rfl, rfl, h4, H⟩ := hrel
    by_cases hlt : j < n
    · obtain ⟨x, hx⟩ : ∃ r, ks[j]? = some r := ⟨_, List.getElem?_eq_getElem (by rw [HLA.out]; exact hlt)⟩
      obtain ⟨p, o, rfl, a0, a1, a2, a3, a4, hlt2⟩ := sact_cells (H.arg0 hA) hx
      have hb := HA.out x (List.mem_of_getElem? hx)
      have hs := ssTo_succ sactN hx
      rw [show sactN x = x.n3 from rfl] at hs
      have HS : Hid (ssTo sactN ks (j + 1) = ssTo sactN ks j + x.n3) := by unfold Hid; omega
      clear hx hs a0 a1 a2 a4
      generalize ssTo sactN ks j = s at HS h4
      have hki : (j : Int) < n := by omega
      generalize x.n3 = q at a3 HS hb
      have HSI : Hid (((ssTo sactN ks (j + 1) : Nat) : Int) = (s : Int) + (q : Int)) := by unfold Hid; rw [HS.out]; push_cast; omega
      have hw4 : ssTo sactN ks (j + 1) ≤ (j + 1) * 1048576 := by have := HS.out; omega
      have HW4 := Lib.hid hw4
      clear HS hw4
      go_wp2
      go_roundw
      case rel => exact ⟨j + 1, by omega, by go_num, by first | (rw [HSI.out]; done) | (rw [HSI.out]; go_num), HW4.out, H⟩
      case measure => simp [intOf]; omega
    · obtain rfl : j = n := by omega
      have hki : ¬ (j : Int) < j := by omega
      obtain ⟨s, Hs⟩ : ∃ s, Hid (ssTo sactN ks j = s) := ⟨_, rfl⟩
      rw [Hs.out] at h4 ⊢
      by_cases h1 : j ≤ 60
      · have q1 : decide ((j : Int) ≤ 60) = true := by simp; omega
        by_cases h2 : s ≤ 16384
        · have q2 : decide ((s : Int) ≤ 16384) = true := by simp; omega
          have h2' : ssTo sactN ks j ≤ 16384 := by rw [Hs.out]; exact h2
          have HB : Hid (j ≤ 60 ∧ ssTo sactN ks j ≤ 16384) := ⟨h1, h2'⟩
          go_wp2
          go_ret
          first | exact ⟨true, rfl, (fun _ => HB.out), H.below⟩ | exact .inr ⟨rfl, HB.out, H.below⟩ | exact .inr ⟨rfl, HB.out.2, H.below⟩ | exact .inr ⟨rfl, HB.out.1, H.below⟩ | exact ⟨.inr rfl, H.below⟩ | exact ⟨rfl, HB.out, H.below⟩ | exact ⟨rfl, HB.out.2, H.below⟩ | exact ⟨rfl, H.below⟩ | exact .inr ⟨rfl, H.below⟩
        · have q2 : decide ((s : Int) ≤ 16384) = false := by simp; omega
          go_wp2
          go_ret
          first | exact ⟨false, rfl, (fun h => by cases h), H.below⟩ | exact .inl ⟨rfl, H.below⟩ | exact ⟨rfl, H.below⟩
      · have q1 : decide ((j : Int) ≤ 60) = false := by simp; omega
        go_wp2
        go_ret
        first | exact ⟨false, rfl, (fun h => by cases h), H.below⟩ | exact .inl ⟨rfl, H.below⟩ | exact ⟨rfl, H.below⟩
end Go.Proofs.Ytcnphkmcgefjoaa

namespace Go.Proofs.Ytcnphkmcgefjoaa
open Go.RowKit
set_option linter.unusedVariables false

theorem pick_any (x : Int) (N : Nat) (w : World) (h1 : -9223372036854775808 ≤ x) (h2 : x ≤ 9223372036854775807) (hN1 : 1 ≤ N) (hN : N ≤ 1099511627776) {b : Int} (hb : b = (N : Int)) :
    Calls Try.prog 47 #[.int .i64 x, .int .i64 b] w fun e w' => (∃ n : Nat, n < N ∧ (n : Int) = x % (N : Int) ∧ e = .returned (.int .i64 (n : Int))) ∧ w = w' := by
  subst hb
  have h4 := Int.emod_nonneg x (show (N : Int) ≠ 0 by omega)
  have h5 := Int.emod_lt_of_pos x (show (0 : Int) < N by omega)
  have hr : x.tmod N = x % N ∨ x.tmod N = x % N - N := by
    rw [Int.tmod_eq_emod (a := x) (b := (N : Int))]
    split
    · left; simp
    · right; simp
  generalize x % (N : Int) = y at *
  obtain ⟨r, hr'⟩ : ∃ r, x.tmod N = r := ⟨_, rfl⟩
  rw [hr'] at hr
  have HM : Hid (y = if r < 0 then r + N else r) := by unfold Hid; split <;> omega
  have hlt : r < N := by omega
  have hgt : -(N : Int) ≤ r := by omega
  clear hr h4 h5
  by_cases hneg : r < 0
  · have HY : Hid (y = r + N) := by have h := HM.out; rw [if_pos hneg] at h; exact h
    clear HM
    go_enter Try.func47, Try.ntmps47
    go_wp2
    go_ret
    exact ⟨⟨(r + N).toNat, by omega, by rw [HY.out]; omega, by go_num⟩, rfl⟩
  · have HY : Hid (y = r) := by have h := HM.out; rw [if_neg hneg] at h; exact h
    clear HM
    go_enter Try.func47, Try.ntmps47
    go_wp2
    go_ret
    exact ⟨⟨r.toNat, by omega, by rw [HY.out]; omega, by go_num⟩, rfl⟩
end Go.Proofs.Ytcnphkmcgefjoaa

namespace Go.Proofs.Ytcnphkmcgefjoaa
open Go.RowKit
set_option linter.unusedVariables false
set_option maxRecDepth 100000

attribute [local irreducible] comp2 hTo dig2 laid4 h2 padM form2 lastN sh2S shZ

theorem St.tellSlot {w0 w : World} {F0 : List Nat} {L0 : List Own} {L : List Tp} {x : Tp} (H : St w0 F0 w (lay (L0 ++ [x.own]))) (i : Nat) (hi : L0[i]? = some (bigO Tp.own L)) : St w0 F0 w (lay (L0.set i (bigO Tp.own (L ++ [x])))) := by
  have hl : i < L0.length := (List.getElem?_eq_some_iff.1 hi).1
  have h1 := (H.join_mk i hi).recast (A := .sep (bigO Tp.own L) x.own) (A' := bigO Tp.own (L ++ [x])) i (by simp only [lay]; rw [List.getElem?_set_self hl]) (fun w F h => bigO_snoc Tp.own x L w F h)
  have h2 := h1.upd_mk (by simpa using hl)
  rwa [List.set_set] at h2

section
variable {w0 w : World} {F0 : List Nat} {E : Env}

set_option maxHeartbeats 4000000 in
theorem shKeep_s (gx : Nat) (a0 a1 a2 b0 b1 b2 c6 c7 : Value) (P1 P2 P3 P6 P7 P8 P9 P10 P11 : Own) (At Aw Aa Ab : Option Addr) (n ct cw la ca cb : Nat) (vs us : List Value) (xs : List UInt8) (hn : n ≤ 1000) (hla : la ≤ 100000000)
    (H : St w0 F0 w (lay [.blk gx 63 [a0, a1, a2, b0, b1, b2, c6, c7, .slice At n ct, .slice Aw n cw], P1, P2, P3, .row 22 1 (.slice At n ct) n vs, .row 22 1 (.slice Aw n cw) n us, P6, P7, P8, P9, P10, P11, .row 5 1 (.slice Aa la ca) la (xs.map vb), .row 5 1 (.slice Ab la cb) la (xs.map vb)])) :
    Calls Try.prog 51 #[lptr gx, .slice Aa la ca, .slice Ab la cb] w fun e w' => ∃ Av6 dv6 Av9 dv9, e = .returned (.bool true) ∧ St w0 F0 w' (lay [.blk gx 63 [a0, a1, a2, b0, b1, b2, c6, c7, .slice Av6 (n + 1) dv6, .slice Av9 (n + 1) dv9], P1, P2, P3, .row 22 1 (.slice Av6 (n + 1) dv6) (n + 1) (vs ++ [.slice Aa la ca]), .row 22 1 (.slice Av9 (n + 1) dv9) (n + 1) (us ++ [.slice Ab la cb]), P6, P7, P8, P9, P10, P11, .row 5 1 (.slice Aa la ca) la (xs.map vb), .row 5 1 (.slice Ab la cb) la (xs.map vb)]) := by
  obtain ⟨i0, hi0, hz0, hz1, hz2⟩ := info_parts lb_info
  have HI := Lib.hid (⟨hi0, hz0, hz1, hz2⟩ : _ ∧ _ ∧ _ ∧ _)
  clear hi0 hz0 hz1 hz2
  have x8 := H.cell 0 rfl (o := 8) rfl
  unfold lptr
  go_enter Try.func51, Try.ntmps51
  go_wp2_with (at_builtin; refine hold_here' ?_)
  refine Lib.hid ?_
  refine absorb_list (H.allocAt 14 rfl w.heap.size rfl #[.slice Aa la ca] 22 |>.push_mk rfl) ?_
  clear H x8
  intro w5 H
  generalize w.heap.size = gN at H ⊢
  refine wpList_append_any _ rfl (.tmp 11) (.tmp 13) _ rfl 0 22 i0 _ 1 24 Try.underlying36 HI.out.1 HI.out.2.1 HI.out.2.2.1 HI.out.2.2.2 rfl (by omega) (.slice At n ct) n vs rfl (H.row 4 rfl) (some ⟨gN, 0, none⟩) 1 1 [.slice Aa la ca] rfl (H.rdBlk 14 rfl 1 1 rfl) (by intro u hu; simp at hu; subst hu; rfl) (by simp only [maxLen]; omega) (by omega) (by omega) ?_
  intro v6 w6 hown6 hg6 hat6
  obtain ⟨Av6, dv6, rfl, -, -⟩ := row_form hown6
  replace H := ((H.grow 4 rfl hown6 hg6 hat6).upd_mk (by simp)).front 14
  clear hown6 hg6 hat6
  have hfr := H.free 0 rfl 8
  have hce := H.cell 0 rfl (o := 8) rfl
  have x8 := H.cell 0 rfl (o := 9) rfl
  have hst := (H.store 0 rfl (o := 8) (u := .slice Av6 (n + 1) dv6)).upd_mk (by simp)
  clear H
  replace H : St w0 F0 (w6.setCell ⟨gx, 8, none⟩ (.slice Av6 (n + 1) dv6)) (lay [.blk gx 63 [a0, a1, a2, b0, b1, b2, c6, c7, .slice Av6 (n + 1) dv6, .slice Aw n cw], P1, P2, P3, .row 22 1 (.slice Av6 (n + 1) dv6) (n + 1) (vs ++ [.slice Aa la ca]), .row 22 1 (.slice Aw n cw) n us, P6, P7, P8, P9, P10, P11, .row 5 1 (.slice Aa la ca) la (xs.map vb), .row 5 1 (.slice Ab la cb) la (xs.map vb)]) := hst
  clear hst
  go_wp2_with (at_builtin; refine hold_here' ?_)
  refine Lib.hid ?_
  refine absorb_list (H.allocAt 14 rfl w6.heap.size (by simp) #[.slice Ab la cb] 22 |>.push_mk rfl) ?_
  clear H x8
  intro y5 H
  generalize w6.heap.size = gN at H ⊢
  refine wpList_append_any _ rfl (.tmp 21) (.tmp 23) _ rfl 0 22 i0 _ 1 24 Try.underlying36 HI.out.1 HI.out.2.1 HI.out.2.2.1 HI.out.2.2.2 rfl (by omega) (.slice Aw n cw) n us rfl (H.row 5 rfl) (some ⟨gN, 0, none⟩) 1 1 [.slice Ab la cb] rfl (H.rdBlk 14 rfl 1 1 rfl) (by intro u hu; simp at hu; subst hu; rfl) (by simp only [maxLen]; omega) (by omega) (by omega) ?_
  intro v9 y6 hown6 hg6 hat6
  obtain ⟨Av9, dv9, rfl, -, -⟩ := row_form hown6
  replace H := ((H.grow 5 rfl hown6 hg6 hat6).upd_mk (by simp)).front 14
  clear hown6 hg6 hat6
  have hfr := H.free 0 rfl 9
  have hce := H.cell 0 rfl (o := 9) rfl
  have hst := (H.store 0 rfl (o := 9) (u := .slice Av9 (n + 1) dv9)).upd_mk (by simp)
  clear H
  replace H : St w0 F0 (y6.setCell ⟨gx, 9, none⟩ (.slice Av9 (n + 1) dv9)) (lay [.blk gx 63 [a0, a1, a2, b0, b1, b2, c6, c7, .slice Av6 (n + 1) dv6, .slice Av9 (n + 1) dv9], P1, P2, P3, .row 22 1 (.slice Av6 (n + 1) dv6) (n + 1) (vs ++ [.slice Aa la ca]), .row 22 1 (.slice Av9 (n + 1) dv9) (n + 1) (us ++ [.slice Ab la cb]), P6, P7, P8, P9, P10, P11, .row 5 1 (.slice Aa la ca) la (xs.map vb), .row 5 1 (.slice Ab la cb) la (xs.map vb)]) := hst
  clear hst
  go_wp2_with fail
  refine absorb_calls H ?_
  clear H
  intro z1 H
  refine (sameBytes_yes Aa Ab la la ca cb xs xs _ (H.rd 12 rfl) (H.rd 13 rfl) (by omega) (by omega) rfl).mono ?_
  rintro e z2 ⟨rfl, hb⟩
  replace H := H.call hb
  clear hb
  go_wp2
  go_ret
  exact ⟨_, _, _, _, rfl, H⟩
end

/-- a slot: the module's state, the document's -/
abbrev slotO (p : KA × KA) : Own := .sep p.1.ownM p.2.ownR
/-- a slot is right -/
def SlotOk (N : Nat) (p : KA × KA) : Prop := p.1.abs.Ok N ∧ p.2.abs = p.1.abs
theorem SlotOk.more {N N' : Nat} {p : KA × KA} (h : SlotOk N p) (hN : N ≤ N') : SlotOk N' p := ⟨h.1.more hN, h.2⟩

theorem three_get {p0 p1 p2 p : KA × KA} {k : Nat} (h : [p0, p1, p2][k]? = some p) (c d e f : Value) : k < 3 ∧ ([p0.1.v, p1.1.v, p2.1.v, p0.2.v, p1.2.v, p2.2.v, c, d, e, f] : List Value)[k]? = some p.1.v ∧ ([p0.1.v, p1.1.v, p2.1.v, p0.2.v, p1.2.v, p2.2.v, c, d, e, f] : List Value)[3 + k]? = some p.2.v := by
  match k, h with
  | 0, h => cases h; exact ⟨by omega, rfl, rfl⟩
  | 1, h => cases h; exact ⟨by omega, rfl, rfl⟩
  | 2, h => cases h; exact ⟨by omega, rfl, rfl⟩
  | k + 3, h => simp at h

theorem KA.kind {a b : KA} {s : KS} (ha : a.abs = clA s) (hb : b.abs = clA s) : (a = .nil ∧ b = .nil) ∨ ∃ g g' x, a = .live g x ∧ b = .live g' x := by
  have none_case : ∀ {s : KS}, clA s = none → a.abs = clA s → b.abs = clA s → a = .nil ∧ b = .nil := by
    intro s hs h1 h2
    rw [hs] at h1 h2
    cases a with
    | nil =>
      cases b with
      | nil => exact ⟨rfl, rfl⟩
      | dead g => cases h2
      | live g x => cases h2
    | dead g => cases h1
    | live g x => cases h1
  rcases s with _ | _ | x
  · exact .inl (none_case rfl ha hb)
  · exact .inl (none_case rfl ha hb)
  · right
    cases a with
    | nil => cases ha
    | dead g => cases ha
    | live g x' =>
      cases b with
      | nil => cases hb
      | dead g => cases hb
      | live g' x'' =>
        injection ha with ha
        injection ha with ha
        injection hb with hb
        injection hb with hb
        subst ha hb
        exact ⟨_, _, _, rfl, rfl⟩

theorem noteN_some {r : Option (List RunT)} (h : ∃ rs, r = some rs) (k s : Int) (n : Nat) : ∃ rs, noteN r k s n = some rs := by
  obtain ⟨rs, rfl⟩ := h
  unfold noteN
  split
  · exact ⟨_, rfl⟩
  · exact ⟨_, rfl⟩

section
variable {w0 w : World} {N : Nat} {L1 L2 T U V X N1 N2 Y Z : Own} {p0 p1 p2 p : KA × KA} {k q gx : Nat} {c d e f : Value}

theorem St.rot3 {w0 w : World} {F0 : List Nat} {L : List Own} {X Y Z : Own} (H : St w0 F0 w (lay (L ++ [X, Y, Z]))) : St w0 F0 w (lay (L ++ [Z, X, Y])) :=
  H.pick (fun i => if i < L.length then i else if i = L.length then i + 2 else if i < L.length + 3 then i - 1 else i) (fun i j h => by split at h <;> split at h <;> (try split at h) <;> (try split at h) <;> (try split at h) <;> (try split at h) <;> omega) fun k C hC => by
    simp only [lay] at hC ⊢
    by_cases hk : k < L.length
    · rw [if_pos hk, List.getElem?_append_left hk]
      rwa [List.getElem?_append_left hk] at hC
    · rw [if_neg hk, List.getElem?_append_right (by split <;> (try split) <;> omega)]
      rw [List.getElem?_append_right (by omega)] at hC
      have hlt := (List.getElem?_eq_some_iff.1 hC).1
      simp at hlt
      have h3 : k - L.length = 0 ∨ k - L.length = 1 ∨ k - L.length = 2 := by omega
      rcases h3 with h3 | h3 | h3
      · rw [h3] at hC
        rw [if_pos (by omega), show k + 2 - L.length = 2 by omega]
        exact hC
      · rw [h3] at hC
        rw [if_neg (by omega), if_pos (by omega), show k - 1 - L.length = 0 by omega]
        exact hC
      · rw [h3] at hC
        rw [if_neg (by omega), if_pos (by omega), show k - 1 - L.length = 1 by omega]
        exact hC

/-- the slot is laid back -/
theorem act_end (hk : [p0, p1, p2][k]? = some p) {a b : KA} (h1 : a.v = p.1.v) (h2 : b.v = p.2.v) (hab : SlotOk N (a, b)) (hok : SlotOk N p0 ∧ SlotOk N p1 ∧ SlotOk N p2)
    (H : St w0 [] w (lay [.blk gx 63 [p0.1.v, p1.1.v, p2.1.v, p0.2.v, p1.2.v, p2.2.v, c, d, e, f], L1, L2, bigO slotO ([p0, p1, p2].set k (.nil, .nil)), T, U, V, X, N1, N2, a.ownM, b.ownR])) :
    ∃ q0 q1 q2 : KA × KA, (SlotOk N q0 ∧ SlotOk N q1 ∧ SlotOk N q2) ∧ St w0 [] w (lay [.blk gx 63 [q0.1.v, q1.1.v, q2.1.v, q0.2.v, q1.2.v, q2.2.v, c, d, e, f], L1, L2, bigO slotO [q0, q1, q2], T, U, V]) := by
  obtain ⟨hk3, -, -⟩ := three_get hk c d e f
  have H1 := St.join_mk (L := [.blk gx 63 [p0.1.v, p1.1.v, p2.1.v, p0.2.v, p1.2.v, p2.2.v, c, d, e, f], L1, L2, bigO slotO ([p0, p1, p2].set k (.nil, .nil)), T, U, V, X, N1, N2, a.ownM]) H 10 rfl
  have H2 := St.putSlot (f := slotO) (x := (a, b)) (L0 := [.blk gx 63 [p0.1.v, p1.1.v, p2.1.v, p0.2.v, p1.2.v, p2.2.v, c, d, e, f], L1, L2, bigO slotO ([p0, p1, p2].set k (.nil, .nil)), T, U, V, X, N1, N2]) H1 3 k rfl (by simpa using hk3)
  rw [List.set_set] at H2
  replace H2 := H2.front 7
  match k, hk with
  | 0, hk =>
    cases hk
    exact ⟨(a, b), p1, p2, ⟨hab, hok.2⟩, by show St w0 [] w (lay [.blk gx 63 [a.v, p1.1.v, p2.1.v, b.v, p1.2.v, p2.2.v, c, d, e, f], L1, L2, bigO slotO [(a, b), p1, p2], T, U, V]); rw [h1, h2]; exact H2⟩
  | 1, hk =>
    cases hk
    exact ⟨p0, (a, b), p2, ⟨hok.1, hab, hok.2.2⟩, by show St w0 [] w (lay [.blk gx 63 [p0.1.v, a.v, p2.1.v, p0.2.v, b.v, p2.2.v, c, d, e, f], L1, L2, bigO slotO [p0, (a, b), p2], T, U, V]); rw [h1, h2]; exact H2⟩
  | 2, hk =>
    cases hk
    exact ⟨p0, p1, (a, b), ⟨hok.1, hok.2.1, hab⟩, by show St w0 [] w (lay [.blk gx 63 [p0.1.v, p1.1.v, a.v, p0.2.v, p1.2.v, b.v, c, d, e, f], L1, L2, bigO slotO [p0, p1, (a, b)], T, U, V]); rw [h1, h2]; exact H2⟩
  | k + 3, hk => simp at hk

/-- the slot is laid back, another one laid new -/
theorem act_end2 (hk : [p0, p1, p2][k]? = some p) (hq : q < 3) {a b : KA} (hab : SlotOk N (a, b)) (hok : SlotOk N p0 ∧ SlotOk N p1 ∧ SlotOk N p2)
    (H : St w0 [] w (lay [.blk gx 63 (([p0.1.v, p1.1.v, p2.1.v, p0.2.v, p1.2.v, p2.2.v, c, d, e, f].set q a.v).set (3 + q) b.v), L1, L2, bigO slotO ([p0, p1, p2].set k (.nil, .nil)), T, U, V, X, N1, N2, p.1.ownM, p.2.ownR, a.ownM, b.ownR])) :
    ∃ q0 q1 q2 : KA × KA, (SlotOk N q0 ∧ SlotOk N q1 ∧ SlotOk N q2) ∧ St w0 [] w (lay [.blk gx 63 [q0.1.v, q1.1.v, q2.1.v, q0.2.v, q1.2.v, q2.2.v, c, d, e, f], L1, L2, bigO slotO [q0, q1, q2], T, U, V]) := by
  obtain ⟨hk3, -, -⟩ := three_get hk c d e f
  obtain ⟨C, hC⟩ : ∃ C, (([p0.1.v, p1.1.v, p2.1.v, p0.2.v, p1.2.v, p2.2.v, c, d, e, f].set q a.v).set (3 + q) b.v) = C := ⟨_, rfl⟩
  rw [hC] at H
  have H1 := St.join_mk (L := [.blk gx 63 C, L1, L2, bigO slotO ([p0, p1, p2].set k (.nil, .nil)), T, U, V, X, N1, N2, p.1.ownM, p.2.ownR, a.ownM]) H 12 rfl
  have H2 := St.rot3 (L := [.blk gx 63 C, L1, L2, bigO slotO ([p0, p1, p2].set k (.nil, .nil)), T, U, V, X, N1, N2]) (X := p.1.ownM) (Y := p.2.ownR) (Z := slotO (a, b)) H1
  have H3 := St.join_mk (L := [.blk gx 63 C, L1, L2, bigO slotO ([p0, p1, p2].set k (.nil, .nil)), T, U, V, X, N1, N2, slotO (a, b), p.1.ownM]) H2 11 rfl
  have H4 := St.putSlot (f := slotO) (x := p) (L0 := [.blk gx 63 C, L1, L2, bigO slotO ([p0, p1, p2].set k (.nil, .nil)), T, U, V, X, N1, N2, slotO (a, b)]) H3 3 k rfl (by simpa using hk3)
  have hkk : ([p0, p1, p2].set k ((.nil : KA), (.nil : KA))).set k p = [p0, p1, p2] := by
    rw [List.set_set]
    match k, hk with
    | 0, hk => cases hk; rfl
    | 1, hk => cases hk; rfl
    | 2, hk => cases hk; rfl
    | k + 3, hk => simp at hk
  rw [hkk] at H4
  have H5 := St.putSlot (f := slotO) (x := (a, b)) (L0 := [.blk gx 63 C, L1, L2, bigO slotO [p0, p1, p2], T, U, V, X, N1, N2]) H4 3 q rfl (by simpa using hq)
  replace H5 := H5.front 7
  rw [← hC] at H5
  match q, hq with
  | 0, hq => exact ⟨(a, b), p1, p2, ⟨hab, hok.2⟩, H5⟩
  | 1, hq => exact ⟨p0, (a, b), p2, ⟨hok.1, hab, hok.2.2⟩, H5⟩
  | 2, hq => exact ⟨p0, p1, (a, b), ⟨hok.1, hok.2.1, hab⟩, H5⟩

/-- another one laid into the slot that was taken out -/
theorem act_end3 (hk : k < 3) {a b : KA} (hab : SlotOk N (a, b)) (hok : SlotOk N p0 ∧ SlotOk N p1 ∧ SlotOk N p2)
    (H : St w0 [] w (lay [.blk gx 63 (([p0.1.v, p1.1.v, p2.1.v, p0.2.v, p1.2.v, p2.2.v, c, d, e, f].set k a.v).set (3 + k) b.v), L1, L2, bigO slotO ([p0, p1, p2].set k (.nil, .nil)), T, U, V, X, N1, N2, Y, Z, a.ownM, b.ownR])) :
    ∃ q0 q1 q2 : KA × KA, (SlotOk N q0 ∧ SlotOk N q1 ∧ SlotOk N q2) ∧ St w0 [] w (lay [.blk gx 63 [q0.1.v, q1.1.v, q2.1.v, q0.2.v, q1.2.v, q2.2.v, c, d, e, f], L1, L2, bigO slotO [q0, q1, q2], T, U, V]) := by
  obtain ⟨C, hC⟩ : ∃ C, (([p0.1.v, p1.1.v, p2.1.v, p0.2.v, p1.2.v, p2.2.v, c, d, e, f].set k a.v).set (3 + k) b.v) = C := ⟨_, rfl⟩
  rw [hC] at H
  have H1 := St.join_mk (L := [.blk gx 63 C, L1, L2, bigO slotO ([p0, p1, p2].set k (.nil, .nil)), T, U, V, X, N1, N2, Y, Z, a.ownM]) H 12 rfl
  have H5 := St.putSlot (f := slotO) (x := (a, b)) (L0 := [.blk gx 63 C, L1, L2, bigO slotO ([p0, p1, p2].set k (.nil, .nil)), T, U, V, X, N1, N2, Y, Z]) H1 3 k rfl (by simpa using hk)
  rw [List.set_set] at H5
  replace H5 := H5.front 7
  rw [← hC] at H5
  match k, hk with
  | 0, hk => exact ⟨(a, b), p1, p2, ⟨hab, hok.2⟩, H5⟩
  | 1, hk => exact ⟨p0, (a, b), p2, ⟨hok.1, hab, hok.2.2⟩, H5⟩
  | 2, hk => exact ⟨p0, p1, (a, b), ⟨hok.1, hok.2.1, hab⟩, H5⟩
end

theorem wrL_some {s : KS} {r : Option (List RunT)} (h : ∃ rs, r = some rs) (n : Nat) : ∃ rs, wrL s r n = some rs := by
  unfold wrL; split
  · exact noteN_some h _ _ _
  · exact h
theorem suL_some {s : KS} {r : Option (List RunT)} (h : ∃ rs, r = some rs) : ∃ rs, suL s r = some rs := by
  unfold suL; split
  · exact noteN_some h _ _ _
  · exact h
theorem wiL_some {s : KS} {r : Option (List RunT)} (h : ∃ rs, r = some rs) : ∃ rs, wiL s r = some rs := by
  unfold wiL; split
  · exact noteN_some h _ _ _
  · exact h

end Go.Proofs.Ytcnphkmcgefjoaa
