/- The law Sha512Names, walked. -/
import Derived.Test.YthieegmmbjjcbaaSh5U
import Derived.Test.YthieegmmbjjcbaaInts
import Derived.Test.YthieegmmbjjcbaaSh5M
namespace Go.Proofs.Ythieegmmbjjcbaa
open Go.RowKit
set_option linter.unusedVariables false
set_option maxRecDepth 100000

def nFst (k : Nat) : List UInt8 := ([[119, 221, 211, 165], [43, 226, 231, 136], [135, 111, 238, 38], [171, 148, 47, 82], [177, 245, 66, 246]] : List (List UInt8)).getD k []
def nSz (k : Nat) : Nat := [111, 112, 127, 128, 129].getD k 0
def nMn (k : Nat) : Nat := [1, 2, 2, 2, 2].getD k 0
def nSzs : List Int := [111, 112, 127, 128, 129]
def nMns : List Int := [1, 2, 2, 2, 2]
theorem n_facts : ∀ k < 5, (dig5 (List.replicate (nSz k) 0)).take 4 = nFst k ∧ allN5 (nSz k) = nMn k := by decide +kernel
theorem n_lists : ∀ k < 5, nSzs[k]? = some ((nSz k : Nat) : Int) ∧ nMns[k]? = some ((nMn k : Nat) : Int) ∧ nSz k ≤ 129 ∧ nMn k ≤ 2 := by decide +kernel
theorem none_take : (dig5 []).take 4 = [207, 131, 225, 53] := by decide +kernel
theorem begin_take : (form5 []).take 4 = [106, 9, 230, 103] := by decide +kernel
theorem form_same : (form5 abcB).take 64 = (form5 []).take 64 := by decide +kernel
theorem form_abc : ((form5 abcB).drop 71).take 4 = [3, 97, 98, 99] := by decide +kernel
theorem form_zero : ∀ i < 200, 64 ≤ i → (form5 [])[i]? = some 0 ∧ (i < 71 ∨ 74 < i → (form5 abcB)[i]? = some 0) := by decide +kernel

attribute [local irreducible] comp5 hTo dig5 laid8 h5 padM5 form5 lastN5 allN5 runsOf5 nFst nSz nMn nSzs nMns abcB

theorem nFst_len : ∀ k < 5, (nFst k).length = 4 := by decide +kernel
theorem abcB_len : abcB.length = 3 := by unfold abcB; rfl

set_option maxHeartbeats 8000000 in
theorem sha512Names_walk (w : World) : Calls Try.prog 5 #[] w fun e w' => e = .returned (.bool true) ∧ Below w.heap.size w w' := by
  have H0 := St.start_lay w []
  obtain ⟨i0, hi0, hz0, hz1, hz2⟩ := info_parts u8_info
  have HI0 := Lib.hid (⟨hi0, hz0, hz1, hz2⟩ : _ ∧ _ ∧ _ ∧ _)
  clear hi0 hz0 hz1 hz2
  have hcv := fun (w : World) (C : Array Value) (n c : Nat) => Lib.run_convert_bytes_const (P := Try.prog) w 22 5 C n c Try.underlying22 Try.underlying5
  go_enter Try.func5, Try.ntmps5
  go_upto_region 5 with fail
  refine absorb_wp (H0.allocAt 0 rfl w.heap.size rfl _ _ |>.push_mk rfl |>.allocAt 1 rfl (w.heap.size + 1) (by simp) _ _ |>.push_mk rfl |>.allocAt 2 rfl (w.heap.size + 1 + 1) (by simp) _ _ |>.push_mk rfl |>.allocAt 3 rfl (w.heap.size + 1 + 1 + 1) (by simp) _ _ |>.push_mk rfl |>.allocAt 4 rfl (w.heap.size + 1 + 1 + 1 + 1) (by simp) _ _ |>.push_mk rfl |>.allocAt 5 rfl (w.heap.size + 1 + 1 + 1 + 1 + 1) (by simp) _ _ |>.push_mk rfl |>.allocAt 6 rfl (w.heap.size + 1 + 1 + 1 + 1 + 1 + 1) (by simp) _ _ |>.push_mk rfl |>.allocAt 7 rfl (w.heap.size + 1 + 1 + 1 + 1 + 1 + 1 + 1) (by simp) _ _ |>.push_mk rfl) ?_
  clear H0
  intro w1 H
  generalize w.heap.size + 1 + 1 + 1 + 1 + 1 + 1 + 1 = gM at H ⊢
  generalize w.heap.size + 1 + 1 + 1 + 1 + 1 + 1 = gS at H ⊢
  generalize w.heap.size + 1 + 1 + 1 + 1 + 1 = gO at H ⊢
  generalize w.heap.size + 1 + 1 + 1 + 1 = g4 at H ⊢
  generalize w.heap.size + 1 + 1 + 1 = g3 at H ⊢
  generalize w.heap.size + 1 + 1 = g2 at H ⊢
  generalize w.heap.size + 1 = g1 at H ⊢
  generalize w.heap.size = g0 at H ⊢
  replace H := H.ledNil 8 rfl |>.push_mk rfl
  replace H : St w [] w1 (lay [.blk g0 5 ((nFst 0).map vb), .blk g1 5 ((nFst 1).map vb), .blk g2 5 ((nFst 2).map vb), .blk g3 5 ((nFst 3).map vb), .blk g4 5 ((nFst 4).map vb), .blk gO 22 (([g0, g1, g2, g3, g4] : List Nat).map fun g => .slice (some ⟨g, 0, none⟩) 4 4), .blk gS 3 (nSzs.map iv), .blk gM 3 (nMns.map iv), led (.pointer none) none]) := by unfold nFst nSzs nMns; exact H
  go_wp2
  go_loopw [5] (fun i wr => ∃ k : Nat, k ≤ 5 ∧ i = .int .i64 k ∧ St w [] wr (lay [.blk g0 5 ((nFst 0).map vb), .blk g1 5 ((nFst 1).map vb), .blk g2 5 ((nFst 2).map vb), .blk g3 5 ((nFst 3).map vb), .blk g4 5 ((nFst 4).map vb), .blk gO 22 (([g0, g1, g2, g3, g4] : List Nat).map fun g => .slice (some ⟨g, 0, none⟩) 4 4), .blk gS 3 (nSzs.map iv), .blk gM 3 (nMns.map iv), led (.pointer none) none])) (fun i _ => 5 - (intOf i).toNat)
  case atStart => exact ⟨0, by omega, rfl, H⟩
  case round =>
    clear H
    obtain ⟨k, hk, rfl, H⟩ := hrel
    by_cases hlt : k < 5
    · have hk1 : (k : Int) < 5 := by omega
      obtain ⟨f1, f2⟩ := n_facts k hlt
      obtain ⟨q1, q2, q3, q4⟩ := n_lists k hlt
      have HNL := Lib.hid (nFst_len k hlt)
      obtain ⟨gk, hgk⟩ : ∃ g, ([g0, g1, g2, g3, g4] : List Nat)[k]? = some g := ⟨_, List.getElem?_eq_getElem (by simpa using hlt)⟩
      have HCO : Hid (∀ w' X, St w [] w' X → X 5 = some (.blk gO 22 (([g0, g1, g2, g3, g4] : List Nat).map fun g => .slice (some ⟨g, 0, none⟩) 4 4)) → w'.cell? ⟨gO, k, none⟩ = some (.slice (some ⟨gk, 0, none⟩) 4 4)) := fun w' X h hX => h.cell 5 hX (by rw [List.getElem?_map, hgk]; rfl)
      have HCI : Hid (∀ w' L, St w [] w' (lay ([.blk g0 5 ((nFst 0).map vb), .blk g1 5 ((nFst 1).map vb), .blk g2 5 ((nFst 2).map vb), .blk g3 5 ((nFst 3).map vb), .blk g4 5 ((nFst 4).map vb), .blk gO 22 (([g0, g1, g2, g3, g4] : List Nat).map fun g => .slice (some ⟨g, 0, none⟩) 4 4), .blk gS 3 (nSzs.map iv), .blk gM 3 (nMns.map iv), led (.pointer none) none] ++ L)) → Rd w' 1 (some ⟨gk, 0, none⟩) 4 ((nFst k).map vb)) := by
        intro w' L h
        match k, hlt, hgk with
        | 0, _, e => injection e with e; subst e; exact h.rdBlk 0 rfl 1 4 (by rw [List.length_map, nFst_len 0 (by omega)])
        | 1, _, e => injection e with e; subst e; exact h.rdBlk 1 rfl 1 4 (by rw [List.length_map, nFst_len 1 (by omega)])
        | 2, _, e => injection e with e; subst e; exact h.rdBlk 2 rfl 1 4 (by rw [List.length_map, nFst_len 2 (by omega)])
        | 3, _, e => injection e with e; subst e; exact h.rdBlk 3 rfl 1 4 (by rw [List.length_map, nFst_len 3 (by omega)])
        | 4, _, e => injection e with e; subst e; exact h.rdBlk 4 rfl 1 4 (by rw [List.length_map, nFst_len 4 (by omega)])
      have HCM : Hid (∀ w' X, St w [] w' X → X 7 = some (.blk gM 3 (nMns.map iv)) → w'.cell? ⟨gM, k, none⟩ = some (.int .i64 ((nMn k : Nat) : Int))) := fun w' X h hX => h.cell 7 hX (by rw [List.getElem?_map, q2]; rfl)
      have HCS : Hid (∀ w' X, St w [] w' X → X 6 = some (.blk gS 3 (nSzs.map iv)) → w'.cell? ⟨gS, k, none⟩ = some (.int .i64 ((nSz k : Nat) : Int))) := fun w' X h hX => h.cell 6 hX (by rw [List.getElem?_map, q1]; rfl)
      have HF1 := Lib.hid f1
      have HF2 := Lib.hid f2
      clear f1 f2 q1 q2 hgk
      obtain ⟨d, hd⟩ : ∃ d, nSz k = d := ⟨_, rfl⟩
      rw [hd] at HF1 HF2 q3 HCS
      obtain ⟨mm, hm⟩ : ∃ m, nMn k = m := ⟨_, rfl⟩
      rw [hm] at HF2 HCM q4
      clear hd hm
      have hk8 : (k : Int) < 8 := by omega
      go_wp2_with fail
      refine (ledger_new H 9 rfl).mono ?_
      rintro e w2 ⟨l, rfl, H1⟩
      replace H : St w [] w2 (lay [.blk g0 5 ((nFst 0).map vb), .blk g1 5 ((nFst 1).map vb), .blk g2 5 ((nFst 2).map vb), .blk g3 5 ((nFst 3).map vb), .blk g4 5 ((nFst 4).map vb), .blk gO 22 (([g0, g1, g2, g3, g4] : List Nat).map fun g => .slice (some ⟨g, 0, none⟩) 4 4), .blk gS 3 (nSzs.map iv), .blk gM 3 (nMns.map iv), led (.pointer none) none, led l (some [])]) := H1.push_mk rfl
      clear H1
      have ci := HCS.out _ _ H rfl
      go_wp2_with (at_make; refine hold_here' ?_)
      refine Lib.hid ?_
      obtain ⟨hi0, hz0, hz1, hz2⟩ := HI0.out
      refine wpList_make_full _ rfl (.tmp 35) (.tmp 35) 22 rfl w2.heap.size 5 i0 (.int .u8 0) 1 Try.underlying22 hi0 hz0 hz1 .i64 .i64 _ _ d rfl rfl rfl rfl (by rw [hz2]; omega) (by simp only [maxLen]; omega) (Nat.le_refl _) ?_
      intro w6 ho6 hg6
      have hb6 : Below w2.heap.size w2 w6 := (Below.refl _ _).grown hg6 (Nat.le_refl _) (fun _ h => by cases h)
      replace H := (H.pushRow 10 rfl hb6 (made0' ho6)).push_mk rfl
      clear ho6 hg6 hb6 hi0 hz0 hz1 hz2 ci
      generalize w2.heap.size = gp at H ⊢
      go_wp2_with fail
      refine (s5Fn_s l (some []) 0 0 (some ⟨gp, 0, none⟩) d d (List.replicate d 0) H 9 11 rfl rfl LW.nil (by omega) (by omega) (fun w' X h => h.rd 10 rfl) (Nat.le_refl _) (by omega)).mono ?_
      rintro e w7 ⟨v7, rfl, H1⟩
      rw [upd_laid5 (by simp), HF2.out, noteN_runs5] at H1
      replace H := H1.push_mk rfl
      clear H1
      obtain ⟨A7, c7, rfl, hc7, hA7⟩ := row_form (H.row 11 rfl)
      obtain ⟨g7, rfl, -⟩ := hA7 (by omega)
      clear hA7
      obtain ⟨D, hD⟩ : ∃ D, dig5 (List.replicate d 0) = D := ⟨_, rfl⟩
      rw [hD] at H HF1
      clear hD
      replace H := H.permS (L' := [.blk g0 5 ((nFst 0).map vb), .blk g1 5 ((nFst 1).map vb), .blk g2 5 ((nFst 2).map vb), .blk g3 5 ((nFst 3).map vb), .blk g4 5 ((nFst 4).map vb), .blk gO 22 (([g0, g1, g2, g3, g4] : List Nat).map fun g => .slice (some ⟨g, 0, none⟩) 4 4), .blk gS 3 (nSzs.map iv), .blk gM 3 (nMns.map iv), led (.pointer none) none] ++ [led l (some (runsOf5 mm)), .row 5 1 (.slice (some ⟨g7, 0, none⟩) 64 c7) 64 (D.map vb)]) [0, 1, 2, 3, 4, 5, 6, 7, 8, 9, 11] 11 rfl (by decide) (fun i hi => by
        match i, hi with
        | 0, _ => rfl
        | 1, _ => rfl
        | 2, _ => rfl
        | 3, _ => rfl
        | 4, _ => rfl
        | 5, _ => rfl
        | 6, _ => rfl
        | 7, _ => rfl
        | 8, _ => rfl
        | 9, _ => rfl
        | 10, _ => rfl)
      have hc72 : (4 : Int) ≤ c7 := by omega
      have hc73 : (64 : Int) ≤ c7 := by omega
      go_upto_region 10 with fail
      refine wp_region_held_drew (S := fun w' : World => w'.cell? ⟨gO, k, none⟩ = some (.slice (some ⟨gk, 0, none⟩) 4 4) ∧ w'.cell? ⟨gM, k, none⟩ = some (.int .i64 (mm : Int))) (by kernel_rfl) ?_ (fun hHeld => ?_)
      · exact ⟨HCO.out _ _ H.drew rfl, HCM.out _ _ H.drew rfl⟩
      refine takeV 0 rfl (by intro w h; clear h; go_simp; try with_reducible rfl) (by kernel_rfl) (by kernel_rfl) (by kernel_rfl) (by exact fun _ _ _ h => h) (by rfl) (by assumption) ?_
      try simp only [Act.put, List.setIfInBounds_toArray, List.set_cons_zero, List.set_cons_succ]
      refine takeV 1 rfl (by intro w h; clear h; go_simp; try with_reducible rfl) (by kernel_rfl) (by kernel_rfl) (by kernel_rfl) (by exact fun _ _ _ h => h) (by rfl) (by assumption) ?_
      try simp only [Act.put, List.setIfInBounds_toArray, List.set_cons_zero, List.set_cons_succ]
      refine takeV 2 rfl (by intro w h; clear h; go_simp; try with_reducible rfl) (by kernel_rfl) (by kernel_rfl) (by kernel_rfl) (by exact fun _ _ _ h => h) (by rfl) (by assumption) ?_
      try simp only [Act.put, List.setIfInBounds_toArray, List.set_cons_zero, List.set_cons_succ]
      refine takeV 3 rfl (by intro w h; clear h; go_simp; try with_reducible rfl) (by kernel_rfl) (by kernel_rfl) (by kernel_rfl) (by exact fun _ _ _ h => h) (by rfl) (by assumption) ?_
      try simp only [Act.put, List.setIfInBounds_toArray, List.set_cons_zero, List.set_cons_succ]
      refine takeV 4 rfl (by intro w h; clear h; go_simp; try with_reducible rfl) (by kernel_rfl) (by kernel_rfl) (by kernel_rfl) (by exact fun _ _ _ h => h) (by rfl) (by assumption) ?_
      try simp only [Act.put, List.setIfInBounds_toArray, List.set_cons_zero, List.set_cons_succ]
      refine takeV 5 rfl (by intro w h; clear h; go_simp; try with_reducible rfl) (by kernel_rfl) (by kernel_rfl) (by kernel_rfl) (by exact fun _ _ _ h => h) (by rfl) (by assumption) ?_
      try simp only [Act.put, List.setIfInBounds_toArray, List.set_cons_zero, List.set_cons_succ]
      refine takeV 6 rfl (by intro w h; clear h; go_simp; try with_reducible rfl) (by kernel_rfl) (by kernel_rfl) (by kernel_rfl) (by exact fun _ _ _ h => h) (by rfl) (by assumption) ?_
      try simp only [Act.put, List.setIfInBounds_toArray, List.set_cons_zero, List.set_cons_succ]
      refine takeV 7 rfl (by intro w h; clear h; go_simp; try with_reducible rfl) (by kernel_rfl) (by kernel_rfl) (by kernel_rfl) (by exact fun _ _ _ h => h) (by rfl) (by assumption) ?_
      try simp only [Act.put, List.setIfInBounds_toArray, List.set_cons_zero, List.set_cons_succ]
      refine takeV 8 rfl (by intro w h; clear h; go_simp; try with_reducible rfl) (by kernel_rfl) (by kernel_rfl) (by kernel_rfl) (by exact fun _ _ _ h => h) (by rfl) (by assumption) ?_
      try simp only [Act.put, List.setIfInBounds_toArray, List.set_cons_zero, List.set_cons_succ]
      refine takeV 9 rfl (by intro w h; have hc := h.1; clear h; go_simp; try with_reducible rfl) (by kernel_rfl) (by kernel_rfl) (by kernel_rfl) (by exact fun _ _ _ h => h) (by rfl) (by assumption) ?_
      try simp only [Act.put, List.setIfInBounds_toArray, List.set_cons_zero, List.set_cons_succ]
      refine take_call 10 rfl (by kernel_rfl) (fun K hK => ?_)
      try go_simp
      replace H := H.drew
      refine (sameBytes_yes (some ⟨g7, 0, none⟩) (some ⟨gk, 0, none⟩) 4 4 c7 4 (D.take 4) (nFst k) _ (Rd.take (H.rd 10 rfl) (k := 4) (by omega)) (HCI.out _ _ H) (by omega) (by omega) HF1.out).mono ?_
      rintro e w8 ⟨rfl, hb⟩
      replace H := H.call hb
      clear hb
      refine hK.out _ _ ?_ (fun hHeld => ?_)
      · exact ⟨HCO.out _ _ H rfl, HCM.out _ _ H rfl⟩
      clear hK K
      try simp only [Act.put, List.setIfInBounds_toArray, List.set_cons_zero, List.set_cons_succ]
      refine takeV 11 rfl (by intro w h; clear h; go_simp; try with_reducible rfl) (by kernel_rfl) (by kernel_rfl) (by kernel_rfl) (by exact fun _ _ _ h => h) (by rfl) (by assumption) ?_
      try simp only [Act.put, List.setIfInBounds_toArray, List.set_cons_zero, List.set_cons_succ]
      refine takeV 12 rfl (by intro w h; clear h; go_simp; try with_reducible rfl) (by kernel_rfl) (by kernel_rfl) (by kernel_rfl) (by exact fun _ _ _ h => h) (by rfl) (by assumption) ?_
      try simp only [Act.put, List.setIfInBounds_toArray, List.set_cons_zero, List.set_cons_succ]
      refine takeV 13 rfl (by intro w h; clear h; go_simp; try with_reducible rfl) (by kernel_rfl) (by kernel_rfl) (by kernel_rfl) (by exact fun _ _ _ h => h) (by rfl) (by assumption) ?_
      try simp only [Act.put, List.setIfInBounds_toArray, List.set_cons_zero, List.set_cons_succ]
      refine takeV 14 rfl (by intro w h; clear h; go_simp; try with_reducible rfl) (by kernel_rfl) (by kernel_rfl) (by kernel_rfl) (by exact fun _ _ _ h => h) (by rfl) (by assumption) ?_
      try simp only [Act.put, List.setIfInBounds_toArray, List.set_cons_zero, List.set_cons_succ]
      refine takeV 16 rfl (by intro w h; clear h; go_simp; try with_reducible rfl) (by kernel_rfl) (by kernel_rfl) (by kernel_rfl) (by exact fun _ _ _ h => h) (by rfl) (by assumption) ?_
      try simp only [Act.put, List.setIfInBounds_toArray, List.set_cons_zero, List.set_cons_succ]
      refine takeV 17 rfl (by intro w h; clear h; go_simp; try with_reducible rfl) (by kernel_rfl) (by kernel_rfl) (by kernel_rfl) (by exact fun _ _ _ h => h) (by rfl) (by assumption) ?_
      try simp only [Act.put, List.setIfInBounds_toArray, List.set_cons_zero, List.set_cons_succ]
      refine takeV 18 rfl (by intro w h; clear h; go_simp; try with_reducible rfl) (by kernel_rfl) (by kernel_rfl) (by kernel_rfl) (by exact fun _ _ _ h => h) (by rfl) (by assumption) ?_
      try simp only [Act.put, List.setIfInBounds_toArray, List.set_cons_zero, List.set_cons_succ]
      refine takeV 19 rfl (by intro w h; have hc := h.2; clear h; go_simp; try with_reducible rfl) (by kernel_rfl) (by kernel_rfl) (by kernel_rfl) (by exact fun _ _ _ h => h) (by rfl) (by assumption) ?_
      try simp only [Act.put, List.setIfInBounds_toArray, List.set_cons_zero, List.set_cons_succ]
      refine take_call 15 rfl (by kernel_rfl) (fun K hK => ?_)
      try go_simp
      refine (ledger_runs_w 1 mm H 9 rfl (runsOf5_lw mm) (by omega) 11 rfl).mono ?_
      rintro e w9 ⟨v9, rfl, H1⟩
      replace H := H1.push_mk rfl
      clear H1
      obtain ⟨A9, c9, rfl, -, -⟩ := row_shape (H.row 11 rfl)
      refine hK.out _ _ ?_ (fun hHeld => ?_)
      · exact ⟨HCO.out _ _ H rfl, HCM.out _ _ H rfl⟩
      clear hK K
      try simp only [Act.put, List.setIfInBounds_toArray, List.set_cons_zero, List.set_cons_succ]
      refine take_call 20 rfl (by kernel_rfl) (fun K hK => ?_)
      try go_simp
      refine (blocks_s mm (by omega) H 12 rfl).mono ?_
      rintro e wa ⟨va, rfl, H1⟩
      replace H := H1.push_mk rfl
      clear H1
      obtain ⟨Aa, ca, rfl, -, -⟩ := row_shape (H.row 12 rfl)
      refine hK.out _ _ ?_ (fun hHeld => ?_)
      · exact ⟨HCO.out _ _ H rfl, HCM.out _ _ H rfl⟩
      clear hK K
      try simp only [Act.put, List.setIfInBounds_toArray, List.set_cons_zero, List.set_cons_succ]
      refine take_call 21 rfl (by kernel_rfl) (fun K hK => ?_)
      try go_simp
      have hrl := runsOf5_len mm
      refine (sameRuns_any A9 Aa c9 ca (runsOf5 mm) (runsOf5 mm) (H.rd 11 rfl) (H.rd 12 rfl) (by omega) (by omega)).mono ?_
      rintro e wb ⟨rfl, kd, rfl⟩
      replace H := H.drewN kd
      rw [decide_eq_true rfl]
      generalize wa.drewN kd = wb at H ⊢
      refine hK.out _ _ ?_ (fun hHeld => ?_)
      · exact ⟨HCO.out _ _ H rfl, HCM.out _ _ H rfl⟩
      clear hK K
      try simp only [Act.put, List.setIfInBounds_toArray, List.set_cons_zero, List.set_cons_succ]
      refine takeV 22 rfl (by intro w h; clear h; go_simp; try with_reducible rfl) (by kernel_rfl) (by kernel_rfl) (by kernel_rfl) (by exact fun _ _ _ h => h) (by rfl) (by assumption) ?_
      try simp only [Act.put, List.setIfInBounds_toArray, List.set_cons_zero, List.set_cons_succ]
      refine takeV 23 rfl (by intro w h; clear h; go_simp; try with_reducible rfl) (by kernel_rfl) (by kernel_rfl) (by kernel_rfl) (by exact fun _ _ _ h => h) (by rfl) (by assumption) ?_
      try simp only [Act.put, List.setIfInBounds_toArray, List.set_cons_zero, List.set_cons_succ]
      refine wpAnyH_done (by kernel_rfl) ?_ _
      replace H := H.front 9
      replace H : St w [] wb (lay [.blk g0 5 ((nFst 0).map vb), .blk g1 5 ((nFst 1).map vb), .blk g2 5 ((nFst 2).map vb), .blk g3 5 ((nFst 3).map vb), .blk g4 5 ((nFst 4).map vb), .blk gO 22 (([g0, g1, g2, g3, g4] : List Nat).map fun g => .slice (some ⟨g, 0, none⟩) 4 4), .blk gS 3 (nSzs.map iv), .blk gM 3 (nMns.map iv), led (.pointer none) none]) := H
      go_wp2
      go_roundw
      case rel => exact ⟨k + 1, by omega, by go_num, H⟩
      case measure => simp [intOf]; omega
    · obtain rfl : k = 5 := by omega
      rw [show ((5 : Nat) : Int) = 5 from rfl]
      replace H := H.permS (L' := [led (.pointer none) none]) [8] 1 rfl (by decide) (fun i hi => by
        match i, hi with
        | 0, _ => rfl)
      go_wp2_with fail
      refine (s5Fn_s (.pointer none) none 0 0 none 0 0 [] H 0 1 rfl rfl (LW.none _ _) (by omega) (by omega) (fun w' X h => Rd.none_) (by omega) (by omega)).mono ?_
      rintro e w2 ⟨v2, rfl, H1⟩
      rw [noteN_none', upd_laid5 (by simp)] at H1
      replace H := H1.push_mk rfl
      clear H1
      obtain ⟨A2, c2, rfl, hc2, hA2⟩ := row_form (H.row 1 rfl)
      obtain ⟨gn, rfl, -⟩ := hA2 (by omega)
      clear hA2
      replace H : St w [] w2 (lay [led (.pointer none) none, .row 5 1 (.slice (some ⟨gn, 0, none⟩) 64 c2) 64 ((dig5 []).map vb)]) := H
      go_wp2_with fail
      refine (s5New_s H 2 rfl).mono ?_
      rintro e w3 ⟨g, rfl, H1⟩
      replace H := H1.push_mk rfl
      clear H1
      unfold lptr
      go_wp2_with fail
      refine (s5Form_s g [] H 2 3 rfl rfl (by simp)).mono ?_
      rintro e w4 ⟨v4, rfl, H1⟩
      replace H := H1.push_mk rfl
      clear H1
      obtain ⟨A4, c4, rfl, hc4, hA4⟩ := row_form (H.row 3 rfl)
      obtain ⟨gB, rfl, -⟩ := hA4 (by omega)
      clear hA4
      replace H : St w [] w4 (lay [led (.pointer none) none, .row 5 1 (.slice (some ⟨gn, 0, none⟩) 64 c2) 64 ((dig5 []).map vb), .blk g 73 (s5S []), .row 5 1 (.slice (some ⟨gB, 0, none⟩) 200 c4) 200 ((form5 []).map vb)]) := H
      go_wp2_with fail
      refine absorb_calls (H.litAt 4 rfl w4.heap.size rfl _ _ _ |>.push_mk rfl) ?_
      clear H
      intro w5 H
      generalize w4.heap.size = gL at H ⊢
      replace H : St w [] w5 (lay [led (.pointer none) none, .row 5 1 (.slice (some ⟨gn, 0, none⟩) 64 c2) 64 ((dig5 []).map vb), .blk g 73 (s5S []), .row 5 1 (.slice (some ⟨gB, 0, none⟩) 200 c4) 200 ((form5 []).map vb), .lit gL 5 (abcB.map vb) (3, 4)]) := by unfold abcB; exact H
      refine (s5Write_s (.pointer none) none 0 0 g [] (some ⟨gL, 0, none⟩) 3 3 abcB H 0 2 (by omega) rfl rfl (LW.none _ _) (by omega) (by omega) (fun w' X Y h => h.rdLit 4 rfl 1 3 (by rw [List.length_map, abcB_len])) (by omega) (by rw [List.length_nil]; omega)).mono ?_
      rintro e w6 ⟨rfl, H1⟩
      rw [noteN_none', upd_laid5 (by simp), upd_laid5 (by simp), List.nil_append] at H1
      replace H : St w [] w6 (lay [led (.pointer none) none, .row 5 1 (.slice (some ⟨gn, 0, none⟩) 64 c2) 64 ((dig5 []).map vb), .blk g 73 (s5S abcB), .row 5 1 (.slice (some ⟨gB, 0, none⟩) 200 c4) 200 ((form5 []).map vb)]) := H1.front 4
      clear H1
      go_wp2_with fail
      refine (s5Form_s g abcB H 2 4 rfl rfl (by rw [abcB_len]; omega)).mono ?_
      rintro e w7 ⟨v7, rfl, H1⟩
      replace H := H1.push_mk rfl
      clear H1
      obtain ⟨A7, c7, rfl, hc7, hA7⟩ := row_form (H.row 4 rfl)
      obtain ⟨gA, rfl, -⟩ := hA7 (by omega)
      clear hA7
      go_wp2_with fail
      refine (ledger_new H 5 rfl).mono ?_
      rintro e w8 ⟨l, rfl, H1⟩
      replace H := H1.push_mk rfl
      clear H1
      go_wp2_with fail
      refine (s5Wipe_s l (some []) 0 0 g abcB H 5 2 (by omega) rfl rfl LW.nil (by omega) (by omega)).mono ?_
      rintro e w9 ⟨rfl, H1⟩
      rw [upd_laid5 (by simp), upd_laid5 (by simp)] at H1
      replace H : St w [] w9 (lay [led (.pointer none) none, .row 5 1 (.slice (some ⟨gn, 0, none⟩) 64 c2) 64 ((dig5 []).map vb), .blk g 73 s5Z, .row 5 1 (.slice (some ⟨gB, 0, none⟩) 200 c4) 200 ((form5 []).map vb), .row 5 1 (.slice (some ⟨gA, 0, none⟩) 200 c7) 200 ((form5 abcB).map vb), led l (some [((8, 200, 1) : RunT)])]) := H1
      clear H1
      have HOFF : Hid (∀ w' X, St w [] w' X → X 2 = some (.blk g 73 s5Z) → w'.cell? ⟨g, 0, none⟩ = some (.bool false)) := fun w' X h hX => h.cell 2 hX rfl
      go_wp2_with fail
      refine (s5Wipe_none l (lptr g) (.inr ⟨g, rfl, HOFF.out _ _ H rfl⟩)).mono ?_
      rintro e wx ⟨rfl, rfl⟩
      have hb2 : (4 : Int) ≤ c2 := by omega
      have hb3 : (64 : Int) ≤ c2 := by omega
      have hb4 : (4 : Int) ≤ c4 := by omega
      have hb5 : (200 : Int) ≤ c4 := by omega
      have hb6 : (64 : Int) ≤ c4 := by omega
      go_wp2_with fail
      refine absorb_calls (H.allocAt 6 rfl w9.heap.size rfl #[.int .u8 207, .int .u8 131, .int .u8 225, .int .u8 53] 5 |>.push_mk rfl) ?_
      clear H
      intro wa H
      generalize w9.heap.size = gq at H ⊢
      refine (sameBytes_yes (some ⟨gn, 0, none⟩) (some ⟨gq, 0, none⟩) 4 4 c2 4 ((dig5 []).take 4) [207, 131, 225, 53] _ (Rd.take (H.rd 1 rfl) (k := 4) (by omega)) (H.rdBlk 6 rfl 1 4 rfl) (by omega) (by omega) none_take).mono ?_
      rintro e wb ⟨rfl, hb⟩
      replace H : St w [] wb (lay [led (.pointer none) none, .row 5 1 (.slice (some ⟨gn, 0, none⟩) 64 c2) 64 ((dig5 []).map vb), .blk g 73 s5Z, .row 5 1 (.slice (some ⟨gB, 0, none⟩) 200 c4) 200 ((form5 []).map vb), .row 5 1 (.slice (some ⟨gA, 0, none⟩) 200 c7) 200 ((form5 abcB).map vb), led l (some [((8, 200, 1) : RunT)])]) := (H.call hb).front 6
      clear hb
      go_wp2_with fail
      refine absorb_calls (H.allocAt 6 rfl wb.heap.size rfl #[.int .u8 106, .int .u8 9, .int .u8 230, .int .u8 103] 5 |>.push_mk rfl) ?_
      clear H
      intro wc H
      generalize wb.heap.size = gq at H ⊢
      refine (sameBytes_yes (some ⟨gB, 0, none⟩) (some ⟨gq, 0, none⟩) 4 4 c4 4 ((form5 []).take 4) [106, 9, 230, 103] _ (Rd.take (H.rd 3 rfl) (k := 4) (by omega)) (H.rdBlk 6 rfl 1 4 rfl) (by omega) (by omega) begin_take).mono ?_
      rintro e wd ⟨rfl, hb⟩
      replace H : St w [] wd (lay [led (.pointer none) none, .row 5 1 (.slice (some ⟨gn, 0, none⟩) 64 c2) 64 ((dig5 []).map vb), .blk g 73 s5Z, .row 5 1 (.slice (some ⟨gB, 0, none⟩) 200 c4) 200 ((form5 []).map vb), .row 5 1 (.slice (some ⟨gA, 0, none⟩) 200 c7) 200 ((form5 abcB).map vb), led l (some [((8, 200, 1) : RunT)])]) := (H.call hb).front 6
      clear hb
      go_wp2
      go_loopw [15] (fun i wr => ∃ k : Nat, 64 ≤ k ∧ k ≤ 200 ∧ i = .int .i64 k ∧ St w [] wr (lay [led (.pointer none) none, .row 5 1 (.slice (some ⟨gn, 0, none⟩) 64 c2) 64 ((dig5 []).map vb), .blk g 73 s5Z, .row 5 1 (.slice (some ⟨gB, 0, none⟩) 200 c4) 200 ((form5 []).map vb), .row 5 1 (.slice (some ⟨gA, 0, none⟩) 200 c7) 200 ((form5 abcB).map vb), led l (some [((8, 200, 1) : RunT)])])) (fun i _ => 200 - (intOf i).toNat)
      case atStart => exact ⟨64, by omega, by omega, rfl, H⟩
      case round =>
        clear H
        obtain ⟨k, hk0, hk, rfl, H⟩ := hrel
        by_cases hlt : k < 200
        · have hk1 : (k : Int) < 200 := by omega
          obtain ⟨z1, z2⟩ := form_zero k hlt hk0
          have e1 := World.ownsRow.cellAt (H.row 3 rfl) k (by omega)
          rw [List.getElem?_map, z1] at e1
          have e1' : wr.cell? ⟨gB, k, none⟩ = some (.int .u8 0) := e1
          clear e1 z1
          by_cases h71 : k < 71
          · have d1 : decide ((k : Int) < 71) = true := by simp; omega
            have d2 : decide ((k : Int) > 74) = false := by simp; omega
            have d3 : (k : Int) < 71 := by omega
            have d4 : ¬ (k : Int) > 74 := by omega
            have e2 := World.ownsRow.cellAt (H.row 4 rfl) k (by omega)
            rw [List.getElem?_map, z2 (.inl h71)] at e2
            have e2' : wr.cell? ⟨gA, k, none⟩ = some (.int .u8 0) := e2
            clear e2 z2
            go_wp2
            go_roundw
            case rel => exact ⟨k + 1, by omega, by omega, by go_num, H⟩
            case measure => simp [intOf]; omega
          · by_cases h74 : 74 < k
            · have d1 : decide ((k : Int) < 71) = false := by simp; omega
              have d2 : decide ((k : Int) > 74) = true := by simp; omega
              have d3 : ¬ (k : Int) < 71 := by omega
              have d4 : (k : Int) > 74 := by omega
              have e2 := World.ownsRow.cellAt (H.row 4 rfl) k (by omega)
              rw [List.getElem?_map, z2 (.inr h74)] at e2
              have e2' : wr.cell? ⟨gA, k, none⟩ = some (.int .u8 0) := e2
              clear e2 z2
              go_wp2
              go_roundw
              case rel => exact ⟨k + 1, by omega, by omega, by go_num, H⟩
              case measure => simp [intOf]; omega
            · have d1 : decide ((k : Int) < 71) = false := by simp; omega
              have d2 : decide ((k : Int) > 74) = false := by simp; omega
              have d3 : ¬ (k : Int) < 71 := by omega
              have d4 : ¬ (k : Int) > 74 := by omega
              clear z2
              go_wp2
              go_roundw
              case rel => exact ⟨k + 1, by omega, by omega, by go_num, H⟩
              case measure => simp [intOf]; omega
        · obtain rfl : k = 200 := by omega
          rw [show ((200 : Nat) : Int) = 200 from rfl]
          have hc71 : ¬ c7 = 71 := by omega
          have hc72 : (71 : Int) ≤ 75 := by omega
          have hc75 : (75 : Int) ≤ c7 := by omega
          have hc64 : (64 : Int) ≤ c7 := by omega
          have HFS := Lib.hid form_same
          have HFA := Lib.hid form_abc
          go_upto_region 27 with fail
          refine wp_region_held_drew (S := fun w' : World => True) (by kernel_rfl) ?_ (fun hHeld => ?_)
          · exact trivial
          refine takeV 0 rfl (by intro w h; clear h; go_simp; try with_reducible rfl) (by kernel_rfl) (by kernel_rfl) (by kernel_rfl) (by exact fun _ _ _ h => h) (by rfl) (by assumption) ?_
          try simp only [Act.put, List.setIfInBounds_toArray, List.set_cons_zero, List.set_cons_succ]
          refine takeV 1 rfl (by intro w h; clear h; go_simp; try with_reducible rfl) (by kernel_rfl) (by kernel_rfl) (by kernel_rfl) (by exact fun _ _ _ h => h) (by rfl) (by assumption) ?_
          try simp only [Act.put, List.setIfInBounds_toArray, List.set_cons_zero, List.set_cons_succ]
          refine take_call 2 rfl (by kernel_rfl) (fun K hK => ?_)
          try go_simp
          replace H := H.drew
          refine (awake5_s _).mono ?_
          rintro e wA ⟨rfl, hb⟩
          replace H := H.call hb
          clear hb
          refine hK.out _ _ ?_ (fun hHeld => ?_)
          · exact trivial
          clear hK K
          try simp only [Act.put, List.setIfInBounds_toArray, List.set_cons_zero, List.set_cons_succ]
          refine takeV 3 rfl (by intro w h; clear h; go_simp; try with_reducible rfl) (by kernel_rfl) (by kernel_rfl) (by kernel_rfl) (by exact fun _ _ _ h => h) (by rfl) (by assumption) ?_
          try simp only [Act.put, List.setIfInBounds_toArray, List.set_cons_zero, List.set_cons_succ]
          refine takeV 4 rfl (by intro w h; clear h; go_simp; try with_reducible rfl) (by kernel_rfl) (by kernel_rfl) (by kernel_rfl) (by exact fun _ _ _ h => h) (by rfl) (by assumption) ?_
          try simp only [Act.put, List.setIfInBounds_toArray, List.set_cons_zero, List.set_cons_succ]
          refine takeV 5 rfl (by intro w h; clear h; go_simp; try with_reducible rfl) (by kernel_rfl) (by kernel_rfl) (by kernel_rfl) (by exact fun _ _ _ h => h) (by rfl) (by assumption) ?_
          try simp only [Act.put, List.setIfInBounds_toArray, List.set_cons_zero, List.set_cons_succ]
          refine takeV 6 rfl (by intro w h; clear h; go_simp; try with_reducible rfl) (by kernel_rfl) (by kernel_rfl) (by kernel_rfl) (by exact fun _ _ _ h => h) (by rfl) (by assumption) ?_
          try simp only [Act.put, List.setIfInBounds_toArray, List.set_cons_zero, List.set_cons_succ]
          refine takeV 7 rfl (by intro w h; clear h; go_simp; try with_reducible rfl) (by kernel_rfl) (by kernel_rfl) (by kernel_rfl) (by exact fun _ _ _ h => h) (by rfl) (by assumption) ?_
          try simp only [Act.put, List.setIfInBounds_toArray, List.set_cons_zero, List.set_cons_succ]
          refine takeV 8 rfl (by intro w h; clear h; go_simp; try with_reducible rfl) (by kernel_rfl) (by kernel_rfl) (by kernel_rfl) (by exact fun _ _ _ h => h) (by rfl) (by assumption) ?_
          try simp only [Act.put, List.setIfInBounds_toArray, List.set_cons_zero, List.set_cons_succ]
          refine take_call 9 rfl (by kernel_rfl) (fun K hK => ?_)
          try go_simp
          refine (sameBytes_yes (some ⟨gA, 0, none⟩) (some ⟨gB, 0, none⟩) 64 64 c7 c4 ((form5 abcB).take 64) ((form5 []).take 64) _ (Rd.take (H.rd 4 rfl) (k := 64) (by omega)) (Rd.take (H.rd 3 rfl) (k := 64) (by omega)) (by omega) (by omega) HFS.out).mono ?_
          rintro e wB ⟨rfl, hb⟩
          replace H := H.call hb
          clear hb
          refine hK.out _ _ ?_ (fun hHeld => ?_)
          · exact trivial
          clear hK K
          try simp only [Act.put, List.setIfInBounds_toArray, List.set_cons_zero, List.set_cons_succ]
          refine takeV 10 rfl (by intro w h; clear h; go_simp; try with_reducible rfl) (by kernel_rfl) (by kernel_rfl) (by kernel_rfl) (by exact fun _ _ _ h => h) (by rfl) (by assumption) ?_
          try simp only [Act.put, List.setIfInBounds_toArray, List.set_cons_zero, List.set_cons_succ]
          refine takeV 11 rfl (by intro w h; clear h; go_simp; try with_reducible rfl) (by kernel_rfl) (by kernel_rfl) (by kernel_rfl) (by exact fun _ _ _ h => h) (by rfl) (by assumption) ?_
          try simp only [Act.put, List.setIfInBounds_toArray, List.set_cons_zero, List.set_cons_succ]
          refine takeV 12 rfl (by intro w h; clear h; go_simp; try with_reducible rfl) (by kernel_rfl) (by kernel_rfl) (by kernel_rfl) (by exact fun _ _ _ h => h) (by rfl) (by assumption) ?_
          try simp only [Act.put, List.setIfInBounds_toArray, List.set_cons_zero, List.set_cons_succ]
          refine takeV 13 rfl (by intro w h; clear h; go_simp; try with_reducible rfl) (by kernel_rfl) (by kernel_rfl) (by kernel_rfl) (by exact fun _ _ _ h => h) (by rfl) (by assumption) ?_
          try simp only [Act.put, List.setIfInBounds_toArray, List.set_cons_zero, List.set_cons_succ]
          refine take_call 14 rfl (by kernel_rfl) (fun K hK => ?_)
          try go_simp
          have H4 := (H.allocAt 6 rfl wB.heap.size rfl #[.int .u8 3, .int .u8 97, .int .u8 98, .int .u8 99] 5).push_mk rfl
          refine hK.out _ _ ?_ (fun hHeld => ?_)
          · exact trivial
          clear hK K
          try simp only [Act.put, List.setIfInBounds_toArray, List.set_cons_zero, List.set_cons_succ]
          clear H
          generalize wB.alloc (.cells #[.int .u8 3, .int .u8 97, .int .u8 98, .int .u8 99] 5) = wC at H4 ⊢
          generalize wB.heap.size = gq at H4 ⊢
          refine take_call 15 rfl (by kernel_rfl) (fun K hK => ?_)
          try go_simp
          have hrd := Rd.take (Rd.drop_if (H4.rd 4 rfl) (x := 71) (by omega) hc7) (k := 4) (by omega)
          rw [if_neg hc71] at hrd
          refine (sameBytes_yes _ (some ⟨gq, 0, none⟩) 4 4 (c7 - 71) 4 (((form5 abcB).drop 71).take 4) [3, 97, 98, 99] wC hrd (H4.rdBlk 6 rfl 1 4 rfl) (by omega) (by omega) HFA.out).mono ?_
          rintro e wD ⟨rfl, hb⟩
          have H : St w [] wD (lay [led (.pointer none) none, .row 5 1 (.slice (some ⟨gn, 0, none⟩) 64 c2) 64 ((dig5 []).map vb), .blk g 73 s5Z, .row 5 1 (.slice (some ⟨gB, 0, none⟩) 200 c4) 200 ((form5 []).map vb), .row 5 1 (.slice (some ⟨gA, 0, none⟩) 200 c7) 200 ((form5 abcB).map vb), led l (some [((8, 200, 1) : RunT)])]) := (H4.call hb).front 6
          clear hb H4 hrd
          refine hK.out _ _ ?_ (fun hHeld => ?_)
          · exact trivial
          clear hK K
          try simp only [Act.put, List.setIfInBounds_toArray, List.set_cons_zero, List.set_cons_succ]
          refine takeV 16 rfl (by intro w h; clear h; go_simp; try with_reducible rfl) (by kernel_rfl) (by kernel_rfl) (by kernel_rfl) (by exact fun _ _ _ h => h) (by rfl) (by assumption) ?_
          try simp only [Act.put, List.setIfInBounds_toArray, List.set_cons_zero, List.set_cons_succ]
          refine takeV 17 rfl (by intro w h; clear h; go_simp; try with_reducible rfl) (by kernel_rfl) (by kernel_rfl) (by kernel_rfl) (by exact fun _ _ _ h => h) (by rfl) (by assumption) ?_
          try simp only [Act.put, List.setIfInBounds_toArray, List.set_cons_zero, List.set_cons_succ]
          refine takeV 18 rfl (by intro w h; clear h; go_simp; try with_reducible rfl) (by kernel_rfl) (by kernel_rfl) (by kernel_rfl) (by exact fun _ _ _ h => h) (by rfl) (by assumption) ?_
          try simp only [Act.put, List.setIfInBounds_toArray, List.set_cons_zero, List.set_cons_succ]
          refine takeV 19 rfl (by intro w h; clear h; go_simp; try with_reducible rfl) (by kernel_rfl) (by kernel_rfl) (by kernel_rfl) (by exact fun _ _ _ h => h) (by rfl) (by assumption) ?_
          try simp only [Act.put, List.setIfInBounds_toArray, List.set_cons_zero, List.set_cons_succ]
          refine takeV 20 rfl (by intro w h; clear h; go_simp; try with_reducible rfl) (by kernel_rfl) (by kernel_rfl) (by kernel_rfl) (by exact fun _ _ _ h => h) (by rfl) (by assumption) ?_
          try simp only [Act.put, List.setIfInBounds_toArray, List.set_cons_zero, List.set_cons_succ]
          refine takeV 21 rfl (by intro w h; clear h; go_simp; try with_reducible rfl) (by kernel_rfl) (by kernel_rfl) (by kernel_rfl) (by exact fun _ _ _ h => h) (by rfl) (by assumption) ?_
          try simp only [Act.put, List.setIfInBounds_toArray, List.set_cons_zero, List.set_cons_succ]
          refine takeV 22 rfl (by intro w h; clear h; go_simp; try with_reducible rfl) (by kernel_rfl) (by kernel_rfl) (by kernel_rfl) (by exact fun _ _ _ h => h) (by rfl) (by assumption) ?_
          try simp only [Act.put, List.setIfInBounds_toArray, List.set_cons_zero, List.set_cons_succ]
          refine takeV 23 rfl (by intro w h; clear h; go_simp; try with_reducible rfl) (by kernel_rfl) (by kernel_rfl) (by kernel_rfl) (by exact fun _ _ _ h => h) (by rfl) (by assumption) ?_
          try simp only [Act.put, List.setIfInBounds_toArray, List.set_cons_zero, List.set_cons_succ]
          refine takeV 24 rfl (by intro w h; clear h; go_simp; try with_reducible rfl) (by kernel_rfl) (by kernel_rfl) (by kernel_rfl) (by exact fun _ _ _ h => h) (by rfl) (by assumption) ?_
          try simp only [Act.put, List.setIfInBounds_toArray, List.set_cons_zero, List.set_cons_succ]
          refine takeV 25 rfl (by intro w h; clear h; go_simp; try with_reducible rfl) (by kernel_rfl) (by kernel_rfl) (by kernel_rfl) (by exact fun _ _ _ h => h) (by rfl) (by assumption) ?_
          try simp only [Act.put, List.setIfInBounds_toArray, List.set_cons_zero, List.set_cons_succ]
          refine takeV 26 rfl (by intro w h; clear h; go_simp; try with_reducible rfl) (by kernel_rfl) (by kernel_rfl) (by kernel_rfl) (by exact fun _ _ _ h => h) (by rfl) (by assumption) ?_
          try simp only [Act.put, List.setIfInBounds_toArray, List.set_cons_zero, List.set_cons_succ]
          refine take_call 27 rfl (by kernel_rfl) (fun K hK => ?_)
          try go_simp
          refine (s5Len_none (lptr g) (.inr ⟨g, rfl, HOFF.out _ _ H rfl⟩)).mono ?_
          rintro e wx ⟨rfl, rfl⟩
          refine hK.out _ _ ?_ (fun hHeld => ?_)
          · exact trivial
          clear hK K
          try simp only [Act.put, List.setIfInBounds_toArray, List.set_cons_zero, List.set_cons_succ]
          refine takeV 28 rfl (by intro w h; clear h; go_simp; try with_reducible rfl) (by kernel_rfl) (by kernel_rfl) (by kernel_rfl) (by exact fun _ _ _ h => h) (by rfl) (by assumption) ?_
          try simp only [Act.put, List.setIfInBounds_toArray, List.set_cons_zero, List.set_cons_succ]
          refine takeV 29 rfl (by intro w h; clear h; go_simp; try with_reducible rfl) (by kernel_rfl) (by kernel_rfl) (by kernel_rfl) (by exact fun _ _ _ h => h) (by rfl) (by assumption) ?_
          try simp only [Act.put, List.setIfInBounds_toArray, List.set_cons_zero, List.set_cons_succ]
          refine takeV 30 rfl (by intro w h; clear h; go_simp; try with_reducible rfl) (by kernel_rfl) (by kernel_rfl) (by kernel_rfl) (by exact fun _ _ _ h => h) (by rfl) (by assumption) ?_
          try simp only [Act.put, List.setIfInBounds_toArray, List.set_cons_zero, List.set_cons_succ]
          refine takeV 31 rfl (by intro w h; clear h; go_simp; try with_reducible rfl) (by kernel_rfl) (by kernel_rfl) (by kernel_rfl) (by exact fun _ _ _ h => h) (by rfl) (by assumption) ?_
          try simp only [Act.put, List.setIfInBounds_toArray, List.set_cons_zero, List.set_cons_succ]
          refine take_call 32 rfl (by kernel_rfl) (fun K hK => ?_)
          try go_simp
          refine (s5Form_none (lptr g) (.inr ⟨g, rfl, HOFF.out _ _ H rfl⟩)).mono ?_
          rintro e wx ⟨rfl, rfl⟩
          refine hK.out _ _ ?_ (fun hHeld => ?_)
          · exact trivial
          clear hK K
          try simp only [Act.put, List.setIfInBounds_toArray, List.set_cons_zero, List.set_cons_succ]
          refine takeV 33 rfl (by intro w h; clear h; go_simp; try with_reducible rfl) (by kernel_rfl) (by kernel_rfl) (by kernel_rfl) (by exact fun _ _ _ h => h) (by rfl) (by assumption) ?_
          try simp only [Act.put, List.setIfInBounds_toArray, List.set_cons_zero, List.set_cons_succ]
          refine takeV 34 rfl (by intro w h; clear h; go_simp; try with_reducible rfl) (by kernel_rfl) (by kernel_rfl) (by kernel_rfl) (by exact fun _ _ _ h => h) (by rfl) (by assumption) ?_
          try simp only [Act.put, List.setIfInBounds_toArray, List.set_cons_zero, List.set_cons_succ]
          refine takeV 35 rfl (by intro w h; clear h; go_simp; try with_reducible rfl) (by kernel_rfl) (by kernel_rfl) (by kernel_rfl) (by exact fun _ _ _ h => h) (by rfl) (by assumption) ?_
          try simp only [Act.put, List.setIfInBounds_toArray, List.set_cons_zero, List.set_cons_succ]
          refine takeV 36 rfl (by intro w h; clear h; go_simp; try with_reducible rfl) (by kernel_rfl) (by kernel_rfl) (by kernel_rfl) (by exact fun _ _ _ h => h) (by rfl) (by assumption) ?_
          try simp only [Act.put, List.setIfInBounds_toArray, List.set_cons_zero, List.set_cons_succ]
          refine takeV 37 rfl (by intro w h; clear h; go_simp; try with_reducible rfl) (by kernel_rfl) (by kernel_rfl) (by kernel_rfl) (by exact fun _ _ _ h => h) (by rfl) (by assumption) ?_
          try simp only [Act.put, List.setIfInBounds_toArray, List.set_cons_zero, List.set_cons_succ]
          refine takeV 39 rfl (by intro w h; clear h; go_simp; try with_reducible rfl) (by kernel_rfl) (by kernel_rfl) (by kernel_rfl) (by exact fun _ _ _ h => h) (by rfl) (by assumption) ?_
          try simp only [Act.put, List.setIfInBounds_toArray, List.set_cons_zero, List.set_cons_succ]
          refine takeV 40 rfl (by intro w h; clear h; go_simp; try with_reducible rfl) (by kernel_rfl) (by kernel_rfl) (by kernel_rfl) (by exact fun _ _ _ h => h) (by rfl) (by assumption) ?_
          try simp only [Act.put, List.setIfInBounds_toArray, List.set_cons_zero, List.set_cons_succ]
          refine takeTwo 38 41 rfl rfl (by kernel_rfl) (fun K hK => ?_) (fun K hK => ?_)
          · try go_simp
            refine (ledger_runs_w 1 1 H 5 rfl (fun rs h => by injection h with h; subst h; exact ⟨by simp, by simp, by decide⟩) (by omega) 6 rfl).mono ?_
            rintro e wE ⟨vE, rfl, H1⟩
            replace H := H1.push_mk rfl
            clear H1
            obtain ⟨AE, cE, rfl, -, -⟩ := row_shape (H.row 6 rfl)
            refine hK.out _ _ trivial (fun hHeld => ?_)
            clear hK K
            try simp only [Act.put, List.setIfInBounds_toArray, List.set_cons_zero, List.set_cons_succ]
            refine take_call 41 rfl (by kernel_rfl) (fun K hK => ?_)
            try go_simp
            replace H := (H.allocAt 7 rfl wE.heap.size rfl #[.int .u8 8, .int .i64 200, .int .i64 1] 56).push_mk rfl
            refine hK.out _ _ trivial (fun hHeld => ?_)
            clear hK K
            try simp only [Act.put, List.setIfInBounds_toArray, List.set_cons_zero, List.set_cons_succ]
            refine take_call 42 rfl (by kernel_rfl) (fun K hK => ?_)
            try go_simp
            refine (sameRuns_any AE (some ⟨wE.heap.size, 0, none⟩) cE 1 [(8, 200, 1)] [(8, 200, 1)] (H.rd 6 rfl) (H.rdBlk 7 rfl 3 1 rfl) (by simp) (by simp)).mono ?_
            rintro e wF ⟨rfl, kd, rfl⟩
            replace H := H.drewN kd
            rw [decide_eq_true rfl]
            refine hK.out _ _ trivial (fun hHeld => ?_)
            clear hK K
            try simp only [Act.put, List.setIfInBounds_toArray, List.set_cons_zero, List.set_cons_succ]
            refine takeV 43 rfl (by intro w h; clear h; go_simp; try with_reducible rfl) (by kernel_rfl) (by kernel_rfl) (by kernel_rfl) (by exact fun _ _ _ h => h) (by rfl) (by assumption) ?_
            try simp only [Act.put, List.setIfInBounds_toArray, List.set_cons_zero, List.set_cons_succ]
            refine takeV 44 rfl (by intro w h; clear h; go_simp; try with_reducible rfl) (by kernel_rfl) (by kernel_rfl) (by kernel_rfl) (by exact fun _ _ _ h => h) (by rfl) (by assumption) ?_
            try simp only [Act.put, List.setIfInBounds_toArray, List.set_cons_zero, List.set_cons_succ]
            refine wpAnyH_done (by kernel_rfl) ?_ _
            go_wp2
            go_ret
            exact ⟨rfl, H.below⟩
          · try go_simp
            replace H := (H.allocAt 6 rfl wD.heap.size rfl #[.int .u8 8, .int .i64 200, .int .i64 1] 56).push_mk rfl
            refine hK.out _ _ trivial (fun hHeld => ?_)
            clear hK K
            try simp only [Act.put, List.setIfInBounds_toArray, List.set_cons_zero, List.set_cons_succ]
            refine take_call 38 rfl (by kernel_rfl) (fun K hK => ?_)
            try go_simp
            refine (ledger_runs_w 1 1 H 5 rfl (fun rs h => by injection h with h; subst h; exact ⟨by simp, by simp, by decide⟩) (by omega) 7 rfl).mono ?_
            rintro e wE ⟨vE, rfl, H1⟩
            replace H := H1.push_mk rfl
            clear H1
            obtain ⟨AE, cE, rfl, -, -⟩ := row_shape (H.row 7 rfl)
            refine hK.out _ _ trivial (fun hHeld => ?_)
            clear hK K
            try simp only [Act.put, List.setIfInBounds_toArray, List.set_cons_zero, List.set_cons_succ]
            refine take_call 42 rfl (by kernel_rfl) (fun K hK => ?_)
            try go_simp
            refine (sameRuns_any AE (some ⟨wD.heap.size, 0, none⟩) cE 1 [(8, 200, 1)] [(8, 200, 1)] (H.rd 7 rfl) (H.rdBlk 6 rfl 3 1 rfl) (by simp) (by simp)).mono ?_
            rintro e wF ⟨rfl, kd, rfl⟩
            replace H := H.drewN kd
            rw [decide_eq_true rfl]
            refine hK.out _ _ trivial (fun hHeld => ?_)
            clear hK K
            try simp only [Act.put, List.setIfInBounds_toArray, List.set_cons_zero, List.set_cons_succ]
            refine takeV 43 rfl (by intro w h; clear h; go_simp; try with_reducible rfl) (by kernel_rfl) (by kernel_rfl) (by kernel_rfl) (by exact fun _ _ _ h => h) (by rfl) (by assumption) ?_
            try simp only [Act.put, List.setIfInBounds_toArray, List.set_cons_zero, List.set_cons_succ]
            refine takeV 44 rfl (by intro w h; clear h; go_simp; try with_reducible rfl) (by kernel_rfl) (by kernel_rfl) (by kernel_rfl) (by exact fun _ _ _ h => h) (by rfl) (by assumption) ?_
            try simp only [Act.put, List.setIfInBounds_toArray, List.set_cons_zero, List.set_cons_succ]
            refine wpAnyH_done (by kernel_rfl) ?_ _
            go_wp2
            go_ret
            exact ⟨rfl, H.below⟩
end Go.Proofs.Ythieegmmbjjcbaa
