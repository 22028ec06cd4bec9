/- Texts of this claim, merged: LawKmT. -/

import Derived.Test.YthoopaknldkclaaMgE
set_option linter.unusedVariables false

namespace Go.Proofs.Ythoopaknldkclaa
open Go.RowKit
set_option linter.unusedVariables false
set_option maxRecDepth 100000

theorem kmTagB_length (R : Nat) (key cus p : List UInt8) (N : Nat) (xof : Bool) : (kmTagB R key cus p N xof).length = N := Sp.read_length _ _

attribute [local irreducible] permB kBytes kPerm kFrom kmTagB kmTagN

theorem kmSumN_le {x : Sp} (n B : Nat) (hx : x.Ok) (hs : x.s = false) (h8 : 8 ≤ x.r) (h9 : x.r ≤ 192) (hB : B ≤ 9223372036854775807) : kmSumN x n B ≤ x.p + n + 20 := by
  obtain ⟨k1, k2, k3⟩ := kmEnd_ok B hx hs
  unfold kmSumN
  have e1 : (kmEnd x B).shutN = 1 := by unfold Sp.shutN; rw [k2]; rfl
  have e2 : (kmEnd x B).shut.p = 0 := by unfold Sp.shut; rw [k2]; rfl
  rw [e1, e2]
  have h1 := rightI_le (B : Int) (by omega)
  have h2 := Nat.div_le_self (x.p + (rightI (B : Int)).length) x.r
  have h3 := Nat.div_le_self (0 + n - 1) (kmEnd x B).r
  omega

theorem kmTagN_le (R : Nat) (key cus p : List UInt8) (N : Nat) (xof : Bool) (h8 : 8 ≤ R) (h9 : R ≤ 192) (hk : key.length ≤ 1900000) (hc : cus.length ≤ 1900000) (hp : p.length ≤ 100000000) (hN : N ≤ 65536) : kmTagN R key cus p N xof ≤ 1000000000 := by
  obtain ⟨h1, h2, h3, h4⟩ := kmSp_ok (R := R) key cus h8 h9
  obtain ⟨k1, k2⟩ := Sp.write_ok p h1 (by rw [h3]; exact h4)
  obtain ⟨m1, m2, m3⟩ := Sp.write_r p (kmSp R key cus)
  have a := kmN_le key cus h8 h9 hk hc
  have b := Nat.div_le_self ((kmSp R key cus).p + p.length) R
  have c := kmSumN_le (x := (kmSp R key cus).write p) N (kmBits N xof) k1 (by rw [m3]; exact h2) (by rw [m1, h3]; exact h8) (by rw [m1, h3]; exact h9) (by unfold kmBits; split <;> omega)
  rw [m1, h3] at k2
  unfold kmTagN
  omega

theorem case_size : (Try.prog.info? 24).map (·.size) = some 3 := by kernel_rfl
theorem kmTagC_le (S : Int) (key cus p : List UInt8) (N : Int) (xof : Bool) (hk : key.length ≤ 1900000) (hc : cus.length ≤ 1900000) (hp : p.length ≤ 100000000) : kmTagC S key cus p N xof ≤ 1000000000 := by
  unfold kmTagC
  split
  · rename_i hok
    exact kmTagN_le _ _ _ _ _ _ (by unfold kmR; split <;> omega) (by unfold kmR; split <;> omega) hk hc hp (by have := hok.2; omega)
  · omega

theorem kmTagT_le (S : Int) (key cus p : List UInt8) (N : Int) (xof : Bool) : (kmTagT S key cus p N xof).length ≤ 65536 := by
  unfold kmTagT
  split
  · rename_i hok
    have h : (kmTagB (kmR S) key cus p N.toNat xof).length = N.toNat := kmTagB_length _ _ _ _ _ _
    rw [h]
    have := hok.2
    omega
  · simp

set_option maxHeartbeats 16000000 in
theorem kmacTags_w (Z : Int) (A : Option Addr) (n cA : Nat) (key : List UInt8) (B : Option Addr) (m cB : Nat) (cus : List UInt8) (C : Option Addr) (p cC : Nat) (msg : List UInt8) (N : Int) (xof : Bool) (w : World) (hA : Rd w 1 A n (key.map vb)) (hn : n ≤ 1048576) (hB : Rd w 1 B m (cus.map vb)) (hm : m ≤ 1048576) (hC : Rd w 1 C p (msg.map vb)) (hp : p ≤ 1048576) (hN1 : -9223372036854775808 ≤ N) (hN2 : N ≤ 9223372036854775807) :
    Calls Try.prog 3 #[.agg #[.int .i64 Z, .slice A n cA, .slice B m cB], .agg #[.slice C p cC, .int .i64 N, .bool xof]] w fun e w' => e = .returned (.bool true) ∧ Below w.heap.size w w' := by
  have hlk : key.length = n := by simpa using hA.1
  have hlc : cus.length = m := by simpa using hB.1
  have hlm : msg.length = p := by simpa using hC.1
  have HLK := Lib.hid hlk
  have HLC := Lib.hid hlc
  have HLM := Lib.hid hlm
  clear hlk hlc hlm
  have H0 := St.start_lay w []
  go_enter Try.func3, Try.ntmps3
  go_wp2_with fail
  refine absorb_calls (H0.allocAt 0 rfl w.heap.size rfl _ _ |>.push_mk rfl |>.allocAt 1 rfl (w.heap.size + 1) (by simp) _ _ |>.push_mk rfl) ?_
  intro w1 H
  clear H0
  generalize w.heap.size + 1 = gw at H ⊢
  generalize w.heap.size = gc at H ⊢
  refine (kmLives_s w1).mono ?_
  rintro e w2 ⟨rfl, hb2⟩
  replace H := H.call hb2
  clear hb2
  replace H : St w [] w2 (lay [.blk gc 24 [.int .i64 Z, .slice A n cA, .slice B m cB], .blk gw 26 [.slice C p cC, .int .i64 N, .bool xof]]) := H
  have x0 := H.cell 0 rfl (o := 0) rfl
  have x1 := H.cell 0 rfl (o := 1) rfl
  have x2 := H.cell 0 rfl (o := 2) rfl
  have y0 := H.cell 1 rfl (o := 0) rfl
  have y1 := H.cell 1 rfl (o := 1) rfl
  have xr := H.range 0 rfl
  have csz := case_size
  have HB1 := H.allocAt 2 rfl w2.heap.size rfl #[.int .i64 0, .int .i64 0, .int .i64 0, .slice C p cC, .int .i64 N, .bool false] 30 |>.blk 0 rfl
  go_wp2_with (refine wpList_load_row rfl 24 (.tmp 2) rfl gc rfl _ _ _ _ HB1 Try.underlying24 rfl (by rw [csz]; rfl) ?_)
  refine absorb_calls (H.allocAt 2 rfl w2.heap.size rfl _ _ |>.push_mk rfl |>.allocAt 3 rfl (w2.heap.size + 1) (by simp) _ _ |>.push_mk rfl) ?_
  clear HB1 x0 x1 x2 y0 y1 xr
  intro w3 H3
  generalize w2.heap.size + 1 = g3 at H3 ⊢
  generalize w2.heap.size = g2 at H3 ⊢
  refine (kmSmall_s (some ⟨g2, 0, none⟩) (some ⟨g3, 0, none⟩) 1 1 1 1 [⟨0, 0, 0, C, p, cC, msg, N, false⟩] [⟨Z, A, n, cA, key, B, m, cB, cus⟩] w3 (H3.rdBlk 2 rfl 6 1 rfl) (H3.rdBlk 3 rfl 3 1 rfl) (by omega) (by omega) (by simp; omega) (by simp; omega)).mono ?_
  rintro e w4 ⟨bs, rfl, hsm, hb⟩
  replace H := (H3.call hb).front 2
  clear hb H3
  replace H : St w [] w4 (lay [.blk gc 24 [.int .i64 Z, .slice A n cA, .slice B m cB], .blk gw 26 [.slice C p cC, .int .i64 N, .bool xof]]) := H
  cases bs with
  | false =>
    go_wp2
    go_ret
    exact ⟨rfl, H.below⟩
  | true =>
  clear hsm
  have x0 := H.cell 0 rfl (o := 0) rfl
  have x1 := H.cell 0 rfl (o := 1) rfl
  have x2 := H.cell 0 rfl (o := 2) rfl
  have y0 := H.cell 1 rfl (o := 0) rfl
  go_wp2_with fail
  refine (lent_st A n cA key H (H.arg0 hA) (by omega)).mono ?_
  rintro e w5 ⟨fk, tk, htk, rfl, H1⟩
  replace H : St w [] w5 (lay [.blk gc 24 [.int .i64 Z, .slice A n cA, .slice B m cB], .blk gw 26 [.slice C p cC, .int .i64 N, .bool xof], .row 5 1 (.slice (some ⟨fk, 0, none⟩) (n + 6) tk) (n + 6) ((key ++ marksB 7 0 6).map vb)]) := H1
  clear H1 x0 x1 x2 y0
  have y0 := H.cell 1 rfl (o := 0) rfl
  go_wp2_with fail
  refine (lent_st C p cC msg H (H.arg0 hC) (by omega)).mono ?_
  rintro e w5 ⟨fp, tp, htp, rfl, H1⟩
  replace H : St w [] w5 (lay [.blk gc 24 [.int .i64 Z, .slice A n cA, .slice B m cB], .blk gw 26 [.slice C p cC, .int .i64 N, .bool xof], .row 5 1 (.slice (some ⟨fk, 0, none⟩) (n + 6) tk) (n + 6) ((key ++ marksB 7 0 6).map vb), .row 5 1 (.slice (some ⟨fp, 0, none⟩) (p + 6) tp) (p + 6) ((msg ++ marksB 7 0 6).map vb)]) := H1
  clear H1 y0
  have x2 := H.cell 0 rfl (o := 2) rfl
  go_wp2_with fail
  refine (lent_st B m cB cus H (H.arg0 hB) (by omega)).mono ?_
  rintro e w5 ⟨fq, tq, htq, rfl, H1⟩
  replace H : St w [] w5 (lay [.blk gc 24 [.int .i64 Z, .slice A n cA, .slice B m cB], .blk gw 26 [.slice C p cC, .int .i64 N, .bool xof], .row 5 1 (.slice (some ⟨fk, 0, none⟩) (n + 6) tk) (n + 6) ((key ++ marksB 7 0 6).map vb), .row 5 1 (.slice (some ⟨fp, 0, none⟩) (p + 6) tp) (p + 6) ((msg ++ marksB 7 0 6).map vb), .row 5 1 (.slice (some ⟨fq, 0, none⟩) (m + 6) tq) (m + 6) ((cus ++ marksB 7 0 6).map vb)]) := H1
  clear H1 x2
  go_wp2_with fail
  refine (ledger_new H 5 rfl).mono ?_
  rintro e w5 ⟨l, rfl, H1⟩
  replace H := H1.push_mk rfl
  clear H1
  go_wp2_with fail
  refine (refLedger_new H 6 rfl).mono ?_
  rintro e w5 ⟨lr, rfl, H1⟩
  replace H := H1.push_mk rfl
  clear H1
  replace H : St w [] w5 (lay [.blk gc 24 [.int .i64 Z, .slice A n cA, .slice B m cB], .blk gw 26 [.slice C p cC, .int .i64 N, .bool xof], .row 5 1 (.slice (some ⟨fk, 0, none⟩) (n + 6) tk) (n + 6) ((key ++ marksB 7 0 6).map vb), .row 5 1 (.slice (some ⟨fp, 0, none⟩) (p + 6) tp) (p + 6) ((msg ++ marksB 7 0 6).map vb), .row 5 1 (.slice (some ⟨fq, 0, none⟩) (m + 6) tq) (m + 6) ((cus ++ marksB 7 0 6).map vb), led l (some []), ledR lr (some [])]) := H
  have b1 : (n : Int) ≤ tk := by omega
  have b2 : (m : Int) ≤ tq := by omega
  have b3 : (p : Int) ≤ tp := by omega
  have b4 : n ≤ tk := by omega
  have b5 : m ≤ tq := by omega
  have b6 : p ≤ tp := by omega
  go_upto_region 11 with (fail)
  refine absorb_wp H ?_
  clear H
  intro w6 H
  obtain ⟨T1, HT1⟩ : ∃ T, Hid (kmTagT Z key cus msg N xof = T) := ⟨_, rfl⟩
  obtain ⟨N1, HN1⟩ : ∃ T, Hid (kmTagC Z key cus msg N xof = T) := ⟨_, rfl⟩
  obtain ⟨er, HEr⟩ : ∃ T, Hid (kmEr Z N = T) := ⟨_, rfl⟩
  have hN1 : N1 ≤ 1000000000 := by rw [← HN1.out]; exact kmTagC_le _ _ _ _ _ _ (by rw [HLK.out]; omega) (by rw [HLC.out]; omega) (by rw [HLM.out]; omega)
  have hT1 : T1.length ≤ 65536 := by rw [← HT1.out]; exact kmTagT_le _ _ _ _ _ _
  replace H := H.drew
  have HS := (((H.nothing 7 rfl).push_mk rfl).blur (A := fun X : Own => X) .emp 7 rfl).blur (A := fun r => led l r) (some []) 5 rfl
  refine wp_region_held_drew (S := fun w' : World => St w [] w' (lay [.blk gc 24 [.int .i64 Z, .slice A n cA, .slice B m cB], .blk gw 26 [.slice C p cC, .int .i64 N, .bool xof], .row 5 1 (.slice (some ⟨fk, 0, none⟩) (n + 6) tk) (n + 6) ((key ++ marksB 7 0 6).map vb), .row 5 1 (.slice (some ⟨fp, 0, none⟩) (p + 6) tp) (p + 6) ((msg ++ marksB 7 0 6).map vb), .row 5 1 (.slice (some ⟨fq, 0, none⟩) (m + 6) tq) (m + 6) ((cus ++ marksB 7 0 6).map vb), .ex (fun r => led l r), ledR lr (some []), .ex (fun X : Own => X)])) (by kernel_rfl) ?_ (fun hHeld => ?_)
  · exact HS
  refine takeV 0 rfl (by intro w h; clear h; go_simp; try with_reducible rfl) (by kernel_rfl) (by kernel_rfl) (by kernel_rfl) (by exact fun _ _ _ h => h) (by rfl) (by assumption) ?_
  try simp only [Act.put, List.setIfInBounds_toArray, List.set_cons_zero, List.set_cons_succ]
  refine takeV 1 rfl (by intro w h; clear h; go_simp; try with_reducible rfl) (by kernel_rfl) (by kernel_rfl) (by kernel_rfl) (by exact fun _ _ _ h => h) (by rfl) (by assumption) ?_
  try simp only [Act.put, List.setIfInBounds_toArray, List.set_cons_zero, List.set_cons_succ]
  refine takeV 2 rfl (by intro w h; have hc := h.cell 0 rfl (o := 0) rfl; clear h; go_simp; try with_reducible rfl) (by kernel_rfl) (by kernel_rfl) (by kernel_rfl) (by exact fun _ _ _ h => h) (by rfl) (by assumption) ?_
  try simp only [Act.put, List.setIfInBounds_toArray, List.set_cons_zero, List.set_cons_succ]
  refine takeV 3 rfl (by intro w h; clear h; go_simp; try with_reducible rfl) (by kernel_rfl) (by kernel_rfl) (by kernel_rfl) (by exact fun _ _ _ h => h) (by rfl) (by assumption) ?_
  try simp only [Act.put, List.setIfInBounds_toArray, List.set_cons_zero, List.set_cons_succ]
  refine takeV 4 rfl (by intro w h; clear h; go_simp; try with_reducible rfl) (by kernel_rfl) (by kernel_rfl) (by kernel_rfl) (by exact fun _ _ _ h => h) (by rfl) (by assumption) ?_
  try simp only [Act.put, List.setIfInBounds_toArray, List.set_cons_zero, List.set_cons_succ]
  refine takeV 5 rfl (by intro w h; have hc := h.cell 0 rfl (o := 1) rfl; clear h; go_simp; try with_reducible rfl) (by kernel_rfl) (by kernel_rfl) (by kernel_rfl) (by exact fun _ _ _ h => h) (by rfl) (by assumption) ?_
  try simp only [Act.put, List.setIfInBounds_toArray, List.set_cons_zero, List.set_cons_succ]
  refine takeV 6 rfl (by intro w h; clear h; go_simp; try with_reducible rfl) (by kernel_rfl) (by kernel_rfl) (by kernel_rfl) (by exact fun _ _ _ h => h) (by rfl) (by assumption) ?_
  try simp only [Act.put, List.setIfInBounds_toArray, List.set_cons_zero, List.set_cons_succ]
  refine takeV 7 rfl (by intro w h; clear h; go_simp; try with_reducible rfl) (by kernel_rfl) (by kernel_rfl) (by kernel_rfl) (by exact fun _ _ _ h => h) (by rfl) (by assumption) ?_
  try simp only [Act.put, List.setIfInBounds_toArray, List.set_cons_zero, List.set_cons_succ]
  refine takeV 8 rfl (by intro w h; clear h; go_simp; try with_reducible rfl) (by kernel_rfl) (by kernel_rfl) (by kernel_rfl) (by exact fun _ _ _ h => h) (by rfl) (by assumption) ?_
  try simp only [Act.put, List.setIfInBounds_toArray, List.set_cons_zero, List.set_cons_succ]
  refine takeV 9 rfl (by intro w h; clear h; go_simp; try with_reducible rfl) (by kernel_rfl) (by kernel_rfl) (by kernel_rfl) (by exact fun _ _ _ h => h) (by rfl) (by assumption) ?_
  try simp only [Act.put, List.setIfInBounds_toArray, List.set_cons_zero, List.set_cons_succ]
  refine takeV 10 rfl (by intro w h; have hc := h.cell 0 rfl (o := 2) rfl; clear h; go_simp; try with_reducible rfl) (by kernel_rfl) (by kernel_rfl) (by kernel_rfl) (by exact fun _ _ _ h => h) (by rfl) (by assumption) ?_
  try simp only [Act.put, List.setIfInBounds_toArray, List.set_cons_zero, List.set_cons_succ]
  refine takeV 11 rfl (by intro w h; clear h; go_simp; try with_reducible rfl) (by kernel_rfl) (by kernel_rfl) (by kernel_rfl) (by exact fun _ _ _ h => h) (by rfl) (by assumption) ?_
  try simp only [Act.put, List.setIfInBounds_toArray, List.set_cons_zero, List.set_cons_succ]
  refine takeV 12 rfl (by intro w h; clear h; go_simp; try with_reducible rfl) (by kernel_rfl) (by kernel_rfl) (by kernel_rfl) (by exact fun _ _ _ h => h) (by rfl) (by assumption) ?_
  try simp only [Act.put, List.setIfInBounds_toArray, List.set_cons_zero, List.set_cons_succ]
  refine takeV 13 rfl (by intro w h; clear h; go_simp; try with_reducible rfl) (by kernel_rfl) (by kernel_rfl) (by kernel_rfl) (by exact fun _ _ _ h => h) (by rfl) (by assumption) ?_
  try simp only [Act.put, List.setIfInBounds_toArray, List.set_cons_zero, List.set_cons_succ]
  refine takeV 14 rfl (by intro w h; clear h; go_simp; try with_reducible rfl) (by kernel_rfl) (by kernel_rfl) (by kernel_rfl) (by exact fun _ _ _ h => h) (by rfl) (by assumption) ?_
  try simp only [Act.put, List.setIfInBounds_toArray, List.set_cons_zero, List.set_cons_succ]
  refine takeV 15 rfl (by intro w h; have hc := h.cell 1 rfl (o := 0) rfl; clear h; go_simp; try with_reducible rfl) (by kernel_rfl) (by kernel_rfl) (by kernel_rfl) (by exact fun _ _ _ h => h) (by rfl) (by assumption) ?_
  try simp only [Act.put, List.setIfInBounds_toArray, List.set_cons_zero, List.set_cons_succ]
  refine takeV 16 rfl (by intro w h; clear h; go_simp; try with_reducible rfl) (by kernel_rfl) (by kernel_rfl) (by kernel_rfl) (by exact fun _ _ _ h => h) (by rfl) (by assumption) ?_
  try simp only [Act.put, List.setIfInBounds_toArray, List.set_cons_zero, List.set_cons_succ]
  refine takeV 17 rfl (by intro w h; clear h; go_simp; try with_reducible rfl) (by kernel_rfl) (by kernel_rfl) (by kernel_rfl) (by exact fun _ _ _ h => h) (by rfl) (by assumption) ?_
  try simp only [Act.put, List.setIfInBounds_toArray, List.set_cons_zero, List.set_cons_succ]
  refine takeV 18 rfl (by intro w h; clear h; go_simp; try with_reducible rfl) (by kernel_rfl) (by kernel_rfl) (by kernel_rfl) (by exact fun _ _ _ h => h) (by rfl) (by assumption) ?_
  try simp only [Act.put, List.setIfInBounds_toArray, List.set_cons_zero, List.set_cons_succ]
  refine takeV 19 rfl (by intro w h; have hc := h.cell 1 rfl (o := 1) rfl; clear h; go_simp; try with_reducible rfl) (by kernel_rfl) (by kernel_rfl) (by kernel_rfl) (by exact fun _ _ _ h => h) (by rfl) (by assumption) ?_
  try simp only [Act.put, List.setIfInBounds_toArray, List.set_cons_zero, List.set_cons_succ]
  refine takeV 20 rfl (by intro w h; clear h; go_simp; try with_reducible rfl) (by kernel_rfl) (by kernel_rfl) (by kernel_rfl) (by exact fun _ _ _ h => h) (by rfl) (by assumption) ?_
  try simp only [Act.put, List.setIfInBounds_toArray, List.set_cons_zero, List.set_cons_succ]
  refine takeV 21 rfl (by intro w h; have hc := h.cell 1 rfl (o := 2) rfl; clear h; go_simp; try with_reducible rfl) (by kernel_rfl) (by kernel_rfl) (by kernel_rfl) (by exact fun _ _ _ h => h) (by rfl) (by assumption) ?_
  try simp only [Act.put, List.setIfInBounds_toArray, List.set_cons_zero, List.set_cons_succ]
  refine take_call 22 rfl (by kernel_rfl) (fun K hK => ?_)
  try go_simp
  clear HS hHeld
  refine (kmTag_any l (some []) 0 0 Z N (some ⟨fk, 0, none⟩) (some ⟨fq, 0, none⟩) (some ⟨fp, 0, none⟩) n m p tk tq tp key cus msg xof H 5 7 rfl rfl LW.nil (by omega) (by omega) (fun w' X h => Rd.frontB (h.rd 2 rfl) HLK.out (by omega)) (fun w' X h => Rd.frontB (h.rd 4 rfl) HLC.out (by omega)) (fun w' X h => Rd.frontB (h.rd 3 rfl) HLM.out (by omega)) (by omega) (by omega) (by omega)).mono ?_
  rintro e wx ⟨va, rfl, H1⟩
  rw [HT1.out, HN1.out, upd_laid (by simp)] at H1
  rw [HEr.out]
  clear H
  have H := H1.push_mk rfl
  clear H1
  obtain ⟨Aa, ca, rfl, -, -⟩ := row_form (H.row 7 rfl)
  replace H : St w [] wx (lay [.blk gc 24 [.int .i64 Z, .slice A n cA, .slice B m cB], .blk gw 26 [.slice C p cC, .int .i64 N, .bool xof], .row 5 1 (.slice (some ⟨fk, 0, none⟩) (n + 6) tk) (n + 6) ((key ++ marksB 7 0 6).map vb), .row 5 1 (.slice (some ⟨fp, 0, none⟩) (p + 6) tp) (p + 6) ((msg ++ marksB 7 0 6).map vb), .row 5 1 (.slice (some ⟨fq, 0, none⟩) (m + 6) tq) (m + 6) ((cus ++ marksB 7 0 6).map vb), led l (noteN (some []) 3 200 N1), ledR lr (some []), .row 5 1 (.slice Aa T1.length ca) T1.length (T1.map vb)]) := H
  have HS := (H.blur (A := fun X : Own => X) _ 7 rfl).blur (A := fun r => led l r) _ 5 rfl
  refine hK.out _ _ ?_ (fun hHeld => ?_)
  · exact HS
  clear hK K
  try simp only [Act.put, List.setIfInBounds_toArray, List.set_cons_zero, List.set_cons_succ]
  refine takeV 23 rfl (by intro w h; clear h; go_simp; try with_reducible rfl) (by kernel_rfl) (by kernel_rfl) (by kernel_rfl) (by exact fun _ _ _ h => h) (by rfl) (by assumption) ?_
  try simp only [Act.put, List.setIfInBounds_toArray, List.set_cons_zero, List.set_cons_succ]
  refine takeV 24 rfl (by intro w h; clear h; go_simp; try with_reducible rfl) (by kernel_rfl) (by kernel_rfl) (by kernel_rfl) (by exact fun _ _ _ h => h) (by rfl) (by assumption) ?_
  try simp only [Act.put, List.setIfInBounds_toArray, List.set_cons_zero, List.set_cons_succ]
  refine takeV 25 rfl (by intro w h; clear h; go_simp; try with_reducible rfl) (by kernel_rfl) (by kernel_rfl) (by kernel_rfl) (by exact fun _ _ _ h => h) (by rfl) (by assumption) ?_
  try simp only [Act.put, List.setIfInBounds_toArray, List.set_cons_zero, List.set_cons_succ]
  refine takeV 26 rfl (by intro w h; clear h; go_simp; try with_reducible rfl) (by kernel_rfl) (by kernel_rfl) (by kernel_rfl) (by exact fun _ _ _ h => h) (by rfl) (by assumption) ?_
  try simp only [Act.put, List.setIfInBounds_toArray, List.set_cons_zero, List.set_cons_succ]
  refine takeV 27 rfl (by intro w h; clear h; go_simp; try with_reducible rfl) (by kernel_rfl) (by kernel_rfl) (by kernel_rfl) (by exact fun _ _ _ h => h) (by rfl) (by assumption) ?_
  try simp only [Act.put, List.setIfInBounds_toArray, List.set_cons_zero, List.set_cons_succ]
  refine wpAnyH_done (by kernel_rfl) ?_ _
  clear HS
  have x0 := H.cell 0 rfl (o := 0) rfl
  have x1 := H.cell 0 rfl (o := 1) rfl
  have x2 := H.cell 0 rfl (o := 2) rfl
  have y0 := H.cell 1 rfl (o := 0) rfl
  have y1 := H.cell 1 rfl (o := 1) rfl
  have y2 := H.cell 1 rfl (o := 2) rfl
  go_wp2_with fail
  refine (rkTag_any lr (some []) 0 0 Z N A B C n m p cA cB cC key cus msg xof H 6 8 rfl rfl LW.nil (by omega) (by omega) (fun w' X h => h.arg0 hA) (fun w' X h => h.arg0 hB) (fun w' X h => h.arg0 hC) (by omega) (by omega) (by omega)).mono ?_
  rintro e wx ⟨vd, rfl, H1⟩
  rw [HT1.out, HN1.out, upd_laid (by simp)] at H1
  rw [HEr.out]
  clear x0 x1 x2 y0 y1 y2
  replace H := H1.push_mk rfl
  clear H1
  obtain ⟨Ab, cb, rfl, -, -⟩ := row_form (H.row 8 rfl)
  replace H : St w [] wx (lay [.blk gc 24 [.int .i64 Z, .slice A n cA, .slice B m cB], .blk gw 26 [.slice C p cC, .int .i64 N, .bool xof], .row 5 1 (.slice (some ⟨fk, 0, none⟩) (n + 6) tk) (n + 6) ((key ++ marksB 7 0 6).map vb), .row 5 1 (.slice (some ⟨fp, 0, none⟩) (p + 6) tp) (p + 6) ((msg ++ marksB 7 0 6).map vb), .row 5 1 (.slice (some ⟨fq, 0, none⟩) (m + 6) tq) (m + 6) ((cus ++ marksB 7 0 6).map vb), led l (noteN (some []) 3 200 N1), ledR lr (noteN (some []) 3 200 N1), .row 5 1 (.slice Aa T1.length ca) T1.length (T1.map vb), .row 5 1 (.slice Ab T1.length cb) T1.length (T1.map vb)]) := H
  have x1 := H.cell 0 rfl (o := 1) rfl
  go_wp2_with fail
  refine (keptBytes_yes (some ⟨fk, 0, none⟩) A (n + 6) n tk cA (key ++ marksB 7 0 6) key _ (H.rd 2 rfl) (H.arg0 hA) (by omega) (by omega) rfl).mono ?_
  rintro e wc ⟨rfl, hb⟩
  replace H := H.call hb
  clear hb x1
  have y0 := H.cell 1 rfl (o := 0) rfl
  go_wp2_with fail
  refine (keptBytes_yes (some ⟨fp, 0, none⟩) C (p + 6) p tp cC (msg ++ marksB 7 0 6) msg _ (H.rd 3 rfl) (H.arg0 hC) (by omega) (by omega) rfl).mono ?_
  rintro e wc ⟨rfl, hb⟩
  replace H := H.call hb
  clear hb y0
  have x2 := H.cell 0 rfl (o := 2) rfl
  go_wp2_with fail
  refine (keptBytes_yes (some ⟨fq, 0, none⟩) B (m + 6) m tq cB (cus ++ marksB 7 0 6) cus _ (H.rd 4 rfl) (H.arg0 hB) (by omega) (by omega) rfl).mono ?_
  rintro e wc ⟨rfl, hb⟩
  replace H := H.call hb
  clear hb x2
  have heq : (er == er) = true := by simp
  go_wp2_with fail
  refine (sameBytes_yes Aa Ab T1.length T1.length ca cb T1 T1 _ (H.rd 7 rfl) (H.rd 8 rfl) (by omega) (by omega) rfl).mono ?_
  rintro e we ⟨rfl, hb⟩
  replace H := H.call hb
  clear hb
  have hrl : Hid (∃ rs, noteN (some []) 3 200 N1 = some rs ∧ rs.length ≤ 1) := by
    unfold Hid noteN
    split
    · exact ⟨[], rfl, by simp⟩
    · exact ⟨_, rfl, by simp [noted]⟩
  obtain ⟨rs, hrs, hrl1⟩ := hrl.out
  have hlw : LW (some rs) 1 ((N1 : Nat) : Int) := by rw [← hrs]; exact (LW.nil.noteN 3 200 N1).more (by omega) (by omega)
  rw [hrs] at H
  have HLW := Lib.hid hlw
  clear hrs hrl hlw
  replace H : St w [] we (lay [.blk gc 24 [.int .i64 Z, .slice A n cA, .slice B m cB], .blk gw 26 [.slice C p cC, .int .i64 N, .bool xof], .row 5 1 (.slice (some ⟨fk, 0, none⟩) (n + 6) tk) (n + 6) ((key ++ marksB 7 0 6).map vb), .row 5 1 (.slice (some ⟨fp, 0, none⟩) (p + 6) tp) (p + 6) ((msg ++ marksB 7 0 6).map vb), .row 5 1 (.slice (some ⟨fq, 0, none⟩) (m + 6) tq) (m + 6) ((cus ++ marksB 7 0 6).map vb), led l (some rs), ledR lr (some rs), .row 5 1 (.slice Aa T1.length ca) T1.length (T1.map vb), .row 5 1 (.slice Ab T1.length cb) T1.length (T1.map vb)]) := H
  go_wp2_with fail
  refine (ledger_runs_w 1 _ H 5 rfl HLW.out (by omega) 9 rfl).mono ?_
  rintro e wf ⟨vr, rfl, H1⟩
  replace H := H1.push_mk rfl
  clear H1
  obtain ⟨Ar, cr, rfl, -, -⟩ := row_shape (H.row 9 rfl)
  go_wp2_with fail
  refine (refRuns_w 1 _ H 6 rfl HLW.out (by omega) 10 rfl).mono ?_
  rintro e wg ⟨vs, rfl, H1⟩
  replace H := H1.push_mk rfl
  clear H1
  obtain ⟨As, cs, rfl, -, -⟩ := row_shape (H.row 10 rfl)
  go_wp2_with fail
  refine (sameRuns_any Ar As cr cs rs rs (H.rd 9 rfl) (H.rd 10 rfl) (by omega) (by omega)).mono ?_
  rintro e wh ⟨rfl, kd, rfl⟩
  replace H := (H.drewN kd).front 9
  rw [decide_eq_true rfl]
  generalize wg.drewN kd = wh at H ⊢
  replace H : St w [] wh (lay [.blk gc 24 [.int .i64 Z, .slice A n cA, .slice B m cB], .blk gw 26 [.slice C p cC, .int .i64 N, .bool xof], .row 5 1 (.slice (some ⟨fk, 0, none⟩) (n + 6) tk) (n + 6) ((key ++ marksB 7 0 6).map vb), .row 5 1 (.slice (some ⟨fp, 0, none⟩) (p + 6) tp) (p + 6) ((msg ++ marksB 7 0 6).map vb), .row 5 1 (.slice (some ⟨fq, 0, none⟩) (m + 6) tq) (m + 6) ((cus ++ marksB 7 0 6).map vb), led l (some rs), ledR lr (some rs), .row 5 1 (.slice Aa T1.length ca) T1.length (T1.map vb), .row 5 1 (.slice Ab T1.length cb) T1.length (T1.map vb)]) := H
  have HMK : Hid ((key ++ marksB 7 0 6).length = n + 6) := by unfold Hid; rw [List.length_append, marksB_length, HLK.out]
  have HMP : Hid ((msg ++ marksB 7 0 6).length = p + 6) := by unfold Hid; rw [List.length_append, marksB_length, HLM.out]
  have HMQ : Hid ((cus ++ marksB 7 0 6).length = m + 6) := by unfold Hid; rw [List.length_append, marksB_length, HLC.out]
  generalize key ++ marksB 7 0 6 = Mk at H HMK
  generalize msg ++ marksB 7 0 6 = Mp at H HMP
  generalize cus ++ marksB 7 0 6 = Mq at H HMQ
  replace H := H.shape_row 2 rfl HMK.out.symm rfl
  replace H := H.shape_row 3 rfl HMP.out.symm rfl
  replace H := H.shape_row 4 rfl HMQ.out.symm rfl
  go_wp2_with fail
  refine (apart_st H [(.slice Aa T1.length ca, T1), (.slice (some ⟨fk, 0, none⟩) (n + 6) tk, Mk), (.slice (some ⟨fp, 0, none⟩) (p + 6) tp, Mp), (.slice (some ⟨fq, 0, none⟩) (m + 6) tq, Mq)] (fun i => [7, 2, 3, 4].getD i 99) (fun i j hi hj => (by decide : ∀ i < 4, ∀ j < 4, [7, 2, 3, 4].getD i 99 = [7, 2, 3, 4].getD j 99 → i = j) i hi j hj) ?_ 4 rfl (by omega) ?_ _ rfl).mono ?_
  · intro i p hp
    match i, hp with
    | 0, hp => cases hp; rfl
    | 1, hp => cases hp; rfl
    | 2, hp => cases hp; rfl
    | 3, hp => cases hp; rfl
    | i + 4, hp => simp at hp
  · intro p hp
    have h1 := HMK.out
    have h2 := HMP.out
    have h3 := HMQ.out
    simp only [List.mem_cons, List.not_mem_nil, or_false] at hp
    rcases hp with rfl | rfl | rfl | rfl <;> simp only <;> omega
  rintro e wz ⟨rfl, hbz⟩
  go_wp2_with fail
  go_ret
  exact ⟨rfl, hbz⟩

theorem kmacTags_walk (s : CaseR) (x : WholeR) (w : World) (hs : s.Ok w) (hx : x.Ok w) :
    Calls Try.prog 3 #[.agg s.cs.toArray, .agg x.cs.toArray] w fun e w' => e = .returned (.bool true) ∧ Below w.heap.size w w' :=
  kmacTags_w s.z0 s.A1 s.n1 s.c1 s.l1 s.A2 s.n2 s.c2 s.l2 x.A0 x.n0 x.c0 x.l0 x.z1 x.b2 w hs.r1 hs.m1 hs.r2 hs.m2 hx.r0 hx.m0 hx.i1.1 hx.i1.2

end Go.Proofs.Ythoopaknldkclaa
