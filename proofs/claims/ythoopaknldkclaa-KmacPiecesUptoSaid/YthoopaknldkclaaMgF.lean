/- Texts of this claim, merged: LawKmT, SpPl, Pick, LawKmPi. -/
import Derived.Test.YthoopaknldkclaaRows
import Derived.Test.YthoopaknldkclaaMgE
set_option linter.unusedVariables false

namespace Go.Proofs.Ythoopaknldkclaa
open Go.RowKit
set_option linter.unusedVariables false
set_option maxRecDepth 100000

theorem kmTagB_length (R : Nat) (key cus p : List UInt8) (N : Nat) (xof : Bool) : (kmTagB R key cus p N xof).length = N := Sp.read_length _ _

attribute [local irreducible] permB kBytes kPerm kFrom kmTagB kmTagN

theorem kmSumN_le {x : Sp} (n B : Nat) (hx : x.Ok) (hs : x.s = false) (h8 : 8 ≤ x.r) (h9 : x.r ≤ 192) (hB : B ≤ 9223372036854775807) : kmSumN x n B ≤ x.p + n + 20 := by
  obtain ⟨k1, k2, k3⟩ := kmEnd_ok B hx hs
  unfold kmSumN
  have e1 : (kmEnd x B).shutN = 1 := by unfold Sp.shutN; rw [k2]; rfl
  have e2 : (kmEnd x B).shut.p = 0 := by unfold Sp.shut; rw [k2]; rfl
  rw [e1, e2]
  have h1 := rightI_le (B : Int) (by omega)
  have h2 := Nat.div_le_self (x.p + (rightI (B : Int)).length) x.r
  have h3 := Nat.div_le_self (0 + n - 1) (kmEnd x B).r
  omega

theorem kmTagN_le (R : Nat) (key cus p : List UInt8) (N : Nat) (xof : Bool) (h8 : 8 ≤ R) (h9 : R ≤ 192) (hk : key.length ≤ 1900000) (hc : cus.length ≤ 1900000) (hp : p.length ≤ 100000000) (hN : N ≤ 65536) : kmTagN R key cus p N xof ≤ 1000000000 := by
  obtain ⟨h1, h2, h3, h4⟩ := kmSp_ok (R := R) key cus h8 h9
  obtain ⟨k1, k2⟩ := Sp.write_ok p h1 (by rw [h3]; exact h4)
  obtain ⟨m1, m2, m3⟩ := Sp.write_r p (kmSp R key cus)
  have a := kmN_le key cus h8 h9 hk hc
  have b := Nat.div_le_self ((kmSp R key cus).p + p.length) R
  have c := kmSumN_le (x := (kmSp R key cus).write p) N (kmBits N xof) k1 (by rw [m3]; exact h2) (by rw [m1, h3]; exact h8) (by rw [m1, h3]; exact h9) (by unfold kmBits; split <;> omega)
  rw [m1, h3] at k2
  unfold kmTagN
  omega

theorem case_size : (Try.prog.info? 24).map (·.size) = some 3 := by kernel_rfl
theorem kmTagC_le (S : Int) (key cus p : List UInt8) (N : Int) (xof : Bool) (hk : key.length ≤ 1900000) (hc : cus.length ≤ 1900000) (hp : p.length ≤ 100000000) : kmTagC S key cus p N xof ≤ 1000000000 := by
  unfold kmTagC
  split
  · rename_i hok
    exact kmTagN_le _ _ _ _ _ _ (by unfold kmR; split <;> omega) (by unfold kmR; split <;> omega) hk hc hp (by have := hok.2; omega)
  · omega

theorem kmTagT_le (S : Int) (key cus p : List UInt8) (N : Int) (xof : Bool) : (kmTagT S key cus p N xof).length ≤ 65536 := by
  unfold kmTagT
  split
  · rename_i hok
    have h : (kmTagB (kmR S) key cus p N.toNat xof).length = N.toNat := kmTagB_length _ _ _ _ _ _
    rw [h]
    have := hok.2
    omega
  · simp

set_option maxHeartbeats 16000000 in
theorem kmacTags_w (Z : Int) (A : Option Addr) (n cA : Nat) (key : List UInt8) (B : Option Addr) (m cB : Nat) (cus : List UInt8) (C : Option Addr) (p cC : Nat) (msg : List UInt8) (N : Int) (xof : Bool) (w : World) (hA : Rd w 1 A n (key.map vb)) (hn : n ≤ 1048576) (hB : Rd w 1 B m (cus.map vb)) (hm : m ≤ 1048576) (hC : Rd w 1 C p (msg.map vb)) (hp : p ≤ 1048576) (hN1 : -9223372036854775808 ≤ N) (hN2 : N ≤ 9223372036854775807) :
    Calls Try.prog 3 #[.agg #[.int .i64 Z, .slice A n cA, .slice B m cB], .agg #[.slice C p cC, .int .i64 N, .bool xof]] w fun e w' => e = .returned (.bool true) ∧ Below w.heap.size w w' := by
  have hlk : key.length = n := by simpa using hA.1
  have hlc : cus.length = m := by simpa using hB.1
  have hlm : msg.length = p := by simpa using hC.1
  have HLK := Lib.hid hlk
  have HLC := Lib.hid hlc
  have HLM := Lib.hid hlm
  clear hlk hlc hlm
  have H0 := St.start_lay w []
  go_enter Try.func3, Try.ntmps3
  go_wp2_with fail
  refine absorb_calls (H0.allocAt 0 rfl w.heap.size rfl _ _ |>.push_mk rfl |>.allocAt 1 rfl (w.heap.size + 1) (by simp) _ _ |>.push_mk rfl) ?_
  intro w1 H
  clear H0
  generalize w.heap.size + 1 = gw at H ⊢
  generalize w.heap.size = gc at H ⊢
  refine (kmLives_s w1).mono ?_
  rintro e w2 ⟨rfl, hb2⟩
  replace H := H.call hb2
  clear hb2
  replace H : St w [] w2 (lay [.blk gc 24 [.int .i64 Z, .slice A n cA, .slice B m cB], .blk gw 26 [.slice C p cC, .int .i64 N, .bool xof]]) := H
  have x0 := H.cell 0 rfl (o := 0) rfl
  have x1 := H.cell 0 rfl (o := 1) rfl
  have x2 := H.cell 0 rfl (o := 2) rfl
  have y0 := H.cell 1 rfl (o := 0) rfl
  have y1 := H.cell 1 rfl (o := 1) rfl
  have xr := H.range 0 rfl
  have csz := case_size
  have HB1 := H.allocAt 2 rfl w2.heap.size rfl #[.int .i64 0, .int .i64 0, .int .i64 0, .slice C p cC, .int .i64 N, .bool false] 30 |>.blk 0 rfl
  go_wp2_with (refine wpList_load_row rfl 24 (.tmp 2) rfl gc rfl _ _ _ _ HB1 Try.underlying24 rfl (by rw [csz]; rfl) ?_)
  refine absorb_calls (H.allocAt 2 rfl w2.heap.size rfl _ _ |>.push_mk rfl |>.allocAt 3 rfl (w2.heap.size + 1) (by simp) _ _ |>.push_mk rfl) ?_
  clear HB1 x0 x1 x2 y0 y1 xr
  intro w3 H3
  generalize w2.heap.size + 1 = g3 at H3 ⊢
  generalize w2.heap.size = g2 at H3 ⊢
  refine (kmSmall_s (some ⟨g2, 0, none⟩) (some ⟨g3, 0, none⟩) 1 1 1 1 [⟨0, 0, 0, C, p, cC, msg, N, false⟩] [⟨Z, A, n, cA, key, B, m, cB, cus⟩] w3 (H3.rdBlk 2 rfl 6 1 rfl) (H3.rdBlk 3 rfl 3 1 rfl) (by omega) (by omega) (by simp; omega) (by simp; omega)).mono ?_
  rintro e w4 ⟨bs, rfl, hsm, hb⟩
  replace H := (H3.call hb).front 2
  clear hb H3
  replace H : St w [] w4 (lay [.blk gc 24 [.int .i64 Z, .slice A n cA, .slice B m cB], .blk gw 26 [.slice C p cC, .int .i64 N, .bool xof]]) := H
  cases bs with
  | false =>
    go_wp2
    go_ret
    exact ⟨rfl, H.below⟩
  | true =>
  clear hsm
  have x0 := H.cell 0 rfl (o := 0) rfl
  have x1 := H.cell 0 rfl (o := 1) rfl
  have x2 := H.cell 0 rfl (o := 2) rfl
  have y0 := H.cell 1 rfl (o := 0) rfl
  go_wp2_with fail
  refine (lent_st A n cA key H (H.arg0 hA) (by omega)).mono ?_
  rintro e w5 ⟨fk, tk, htk, rfl, H1⟩
  replace H : St w [] w5 (lay [.blk gc 24 [.int .i64 Z, .slice A n cA, .slice B m cB], .blk gw 26 [.slice C p cC, .int .i64 N, .bool xof], .row 5 1 (.slice (some ⟨fk, 0, none⟩) (n + 6) tk) (n + 6) ((key ++ marksB 7 0 6).map vb)]) := H1
  clear H1 x0 x1 x2 y0
  have y0 := H.cell 1 rfl (o := 0) rfl
  go_wp2_with fail
  refine (lent_st C p cC msg H (H.arg0 hC) (by omega)).mono ?_
  rintro e w5 ⟨fp, tp, htp, rfl, H1⟩
  replace H : St w [] w5 (lay [.blk gc 24 [.int .i64 Z, .slice A n cA, .slice B m cB], .blk gw 26 [.slice C p cC, .int .i64 N, .bool xof], .row 5 1 (.slice (some ⟨fk, 0, none⟩) (n + 6) tk) (n + 6) ((key ++ marksB 7 0 6).map vb), .row 5 1 (.slice (some ⟨fp, 0, none⟩) (p + 6) tp) (p + 6) ((msg ++ marksB 7 0 6).map vb)]) := H1
  clear H1 y0
  have x2 := H.cell 0 rfl (o := 2) rfl
  go_wp2_with fail
  refine (lent_st B m cB cus H (H.arg0 hB) (by omega)).mono ?_
  rintro e w5 ⟨fq, tq, htq, rfl, H1⟩
  replace H : St w [] w5 (lay [.blk gc 24 [.int .i64 Z, .slice A n cA, .slice B m cB], .blk gw 26 [.slice C p cC, .int .i64 N, .bool xof], .row 5 1 (.slice (some ⟨fk, 0, none⟩) (n + 6) tk) (n + 6) ((key ++ marksB 7 0 6).map vb), .row 5 1 (.slice (some ⟨fp, 0, none⟩) (p + 6) tp) (p + 6) ((msg ++ marksB 7 0 6).map vb), .row 5 1 (.slice (some ⟨fq, 0, none⟩) (m + 6) tq) (m + 6) ((cus ++ marksB 7 0 6).map vb)]) := H1
  clear H1 x2
  go_wp2_with fail
  refine (ledger_new H 5 rfl).mono ?_
  rintro e w5 ⟨l, rfl, H1⟩
  replace H := H1.push_mk rfl
  clear H1
  go_wp2_with fail
  refine (refLedger_new H 6 rfl).mono ?_
  rintro e w5 ⟨lr, rfl, H1⟩
  replace H := H1.push_mk rfl
  clear H1
  replace H : St w [] w5 (lay [.blk gc 24 [.int .i64 Z, .slice A n cA, .slice B m cB], .blk gw 26 [.slice C p cC, .int .i64 N, .bool xof], .row 5 1 (.slice (some ⟨fk, 0, none⟩) (n + 6) tk) (n + 6) ((key ++ marksB 7 0 6).map vb), .row 5 1 (.slice (some ⟨fp, 0, none⟩) (p + 6) tp) (p + 6) ((msg ++ marksB 7 0 6).map vb), .row 5 1 (.slice (some ⟨fq, 0, none⟩) (m + 6) tq) (m + 6) ((cus ++ marksB 7 0 6).map vb), led l (some []), ledR lr (some [])]) := H
  have b1 : (n : Int) ≤ tk := by omega
  have b2 : (m : Int) ≤ tq := by omega
  have b3 : (p : Int) ≤ tp := by omega
  have b4 : n ≤ tk := by omega
  have b5 : m ≤ tq := by omega
  have b6 : p ≤ tp := by omega
  go_upto_region 11 with (fail)
  refine absorb_wp H ?_
  clear H
  intro w6 H
  obtain ⟨T1, HT1⟩ : ∃ T, Hid (kmTagT Z key cus msg N xof = T) := ⟨_, rfl⟩
  obtain ⟨N1, HN1⟩ : ∃ T, Hid (kmTagC Z key cus msg N xof = T) := ⟨_, rfl⟩
  obtain ⟨er, HEr⟩ : ∃ T, Hid (kmEr Z N = T) := ⟨_, rfl⟩
  have hN1 : N1 ≤ 1000000000 := by rw [← HN1.out]; exact kmTagC_le _ _ _ _ _ _ (by rw [HLK.out]; omega) (by rw [HLC.out]; omega) (by rw [HLM.out]; omega)
  have hT1 : T1.length ≤ 65536 := by rw [← HT1.out]; exact kmTagT_le _ _ _ _ _ _
  replace H := H.drew
  have HS := (((H.nothing 7 rfl).push_mk rfl).blur (A := fun X : Own => X) .emp 7 rfl).blur (A := fun r => led l r) (some []) 5 rfl
  refine wp_region_held_drew (S := fun w' : World => St w [] w' (lay [.blk gc 24 [.int .i64 Z, .slice A n cA, .slice B m cB], .blk gw 26 [.slice C p cC, .int .i64 N, .bool xof], .row 5 1 (.slice (some ⟨fk, 0, none⟩) (n + 6) tk) (n + 6) ((key ++ marksB 7 0 6).map vb), .row 5 1 (.slice (some ⟨fp, 0, none⟩) (p + 6) tp) (p + 6) ((msg ++ marksB 7 0 6).map vb), .row 5 1 (.slice (some ⟨fq, 0, none⟩) (m + 6) tq) (m + 6) ((cus ++ marksB 7 0 6).map vb), .ex (fun r => led l r), ledR lr (some []), .ex (fun X : Own => X)])) (by kernel_rfl) ?_ (fun hHeld => ?_)
  · exact HS
  refine takeV 0 rfl (by intro w h; clear h; go_simp; try with_reducible rfl) (by kernel_rfl) (by kernel_rfl) (by kernel_rfl) (by exact fun _ _ _ h => h) (by rfl) (by assumption) ?_
  try simp only [Act.put, List.setIfInBounds_toArray, List.set_cons_zero, List.set_cons_succ]
  refine takeV 1 rfl (by intro w h; clear h; go_simp; try with_reducible rfl) (by kernel_rfl) (by kernel_rfl) (by kernel_rfl) (by exact fun _ _ _ h => h) (by rfl) (by assumption) ?_
  try simp only [Act.put, List.setIfInBounds_toArray, List.set_cons_zero, List.set_cons_succ]
  refine takeV 2 rfl (by intro w h; have hc := h.cell 0 rfl (o := 0) rfl; clear h; go_simp; try with_reducible rfl) (by kernel_rfl) (by kernel_rfl) (by kernel_rfl) (by exact fun _ _ _ h => h) (by rfl) (by assumption) ?_
  try simp only [Act.put, List.setIfInBounds_toArray, List.set_cons_zero, List.set_cons_succ]
  refine takeV 3 rfl (by intro w h; clear h; go_simp; try with_reducible rfl) (by kernel_rfl) (by kernel_rfl) (by kernel_rfl) (by exact fun _ _ _ h => h) (by rfl) (by assumption) ?_
  try simp only [Act.put, List.setIfInBounds_toArray, List.set_cons_zero, List.set_cons_succ]
  refine takeV 4 rfl (by intro w h; clear h; go_simp; try with_reducible rfl) (by kernel_rfl) (by kernel_rfl) (by kernel_rfl) (by exact fun _ _ _ h => h) (by rfl) (by assumption) ?_
  try simp only [Act.put, List.setIfInBounds_toArray, List.set_cons_zero, List.set_cons_succ]
  refine takeV 5 rfl (by intro w h; have hc := h.cell 0 rfl (o := 1) rfl; clear h; go_simp; try with_reducible rfl) (by kernel_rfl) (by kernel_rfl) (by kernel_rfl) (by exact fun _ _ _ h => h) (by rfl) (by assumption) ?_
  try simp only [Act.put, List.setIfInBounds_toArray, List.set_cons_zero, List.set_cons_succ]
  refine takeV 6 rfl (by intro w h; clear h; go_simp; try with_reducible rfl) (by kernel_rfl) (by kernel_rfl) (by kernel_rfl) (by exact fun _ _ _ h => h) (by rfl) (by assumption) ?_
  try simp only [Act.put, List.setIfInBounds_toArray, List.set_cons_zero, List.set_cons_succ]
  refine takeV 7 rfl (by intro w h; clear h; go_simp; try with_reducible rfl) (by kernel_rfl) (by kernel_rfl) (by kernel_rfl) (by exact fun _ _ _ h => h) (by rfl) (by assumption) ?_
  try simp only [Act.put, List.setIfInBounds_toArray, List.set_cons_zero, List.set_cons_succ]
  refine takeV 8 rfl (by intro w h; clear h; go_simp; try with_reducible rfl) (by kernel_rfl) (by kernel_rfl) (by kernel_rfl) (by exact fun _ _ _ h => h) (by rfl) (by assumption) ?_
  try simp only [Act.put, List.setIfInBounds_toArray, List.set_cons_zero, List.set_cons_succ]
  refine takeV 9 rfl (by intro w h; clear h; go_simp; try with_reducible rfl) (by kernel_rfl) (by kernel_rfl) (by kernel_rfl) (by exact fun _ _ _ h => h) (by rfl) (by assumption) ?_
  try simp only [Act.put, List.setIfInBounds_toArray, List.set_cons_zero, List.set_cons_succ]
  refine takeV 10 rfl (by intro w h; have hc := h.cell 0 rfl (o := 2) rfl; clear h; go_simp; try with_reducible rfl) (by kernel_rfl) (by kernel_rfl) (by kernel_rfl) (by exact fun _ _ _ h => h) (by rfl) (by assumption) ?_
  try simp only [Act.put, List.setIfInBounds_toArray, List.set_cons_zero, List.set_cons_succ]
  refine takeV 11 rfl (by intro w h; clear h; go_simp; try with_reducible rfl) (by kernel_rfl) (by kernel_rfl) (by kernel_rfl) (by exact fun _ _ _ h => h) (by rfl) (by assumption) ?_
  try simp only [Act.put, List.setIfInBounds_toArray, List.set_cons_zero, List.set_cons_succ]
  refine takeV 12 rfl (by intro w h; clear h; go_simp; try with_reducible rfl) (by kernel_rfl) (by kernel_rfl) (by kernel_rfl) (by exact fun _ _ _ h => h) (by rfl) (by assumption) ?_
  try simp only [Act.put, List.setIfInBounds_toArray, List.set_cons_zero, List.set_cons_succ]
  refine takeV 13 rfl (by intro w h; clear h; go_simp; try with_reducible rfl) (by kernel_rfl) (by kernel_rfl) (by kernel_rfl) (by exact fun _ _ _ h => h) (by rfl) (by assumption) ?_
  try simp only [Act.put, List.setIfInBounds_toArray, List.set_cons_zero, List.set_cons_succ]
  refine takeV 14 rfl (by intro w h; clear h; go_simp; try with_reducible rfl) (by kernel_rfl) (by kernel_rfl) (by kernel_rfl) (by exact fun _ _ _ h => h) (by rfl) (by assumption) ?_
  try simp only [Act.put, List.setIfInBounds_toArray, List.set_cons_zero, List.set_cons_succ]
  refine takeV 15 rfl (by intro w h; have hc := h.cell 1 rfl (o := 0) rfl; clear h; go_simp; try with_reducible rfl) (by kernel_rfl) (by kernel_rfl) (by kernel_rfl) (by exact fun _ _ _ h => h) (by rfl) (by assumption) ?_
  try simp only [Act.put, List.setIfInBounds_toArray, List.set_cons_zero, List.set_cons_succ]
  refine takeV 16 rfl (by intro w h; clear h; go_simp; try with_reducible rfl) (by kernel_rfl) (by kernel_rfl) (by kernel_rfl) (by exact fun _ _ _ h => h) (by rfl) (by assumption) ?_
  try simp only [Act.put, List.setIfInBounds_toArray, List.set_cons_zero, List.set_cons_succ]
  refine takeV 17 rfl (by intro w h; clear h; go_simp; try with_reducible rfl) (by kernel_rfl) (by kernel_rfl) (by kernel_rfl) (by exact fun _ _ _ h => h) (by rfl) (by assumption) ?_
  try simp only [Act.put, List.setIfInBounds_toArray, List.set_cons_zero, List.set_cons_succ]
  refine takeV 18 rfl (by intro w h; clear h; go_simp; try with_reducible rfl) (by kernel_rfl) (by kernel_rfl) (by kernel_rfl) (by exact fun _ _ _ h => h) (by rfl) (by assumption) ?_
  try simp only [Act.put, List.setIfInBounds_toArray, List.set_cons_zero, List.set_cons_succ]
  refine takeV 19 rfl (by intro w h; have hc := h.cell 1 rfl (o := 1) rfl; clear h; go_simp; try with_reducible rfl) (by kernel_rfl) (by kernel_rfl) (by kernel_rfl) (by exact fun _ _ _ h => h) (by rfl) (by assumption) ?_
  try simp only [Act.put, List.setIfInBounds_toArray, List.set_cons_zero, List.set_cons_succ]
  refine takeV 20 rfl (by intro w h; clear h; go_simp; try with_reducible rfl) (by kernel_rfl) (by kernel_rfl) (by kernel_rfl) (by exact fun _ _ _ h => h) (by rfl) (by assumption) ?_
  try simp only [Act.put, List.setIfInBounds_toArray, List.set_cons_zero, List.set_cons_succ]
  refine takeV 21 rfl (by intro w h; have hc := h.cell 1 rfl (o := 2) rfl; clear h; go_simp; try with_reducible rfl) (by kernel_rfl) (by kernel_rfl) (by kernel_rfl) (by exact fun _ _ _ h => h) (by rfl) (by assumption) ?_
  try simp only [Act.put, List.setIfInBounds_toArray, List.set_cons_zero, List.set_cons_succ]
  refine take_call 22 rfl (by kernel_rfl) (fun K hK => ?_)
  try go_simp
  clear HS hHeld
  refine (kmTag_any l (some []) 0 0 Z N (some ⟨fk, 0, none⟩) (some ⟨fq, 0, none⟩) (some ⟨fp, 0, none⟩) n m p tk tq tp key cus msg xof H 5 7 rfl rfl LW.nil (by omega) (by omega) (fun w' X h => Rd.frontB (h.rd 2 rfl) HLK.out (by omega)) (fun w' X h => Rd.frontB (h.rd 4 rfl) HLC.out (by omega)) (fun w' X h => Rd.frontB (h.rd 3 rfl) HLM.out (by omega)) (by omega) (by omega) (by omega)).mono ?_
  rintro e wx ⟨va, rfl, H1⟩
  rw [HT1.out, HN1.out, upd_laid (by simp)] at H1
  rw [HEr.out]
  clear H
  have H := H1.push_mk rfl
  clear H1
  obtain ⟨Aa, ca, rfl, -, -⟩ := row_form (H.row 7 rfl)
  replace H : St w [] wx (lay [.blk gc 24 [.int .i64 Z, .slice A n cA, .slice B m cB], .blk gw 26 [.slice C p cC, .int .i64 N, .bool xof], .row 5 1 (.slice (some ⟨fk, 0, none⟩) (n + 6) tk) (n + 6) ((key ++ marksB 7 0 6).map vb), .row 5 1 (.slice (some ⟨fp, 0, none⟩) (p + 6) tp) (p + 6) ((msg ++ marksB 7 0 6).map vb), .row 5 1 (.slice (some ⟨fq, 0, none⟩) (m + 6) tq) (m + 6) ((cus ++ marksB 7 0 6).map vb), led l (noteN (some []) 3 200 N1), ledR lr (some []), .row 5 1 (.slice Aa T1.length ca) T1.length (T1.map vb)]) := H
  have HS := (H.blur (A := fun X : Own => X) _ 7 rfl).blur (A := fun r => led l r) _ 5 rfl
  refine hK.out _ _ ?_ (fun hHeld => ?_)
  · exact HS
  clear hK K
  try simp only [Act.put, List.setIfInBounds_toArray, List.set_cons_zero, List.set_cons_succ]
  refine takeV 23 rfl (by intro w h; clear h; go_simp; try with_reducible rfl) (by kernel_rfl) (by kernel_rfl) (by kernel_rfl) (by exact fun _ _ _ h => h) (by rfl) (by assumption) ?_
  try simp only [Act.put, List.setIfInBounds_toArray, List.set_cons_zero, List.set_cons_succ]
  refine takeV 24 rfl (by intro w h; clear h; go_simp; try with_reducible rfl) (by kernel_rfl) (by kernel_rfl) (by kernel_rfl) (by exact fun _ _ _ h => h) (by rfl) (by assumption) ?_
  try simp only [Act.put, List.setIfInBounds_toArray, List.set_cons_zero, List.set_cons_succ]
  refine takeV 25 rfl (by intro w h; clear h; go_simp; try with_reducible rfl) (by kernel_rfl) (by kernel_rfl) (by kernel_rfl) (by exact fun _ _ _ h => h) (by rfl) (by assumption) ?_
  try simp only [Act.put, List.setIfInBounds_toArray, List.set_cons_zero, List.set_cons_succ]
  refine takeV 26 rfl (by intro w h; clear h; go_simp; try with_reducible rfl) (by kernel_rfl) (by kernel_rfl) (by kernel_rfl) (by exact fun _ _ _ h => h) (by rfl) (by assumption) ?_
  try simp only [Act.put, List.setIfInBounds_toArray, List.set_cons_zero, List.set_cons_succ]
  refine takeV 27 rfl (by intro w h; clear h; go_simp; try with_reducible rfl) (by kernel_rfl) (by kernel_rfl) (by kernel_rfl) (by exact fun _ _ _ h => h) (by rfl) (by assumption) ?_
  try simp only [Act.put, List.setIfInBounds_toArray, List.set_cons_zero, List.set_cons_succ]
  refine wpAnyH_done (by kernel_rfl) ?_ _
  clear HS
  have x0 := H.cell 0 rfl (o := 0) rfl
  have x1 := H.cell 0 rfl (o := 1) rfl
  have x2 := H.cell 0 rfl (o := 2) rfl
  have y0 := H.cell 1 rfl (o := 0) rfl
  have y1 := H.cell 1 rfl (o := 1) rfl
  have y2 := H.cell 1 rfl (o := 2) rfl
  go_wp2_with fail
  refine (rkTag_any lr (some []) 0 0 Z N A B C n m p cA cB cC key cus msg xof H 6 8 rfl rfl LW.nil (by omega) (by omega) (fun w' X h => h.arg0 hA) (fun w' X h => h.arg0 hB) (fun w' X h => h.arg0 hC) (by omega) (by omega) (by omega)).mono ?_
  rintro e wx ⟨vd, rfl, H1⟩
  rw [HT1.out, HN1.out, upd_laid (by simp)] at H1
  rw [HEr.out]
  clear x0 x1 x2 y0 y1 y2
  replace H := H1.push_mk rfl
  clear H1
  obtain ⟨Ab, cb, rfl, -, -⟩ := row_form (H.row 8 rfl)
  replace H : St w [] wx (lay [.blk gc 24 [.int .i64 Z, .slice A n cA, .slice B m cB], .blk gw 26 [.slice C p cC, .int .i64 N, .bool xof], .row 5 1 (.slice (some ⟨fk, 0, none⟩) (n + 6) tk) (n + 6) ((key ++ marksB 7 0 6).map vb), .row 5 1 (.slice (some ⟨fp, 0, none⟩) (p + 6) tp) (p + 6) ((msg ++ marksB 7 0 6).map vb), .row 5 1 (.slice (some ⟨fq, 0, none⟩) (m + 6) tq) (m + 6) ((cus ++ marksB 7 0 6).map vb), led l (noteN (some []) 3 200 N1), ledR lr (noteN (some []) 3 200 N1), .row 5 1 (.slice Aa T1.length ca) T1.length (T1.map vb), .row 5 1 (.slice Ab T1.length cb) T1.length (T1.map vb)]) := H
  have x1 := H.cell 0 rfl (o := 1) rfl
  go_wp2_with fail
  refine (keptBytes_yes (some ⟨fk, 0, none⟩) A (n + 6) n tk cA (key ++ marksB 7 0 6) key _ (H.rd 2 rfl) (H.arg0 hA) (by omega) (by omega) rfl).mono ?_
  rintro e wc ⟨rfl, hb⟩
  replace H := H.call hb
  clear hb x1
  have y0 := H.cell 1 rfl (o := 0) rfl
  go_wp2_with fail
  refine (keptBytes_yes (some ⟨fp, 0, none⟩) C (p + 6) p tp cC (msg ++ marksB 7 0 6) msg _ (H.rd 3 rfl) (H.arg0 hC) (by omega) (by omega) rfl).mono ?_
  rintro e wc ⟨rfl, hb⟩
  replace H := H.call hb
  clear hb y0
  have x2 := H.cell 0 rfl (o := 2) rfl
  go_wp2_with fail
  refine (keptBytes_yes (some ⟨fq, 0, none⟩) B (m + 6) m tq cB (cus ++ marksB 7 0 6) cus _ (H.rd 4 rfl) (H.arg0 hB) (by omega) (by omega) rfl).mono ?_
  rintro e wc ⟨rfl, hb⟩
  replace H := H.call hb
  clear hb x2
  have heq : (er == er) = true := by simp
  go_wp2_with fail
  refine (sameBytes_yes Aa Ab T1.length T1.length ca cb T1 T1 _ (H.rd 7 rfl) (H.rd 8 rfl) (by omega) (by omega) rfl).mono ?_
  rintro e we ⟨rfl, hb⟩
  replace H := H.call hb
  clear hb
  have hrl : Hid (∃ rs, noteN (some []) 3 200 N1 = some rs ∧ rs.length ≤ 1) := by
    unfold Hid noteN
    split
    · exact ⟨[], rfl, by simp⟩
    · exact ⟨_, rfl, by simp [noted]⟩
  obtain ⟨rs, hrs, hrl1⟩ := hrl.out
  have hlw : LW (some rs) 1 ((N1 : Nat) : Int) := by rw [← hrs]; exact (LW.nil.noteN 3 200 N1).more (by omega) (by omega)
  rw [hrs] at H
  have HLW := Lib.hid hlw
  clear hrs hrl hlw
  replace H : St w [] we (lay [.blk gc 24 [.int .i64 Z, .slice A n cA, .slice B m cB], .blk gw 26 [.slice C p cC, .int .i64 N, .bool xof], .row 5 1 (.slice (some ⟨fk, 0, none⟩) (n + 6) tk) (n + 6) ((key ++ marksB 7 0 6).map vb), .row 5 1 (.slice (some ⟨fp, 0, none⟩) (p + 6) tp) (p + 6) ((msg ++ marksB 7 0 6).map vb), .row 5 1 (.slice (some ⟨fq, 0, none⟩) (m + 6) tq) (m + 6) ((cus ++ marksB 7 0 6).map vb), led l (some rs), ledR lr (some rs), .row 5 1 (.slice Aa T1.length ca) T1.length (T1.map vb), .row 5 1 (.slice Ab T1.length cb) T1.length (T1.map vb)]) := H
  go_wp2_with fail
  refine (ledger_runs_w 1 _ H 5 rfl HLW.out (by omega) 9 rfl).mono ?_
  rintro e wf ⟨vr, rfl, H1⟩
  replace H := H1.push_mk rfl
  clear H1
  obtain ⟨Ar, cr, rfl, -, -⟩ := row_shape (H.row 9 rfl)
  go_wp2_with fail
  refine (refRuns_w 1 _ H 6 rfl HLW.out (by omega) 10 rfl).mono ?_
  rintro e wg ⟨vs, rfl, H1⟩
  replace H := H1.push_mk rfl
  clear H1
  obtain ⟨As, cs, rfl, -, -⟩ := row_shape (H.row 10 rfl)
  go_wp2_with fail
  refine (sameRuns_any Ar As cr cs rs rs (H.rd 9 rfl) (H.rd 10 rfl) (by omega) (by omega)).mono ?_
  rintro e wh ⟨rfl, kd, rfl⟩
  replace H := (H.drewN kd).front 9
  rw [decide_eq_true rfl]
  generalize wg.drewN kd = wh at H ⊢
  replace H : St w [] wh (lay [.blk gc 24 [.int .i64 Z, .slice A n cA, .slice B m cB], .blk gw 26 [.slice C p cC, .int .i64 N, .bool xof], .row 5 1 (.slice (some ⟨fk, 0, none⟩) (n + 6) tk) (n + 6) ((key ++ marksB 7 0 6).map vb), .row 5 1 (.slice (some ⟨fp, 0, none⟩) (p + 6) tp) (p + 6) ((msg ++ marksB 7 0 6).map vb), .row 5 1 (.slice (some ⟨fq, 0, none⟩) (m + 6) tq) (m + 6) ((cus ++ marksB 7 0 6).map vb), led l (some rs), ledR lr (some rs), .row 5 1 (.slice Aa T1.length ca) T1.length (T1.map vb), .row 5 1 (.slice Ab T1.length cb) T1.length (T1.map vb)]) := H
  have HMK : Hid ((key ++ marksB 7 0 6).length = n + 6) := by unfold Hid; rw [List.length_append, marksB_length, HLK.out]
  have HMP : Hid ((msg ++ marksB 7 0 6).length = p + 6) := by unfold Hid; rw [List.length_append, marksB_length, HLM.out]
  have HMQ : Hid ((cus ++ marksB 7 0 6).length = m + 6) := by unfold Hid; rw [List.length_append, marksB_length, HLC.out]
  generalize key ++ marksB 7 0 6 = Mk at H HMK
  generalize msg ++ marksB 7 0 6 = Mp at H HMP
  generalize cus ++ marksB 7 0 6 = Mq at H HMQ
  replace H := H.shape_row 2 rfl HMK.out.symm rfl
  replace H := H.shape_row 3 rfl HMP.out.symm rfl
  replace H := H.shape_row 4 rfl HMQ.out.symm rfl
  go_wp2_with fail
  refine (apart_st H [(.slice Aa T1.length ca, T1), (.slice (some ⟨fk, 0, none⟩) (n + 6) tk, Mk), (.slice (some ⟨fp, 0, none⟩) (p + 6) tp, Mp), (.slice (some ⟨fq, 0, none⟩) (m + 6) tq, Mq)] (fun i => [7, 2, 3, 4].getD i 99) (fun i j hi hj => (by decide : ∀ i < 4, ∀ j < 4, [7, 2, 3, 4].getD i 99 = [7, 2, 3, 4].getD j 99 → i = j) i hi j hj) ?_ 4 rfl (by omega) ?_ _ rfl).mono ?_
  · intro i p hp
    match i, hp with
    | 0, hp => cases hp; rfl
    | 1, hp => cases hp; rfl
    | 2, hp => cases hp; rfl
    | 3, hp => cases hp; rfl
    | i + 4, hp => simp at hp
  · intro p hp
    have h1 := HMK.out
    have h2 := HMP.out
    have h3 := HMQ.out
    simp only [List.mem_cons, List.not_mem_nil, or_false] at hp
    rcases hp with rfl | rfl | rfl | rfl <;> simp only <;> omega
  rintro e wz ⟨rfl, hbz⟩
  go_wp2_with fail
  go_ret
  exact ⟨rfl, hbz⟩

theorem kmacTags_walk (s : CaseR) (x : WholeR) (w : World) (hs : s.Ok w) (hx : x.Ok w) :
    Calls Try.prog 3 #[.agg s.cs.toArray, .agg x.cs.toArray] w fun e w' => e = .returned (.bool true) ∧ Below w.heap.size w w' :=
  kmacTags_w s.z0 s.A1 s.n1 s.c1 s.l1 s.A2 s.n2 s.c2 s.l2 x.A0 x.n0 x.c0 x.l0 x.z1 x.b2 w hs.r1 hs.m1 hs.r2 hs.m2 hx.r0 hx.m0 hx.i1.1 hx.i1.2

end Go.Proofs.Ythoopaknldkclaa

namespace Go.Proofs.Ythoopaknldkclaa
open Go.RowKit
set_option linter.unusedVariables false
set_option maxRecDepth 100000

attribute [local irreducible] permB kBytes kPerm kFrom

theorem count_add (a n r : Nat) (hr : 0 < r) : a / r + (a % r + n) / r = (a + n) / r := by
  have h := Nat.div_add_mod a r
  have e : a + n = (a % r + n) + r * (a / r) := by omega
  rw [e, Nat.add_mul_div_left _ _ hr, Nat.add_comm]

theorem Sp.after_add (x : Sp) (m n : Nat) : x.after (m + n) = (x.after m).after n := by
  induction n with
  | zero => rfl
  | succ n ih => rw [← Nat.add_assoc, Sp.after_succ, ih]; rfl

theorem Sp.read_add (x : Sp) (m n : Nat) : x.read (m + n) = x.read m ++ (x.after m).read n := by
  unfold Sp.read
  rw [List.range_add, List.map_append, List.map_map]
  congr 1
  apply List.map_congr_left
  intro i _
  show (x.after (m + i)).get = _
  rw [Sp.after_add]

/-- where a sponge that is shut stands behind some bytes, and how often it was permuted -/
theorem Sp.after_count {x : Sp} (h : x.Ok) (hs : x.s = true) : ∀ m, ((x.p + m - 1) / x.r) * x.r + (x.after m).p = x.p + m ∧ (0 < m → 1 ≤ (x.after m).p) := by
  have h8 := h.r8
  have hpr := h.pr
  have key : ∀ m, ∃ c, c * x.r + (x.after m).p = x.p + m ∧ (m = 0 → c = 0) ∧ (0 < m → 1 ≤ (x.after m).p) := by
    intro m
    induction m with
    | zero => exact ⟨0, by rw [Sp.after_zero]; omega, fun _ => rfl, fun h => absurd h (by omega)⟩
    | succ m ih =>
      obtain ⟨c, h1, h2, h3⟩ := ih
      obtain ⟨ok, hr, hs', hf⟩ := Sp.after_ok h hs m
      by_cases he : (x.after m).p = (x.after m).r
      · refine ⟨c + 1, ?_, fun e => absurd e (by omega), fun _ => ?_⟩
        · rw [Sp.after_succ, Sp.turn_yes he]
          show (c + 1) * x.r + (0 + 1) = x.p + (m + 1)
          rw [Nat.add_mul, Nat.one_mul]
          rw [he, hr] at h1
          omega
        · rw [Sp.after_succ, Sp.turn_yes he]
          show 1 ≤ 0 + 1
          omega
      · refine ⟨c, ?_, fun e => absurd e (by omega), fun _ => ?_⟩
        · rw [Sp.after_succ, Sp.turn_no he]
          show c * x.r + ((x.after m).p + 1) = x.p + (m + 1)
          omega
        · rw [Sp.after_succ, Sp.turn_no he]
          show 1 ≤ (x.after m).p + 1
          omega
  intro m
  obtain ⟨c, h1, h2, h3⟩ := key m
  obtain ⟨ok, hr, -, -⟩ := Sp.after_ok h hs m
  have hc : c = (x.p + m - 1) / x.r := count_end h1 (by rw [← hr]; exact ok.pr) h2 h3 (by omega) hpr
  rw [← hc]
  exact ⟨h1, h3⟩

/-- counted piece by piece -/
theorem Sp.count_more {x : Sp} (h : x.Ok) (hs : x.s = true) (m n : Nat) : (x.p + m - 1) / x.r + ((x.after m).p + n - 1) / x.r = (x.p + (m + n) - 1) / x.r := by
  obtain ⟨h1, h2⟩ := Sp.after_count h hs m
  have h8 := h.r8
  have hpr := h.pr
  obtain ⟨ok, hr, -, -⟩ := Sp.after_ok h hs m
  have hp := ok.pr
  rw [hr] at hp
  generalize (x.p + m - 1) / x.r = c at h1
  rcases Nat.eq_zero_or_pos n with rfl | hn
  · have e1 : ((x.after m).p + 0 - 1) / x.r = 0 := Nat.div_eq_of_lt (by omega)
    rw [e1, Nat.add_zero, Nat.add_zero]
    rcases Nat.eq_zero_or_pos m with rfl | hm
    · rw [Sp.after_zero] at h1
      have hc0 : c = 0 := by
        rcases Nat.eq_zero_or_pos c with h | h
        · exact h
        · have : 1 * x.r ≤ c * x.r := Nat.mul_le_mul_right _ h
          omega
      rw [hc0, Nat.div_eq_of_lt (by omega)]
    · have := h2 hm
      have e : x.p + m - 1 = ((x.after m).p - 1) + x.r * c := by rw [Nat.mul_comm]; omega
      rw [e, Nat.add_mul_div_left _ _ (by omega), Nat.div_eq_of_lt (by omega), Nat.zero_add]
  · have e : x.p + (m + n) - 1 = ((x.after m).p + n - 1) + x.r * c := by rw [Nat.mul_comm]; omega
    rw [e, Nat.add_mul_div_left _ _ (by omega), Nat.add_comm]

end Go.Proofs.Ythoopaknldkclaa

namespace Go.Proofs.Ythoopaknldkclaa
open Go.RowKit
set_option linter.unusedVariables false

theorem pick_any (x : Int) (N : Nat) (w : World) (h1 : -9223372036854775808 ≤ x) (h2 : x ≤ 9223372036854775807) (hN1 : 1 ≤ N) (hN : N ≤ 1099511627776) {b : Int} (hb : b = (N : Int)) :
    Calls Try.prog 33 #[.int .i64 x, .int .i64 b] w fun e w' => (∃ n : Nat, n < N ∧ (n : Int) = x % (N : Int) ∧ e = .returned (.int .i64 (n : Int))) ∧ w = w' := by
  subst hb
  have h4 := Int.emod_nonneg x (show (N : Int) ≠ 0 by omega)
  have h5 := Int.emod_lt_of_pos x (show (0 : Int) < N by omega)
  have hr : x.tmod N = x % N ∨ x.tmod N = x % N - N := by
    rw [Int.tmod_eq_emod (a := x) (b := (N : Int))]
    split
    · left; simp
    · right; simp
  generalize x % (N : Int) = y at *
  obtain ⟨r, hr'⟩ : ∃ r, x.tmod N = r := ⟨_, rfl⟩
  rw [hr'] at hr
  have HM : Hid (y = if r < 0 then r + N else r) := by unfold Hid; split <;> omega
  have hlt : r < N := by omega
  have hgt : -(N : Int) ≤ r := by omega
  clear hr h4 h5
  by_cases hneg : r < 0
  · have HY : Hid (y = r + N) := by have h := HM.out; rw [if_pos hneg] at h; exact h
    clear HM
    go_enter Try.func33, Try.ntmps33
    go_wp2
    go_ret
    exact ⟨⟨(r + N).toNat, by omega, by rw [HY.out]; omega, by go_num⟩, rfl⟩
  · have HY : Hid (y = r) := by have h := HM.out; rw [if_neg hneg] at h; exact h
    clear HM
    go_enter Try.func33, Try.ntmps33
    go_wp2
    go_ret
    exact ⟨⟨r.toNat, by omega, by rw [HY.out]; omega, by go_num⟩, rfl⟩
end Go.Proofs.Ythoopaknldkclaa

namespace Go.Proofs.Ythoopaknldkclaa
open Go.RowKit
set_option linter.unusedVariables false
set_option maxRecDepth 100000

def flatTo (L : List (List UInt8)) (i : Nat) : List UInt8 := (L.take i).flatten

theorem flatTo_succ {L : List (List UInt8)} {i : Nat} {x : List UInt8} (h : L[i]? = some x) : flatTo L (i + 1) = flatTo L i ++ x := by
  unfold flatTo; rw [List.take_add_one, h]; simp

theorem flatTo_all (L : List (List UInt8)) : flatTo L L.length = L.flatten := by unfold flatTo; rw [List.take_length]

theorem flatTo_le (L : List (List UInt8)) (i : Nat) : (flatTo L i).length ≤ L.flatten.length := by
  have h : L.flatten = flatTo L i ++ (L.drop i).flatten := by unfold flatTo; rw [← List.flatten_append, List.take_append_drop]
  rw [h, List.length_append]; omega

theorem kmTag_take (x : Sp) (n k : Nat) : (kmTag x (n + k) 0).take n = kmTag x n 0 := by
  show ((kmEnd x 0).shut.read (n + k)).take n = (kmEnd x 0).shut.read n
  rw [Sp.read_add, List.take_left' (Sp.read_length _ _)]

attribute [local irreducible] permB kBytes kPerm kFrom kmTagB kmTagN kmTag kmSumN

set_option maxHeartbeats 16000000 in
theorem kmacPieces_w (Z : Int) (A : Option Addr) (n cA : Nat) (key : List UInt8) (B : Option Addr) (m cB : Nat) (cus : List UInt8) (C : Option Addr) (p cC : Nat) (msg : List UInt8) (N : Int) (xof : Bool) (D : Option Addr) (nd cD : Nat) (cs : List UInt8) (w : World) (hA : Rd w 1 A n (key.map vb)) (hn : n ≤ 1048576) (hB : Rd w 1 B m (cus.map vb)) (hm : m ≤ 1048576) (hC : Rd w 1 C p (msg.map vb)) (hp : p ≤ 1048576) (hcC : p ≤ cC) (hN1 : -9223372036854775808 ≤ N) (hN2 : N ≤ 9223372036854775807) (hD : Rd w 1 D nd (cs.map vb)) (hnd : nd ≤ 1048576)
    (hZ1 : -9223372036854775808 ≤ Z) (hZ2 : Z ≤ 9223372036854775807) :
    Calls Try.prog 5 #[.agg #[.int .i64 Z, .slice A n cA, .slice B m cB], .agg #[.slice C p cC, .int .i64 N, .bool xof], .slice D nd cD] w fun e w' => e = .returned (.bool true) ∧ Below w.heap.size w w' := by
  have hlk : key.length = n := by simpa using hA.1
  have hlc : cus.length = m := by simpa using hB.1
  have hlm : msg.length = p := by simpa using hC.1
  have HLK := Lib.hid hlk
  have HLC := Lib.hid hlc
  have HLM := Lib.hid hlm
  clear hlk hlc hlm
  have H0 := St.start_lay w []
  go_enter Try.func5, Try.ntmps5
  go_wp2_with fail
  refine absorb_calls (H0.allocAt 0 rfl w.heap.size rfl _ _ |>.push_mk rfl |>.allocAt 1 rfl (w.heap.size + 1) (by simp) _ _ |>.push_mk rfl) ?_
  intro w1 H
  clear H0
  generalize w.heap.size + 1 = gw at H ⊢
  generalize w.heap.size = gc at H ⊢
  refine (kmLives_s w1).mono ?_
  rintro e w2 ⟨rfl, hb2⟩
  replace H := H.call hb2
  clear hb2
  replace H : St w [] w2 (lay [.blk gc 24 [.int .i64 Z, .slice A n cA, .slice B m cB], .blk gw 26 [.slice C p cC, .int .i64 N, .bool xof]]) := H
  have x0 := H.cell 0 rfl (o := 0) rfl
  have y0 := H.cell 1 rfl (o := 0) rfl
  have csz := case_size
  have HB1 := H.allocAt 2 rfl w2.heap.size rfl #[.int .i64 0, .int .i64 0, .int .i64 0, .slice C p cC, .int .i64 0, .bool false] 30 |>.blk 0 rfl
  go_wp2_with (refine wpList_load_row rfl 24 (.tmp 3) rfl gc rfl _ _ _ _ HB1 Try.underlying24 rfl (by rw [csz]; rfl) ?_)
  refine absorb_calls (H.allocAt 2 rfl w2.heap.size rfl _ _ |>.push_mk rfl |>.allocAt 3 rfl (w2.heap.size + 1) (by simp) _ _ |>.push_mk rfl) ?_
  clear HB1 x0 y0 csz
  intro w3 H3
  generalize w2.heap.size + 1 = g3 at H3 ⊢
  generalize w2.heap.size = g2 at H3 ⊢
  refine (kmSmall_s (some ⟨g2, 0, none⟩) (some ⟨g3, 0, none⟩) 1 1 1 1 [⟨0, 0, 0, C, p, cC, msg, 0, false⟩] [⟨Z, A, n, cA, key, B, m, cB, cus⟩] w3 (H3.rdBlk 2 rfl 6 1 rfl) (H3.rdBlk 3 rfl 3 1 rfl) (by omega) (by omega) (by simp; omega) (by simp; omega)).mono ?_
  rintro e w4 ⟨bs, rfl, hsm, hb⟩
  replace H := (H3.call hb).front 2
  clear hb H3
  replace H : St w [] w4 (lay [.blk gc 24 [.int .i64 Z, .slice A n cA, .slice B m cB], .blk gw 26 [.slice C p cC, .int .i64 N, .bool xof]]) := H
  cases bs with
  | false =>
    go_wp2
    go_ret
    exact ⟨rfl, H.below⟩
  | true =>
  have hp4 : p ≤ 4000 := by
    have h := (hsm rfl).2
    have e : sumTo kactN [⟨0, 0, 0, C, p, cC, msg, 0, false⟩] 1 = p := by
      show p + costZ 0 + 0 = p
      rfl
    omega
  clear hsm hp
  have x0 := H.cell 0 rfl (o := 0) rfl
  obtain ⟨S, R, hSR, hS0, hS1⟩ : ∃ (S : Int) (R : Nat), Hid ((S = 128 ∧ R = 168) ∨ (S = 256 ∧ R = 136)) ∧ Hid (Z.tmod 2 = 0 → S = 128) ∧ Hid (Z.tmod 2 ≠ 0 → S = 256) := by
    by_cases h : Z.tmod 2 = 0
    · exact ⟨128, 168, .inl ⟨rfl, rfl⟩, fun _ => rfl, fun k => absurd h k⟩
    · exact ⟨256, 136, .inr ⟨rfl, rfl⟩, fun k => absurd k h, fun _ => rfl⟩
  go_upto_if 41 with fail
  go_cut [8, 41] from 42 (fun v za wr => v = .int .i64 S ∧ St w [] wr (lay [.blk gc 24 [.int .i64 Z, .slice A n cA, .slice B m cB], .blk gw 26 [.slice C p cC, .int .i64 N, .bool xof]]))
  case first =>
    by_cases hz : Z.tmod 2 = 0
    · have h1 : (Z.tmod 2 != 0) = false := by simpa using hz
      have h2 := hS0.out hz
      clear hz
      go_wp2_with fail
      go_meet
      case rel => exact ⟨by rw [h2], H⟩
    · have h1 : (Z.tmod 2 != 0) = true := by simpa using hz
      have h2 := hS1.out hz
      clear hz
      go_wp2_with fail
      go_meet
      case rel => exact ⟨by rw [h2], H⟩
  case rest =>
  clear H x0 hS0 hS1
  obtain ⟨rfl, H⟩ := hcut
  have hR8 : 8 ≤ R := by have := hSR.out; omega
  have hR9 : R ≤ 192 := by have := hSR.out; omega
  have hSn : (S == 0) = false := by have := hSR.out; simp; omega
  have HX := Lib.hid (kmSp_ok (R := R) key cus hR8 hR9)
  have hN0 : kmN R key cus ≤ 40000000 := kmN_le key cus hR8 hR9 (by rw [HLK.out]; omega) (by rw [HLC.out]; omega)
  obtain ⟨x, hx⟩ : ∃ x, Hid (kmSp R key cus = x) := ⟨_, rfl⟩
  obtain ⟨N0, hN0e⟩ : ∃ x, Hid (kmN R key cus = x) := ⟨_, rfl⟩
  rw [hx.out] at HX
  rw [hN0e.out] at hN0
  replace H := (H.ledNil 2 rfl).push_mk rfl
  go_wp2_with fail
  refine (ledger_new H 3 rfl).mono ?_
  rintro e w5 ⟨l, rfl, H1⟩
  replace H := H1.push_mk rfl
  clear H1
  go_wp2_with fail
  refine (ledger_new H 4 rfl).mono ?_
  rintro e w5 ⟨k, rfl, H1⟩
  replace H := H1.push_mk rfl
  clear H1
  replace H : St w [] w5 (lay [.blk gc 24 [.int .i64 Z, .slice A n cA, .slice B m cB], .blk gw 26 [.slice C p cC, .int .i64 N, .bool xof], led (.pointer none) none, led l (some []), led k (some [])]) := H
  have x1 := H.cell 0 rfl (o := 1) rfl
  have x2 := H.cell 0 rfl (o := 2) rfl
  go_wp2_with fail
  refine (kmNew_s l (some []) 0 0 S R hSR.out A B n m cA cB key cus H 3 6 5 rfl rfl rfl (by omega) LW.nil (by omega) (by omega) (fun w' X h => h.arg0 hA) (fun w' X h => h.arg0 hB) (by omega) (by omega)).mono ?_
  rintro e w6 ⟨ma, sa, rfl, H1⟩
  rw [hx.out, hN0e.out, upd_laid (by simp), upd_push (by simp), upd_push (by simp)] at H1
  replace H : St w [] w6 (lay [.blk gc 24 [.int .i64 Z, .slice A n cA, .slice B m cB], .blk gw 26 [.slice C p cC, .int .i64 N, .bool xof], led (.pointer none) none, led l (noteN (some []) 3 200 (N0)), led k (some []), .blk sa 111 (x).vs, .blk ma 79 (macV sa S)]) := H1
  clear H1 x1 x2
  unfold lptr
  have x1 := H.cell 0 rfl (o := 1) rfl
  have x2 := H.cell 0 rfl (o := 2) rfl
  go_wp2_with fail
  refine (kmNew_s k (some []) 0 0 S R hSR.out A B n m cA cB key cus H 4 8 7 rfl rfl rfl (by omega) LW.nil (by omega) (by omega) (fun w' X h => h.arg0 hA) (fun w' X h => h.arg0 hB) (by omega) (by omega)).mono ?_
  rintro e w6 ⟨mb, sb, rfl, H1⟩
  rw [hx.out, hN0e.out, upd_laid (by simp), upd_push (by simp), upd_push (by simp)] at H1
  replace H : St w [] w6 (lay [.blk gc 24 [.int .i64 Z, .slice A n cA, .slice B m cB], .blk gw 26 [.slice C p cC, .int .i64 N, .bool xof], led (.pointer none) none, led l (noteN (some []) 3 200 (N0)), led k (noteN (some []) 3 200 (N0)), .blk sa 111 (x).vs, .blk ma 79 (macV sa S), .blk sb 111 (x).vs, .blk mb 79 (macV sb S)]) := H1
  clear H1 x1 x2
  unfold lptr
  have y0 := H.cell 1 rfl (o := 0) rfl
  have hpp : (x.p + p) / R ≤ 5000 := by have h1 := Nat.div_le_self (x.p + p) R; have h2 := HX.out.2.2.2; omega
  go_wp2_with fail
  refine (kmWrite_s k _ 1 ((N0 : Nat) : Int) mb sb S hSn x C p cC msg H 4 8 7 (by omega) rfl rfl rfl ((LW.nil.noteN 3 200 N0).more (by omega) (by omega)) (by omega) (by omega) HX.out.1 HX.out.2.1 (fun w' X Y h => h.arg0 hC) (by omega)).mono ?_
  rintro e w7 ⟨rfl, H1⟩
  rw [upd_laid (by simp), upd_laid (by simp), noteN_noteN, HX.out.2.2.1] at H1
  clear y0
  obtain ⟨y, hy⟩ : ∃ y, Hid (x.write msg = y) := ⟨_, rfl⟩
  rw [hy.out] at H1
  have HY : Hid (y.Ok ∧ y.s = false ∧ y.r = R) := by
    have h1 := Sp.write_ok msg HX.out.1 (by rw [HX.out.2.2.1]; exact HX.out.2.2.2)
    have h2 := Sp.write_r msg x
    unfold Hid
    rw [← hy.out]
    exact ⟨h1.1, by rw [h2.2.2]; exact HX.out.2.1, by rw [h2.1]; exact HX.out.2.2.1⟩
  replace H : St w [] w7 (lay [.blk gc 24 [.int .i64 Z, .slice A n cA, .slice B m cB], .blk gw 26 [.slice C p cC, .int .i64 N, .bool xof], led (.pointer none) none, led l (noteN (some []) 3 200 (N0)), led k (noteN (some []) 3 200 (N0 + (x.p + (p)) / R)), .blk sa 111 (x).vs, .blk ma 79 (macV sa S), .blk sb 111 (y).vs, .blk mb 79 (macV sb S)]) := H1
  clear H1
  have y0 := H.cell 1 rfl (o := 0) rfl
  go_wp2_with fail
  refine (cutInto_s C p cC msg D nd cD cs w7 (H.arg0 hC) (H.arg0 hD) (by omega) (by omega) hcC).mono ?_
  rintro e w8 ⟨V, ps, rfl, hps, HN⟩
  replace H := H.also HN
  clear HN y0
  have hpsl : ps.length ≤ 1048577 := by
    have h1 := congrArg List.length hps
    have h2 := cutB_len cs msg
    have h3 : cs.length = nd := by simpa using hD.1
    rw [List.length_map] at h1
    omega
  have HP := Lib.hid hps
  clear hps
  obtain ⟨AV, cV, rfl, -, hAV⟩ := row_form (H.row 9 rfl)
  have HLP : Hid ((ps.map Pc.l).flatten = msg) := by unfold Hid; rw [HP.out, cutB_flat]
  have HP0 : Hid (x.p / R = 0) := Nat.div_eq_of_lt HX.out.2.2.2
  have hxp : x.p ≤ 192 := by have := HX.out.2.2.2; omega
  replace H : St w [] w8 (lay [.blk gc 24 [.int .i64 Z, .slice A n cA, .slice B m cB], .blk gw 26 [.slice C p cC, .int .i64 N, .bool xof], led (.pointer none) none, led l (noteN (some []) 3 200 (N0 + (x.p + (flatTo (ps.map Pc.l) 0).length) / R)), led k (noteN (some []) 3 200 (N0 + (x.p + (p)) / R)), .blk sa 111 (x.write (flatTo (ps.map Pc.l) 0)).vs, .blk ma 79 (macV sa S), .blk sb 111 (y).vs, .blk mb 79 (macV sb S), .row 22 1 (.slice AV ps.length cV) ps.length (ps.map Pc.v), bigO Pc.own ps]) := by
    rw [show flatTo (ps.map Pc.l) 0 = [] from rfl, List.length_nil, Nat.add_zero, HP0.out, Nat.add_zero]; exact H
  go_wp2
  go_loopw [16] (fun i wr => ∃ j : Nat, j ≤ ps.length ∧ i = .int .i64 j ∧ St w [] wr (lay [.blk gc 24 [.int .i64 Z, .slice A n cA, .slice B m cB], .blk gw 26 [.slice C p cC, .int .i64 N, .bool xof], led (.pointer none) none, led l (noteN (some []) 3 200 (N0 + (x.p + (flatTo (ps.map Pc.l) j).length) / R)), led k (noteN (some []) 3 200 (N0 + (x.p + (p)) / R)), .blk sa 111 (x.write (flatTo (ps.map Pc.l) j)).vs, .blk ma 79 (macV sa S), .blk sb 111 (y).vs, .blk mb 79 (macV sb S), .row 22 1 (.slice AV ps.length cV) ps.length (ps.map Pc.v), bigO Pc.own ps])) (fun i _ => ps.length - (intOf i).toNat)
  case atStart => exact ⟨0, Nat.zero_le _, rfl, H⟩
  case round =>
    clear H
    obtain ⟨j, hj, rfl, H⟩ := hrel
    by_cases hlt : j < ps.length
    · obtain ⟨pc, hpc⟩ : ∃ v, ps[j]? = some v := ⟨_, List.getElem?_eq_getElem hlt⟩
      obtain ⟨gV, rfl, -⟩ := hAV (by omega)
      have HPC := Lib.hid hpc
      have HFS := Lib.hid (flatTo_succ (L := ps.map Pc.l) (i := j) (x := pc.l) (by rw [List.getElem?_map, hpc]; rfl))
      have hle := flatTo_le (ps.map Pc.l) j
      have hle2 := flatTo_le (ps.map Pc.l) (j + 1)
      rw [HLP.out, HLM.out] at hle hle2
      have hpl : pc.l.length = pc.n := by
        obtain ⟨G, hG⟩ := H.bigRow 10 rfl hpc
        have := hG.1.1
        simpa using this
      have HFL : Hid ((flatTo (ps.map Pc.l) (j + 1)).length = (flatTo (ps.map Pc.l) j).length + pc.n) := by unfold Hid; rw [HFS.out, List.length_append, hpl]
      have hpn : pc.n ≤ 4000 := by have := HFL.out; omega
      have hj1 : (j : Int) < ps.length := by omega
      clear hpc hpl
      obtain ⟨f0, hf0⟩ : ∃ f, (flatTo (ps.map Pc.l) j) = f := ⟨_, rfl⟩
      obtain ⟨f1, hf1⟩ : ∃ f, (flatTo (ps.map Pc.l) (j + 1)) = f := ⟨_, rfl⟩
      rw [hf0] at H HFS HFL hle
      rw [hf1] at HFS HFL hle2
      have HF1 := Lib.hid hf1
      clear hf0 hf1
      have hok := Sp.write_ok f0 HX.out.1 (by rw [HX.out.2.2.1]; exact HX.out.2.2.2)
      have hr0 := Sp.write_r f0 x
      have hp0 := Sp.write_p (x := x) f0 (by rw [HX.out.2.2.1]; exact HX.out.2.2.2)
      rw [HX.out.2.2.1] at hp0
      obtain ⟨z, hz⟩ : ∃ z, x.write f0 = z := ⟨_, rfl⟩
      have HWS : Hid (x.write f1 = z.write pc.l) := by unfold Hid; rw [HFS.out, Sp.write_append, hz]
      have HW : Hid (z.Ok ∧ z.s = false ∧ z.r = R ∧ z.p = (x.p + f0.length) % R ∧ z.p < R) := by
        unfold Hid
        rw [← hz]
        exact ⟨hok.1, by rw [hr0.2.2]; exact HX.out.2.1, by rw [hr0.1]; exact HX.out.2.2.1, hp0, by rw [hp0]; exact Nat.mod_lt _ (by omega)⟩
      rw [hz] at H
      clear hok hr0 hp0 hz
      have HCN : Hid ((x.p + f0.length) / R + (z.p + pc.n) / R = (x.p + f1.length) / R) := by unfold Hid; rw [HW.out.2.2.2.1, count_add _ _ _ (by omega), HFL.out, Nat.add_assoc]
      have hcn : (x.p + f0.length) / R ≤ 5000 := by have := Nat.div_le_self (x.p + f0.length) R; omega
      go_wp2_with fail
      refine (kmClone_s ma sa S hSn z H 6 5 12 11 rfl rfl rfl rfl (by omega) HW.out.1).mono ?_
      rintro e w9 ⟨md, sd, rfl, H6⟩
      rw [upd_push (by simp), upd_push (by simp)] at H6
      replace H : St w [] w9 (lay [.blk gc 24 [.int .i64 Z, .slice A n cA, .slice B m cB], .blk gw 26 [.slice C p cC, .int .i64 N, .bool xof], led (.pointer none) none, led l (noteN (some []) 3 200 (N0 + (x.p + f0.length) / R)), led k (noteN (some []) 3 200 (N0 + (x.p + (p)) / R)), .blk sa 111 (z).vs, .blk ma 79 (macV sa S), .blk sb 111 (y).vs, .blk mb 79 (macV sb S), .row 22 1 (.slice (some ⟨gV, 0, none⟩) ps.length cV) ps.length (ps.map Pc.v), bigO Pc.own ps, .blk sd 111 (z).vs, .blk md 79 (macV sd S)]) := H6
      clear H6
      unfold lptr
      have c0 := World.ownsRow.cellAt (H.row 9 rfl) j (by omega)
      rw [List.getElem?_map, HPC.out] at c0
      simp only [Option.map_some, Pc.v] at c0
      go_wp2_with fail
      refine (kmWrite_s l _ 1 ((N0 + (x.p + f0.length) / R : Nat) : Int) ma sa S hSn z pc.A pc.n pc.c pc.l H 3 6 5 (by omega) rfl rfl rfl ((LW.nil.noteN 3 200 _).more (by omega) (by omega)) (by omega) (by omega) HW.out.1 HW.out.2.1 (fun w' X Y h => by obtain ⟨G, hG⟩ := h.bigRow 10 rfl HPC.out; exact Rd.of_own hG.1) (by omega)).mono ?_
      rintro e wa ⟨rfl, H6⟩
      rw [upd_laid (by simp), upd_laid (by simp), noteN_noteN, HW.out.2.2.1, Nat.add_assoc, HCN.out, ← HWS.out] at H6
      replace H : St w [] wa (lay [.blk gc 24 [.int .i64 Z, .slice A n cA, .slice B m cB], .blk gw 26 [.slice C p cC, .int .i64 N, .bool xof], led (.pointer none) none, led l (noteN (some []) 3 200 (N0 + (x.p + f1.length) / R)), led k (noteN (some []) 3 200 (N0 + (x.p + (p)) / R)), .blk sa 111 (x.write f1).vs, .blk ma 79 (macV sa S), .blk sb 111 (y).vs, .blk mb 79 (macV sb S), .row 22 1 (.slice (some ⟨gV, 0, none⟩) ps.length cV) ps.length (ps.map Pc.v), bigO Pc.own ps, .blk sd 111 (z).vs, .blk md 79 (macV sd S)]) := H6
      clear H6 c0
      have y0 := H.cell 1 rfl (o := 0) rfl
      go_wp2_with fail
      refine (kmWrite_s (.pointer none) none 0 0 md sd S hSn z C p cC msg H 2 12 11 (by omega) rfl rfl rfl (LW.none _ _) (by omega) (by omega) HW.out.1 HW.out.2.1 (fun w' X Y h => h.arg0 hC) (by omega)).mono ?_
      rintro e wb ⟨rfl, H6⟩
      have HZ2 : Hid ((z.write msg).Ok) := (Sp.write_ok msg HW.out.1 (by rw [HW.out.2.2.1]; exact HW.out.2.2.2.2)).1
      obtain ⟨z2, hz2⟩ : ∃ z2, z.write msg = z2 := ⟨_, rfl⟩
      rw [hz2] at H6 HZ2
      rw [noteN_none', upd_laid (by simp), upd_laid (by simp)] at H6
      replace H : St w [] wb (lay [.blk gc 24 [.int .i64 Z, .slice A n cA, .slice B m cB], .blk gw 26 [.slice C p cC, .int .i64 N, .bool xof], led (.pointer none) none, led l (noteN (some []) 3 200 (N0 + (x.p + f1.length) / R)), led k (noteN (some []) 3 200 (N0 + (x.p + (p)) / R)), .blk sa 111 (x.write f1).vs, .blk ma 79 (macV sa S), .blk sb 111 (y).vs, .blk mb 79 (macV sb S), .row 22 1 (.slice (some ⟨gV, 0, none⟩) ps.length cV) ps.length (ps.map Pc.v), bigO Pc.own ps, .blk sd 111 (z2).vs, .blk md 79 (macV sd S)]) := H6
      clear H6 y0 hz2
      go_wp2_with fail
      refine (kmWipe_s (.pointer none) none 0 0 md sd S hSn z2 H 2 12 11 (by omega) (by omega) (by omega) rfl rfl rfl (LW.none _ _) (by omega) (by omega) HZ2.out).mono ?_
      rintro e wc ⟨rfl, H6⟩
      rw [noteN_none', upd_laid (by simp), upd_laid (by simp), upd_laid (by simp)] at H6
      replace H := H6.front 11
      replace H : St w [] wc (lay [.blk gc 24 [.int .i64 Z, .slice A n cA, .slice B m cB], .blk gw 26 [.slice C p cC, .int .i64 N, .bool xof], led (.pointer none) none, led l (noteN (some []) 3 200 (N0 + (x.p + (flatTo (ps.map Pc.l) (j + 1)).length) / R)), led k (noteN (some []) 3 200 (N0 + (x.p + (p)) / R)), .blk sa 111 (x.write (flatTo (ps.map Pc.l) (j + 1))).vs, .blk ma 79 (macV sa S), .blk sb 111 (y).vs, .blk mb 79 (macV sb S), .row 22 1 (.slice (some ⟨gV, 0, none⟩) ps.length cV) ps.length (ps.map Pc.v), bigO Pc.own ps]) := by rw [HF1.out]; exact H
      clear H6
      go_wp2
      go_roundw
      case rel => exact ⟨j + 1, by omega, by go_num, H⟩
      case measure => simp [intOf]; omega
    · obtain rfl : j = ps.length := by omega
      rw [show flatTo (ps.map Pc.l) ps.length = msg by rw [← List.length_map (f := Pc.l), flatTo_all]; exact HLP.out, HLM.out, hy.out] at H
      have hj1 : ¬ ((ps.length : Int) < ps.length) := by omega
      obtain ⟨q, hq⟩ : ∃ q, N0 + (x.p + p) / R = q := ⟨_, rfl⟩
      rw [hq] at H
      have hq1 : q ≤ 40005000 := by omega
      clear hq hpp
      replace H := H.front 9
      replace H : St w [] wr (lay [.blk gc 24 [.int .i64 Z, .slice A n cA, .slice B m cB], .blk gw 26 [.slice C p cC, .int .i64 N, .bool xof], led (.pointer none) none, led l (noteN (some []) 3 200 (q)), led k (noteN (some []) 3 200 (q)), .blk sa 111 (y).vs, .blk ma 79 (macV sa S), .blk sb 111 (y).vs, .blk mb 79 (macV sb S)]) := H
      have y1 := H.cell 1 rfl (o := 1) rfl
      go_wp2_with fail
      refine (pick_any N 400 _ hN1 hN2 (by omega) (by omega) rfl).mono ?_
      rintro e w9 ⟨⟨t, ht, -, rfl⟩, rfl⟩
      go_wp2_with fail
      refine (pick_any N 50 _ hN1 hN2 (by omega) (by omega) rfl).mono ?_
      rintro e w9 ⟨⟨u, hu, -, rfl⟩, rfl⟩
      clear y1
      have y2 := H.cell 1 rfl (o := 2) rfl
      have hs1 := kmSumN_le (x := y) t (kmBits t xof) HY.out.1 HY.out.2.1 (by rw [HY.out.2.2]; exact hR8) (by rw [HY.out.2.2]; exact hR9) (by unfold kmBits; split <;> omega)
      have hyp : y.p ≤ 192 := by have := HY.out.1.pr; rw [HY.out.2.2] at this; omega
      go_wp2_with fail
      refine (kmSum_s l _ 1 ((q : Nat) : Int) ma sa S hSn y t (t : Int) rfl xof H 3 6 5 9 (by omega) rfl rfl rfl rfl ((LW.nil.noteN 3 200 q).more (by omega) (by omega)) (by omega) (by omega) HY.out.1 HY.out.2.1 (by omega)).mono ?_
      rintro e wa ⟨vs, rfl, H1⟩
      obtain ⟨T1, HT1⟩ : ∃ T, Hid (kmTag y t (kmBits t xof) = T) := ⟨_, rfl⟩
      obtain ⟨N1, HN1⟩ : ∃ T, Hid (kmSumN y t (kmBits t xof) = T) := ⟨_, rfl⟩
      rw [HT1.out, HN1.out, upd_laid (by simp), upd_laid (by simp), noteN_noteN] at H1
      rw [HN1.out] at hs1
      clear y2
      replace H := H1.push_mk rfl
      clear H1
      obtain ⟨As, csl, rfl, -, -⟩ := row_form (H.row 9 rfl)
      replace H : St w [] wa (lay [.blk gc 24 [.int .i64 Z, .slice A n cA, .slice B m cB], .blk gw 26 [.slice C p cC, .int .i64 N, .bool xof], led (.pointer none) none, led l (noteN (some []) 3 200 (q + N1)), led k (noteN (some []) 3 200 (q)), .blk sa 111 (y).vs, .blk ma 79 (macV sa S), .blk sb 111 (y).vs, .blk mb 79 (macV sb S), .row 5 1 (.slice As t csl) t (T1.map vb)]) := H
      have y2 := H.cell 1 rfl (o := 2) rfl
      go_wp2_with fail
      refine (kmSum_s k _ 1 ((q : Nat) : Int) mb sb S hSn y t (t : Int) rfl xof H 4 8 7 10 (by omega) rfl rfl rfl rfl ((LW.nil.noteN 3 200 q).more (by omega) (by omega)) (by omega) (by omega) HY.out.1 HY.out.2.1 (by omega)).mono ?_
      rintro e wa ⟨vt, rfl, H1⟩
      rw [HT1.out, HN1.out, upd_laid (by simp), upd_laid (by simp), noteN_noteN] at H1
      clear y2
      replace H := H1.push_mk rfl
      clear H1
      obtain ⟨At, ct, rfl, -, -⟩ := row_form (H.row 10 rfl)
      replace H : St w [] wa (lay [.blk gc 24 [.int .i64 Z, .slice A n cA, .slice B m cB], .blk gw 26 [.slice C p cC, .int .i64 N, .bool xof], led (.pointer none) none, led l (noteN (some []) 3 200 (q + N1)), led k (noteN (some []) 3 200 (q + N1)), .blk sa 111 (y).vs, .blk ma 79 (macV sa S), .blk sb 111 (y).vs, .blk mb 79 (macV sb S), .row 5 1 (.slice As t csl) t (T1.map vb), .row 5 1 (.slice At t ct) t (T1.map vb)]) := H
      go_wp2_with fail
      refine (kmSum_s (.pointer none) none 0 0 mb sb S hSn y (t + 1 + u) ((t : Int) + 1 + u) (by omega) true H 2 8 7 11 (by omega) rfl rfl rfl rfl (LW.none _ _) (by omega) (by omega) HY.out.1 HY.out.2.1 (by omega)).mono ?_
      rintro e wa ⟨vu, rfl, H1⟩
      rw [noteN_none', upd_laid (by simp), upd_laid (by simp), show kmBits (t + 1 + u) true = 0 from rfl] at H1
      replace H := H1.push_mk rfl
      clear H1
      obtain ⟨Au, cu, rfl, hcu, -⟩ := row_form (H.row 11 rfl)
      go_wp2_with fail
      refine (kmSum_s (.pointer none) none 0 0 ma sa S hSn y t (t : Int) rfl true H 2 6 5 12 (by omega) rfl rfl rfl rfl (LW.none _ _) (by omega) (by omega) HY.out.1 HY.out.2.1 (by omega)).mono ?_
      rintro e wa ⟨vw, rfl, H1⟩
      rw [noteN_none', upd_laid (by simp), upd_laid (by simp), show kmBits t true = 0 from rfl] at H1
      replace H := H1.push_mk rfl
      clear H1
      obtain ⟨Aw, cw, rfl, -, -⟩ := row_form (H.row 12 rfl)
      have HTK : Hid ((kmTag y (t + 1 + u) 0).take t = kmTag y t 0) := by unfold Hid; rw [Nat.add_assoc]; exact kmTag_take y t (1 + u)
      obtain ⟨T2, HT2⟩ : ∃ T, Hid (kmTag y (t + 1 + u) 0 = T) := ⟨_, rfl⟩
      obtain ⟨T3, HT3⟩ : ∃ T, Hid (kmTag y t 0 = T) := ⟨_, rfl⟩
      rw [HT2.out, HT3.out] at H HTK
      replace H : St w [] wa (lay [.blk gc 24 [.int .i64 Z, .slice A n cA, .slice B m cB], .blk gw 26 [.slice C p cC, .int .i64 N, .bool xof], led (.pointer none) none, led l (noteN (some []) 3 200 (q + N1)), led k (noteN (some []) 3 200 (q + N1)), .blk sa 111 (y).vs, .blk ma 79 (macV sa S), .blk sb 111 (y).vs, .blk mb 79 (macV sb S), .row 5 1 (.slice As t csl) t (T1.map vb), .row 5 1 (.slice At t ct) t (T1.map vb), .row 5 1 (.slice Au (t + 1 + u) cu) (t + 1 + u) (T2.map vb), .row 5 1 (.slice Aw t cw) t (T3.map vb)]) := H
      have hne : ((t : Int) != (t : Int)) = false := by simp
      have hcu1 : (t : Int) ≤ cu := by omega
      have hcu2 : t ≤ cu := by omega
      go_wp2_with fail
      refine (sameBytes_yes As At t t csl ct T1 T1 _ (H.rd 9 rfl) (H.rd 10 rfl) (by omega) (by omega) rfl).mono ?_
      rintro e we ⟨rfl, hb⟩
      replace H := H.call hb
      clear hb
      go_wp2_with fail
      refine (sameBytes_yes Au Aw t t cu cw (T2.take t) T3 _ ((H.rd 11 rfl).take (by omega)) (H.rd 12 rfl) (by omega) (by omega) HTK.out).mono ?_
      rintro e we ⟨rfl, hb⟩
      replace H := H.call hb
      clear hb
      have hrl : Hid (∃ rs, noteN (some []) 3 200 (q + N1) = some rs ∧ rs.length ≤ 1) := by
        unfold Hid noteN
        split
        · exact ⟨[], rfl, by simp⟩
        · exact ⟨_, rfl, by simp [noted]⟩
      obtain ⟨rs, hrs, hrl1⟩ := hrl.out
      have hlw : LW (some rs) 1 ((q + N1 : Nat) : Int) := by rw [← hrs]; exact (LW.nil.noteN 3 200 (q + N1)).more (by omega) (by omega)
      rw [hrs] at H
      have HLW := Lib.hid hlw
      clear hrs hrl hlw
      replace H := H.front 9
      replace H : St w [] we (lay [.blk gc 24 [.int .i64 Z, .slice A n cA, .slice B m cB], .blk gw 26 [.slice C p cC, .int .i64 N, .bool xof], led (.pointer none) none, led l (some rs), led k (some rs), .blk sa 111 (y).vs, .blk ma 79 (macV sa S), .blk sb 111 (y).vs, .blk mb 79 (macV sb S)]) := H
      go_wp2_with fail
      refine (ledger_runs_w 1 _ H 3 rfl HLW.out (by omega) 9 rfl).mono ?_
      rintro e wf ⟨vr, rfl, H1⟩
      replace H := H1.push_mk rfl
      clear H1
      obtain ⟨Ar, cr, rfl, -, -⟩ := row_shape (H.row 9 rfl)
      go_wp2_with fail
      refine (ledger_runs_w 1 _ H 4 rfl HLW.out (by omega) 10 rfl).mono ?_
      rintro e wg ⟨vq, rfl, H1⟩
      replace H := H1.push_mk rfl
      clear H1
      obtain ⟨Aq, cq, rfl, -, -⟩ := row_shape (H.row 10 rfl)
      go_wp2_with fail
      refine (sameRuns_any Ar Aq cr cq rs rs (H.rd 9 rfl) (H.rd 10 rfl) (by omega) (by omega)).mono ?_
      rintro e wh ⟨rfl, kd, rfl⟩
      replace H := (H.drewN kd).front 9
      rw [decide_eq_true rfl]
      generalize wg.drewN kd = wh at H ⊢
      replace H : St w [] wh (lay [.blk gc 24 [.int .i64 Z, .slice A n cA, .slice B m cB], .blk gw 26 [.slice C p cC, .int .i64 N, .bool xof], led (.pointer none) none, led l (some rs), led k (some rs), .blk sa 111 (y).vs, .blk ma 79 (macV sa S), .blk sb 111 (y).vs, .blk mb 79 (macV sb S)]) := H
      go_wp2_with fail
      refine (kmForm_s ma sa S hSn y H 6 5 9 rfl rfl rfl HY.out.1).mono ?_
      rintro e wi ⟨vf, rfl, H1⟩
      replace H := H1.push_mk rfl
      clear H1
      obtain ⟨Af, cf, rfl, -, -⟩ := row_form (H.row 9 rfl)
      go_wp2_with fail
      refine (kmForm_s mb sb S hSn y H 8 7 10 rfl rfl rfl HY.out.1).mono ?_
      rintro e wi ⟨vg, rfl, H1⟩
      replace H := H1.push_mk rfl
      clear H1
      obtain ⟨Ag, cg, rfl, -, -⟩ := row_form (H.row 10 rfl)
      go_wp2_with fail
      refine (sameBytes_yes Af Ag 203 203 cf cg _ _ _ (H.rd 9 rfl) (H.rd 10 rfl) (by omega) (by omega) rfl).mono ?_
      rintro e we ⟨rfl, hb⟩
      replace H := H.call hb
      clear hb
      go_wp2
      go_ret
      exact ⟨rfl, H.below⟩

theorem kmacPieces_walk (s : CaseR) (x : WholeR) (D : Option Addr) (nd cD : Nat) (cs : List UInt8) (w : World) (hs : s.Ok w) (hx : x.Ok w) (hD : Rd w 1 D nd (cs.map vb)) (hnd : nd ≤ 1048576) :
    Calls Try.prog 5 #[.agg s.cs.toArray, .agg x.cs.toArray, .slice D nd cD] w fun e w' => e = .returned (.bool true) ∧ Below w.heap.size w w' :=
  kmacPieces_w s.z0 s.A1 s.n1 s.c1 s.l1 s.A2 s.n2 s.c2 s.l2 x.A0 x.n0 x.c0 x.l0 x.z1 x.b2 D nd cD cs w hs.r1 hs.m1 hs.r2 hs.m2 hx.r0 hx.m0 hx.q0 hx.i1.1 hx.i1.2 hD hnd hs.i0.1 hs.i0.2

end Go.Proofs.Ythoopaknldkclaa
