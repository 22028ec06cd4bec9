/- Texts of this claim, merged: Km, Rkm, KmL, KmK, LawKmNo. -/

import Derived.Test.YthoopaknldkclaaMgD
set_option linter.unusedVariables false

namespace Go.Proofs.Ythoopaknldkclaa
open Go.RowKit
set_option linter.unusedVariables false
set_option maxRecDepth 100000

attribute [local irreducible] permB kBytes kPerm kFrom

/-- a Mac's cells -/
abbrev macV (g : Nat) (S : Int) : List Value := [lptr g, .int .i64 S]
/-- nil, or a Mac that nobody made -/
def KmNo (w : World) (s : Value) : Prop := s = .pointer none ∨ ∃ g, s = lptr g ∧ w.cell? ⟨g, 1, none⟩ = some (.int .i64 0)

section
variable {w0 w : World} {F0 : List Nat} {E : Env}

theorem kmNone_no (g : Nat) (S : Int) (w : World) (hc : w.cell? ⟨g, 1, none⟩ = some (.int .i64 S)) (hS : (S == 0) = false) :
    Calls Try.prog 48 #[lptr g] w fun e w' => e = .returned (.bool false) ∧ w = w' := by
  unfold lptr
  go_enter Try.func48, Try.ntmps48
  go_wp2
  go_ret
  exact ⟨rfl, rfl⟩
theorem kmNone_nil (w : World) : Calls Try.prog 48 #[.pointer none] w fun e w' => e = .returned (.bool true) ∧ w = w' := by
  go_enter Try.func48, Try.ntmps48
  go_wp2
  go_ret
  exact ⟨rfl, rfl⟩
theorem kmNone_off (g : Nat) (w : World) (hc : w.cell? ⟨g, 1, none⟩ = some (.int .i64 0)) :
    Calls Try.prog 48 #[lptr g] w fun e w' => e = .returned (.bool true) ∧ w = w' := by
  unfold lptr
  go_enter Try.func48, Try.ntmps48
  go_wp2
  go_ret
  exact ⟨rfl, rfl⟩

theorem kmSum_none (l : Value) (n : Int) (b : Bool) (s : Value) (h : KmNo w s) : Calls Try.prog 25 #[s, l, .int .i64 n, .bool b] w fun e w' => e = .returned (.tuple #[.slice none 0 0, .int .i64 1]) ∧ w = w' := by
  rcases h with rfl | ⟨g, rfl, c0⟩
  · go_enter Try.func25, Try.ntmps25
    go_wp2_with fail
    refine (kmNone_nil w).mono ?_
    rintro e w1 ⟨rfl, rfl⟩
    go_wp2
    go_ret2
    exact ⟨rfl, rfl⟩
  · go_enter Try.func25, Try.ntmps25
    go_wp2_with fail
    refine (kmNone_off g w c0).mono ?_
    rintro e w1 ⟨rfl, rfl⟩
    go_wp2
    go_ret2
    exact ⟨rfl, rfl⟩

theorem kmClone_none (s : Value) (h : KmNo w s) : Calls Try.prog 31 #[s] w fun e w' => e = .returned (.tuple #[.pointer none, .int .i64 1]) ∧ w = w' := by
  rcases h with rfl | ⟨g, rfl, c0⟩
  · go_enter Try.func31, Try.ntmps31
    go_wp2_with fail
    refine (kmNone_nil w).mono ?_
    rintro e w1 ⟨rfl, rfl⟩
    go_wp2
    go_ret2
    exact ⟨rfl, rfl⟩
  · go_enter Try.func31, Try.ntmps31
    go_wp2_with fail
    refine (kmNone_off g w c0).mono ?_
    rintro e w1 ⟨rfl, rfl⟩
    go_wp2
    go_ret2
    exact ⟨rfl, rfl⟩

theorem kmWrite_none (l v s : Value) (h : KmNo w s) : Calls Try.prog 29 #[s, l, v] w fun e w' => e = .returned (.int .i64 1) ∧ w = w' := by
  rcases h with rfl | ⟨g, rfl, c0⟩
  · go_enter Try.func29, Try.ntmps29
    go_wp2_with fail
    refine (kmNone_nil w).mono ?_
    rintro e w1 ⟨rfl, rfl⟩
    go_wp2
    go_ret
    exact ⟨rfl, rfl⟩
  · go_enter Try.func29, Try.ntmps29
    go_wp2_with fail
    refine (kmNone_off g w c0).mono ?_
    rintro e w1 ⟨rfl, rfl⟩
    go_wp2
    go_ret
    exact ⟨rfl, rfl⟩

theorem kmWipe_none (l s : Value) (h : KmNo w s) : Calls Try.prog 32 #[s, l] w fun e w' => e = .returned (.int .i64 1) ∧ w = w' := by
  rcases h with rfl | ⟨g, rfl, c0⟩
  · go_enter Try.func32, Try.ntmps32
    go_wp2_with fail
    refine (kmNone_nil w).mono ?_
    rintro e w1 ⟨rfl, rfl⟩
    go_wp2
    go_ret
    exact ⟨rfl, rfl⟩
  · go_enter Try.func32, Try.ntmps32
    go_wp2_with fail
    refine (kmNone_off g w c0).mono ?_
    rintro e w1 ⟨rfl, rfl⟩
    go_wp2
    go_ret
    exact ⟨rfl, rfl⟩

theorem kmForm_none (s : Value) (h : KmNo w s) : Calls Try.prog 28 #[s] w fun e w' => e = .returned (.slice none 0 0) ∧ w = w' := by
  rcases h with rfl | ⟨g, rfl, c0⟩
  · go_enter Try.func28, Try.ntmps28
    go_wp2_with fail
    refine (kmNone_nil w).mono ?_
    rintro e w1 ⟨rfl, rfl⟩
    go_wp2
    go_ret
    exact ⟨rfl, rfl⟩
  · go_enter Try.func28, Try.ntmps28
    go_wp2_with fail
    refine (kmNone_off g w c0).mono ?_
    rintro e w1 ⟨rfl, rfl⟩
    go_wp2
    go_ret
    exact ⟨rfl, rfl⟩

theorem kmStrength_none (s : Value) (h : KmNo w s) : Calls Try.prog 27 #[s] w fun e w' => e = .returned (.int .i64 0) ∧ w = w' := by
  rcases h with rfl | ⟨g, rfl, c0⟩
  · go_enter Try.func27, Try.ntmps27
    go_wp2
    go_ret
    exact ⟨rfl, rfl⟩
  · unfold lptr
    go_enter Try.func27, Try.ntmps27
    go_wp2
    go_ret
    exact ⟨rfl, rfl⟩

theorem kmStrength_s (gm g : Nat) (S : Int) (H : St w0 F0 w E) (j : Nat) (hj : E j = some (.blk gm 79 (macV g S))) :
    Calls Try.prog 27 #[lptr gm] w fun e w' => e = .returned (.int .i64 S) ∧ w = w' := by
  have c1 := H.cell j hj (o := 1) rfl
  unfold lptr
  go_enter Try.func27, Try.ntmps27
  go_wp2
  go_ret
  exact ⟨rfl, rfl⟩

theorem kmForm_s (gm g : Nat) (S : Int) (hS : (S == 0) = false) (x : Sp) (H : St w0 F0 w E) (j j2 k : Nat) (hj : E j = some (.blk gm 79 (macV g S))) (hj2 : E j2 = some (.blk g 111 x.vs)) (hk : E k = none) (hx : x.Ok) :
    Calls Try.prog 28 #[lptr gm] w fun e w' => ∃ v, e = .returned v ∧ St w0 F0 w' (upd E k (.row 5 1 v 203 (x.form.map vb))) := by
  have c0 := H.cell j hj (o := 0) rfl
  have c1 := H.cell j hj (o := 1) rfl
  have HJ := Lib.hid hj2
  have HK := Lib.hid hk
  clear hj hj2 hk
  go_enter Try.func28, Try.ntmps28
  go_wp2_with fail
  refine (kmNone_no gm S w c1 hS).mono ?_
  rintro e w1 ⟨rfl, rfl⟩
  unfold lptr at c0 ⊢
  go_wp2_with fail
  refine (spForm_s g x H j2 k HJ.out HK.out hx).mono ?_
  rintro e w2 ⟨v, rfl, H2⟩
  go_wp2
  go_ret
  exact ⟨_, rfl, H2⟩

theorem kmWrite_s (l : Value) (r : Option (List RunT)) (m : Nat) (b : Int) (gm g : Nat) (S : Int) (hS : (S == 0) = false) (x : Sp) (A : Option Addr) (n c : Nat) (q : List UInt8) (H : St w0 F0 w E) (i j j2 : Nat) (hij : i ≠ j2) (hi : E i = some (led l r)) (hj : E j = some (.blk gm 79 (macV g S))) (hj2 : E j2 = some (.blk g 111 x.vs)) (hg : LW r m b) (hm : m ≤ 999999999999) (hb : b ≤ 4000000000000000000) (hx : x.Ok) (hs : x.s = false)
    (hR : ∀ w' X Y, St w0 F0 w' (upd (upd E i X) j2 Y) → Rd w' 1 A n (q.map vb)) (hn : n ≤ 281474976710656) :
    Calls Try.prog 29 #[lptr gm, l, .slice A n c] w fun e w' => e = .returned (.int .i64 0) ∧ St w0 F0 w' (upd (upd E i (led l (noteN r 3 200 ((x.p + n) / x.r)))) j2 (.blk g 111 (x.write q).vs)) := by
  have c0 := H.cell j hj (o := 0) rfl
  have c1 := H.cell j hj (o := 1) rfl
  have hc := spWrite_s l r m b g x A n c q H i j2 hij hi hj2 hg hm hb hx hs hR hn
  have HC := Lib.hid hc
  clear hc hi hj hj2 hR hg hm hb H hs hn hij hx
  go_enter Try.func29, Try.ntmps29
  go_wp2_with fail
  refine (kmNone_no gm S w c1 hS).mono ?_
  rintro e w1 ⟨rfl, rfl⟩
  unfold lptr at c0 ⊢
  go_wp2_with fail
  refine HC.out.mono ?_
  rintro e w2 ⟨rfl, H2⟩
  go_wp2
  go_ret
  exact ⟨rfl, H2⟩

set_option maxHeartbeats 1000000 in
theorem kmClone_s (gm g : Nat) (S : Int) (hS : (S == 0) = false) (x : Sp) (H : St w0 F0 w E) (j j2 k1 k2 : Nat) (hj : E j = some (.blk gm 79 (macV g S))) (hj2 : E j2 = some (.blk g 111 x.vs)) (hk1 : E k1 = none) (hk2 : E k2 = none) (hkk : k1 ≠ k2) (hx : x.Ok) :
    Calls Try.prog 31 #[lptr gm] w fun e w' => ∃ gm' g', e = .returned (.tuple #[lptr gm', .int .i64 0]) ∧ St w0 F0 w' (upd (upd E k2 (.blk g' 111 x.vs)) k1 (.blk gm' 79 (macV g' S))) := by
  have c0 := H.cell j hj (o := 0) rfl
  have c1 := H.cell j hj (o := 1) rfl
  have HJ := Lib.hid hj
  have HJ2 := Lib.hid hj2
  have HK1 := Lib.hid hk1
  have HK2 := Lib.hid hk2
  have HKK := Lib.hid hkk
  clear hj hj2 hk1 hk2 hkk
  go_enter Try.func31, Try.ntmps31
  go_wp2_with fail
  refine (kmNone_no gm S w c1 hS).mono ?_
  rintro e w1 ⟨rfl, rfl⟩
  unfold lptr at c0 ⊢
  go_wp2_with fail
  refine (spClone_s g x H j2 k2 HJ2.out HK2.out hx).mono ?_
  rintro e w2 ⟨g', rfl, H2⟩
  have hjk : upd E k2 (.blk g' 111 x.vs) j = some (.blk gm 79 (macV g S)) := by
    have : j ≠ k2 := fun e => by have h := HJ.out; rw [e, HK2.out] at h; cases h
    simp [upd, this, HJ.out]
  have d1 := H2.cell j hjk (o := 1) rfl
  clear c0 c1 H hjk
  unfold lptr
  go_wp2
  go_ret2
  exact ⟨_, _, rfl, H2.allocAt k1 (by simp [upd, HKK.out, HK1.out]) w2.heap.size rfl #[lptr g', .int .i64 S] 79⟩

theorem hold_store {P : Program} {ops : Array Oper} {rest : List Oper} {o : Oper} {a : Act} {Q : Exit → Act → World → Prop} {w : World} (ty : TypeId) (x y : Operand) (ho : o.op = .store ty x y) (h : Hid (wpList P ops Q (o :: rest) a w)) : wpList P ops Q (o :: rest) a w := h
theorem mac_size : (Try.prog.info? 79).map (·.size) = some 2 := by kernel_rfl
theorem zero_mac (w : World) : (zeroValue 79).run Try.prog w = .ok (.agg #[.pointer none, .int .i64 0]) w := by kernel_rfl

set_option maxHeartbeats 1000000 in
theorem kmWipe_s (l : Value) (r : Option (List RunT)) (m : Nat) (b : Int) (gm g : Nat) (S : Int) (hS : (S == 0) = false) (x : Sp) (H : St w0 F0 w E) (i j j2 : Nat) (hij : i ≠ j2) (hji : j ≠ i) (hjj : j ≠ j2) (hi : E i = some (led l r)) (hj : E j = some (.blk gm 79 (macV g S))) (hj2 : E j2 = some (.blk g 111 x.vs)) (hg : LW r m b) (hm : m ≤ 999999999999) (hb : b ≤ 4000000000000000000) (hx : x.Ok) :
    Calls Try.prog 32 #[lptr gm, l] w fun e w' => e = .returned (.int .i64 0) ∧ St w0 F0 w' (upd (upd (upd E i (led l (noteN r 8 203 1))) j2 (.blk g 111 spZero)) j (.blk gm 79 [.pointer none, .int .i64 0])) := by
  have c0 := H.cell j hj (o := 0) rfl
  have c1 := H.cell j hj (o := 1) rfl
  have hc := spWipe_s l r m b g x H i j2 hij hi hj2 hg hm hb hx
  have HC := Lib.hid hc
  have HJ := Lib.hid hj
  have HJI := Lib.hid hji
  have HJJ := Lib.hid hjj
  have hz := zero_mac
  clear hc hi hj hj2 hg hm hb H hij hx hji hjj
  go_enter Try.func32, Try.ntmps32
  go_wp2_with fail
  refine (kmNone_no gm S w c1 hS).mono ?_
  rintro e w1 ⟨rfl, rfl⟩
  unfold lptr at c0 ⊢
  go_wp2_with fail
  refine HC.out.mono ?_
  rintro e w2 ⟨rfl, H2⟩
  have hjk : upd (upd E i (led l (noteN r 8 203 1))) j2 (.blk g 111 spZero) j = some (.blk gm 79 (macV g S)) := by simp [upd, HJI.out, HJJ.out, HJ.out]
  have HJK := Lib.hid hjk
  clear hjk c0 c1
  go_wp2_with (with_reducible refine hold_store 79 (.tmp 16) (.tmp 15) (by rfl) ?_)
  refine Lib.hid ?_
  refine wpList_store_mid rfl 79 (.tmp 16) (.tmp 15) rfl gm 0 #[.pointer none, .int .i64 0] rfl rfl (by have h := H2.there j HJK.out; exact h) (by rw [mac_size]; rfl) (by kernel_rfl) ?_
  have H4 := H2.storeAll j HJK.out (vs := [.pointer none, .int .i64 0]) rfl
  show wpList Try.prog _ _ [] _ (w2.setCells gm 0 [.pointer none, .int .i64 0])
  simp only [Act.put]
  go_wp2
  go_ret
  exact ⟨rfl, H4⟩

set_option maxHeartbeats 4000000 in
theorem kmSum_s (l : Value) (r : Option (List RunT)) (m : Nat) (b : Int) (gm g : Nat) (S : Int) (hS : (S == 0) = false) (x : Sp) (n : Nat) (N : Int) (hN : N = n) (xof : Bool) (H : St w0 F0 w E) (i j j2 k0 : Nat) (hij : i ≠ j2) (hi : E i = some (led l r)) (hj : E j = some (.blk gm 79 (macV g S))) (hj2 : E j2 = some (.blk g 111 x.vs)) (hk : E k0 = none) (hg : LW r m b) (hm : m ≤ 99999999999) (hb : b ≤ 3000000000000000000) (hx : x.Ok) (hs : x.s = false) (hn : n ≤ 65536) :
    Calls Try.prog 25 #[lptr gm, l, .int .i64 N, .bool xof] w fun e w' => ∃ v, e = .returned (.tuple #[v, .int .i64 0]) ∧ St w0 F0 w' (upd (upd (upd E i (led l (noteN r 3 200 (kmSumN x n (kmBits n xof))))) j2 (.blk g 111 x.vs)) k0 (.row 5 1 v n ((kmTag x n (kmBits n xof)).map vb))) := by
  subst hN
  have c0 := H.cell j hj (o := 0) rfl
  have c1 := H.cell j hj (o := 1) rfl
  obtain ⟨F, HF, -, -, hback⟩ := H.frame2 i j2 hij hi hj2
  have HB := Lib.hid hback
  have HKK := Lib.hid hk
  have HIJ := Lib.hid hij
  have HI := Lib.hid hi
  have HJ := Lib.hid hj2
  have HG := Lib.hid hg
  have HX := Lib.hid hx
  have HS := Lib.hid hs
  have H : St w F w (lay [led l r, .blk g 111 x.vs]) := HF.as2
  obtain ⟨B, hB⟩ : ∃ B, kmBits n xof = B := ⟨_, rfl⟩
  have hBb : B ≤ 524288 := by rw [← hB]; unfold kmBits; split <;> omega
  have HBB : Hid ((B : Int) = if xof then 0 else 8 * (n : Int)) := by unfold Hid; rw [← hB]; unfold kmBits; split <;> omega
  rw [hB]
  have hrl := rightI_le (B : Int) (by omega)
  have hxr := hx.r8
  have hxp := hx.pr
  have hxr2 := hx.r192
  have hq1 : (x.p + (rightI (B : Int)).length) / x.r ≤ 400 := Nat.le_trans (Nat.div_le_self _ _) (by omega)
  have HQ1 := Lib.hid hq1
  have HRL := Lib.hid hrl
  clear hback hi hj hj2 hk hij hg HF hx hs hB hxr hxp hxr2 hq1 hrl
  go_enter Try.func25, Try.ntmps25
  go_wp2_with fail
  refine (kmNone_no gm S w c1 hS).mono ?_
  rintro e w1 ⟨rfl, rfl⟩
  unfold lptr at c0 ⊢
  have hn0 : decide ((n : Int) < 0) = false := by simp
  have hn1 : decide ((n : Int) > 65536) = false := by simp; omega
  have hn2 : ¬ (n : Int) < 0 := by omega
  have hn3 : ¬ (n : Int) > 65536 := by omega
  go_wp2_with fail
  refine (spClone_s g x H 1 2 rfl rfl HX.out).mono ?_
  rintro e w2 ⟨g', rfl, H1⟩
  replace H : St w F w2 (lay [led l r, .blk g 111 x.vs, .blk g' 111 x.vs]) := H1.push_mk rfl
  clear H1 c0 c1
  unfold lptr
  have HE := Lib.hid (kmEnd_ok B HX.out HS.out)
  cases xof with
  | false =>
    have HB2 : Hid (8 * (n : Int) = (B : Int)) := by unfold Hid; rw [HBB.out]; rfl
    clear HBB
    go_wp2_with fail
    rw [HB2.out]
    refine (right_s (B : Int) w2 (by omega)).mono ?_
    rintro e w3 ⟨v3, rfl, ho, hb3⟩
    unfold OwnB at ho
    replace H := (H.pushRow 3 rfl hb3 ho).push_mk rfl
    clear ho hb3
    obtain ⟨A3, c3, rfl, -, -⟩ := row_form (H.row 3 rfl)
    go_wp2_with fail
    refine (spWrite_s l r m b g' x A3 (rightI (B : Int)).length c3 (rightI (B : Int)) H 0 2 (by omega) rfl rfl HG.out (by omega) (by omega) HX.out HS.out (fun w' X Y h => h.rd 3 rfl) (by have := HRL.out; omega)).mono ?_
    rintro e w4 ⟨rfl, H1⟩
    rw [upd_laid (by simp), upd_laid (by simp)] at H1
    replace H : St w F w4 (lay [led l (noteN r 3 200 ((x.p + (rightI (B : Int)).length) / x.r)), .blk g 111 x.vs, .blk g' 111 (kmEnd x B).vs]) := H1.front 3
    clear H1
    go_wp2_with fail
    refine (spRead_s l _ (m + 1) (b + ((x.p + (rightI (B : Int)).length) / x.r : Nat)) g' (kmEnd x B) n (n : Int) rfl H 0 2 3 (by omega) rfl rfl rfl (HG.out.noteN 3 200 _) (by omega) (by have := HQ1.out; omega) HE.out.1 hn).mono ?_
    rintro e w5 ⟨v5, rfl, H1⟩
    rw [upd_laid (by simp), upd_laid (by simp), noteN_noteN] at H1
    replace H1 := H1.push_mk rfl
    clear H
    have H : St w F w5 (lay [led l (noteN r 3 200 (kmSumN x n B)), .blk g 111 x.vs, .row 5 1 v5 n ((kmTag x n B).map vb)]) := H1.permS [0, 1, 3] 3 rfl (by decide) (fun i hi => by
      match i, hi with
      | 0, _ => rfl
      | 1, _ => rfl
      | 2, _ => rfl)
    clear H1
    go_wp2
    go_ret2
    exact ⟨_, rfl, St.two_more HIJ.out HI.out HJ.out HKK.out HB.out H⟩
  | true =>
    have HB2 : Hid ((0 : Int) = (B : Int)) := by unfold Hid; rw [HBB.out]; rfl
    clear HBB
    go_wp2_with fail
    rw [HB2.out]
    refine (right_s (B : Int) w2 (by omega)).mono ?_
    rintro e w3 ⟨v3, rfl, ho, hb3⟩
    unfold OwnB at ho
    replace H := (H.pushRow 3 rfl hb3 ho).push_mk rfl
    clear ho hb3
    obtain ⟨A3, c3, rfl, -, -⟩ := row_form (H.row 3 rfl)
    go_wp2_with fail
    refine (spWrite_s l r m b g' x A3 (rightI (B : Int)).length c3 (rightI (B : Int)) H 0 2 (by omega) rfl rfl HG.out (by omega) (by omega) HX.out HS.out (fun w' X Y h => h.rd 3 rfl) (by have := HRL.out; omega)).mono ?_
    rintro e w4 ⟨rfl, H1⟩
    rw [upd_laid (by simp), upd_laid (by simp)] at H1
    replace H : St w F w4 (lay [led l (noteN r 3 200 ((x.p + (rightI (B : Int)).length) / x.r)), .blk g 111 x.vs, .blk g' 111 (kmEnd x B).vs]) := H1.front 3
    clear H1
    go_wp2_with fail
    refine (spRead_s l _ (m + 1) (b + ((x.p + (rightI (B : Int)).length) / x.r : Nat)) g' (kmEnd x B) n (n : Int) rfl H 0 2 3 (by omega) rfl rfl rfl (HG.out.noteN 3 200 _) (by omega) (by have := HQ1.out; omega) HE.out.1 hn).mono ?_
    rintro e w5 ⟨v5, rfl, H1⟩
    rw [upd_laid (by simp), upd_laid (by simp), noteN_noteN] at H1
    replace H1 := H1.push_mk rfl
    clear H
    have H : St w F w5 (lay [led l (noteN r 3 200 (kmSumN x n B)), .blk g 111 x.vs, .row 5 1 v5 n ((kmTag x n B).map vb)]) := H1.permS [0, 1, 3] 3 rfl (by decide) (fun i hi => by
      match i, hi with
      | 0, _ => rfl
      | 1, _ => rfl
      | 2, _ => rfl)
    clear H1
    go_wp2
    go_ret2
    exact ⟨_, rfl, St.two_more HIJ.out HI.out HJ.out HKK.out HB.out H⟩

set_option maxHeartbeats 4000000 in
theorem kmNew_s (l : Value) (r : Option (List RunT)) (m : Nat) (b : Int) (S : Int) (R : Nat) (hS : (S = 128 ∧ R = 168) ∨ (S = 256 ∧ R = 136)) (A B : Option Addr) (n nc c d : Nat) (key cus : List UInt8) (H : St w0 F0 w E) (i k1 k2 : Nat) (hi : E i = some (led l r)) (hk1 : E k1 = none) (hk2 : E k2 = none) (hkk : k1 ≠ k2) (hg : LW r m b) (hm : m ≤ 99999999) (hb : b ≤ 100000000000000000)
    (hA : ∀ w' X, St w0 F0 w' (upd E i X) → Rd w' 1 A n (key.map vb)) (hB : ∀ w' X, St w0 F0 w' (upd E i X) → Rd w' 1 B nc (cus.map vb)) (hn : n ≤ 1900000) (hnc : nc ≤ 1900000) :
    Calls Try.prog 24 #[l, .int .i64 S, .slice A n c, .slice B nc d] w fun e w' => ∃ gm g, e = .returned (.tuple #[lptr gm, .int .i64 0]) ∧ St w0 F0 w' (upd (upd (upd E i (led l (noteN r 3 200 (kmN R key cus)))) k2 (.blk g 111 (kmSp R key cus).vs)) k1 (.blk gm 79 (macV g S))) := by
  have hlk : key.length = n := by have h := (hA w _ (by rw [upd_id hi]; exact H)).1; simpa using h
  have hlc : cus.length = nc := by have h := (hB w _ (by rw [upd_id hi]; exact H)).1; simpa using h
  obtain ⟨F, HF, -, -, hback⟩ := H.frame1 i hi
  have HBK := Lib.hid hback
  have HRA : Hid (∀ w' X L, St w F w' (lay (X :: L)) → Rd w' 1 A n (key.map vb)) := fun w' X L h => hA w' X (hback w' X ((h.front 1).to1 rfl))
  have HRB : Hid (∀ w' X L, St w F w' (lay (X :: L)) → Rd w' 1 B nc (cus.map vb)) := fun w' X L h => hB w' X (hback w' X ((h.front 1).to1 rfl))
  have HI := Lib.hid hi
  have HK1 := Lib.hid hk1
  have HK2 := Lib.hid hk2
  have HKK := Lib.hid hkk
  have HG := Lib.hid hg
  have HS := Lib.hid hS
  have hR8 : 8 ≤ R := by omega
  have hR9 : R ≤ 192 := by omega
  have hRE : Hid (padE (R : Int) = 0) := by unfold Hid padE; rw [if_pos ⟨by omega, by omega⟩]
  have hSTR := strB_le (l := key) (by omega)
  have hPAD := padI_le (l := strB key) (W := (R : Int)) (by omega) (by omega) (by omega)
  have HBO := Lib.hid (beginSp_ok kmacB cus hR8 hR9)
  have H : St w F w (lay [led l r]) := HF.as1
  clear hback hi hk1 hk2 hkk hg hS hA hB HF
  have hcv := fun (w : World) (C : Array Value) (n c : Nat) => Lib.run_convert_bytes_const (P := Try.prog) w 22 5 C n c Try.underlying22 Try.underlying5
  go_enter Try.func24, Try.ntmps24
  go_wp2_with fail
  refine absorb_calls (H.litAt 1 rfl w.heap.size rfl _ _ _ |>.push_mk rfl) ?_
  clear H
  intro w1 H
  generalize w.heap.size = gL at H ⊢
  replace H : St w F w1 (lay [led l r, .lit gL 5 (kmacB.map vb) (4, 5)]) := H
  refine (shBegin_s l r m b S R HS.out (some ⟨gL, 0, none⟩) B 4 nc 4 d kmacB cus H 0 2 rfl rfl HG.out (by omega) (by omega) (fun w' X h => h.rdLit 1 rfl 1 4 rfl) (fun w' X h => HRB.out w' X _ (by rw [upd_laid (by simp)] at h; exact h)) (by omega) (by omega)).mono ?_
  rintro e w2 ⟨g, rfl, H1⟩
  rw [upd_laid (by simp)] at H1
  replace H : St w F w2 (lay [led l (noteN r 3 200 (beginN R kmacB cus)), .lit gL 5 (kmacB.map vb) (4, 5), .blk g 111 (beginSp R kmacB cus).vs]) := H1.push_mk rfl
  clear H1
  unfold lptr
  go_wp2_with fail
  refine (string_s A n c key w2 (HRA.out _ _ _ H) (by omega)).mono ?_
  rintro e w3 ⟨v3, rfl, ho, hb3⟩
  unfold OwnB at ho
  replace H := (H.pushRow 3 rfl hb3 ho).push_mk rfl
  clear ho hb3
  obtain ⟨A3, c3, rfl, -, -⟩ := row_form (H.row 3 rfl)
  go_wp2_with fail
  refine (spRate_s g (beginSp R kmacB cus) H 2 rfl HBO.out.1).mono ?_
  rintro e wx ⟨rfl, rfl⟩
  rw [HBO.out.2.2.1]
  go_wp2_with fail
  refine (pad_s A3 (strB key).length c3 (strB key) (R : Int) w3 (H.rd 3 rfl) (by omega)).mono ?_
  rintro e w4 ⟨v4, rfl, ho, hb4⟩
  unfold OwnB at ho
  rw [hRE.out]
  replace H := (H.pushRow 4 rfl hb4 ho).push_mk rfl
  clear ho hb4
  obtain ⟨A4, c4, rfl, -, -⟩ := row_form (H.row 4 rfl)
  have hq1 : beginN R kmacB cus ≤ 20000000 := by
    unfold beginN
    split
    · omega
    · refine Nat.le_trans (Nat.div_le_self _ _) ?_
      have h1 := strB_le (l := kmacB) (by decide)
      have h2 := strB_le (l := cus) (by omega)
      exact Nat.le_trans (padI_le (by omega) (by omega) (by rw [List.length_append]; omega)) (by omega)
  have HPD : Hid ((padI (strB key) (R : Int)).length ≤ 10001000) := hPAD
  clear hPAD hSTR
  go_wp2_with fail
  refine (spWrite_s l _ (m + 1) (b + (beginN R kmacB cus : Nat)) g (beginSp R kmacB cus) A4 (padI (strB key) (R : Int)).length c4 (padI (strB key) (R : Int)) H 0 2 (by omega) rfl rfl (HG.out.noteN 3 200 _) (by omega) (by omega) HBO.out.1 HBO.out.2.1 (fun w' X Y h => h.rd 4 rfl) (by have := HPD.out; omega)).mono ?_
  rintro e w5 ⟨rfl, H1⟩
  rw [upd_laid (by simp), upd_laid (by simp), noteN_noteN, HBO.out.2.2.1] at H1
  replace H : St w F w5 (lay [led l (noteN r 3 200 (kmN R key cus)), .lit gL 5 (kmacB.map vb) (4, 5), .blk g 111 (kmSp R key cus).vs]) := H1.front 3
  clear H1
  go_wp2
  go_ret2
  have H2 := (H.allocAt 3 rfl w5.heap.size rfl #[lptr g, .int .i64 S] 79).push_mk rfl
  refine ⟨_, _, rfl, St.one_two HI.out HK1.out HK2.out HKK.out HBK.out (H2.permS (L' := [led l (noteN r 3 200 (kmN R key cus)), .blk g 111 (kmSp R key cus).vs, .blk w5.heap.size 79 (macV g S)]) [0, 2, 3] 3 rfl (by decide) (fun i hi => by
    match i, hi with
    | 0, _ => rfl
    | 1, _ => rfl
    | 2, _ => rfl))⟩

theorem kmNew_no (l v1 v2 : Value) (S : Int) (hS : S ≠ 128 ∧ S ≠ 256) (w : World) :
    Calls Try.prog 24 #[l, .int .i64 S, v1, v2] w fun e w' => e = .returned (.tuple #[.pointer none, .int .i64 2]) ∧ Below w.heap.size w w' := by
  have H := St.start_lay w []
  have HS := Lib.hid hS
  clear hS
  have hcv := fun (w : World) (C : Array Value) (n c : Nat) => Lib.run_convert_bytes_const (P := Try.prog) w 22 5 C n c Try.underlying22 Try.underlying5
  go_enter Try.func24, Try.ntmps24
  go_wp2_with fail
  refine absorb_calls (H.litAt 0 rfl w.heap.size rfl _ _ _ |>.push_mk rfl) ?_
  clear H
  intro w1 H
  generalize w.heap.size = gL at H ⊢
  refine (shBegin_no l S _ v2 HS.out w1).mono ?_
  rintro e w2 ⟨rfl, rfl⟩
  go_wp2
  go_ret2
  exact ⟨rfl, H.below⟩

theorem kmN_le {R : Nat} (key cus : List UInt8) (h : 8 ≤ R) (h' : R ≤ 192) (hk : key.length ≤ 1900000) (hc : cus.length ≤ 1900000) : kmN R key cus ≤ 40000000 := by
  have hSTR := strB_le (l := key) (by omega)
  have hPAD := padI_le (l := strB key) (W := (R : Int)) (by omega) (by omega) (by omega)
  have hb : beginN R kmacB cus ≤ 20000000 := by
    unfold beginN
    split
    · omega
    · refine Nat.le_trans (Nat.div_le_self _ _) ?_
      have h1 := strB_le (l := kmacB) (by decide)
      have h2 := strB_le (l := cus) (by omega)
      exact Nat.le_trans (padI_le (by omega) (by omega) (by rw [List.length_append]; omega)) (by omega)
  obtain ⟨-, -, h3, h4⟩ := beginSp_ok kmacB cus h h'
  have h5 := Nat.div_le_self ((beginSp R kmacB cus).p + (kmPad R key).length) R
  have h6 : (kmPad R key).length ≤ 10001000 := hPAD
  unfold kmN
  omega

set_option maxHeartbeats 4000000 in
theorem kmTag_s (l : Value) (r : Option (List RunT)) (m : Nat) (b : Int) (S : Int) (R : Nat) (hS : (S = 128 ∧ R = 168) ∨ (S = 256 ∧ R = 136)) (A B C : Option Addr) (n nc np c d cp : Nat) (key cus p : List UInt8) (N : Nat) (xof : Bool) (H : St w0 F0 w E) (i k : Nat) (hi : E i = some (led l r)) (hk : E k = none) (hg : LW r m b) (hm : m ≤ 9999999) (hb : b ≤ 10000000000000000)
    (hA : ∀ w' X, St w0 F0 w' (upd E i X) → Rd w' 1 A n (key.map vb)) (hB : ∀ w' X, St w0 F0 w' (upd E i X) → Rd w' 1 B nc (cus.map vb)) (hC : ∀ w' X, St w0 F0 w' (upd E i X) → Rd w' 1 C np (p.map vb)) (hn : n ≤ 1900000) (hnc : nc ≤ 1900000) (hnp : np ≤ 100000000) (hN : N ≤ 65536) :
    Calls Try.prog 13 #[l, .int .i64 S, .slice A n c, .slice B nc d, .slice C np cp, .int .i64 (N : Int), .bool xof] w fun e w' => ∃ v, e = .returned (.tuple #[v, .int .i64 0]) ∧ St w0 F0 w' (upd (upd E i (led l (noteN r 3 200 (kmTagN R key cus p N xof)))) k (.row 5 1 v N ((kmTagB R key cus p N xof).map vb))) := by
  have hlp : p.length = np := by have h := (hC w _ (by rw [upd_id hi]; exact H)).1; simpa using h
  have hlcc : cus.length = nc := by have h := (hB w _ (by rw [upd_id hi]; exact H)).1; simpa using h
  have hlkk : key.length ≤ 1900000 := by have h := (hA w _ (by rw [upd_id hi]; exact H)).1; have h2 : key.length = n := (by simpa using h); rw [h2]; exact hn
  have HLP := Lib.hid hlp
  obtain ⟨F, HF, -, -, hback⟩ := H.frame1 i hi
  have HBK := Lib.hid hback
  have HRA : Hid (∀ w' X L, St w F w' (lay (X :: L)) → Rd w' 1 A n (key.map vb)) := fun w' X L h => hA w' X (hback w' X ((h.front 1).to1 rfl))
  have HRB : Hid (∀ w' X L, St w F w' (lay (X :: L)) → Rd w' 1 B nc (cus.map vb)) := fun w' X L h => hB w' X (hback w' X ((h.front 1).to1 rfl))
  have HRC : Hid (∀ w' X L, St w F w' (lay (X :: L)) → Rd w' 1 C np (p.map vb)) := fun w' X L h => hC w' X (hback w' X ((h.front 1).to1 rfl))
  have HI := Lib.hid hi
  have HK := Lib.hid hk
  have HG := Lib.hid hg
  have HS := Lib.hid hS
  have hS0 : (S == 0) = false := by simp; omega
  have hR8 : 8 ≤ R := by omega
  have hR9 : R ≤ 192 := by omega
  have HX := Lib.hid (kmSp_ok key cus hR8 hR9)
  have hkb : Hid (kmN R key cus ≤ 40000000) := kmN_le key cus (by omega) (by omega) hlkk (by rw [hlcc]; omega)
  have H : St w F w (lay [led l r]) := HF.as1
  clear hback hi hk hg hS hA hB hC HF hlp
  have hN0 : decide ((N : Int) < 0) = false := by simp
  have hN1 : decide ((N : Int) > 65536) = false := by simp; omega
  go_enter Try.func13, Try.ntmps13
  go_wp2_with fail
  refine (kmNew_s l r m b S R HS.out A B n nc c d key cus H 0 2 1 rfl rfl rfl (by omega) HG.out (by omega) (by omega) (fun w' X h => HRA.out w' X _ (by rw [upd_laid (by simp)] at h; exact h)) (fun w' X h => HRB.out w' X _ (by rw [upd_laid (by simp)] at h; exact h)) hn hnc).mono ?_
  rintro e w1 ⟨gm, g, rfl, H1⟩
  clear H
  have H : St w F w1 (lay [led l (noteN r 3 200 (kmN R key cus)), .blk g 111 (kmSp R key cus).vs, .blk gm 79 (macV g S)]) := H1.env (fun n => by
    match n with
    | 0 => simp [upd, lay]
    | 1 => simp [upd, lay]
    | 2 => simp [upd, lay]
    | n + 3 => simp [upd, lay])
  clear H1
  have hc1 : Hid (((kmSp R key cus).p + np) / R ≤ 100000200) := by have h1 := Nat.div_le_self ((kmSp R key cus).p + np) R; have h2 := HX.out.2.2.2; unfold Hid; omega
  have HY : Hid (((kmSp R key cus).write p).Ok) := (Sp.write_ok p HX.out.1 (by rw [HX.out.2.2.1]; exact HX.out.2.2.2)).1
  have HYS : Hid (((kmSp R key cus).write p).s = false) := by have h := (Sp.write_r p (kmSp R key cus)).2.2; unfold Hid; rw [h]; exact HX.out.2.1
  have HS0 := Lib.hid hS0
  clear hS0
  unfold lptr
  go_wp2_with fail
  refine (kmWrite_s l _ (m + 1) (b + (kmN R key cus : Nat)) gm g S HS0.out (kmSp R key cus) C np cp p H 0 2 1 (by omega) rfl rfl rfl (HG.out.noteN 3 200 _) (by omega) (by have := hkb.out; omega) HX.out.1 HX.out.2.1 (fun w' X Y h => HRC.out w' X _ (by rw [upd_laid (by simp), upd_laid (by simp)] at h; exact h)) (by omega)).mono ?_
  rintro e w2 ⟨rfl, H1⟩
  rw [upd_laid (by simp), upd_laid (by simp), noteN_noteN, HX.out.2.2.1] at H1
  clear H
  have H : St w F w2 (lay [led l (noteN r 3 200 (kmN R key cus + ((kmSp R key cus).p + np) / R)), .blk g 111 ((kmSp R key cus).write p).vs, .blk gm 79 (macV g S)]) := H1
  clear H1
  go_wp2_with fail
  refine (kmSum_s l _ (m + 1) (b + (kmN R key cus + ((kmSp R key cus).p + np) / R : Nat)) gm g S HS0.out ((kmSp R key cus).write p) N (N : Int) rfl xof H 0 2 1 3 (by omega) rfl rfl rfl rfl (HG.out.noteN 3 200 _) (by omega) (by have := hkb.out; have := hc1.out; omega) HY.out HYS.out hN).mono ?_
  rintro e w3 ⟨v, rfl, H1⟩
  rw [upd_laid (by simp), upd_laid (by simp), noteN_noteN] at H1
  replace H1 := H1.push_mk rfl
  clear H
  have HTN : Hid (kmTagN R key cus p N xof = kmN R key cus + ((kmSp R key cus).p + np) / R + kmSumN ((kmSp R key cus).write p) N (kmBits N xof)) := by unfold Hid kmTagN; rw [HLP.out, Nat.add_assoc]
  have H : St w F w3 (lay [led l (noteN r 3 200 (kmTagN R key cus p N xof)), .row 5 1 v N ((kmTagB R key cus p N xof).map vb)]) := by rw [HTN.out]; exact H1.permS [0, 3] 2 rfl (by decide) (fun i hi => by
    match i, hi with
    | 0, _ => rfl
    | 1, _ => rfl)
  clear H1
  go_wp2
  go_ret2
  exact ⟨_, rfl, St.one_more HI.out HK.out HBK.out H⟩

set_option maxHeartbeats 1000000 in
theorem kmTag_len (l v1 v2 v3 : Value) (S N : Int) (hN : N < 0 ∨ N > 65536) (xof : Bool) (w : World) :
    Calls Try.prog 13 #[l, .int .i64 S, v1, v2, v3, .int .i64 N, .bool xof] w fun e w' => e = .returned (.tuple #[.slice none 0 0, .int .i64 2]) ∧ w' = w := by
  by_cases h0 : N < 0
  · have hN0 : decide (N < 0) = true := by simpa using h0
    clear hN h0
    go_enter Try.func13, Try.ntmps13
    go_wp2
    go_ret2
    exact ⟨rfl, rfl⟩
  · have hN0 : decide (N < 0) = false := by simpa using h0
    have hN1 : decide (N > 65536) = true := by simp; omega
    clear hN h0
    go_enter Try.func13, Try.ntmps13
    go_wp2
    go_ret2
    exact ⟨rfl, rfl⟩

set_option maxHeartbeats 1000000 in
theorem kmTag_no (l v1 v2 v3 : Value) (S N : Int) (hS : S ≠ 128 ∧ S ≠ 256) (hN : 0 ≤ N ∧ N ≤ 65536) (xof : Bool) (w : World) :
    Calls Try.prog 13 #[l, .int .i64 S, v1, v2, v3, .int .i64 N, .bool xof] w fun e w' => e = .returned (.tuple #[.slice none 0 0, .int .i64 2]) ∧ Below w.heap.size w w' := by
  have hN0 : decide (N < 0) = false := by simp; omega
  have hN1 : decide (N > 65536) = false := by simp; omega
  have HS := Lib.hid hS
  clear hS hN
  go_enter Try.func13, Try.ntmps13
  go_wp2_with fail
  refine (kmNew_no l v1 v2 S HS.out w).mono ?_
  rintro e w1 ⟨rfl, hb⟩
  have HB := Lib.hid hb
  clear hb
  go_wp2
  go_ret2
  exact ⟨rfl, HB.out⟩
end
end Go.Proofs.Ythoopaknldkclaa

namespace Go.Proofs.Ythoopaknldkclaa
open Go.RowKit
set_option linter.unusedVariables false
set_option maxRecDepth 100000

attribute [local irreducible] permB kBytes kPerm kFrom

/-- nil, or a Mac that nobody made -/
def RkNo (w : World) (s : Value) : Prop := s = .pointer none ∨ ∃ g, s = lptr g ∧ w.cell? ⟨g, 0, none⟩ = some (.pointer none)

section
variable {w0 w : World} {F0 : List Nat} {E : Env}

theorem rkNone_no (gm g : Nat) (w : World) (hc : w.cell? ⟨gm, 0, none⟩ = some (lptr g)) :
    Calls Try.prog 65 #[lptr gm] w fun e w' => e = .returned (.bool false) ∧ w = w' := by
  unfold lptr at hc ⊢
  go_enter Try.func65, Try.ntmps65
  go_wp2
  go_ret
  exact ⟨rfl, rfl⟩
theorem rkNone_nil (w : World) : Calls Try.prog 65 #[.pointer none] w fun e w' => e = .returned (.bool true) ∧ w = w' := by
  go_enter Try.func65, Try.ntmps65
  go_wp2
  go_ret
  exact ⟨rfl, rfl⟩
theorem rkNone_off (g : Nat) (w : World) (hc : w.cell? ⟨g, 0, none⟩ = some (.pointer none)) :
    Calls Try.prog 65 #[lptr g] w fun e w' => e = .returned (.bool true) ∧ w = w' := by
  unfold lptr
  go_enter Try.func65, Try.ntmps65
  go_wp2
  go_ret
  exact ⟨rfl, rfl⟩

theorem rkSum_none (l : Value) (n : Int) (b : Bool) (s : Value) (h : RkNo w s) : Calls Try.prog 42 #[s, l, .int .i64 n, .bool b] w fun e w' => e = .returned (.tuple #[.slice none 0 0, .int .i64 1]) ∧ w = w' := by
  rcases h with rfl | ⟨g, rfl, c0⟩
  · go_enter Try.func42, Try.ntmps42
    go_wp2_with fail
    refine (rkNone_nil w).mono ?_
    rintro e w1 ⟨rfl, rfl⟩
    go_wp2
    go_ret2
    exact ⟨rfl, rfl⟩
  · go_enter Try.func42, Try.ntmps42
    go_wp2_with fail
    refine (rkNone_off g w c0).mono ?_
    rintro e w1 ⟨rfl, rfl⟩
    go_wp2
    go_ret2
    exact ⟨rfl, rfl⟩

theorem rkClone_none (s : Value) (h : RkNo w s) : Calls Try.prog 56 #[s] w fun e w' => e = .returned (.tuple #[.pointer none, .int .i64 1]) ∧ w = w' := by
  rcases h with rfl | ⟨g, rfl, c0⟩
  · go_enter Try.func56, Try.ntmps56
    go_wp2_with fail
    refine (rkNone_nil w).mono ?_
    rintro e w1 ⟨rfl, rfl⟩
    go_wp2
    go_ret2
    exact ⟨rfl, rfl⟩
  · go_enter Try.func56, Try.ntmps56
    go_wp2_with fail
    refine (rkNone_off g w c0).mono ?_
    rintro e w1 ⟨rfl, rfl⟩
    go_wp2
    go_ret2
    exact ⟨rfl, rfl⟩

theorem rkWrite_none (l v s : Value) (h : RkNo w s) : Calls Try.prog 41 #[s, l, v] w fun e w' => e = .returned (.int .i64 1) ∧ w = w' := by
  rcases h with rfl | ⟨g, rfl, c0⟩
  · go_enter Try.func41, Try.ntmps41
    go_wp2_with fail
    refine (rkNone_nil w).mono ?_
    rintro e w1 ⟨rfl, rfl⟩
    go_wp2
    go_ret
    exact ⟨rfl, rfl⟩
  · go_enter Try.func41, Try.ntmps41
    go_wp2_with fail
    refine (rkNone_off g w c0).mono ?_
    rintro e w1 ⟨rfl, rfl⟩
    go_wp2
    go_ret
    exact ⟨rfl, rfl⟩

theorem rkWipe_none (l s : Value) (h : RkNo w s) : Calls Try.prog 57 #[s, l] w fun e w' => e = .returned (.int .i64 1) ∧ w = w' := by
  rcases h with rfl | ⟨g, rfl, c0⟩
  · go_enter Try.func57, Try.ntmps57
    go_wp2_with fail
    refine (rkNone_nil w).mono ?_
    rintro e w1 ⟨rfl, rfl⟩
    go_wp2
    go_ret
    exact ⟨rfl, rfl⟩
  · go_enter Try.func57, Try.ntmps57
    go_wp2_with fail
    refine (rkNone_off g w c0).mono ?_
    rintro e w1 ⟨rfl, rfl⟩
    go_wp2
    go_ret
    exact ⟨rfl, rfl⟩

theorem rkForm_none (s : Value) (h : RkNo w s) : Calls Try.prog 58 #[s] w fun e w' => e = .returned (.slice none 0 0) ∧ w = w' := by
  rcases h with rfl | ⟨g, rfl, c0⟩
  · go_enter Try.func58, Try.ntmps58
    go_wp2_with fail
    refine (rkNone_nil w).mono ?_
    rintro e w1 ⟨rfl, rfl⟩
    go_wp2
    go_ret
    exact ⟨rfl, rfl⟩
  · go_enter Try.func58, Try.ntmps58
    go_wp2_with fail
    refine (rkNone_off g w c0).mono ?_
    rintro e w1 ⟨rfl, rfl⟩
    go_wp2
    go_ret
    exact ⟨rfl, rfl⟩

theorem rkStrength_none (s : Value) (h : RkNo w s) : Calls Try.prog 59 #[s] w fun e w' => e = .returned (.int .i64 0) ∧ w = w' := by
  rcases h with rfl | ⟨g, rfl, c0⟩
  · go_enter Try.func59, Try.ntmps59
    go_wp2_with fail
    refine (rkNone_nil w).mono ?_
    rintro e w1 ⟨rfl, rfl⟩
    go_wp2
    go_ret
    exact ⟨rfl, rfl⟩
  · go_enter Try.func59, Try.ntmps59
    go_wp2_with fail
    refine (rkNone_off g w c0).mono ?_
    rintro e w1 ⟨rfl, rfl⟩
    go_wp2
    go_ret
    exact ⟨rfl, rfl⟩

theorem rkStrength_s (gm g : Nat) (S : Int) (H : St w0 F0 w E) (j : Nat) (hj : E j = some (.blk gm 105 (macV g S))) :
    Calls Try.prog 59 #[lptr gm] w fun e w' => e = .returned (.int .i64 S) ∧ w = w' := by
  have c0 := H.cell j hj (o := 0) rfl
  have c1 := H.cell j hj (o := 1) rfl
  go_enter Try.func59, Try.ntmps59
  go_wp2_with fail
  refine (rkNone_no gm _ w c0).mono ?_
  rintro e w1 ⟨rfl, rfl⟩
  unfold lptr at c1 ⊢
  go_wp2
  go_ret
  exact ⟨rfl, rfl⟩

theorem rkForm_s (gm g : Nat) (S : Int) (hS : (S == 0) = false) (x : Sp) (H : St w0 F0 w E) (j j2 k : Nat) (hj : E j = some (.blk gm 105 (macV g S))) (hj2 : E j2 = some (.blk g 118 x.vsR)) (hk : E k = none) (hx : x.Ok) :
    Calls Try.prog 58 #[lptr gm] w fun e w' => ∃ v, e = .returned v ∧ St w0 F0 w' (upd E k (.row 5 1 v 203 (x.form.map vb))) := by
  have c0 := H.cell j hj (o := 0) rfl
  have c1 := H.cell j hj (o := 1) rfl
  have HJ := Lib.hid hj2
  have HK := Lib.hid hk
  clear hj hj2 hk
  go_enter Try.func58, Try.ntmps58
  go_wp2_with fail
  refine (rkNone_no gm _ w c0).mono ?_
  rintro e w1 ⟨rfl, rfl⟩
  unfold lptr at c0 ⊢
  go_wp2_with fail
  refine (rsForm_s g x H j2 k HJ.out HK.out hx).mono ?_
  rintro e w2 ⟨v, rfl, H2⟩
  go_wp2
  go_ret
  exact ⟨_, rfl, H2⟩

theorem rkWrite_s (l : Value) (r : Option (List RunT)) (m : Nat) (b : Int) (gm g : Nat) (S : Int) (hS : (S == 0) = false) (x : Sp) (A : Option Addr) (n c : Nat) (q : List UInt8) (H : St w0 F0 w E) (i j j2 : Nat) (hij : i ≠ j2) (hi : E i = some (ledR l r)) (hj : E j = some (.blk gm 105 (macV g S))) (hj2 : E j2 = some (.blk g 118 x.vsR)) (hg : LW r m b) (hm : m ≤ 999999999999) (hb : b ≤ 4000000000000000000) (hx : x.Ok) (hs : x.s = false)
    (hR : ∀ w' X Y, St w0 F0 w' (upd (upd E i X) j2 Y) → Rd w' 1 A n (q.map vb)) (hn : n ≤ 281474976710656) :
    Calls Try.prog 41 #[lptr gm, l, .slice A n c] w fun e w' => e = .returned (.int .i64 0) ∧ St w0 F0 w' (upd (upd E i (ledR l (noteN r 3 200 ((x.p + n) / x.r)))) j2 (.blk g 118 (x.write q).vsR)) := by
  have c0 := H.cell j hj (o := 0) rfl
  have c1 := H.cell j hj (o := 1) rfl
  have hc := rsWrite_s l r m b g x A n c q H i j2 hij hi hj2 hg hm hb hx hs hR hn
  have HC := Lib.hid hc
  clear hc hi hj hj2 hR hg hm hb H hs hn hij hx
  go_enter Try.func41, Try.ntmps41
  go_wp2_with fail
  refine (rkNone_no gm _ w c0).mono ?_
  rintro e w1 ⟨rfl, rfl⟩
  unfold lptr at c0 ⊢
  go_wp2_with fail
  refine HC.out.mono ?_
  rintro e w2 ⟨rfl, H2⟩
  go_wp2
  go_ret
  exact ⟨rfl, H2⟩

set_option maxHeartbeats 1000000 in
theorem rkClone_s (gm g : Nat) (S : Int) (hS : (S == 0) = false) (x : Sp) (H : St w0 F0 w E) (j j2 k1 k2 : Nat) (hj : E j = some (.blk gm 105 (macV g S))) (hj2 : E j2 = some (.blk g 118 x.vsR)) (hk1 : E k1 = none) (hk2 : E k2 = none) (hkk : k1 ≠ k2) (hx : x.Ok) :
    Calls Try.prog 56 #[lptr gm] w fun e w' => ∃ gm' g', e = .returned (.tuple #[lptr gm', .int .i64 0]) ∧ St w0 F0 w' (upd (upd E k2 (.blk g' 118 x.vsR)) k1 (.blk gm' 105 (macV g' S))) := by
  have c0 := H.cell j hj (o := 0) rfl
  have c1 := H.cell j hj (o := 1) rfl
  have HJ := Lib.hid hj
  have HJ2 := Lib.hid hj2
  have HK1 := Lib.hid hk1
  have HK2 := Lib.hid hk2
  have HKK := Lib.hid hkk
  clear hj hj2 hk1 hk2 hkk
  go_enter Try.func56, Try.ntmps56
  go_wp2_with fail
  refine (rkNone_no gm _ w c0).mono ?_
  rintro e w1 ⟨rfl, rfl⟩
  unfold lptr at c0 ⊢
  go_wp2_with fail
  refine (rsClone_s g x H j2 k2 HJ2.out HK2.out hx).mono ?_
  rintro e w2 ⟨g', rfl, H2⟩
  have hjk : upd E k2 (.blk g' 118 x.vsR) j = some (.blk gm 105 (macV g S)) := by
    have : j ≠ k2 := fun e => by have h := HJ.out; rw [e, HK2.out] at h; cases h
    simp [upd, this, HJ.out]
  have d1 := H2.cell j hjk (o := 1) rfl
  clear c0 c1 H hjk
  unfold lptr
  go_wp2
  go_ret2
  exact ⟨_, _, rfl, H2.allocAt k1 (by simp [upd, HKK.out, HK1.out]) w2.heap.size rfl #[lptr g', .int .i64 S] 105⟩

theorem rmac_size : (Try.prog.info? 105).map (·.size) = some 2 := by kernel_rfl
theorem zero_rmac (w : World) : (zeroValue 105).run Try.prog w = .ok (.agg #[.pointer none, .int .i64 0]) w := by kernel_rfl

set_option maxHeartbeats 1000000 in
theorem rkWipe_s (l : Value) (r : Option (List RunT)) (m : Nat) (b : Int) (gm g : Nat) (S : Int) (hS : (S == 0) = false) (x : Sp) (H : St w0 F0 w E) (i j j2 : Nat) (hij : i ≠ j2) (hji : j ≠ i) (hjj : j ≠ j2) (hi : E i = some (ledR l r)) (hj : E j = some (.blk gm 105 (macV g S))) (hj2 : E j2 = some (.blk g 118 x.vsR)) (hg : LW r m b) (hm : m ≤ 999999999999) (hb : b ≤ 4000000000000000000) (hx : x.Ok) :
    Calls Try.prog 57 #[lptr gm, l] w fun e w' => e = .returned (.int .i64 0) ∧ St w0 F0 w' (upd (upd (upd E i (ledR l (noteN r 8 203 1))) j2 (.blk g 118 spZeroR)) j (.blk gm 105 [.pointer none, .int .i64 0])) := by
  have c0 := H.cell j hj (o := 0) rfl
  have c1 := H.cell j hj (o := 1) rfl
  have hc := rsWipe_s l r m b g x H i j2 hij hi hj2 hg hm hb hx
  have HC := Lib.hid hc
  have HJ := Lib.hid hj
  have HJI := Lib.hid hji
  have HJJ := Lib.hid hjj
  have hz := zero_rmac
  clear hc hi hj hj2 hg hm hb H hij hx hji hjj
  go_enter Try.func57, Try.ntmps57
  go_wp2_with fail
  refine (rkNone_no gm _ w c0).mono ?_
  rintro e w1 ⟨rfl, rfl⟩
  unfold lptr at c0 ⊢
  go_wp2_with fail
  refine HC.out.mono ?_
  rintro e w2 ⟨rfl, H2⟩
  have hjk : upd (upd E i (ledR l (noteN r 8 203 1))) j2 (.blk g 118 spZeroR) j = some (.blk gm 105 (macV g S)) := by simp [upd, HJI.out, HJJ.out, HJ.out]
  have HJK := Lib.hid hjk
  clear hjk c0 c1
  go_wp2_with (with_reducible refine hold_store 105 (.tmp 15) (.tmp 14) (by rfl) ?_)
  refine Lib.hid ?_
  refine wpList_store_mid rfl 105 (.tmp 15) (.tmp 14) rfl gm 0 #[.pointer none, .int .i64 0] rfl rfl (by have h := H2.there j HJK.out; exact h) (by rw [rmac_size]; rfl) (by kernel_rfl) ?_
  have H4 := H2.storeAll j HJK.out (vs := [.pointer none, .int .i64 0]) rfl
  show wpList Try.prog _ _ [] _ (w2.setCells gm 0 [.pointer none, .int .i64 0])
  simp only [Act.put]
  go_wp2
  go_ret
  exact ⟨rfl, H4⟩

set_option maxHeartbeats 4000000 in
theorem rkSum_s (l : Value) (r : Option (List RunT)) (m : Nat) (b : Int) (gm g : Nat) (S : Int) (hS : (S == 0) = false) (x : Sp) (n : Nat) (N : Int) (hN : N = n) (xof : Bool) (H : St w0 F0 w E) (i j j2 k0 : Nat) (hij : i ≠ j2) (hi : E i = some (ledR l r)) (hj : E j = some (.blk gm 105 (macV g S))) (hj2 : E j2 = some (.blk g 118 x.vsR)) (hk : E k0 = none) (hg : LW r m b) (hm : m ≤ 99999999999) (hb : b ≤ 3000000000000000000) (hx : x.Ok) (hs : x.s = false) (hn : n ≤ 65536) :
    Calls Try.prog 42 #[lptr gm, l, .int .i64 N, .bool xof] w fun e w' => ∃ v, e = .returned (.tuple #[v, .int .i64 0]) ∧ St w0 F0 w' (upd (upd (upd E i (ledR l (noteN r 3 200 (kmSumN x n (kmBits n xof))))) j2 (.blk g 118 x.vsR)) k0 (.row 5 1 v n ((kmTag x n (kmBits n xof)).map vb))) := by
  subst hN
  have c0 := H.cell j hj (o := 0) rfl
  have c1 := H.cell j hj (o := 1) rfl
  obtain ⟨F, HF, -, -, hback⟩ := H.frame2 i j2 hij hi hj2
  have HB := Lib.hid hback
  have HKK := Lib.hid hk
  have HIJ := Lib.hid hij
  have HI := Lib.hid hi
  have HJ := Lib.hid hj2
  have HG := Lib.hid hg
  have HX := Lib.hid hx
  have HS := Lib.hid hs
  have H : St w F w (lay [ledR l r, .blk g 118 x.vsR]) := HF.as2
  obtain ⟨B, hB⟩ : ∃ B, kmBits n xof = B := ⟨_, rfl⟩
  have hBb : B ≤ 524288 := by rw [← hB]; unfold kmBits; split <;> omega
  have HBB : Hid ((B : Int) = if xof then 0 else 8 * (n : Int)) := by unfold Hid; rw [← hB]; unfold kmBits; split <;> omega
  rw [hB]
  have hrl := rightI_le (B : Int) (by omega)
  have hxr := hx.r8
  have hxp := hx.pr
  have hxr2 := hx.r192
  have hq1 : (x.p + (rightI (B : Int)).length) / x.r ≤ 400 := Nat.le_trans (Nat.div_le_self _ _) (by omega)
  have HQ1 := Lib.hid hq1
  have HRL := Lib.hid hrl
  clear hback hi hj hj2 hk hij hg HF hx hs hB hxr hxp hxr2 hq1 hrl
  go_enter Try.func42, Try.ntmps42
  go_wp2_with fail
  refine (rkNone_no gm _ w c0).mono ?_
  rintro e w1 ⟨rfl, rfl⟩
  unfold lptr at c0 ⊢
  have hn0 : decide ((n : Int) < 0) = false := by simp
  have hn1 : decide ((n : Int) > 65536) = false := by simp; omega
  have hn2 : ¬ (n : Int) < 0 := by omega
  have hn3 : ¬ (n : Int) > 65536 := by omega
  go_wp2_with fail
  refine (rsClone_s g x H 1 2 rfl rfl HX.out).mono ?_
  rintro e w2 ⟨g', rfl, H1⟩
  replace H : St w F w2 (lay [ledR l r, .blk g 118 x.vsR, .blk g' 118 x.vsR]) := H1.push_mk rfl
  clear H1 c0 c1
  unfold lptr
  have HE := Lib.hid (kmEnd_ok B HX.out HS.out)
  cases xof with
  | false =>
    have HB2 : Hid (8 * (n : Int) = (B : Int)) := by unfold Hid; rw [HBB.out]; rfl
    clear HBB
    go_wp2_with fail
    rw [HB2.out]
    refine (refRight_s (B : Int) w2 (by omega)).mono ?_
    rintro e w3 ⟨v3, rfl, ho, hb3⟩
    unfold OwnB at ho
    replace H := (H.pushRow 3 rfl hb3 ho).push_mk rfl
    clear ho hb3
    obtain ⟨A3, c3, rfl, -, -⟩ := row_form (H.row 3 rfl)
    go_wp2_with fail
    refine (rsWrite_s l r m b g' x A3 (rightI (B : Int)).length c3 (rightI (B : Int)) H 0 2 (by omega) rfl rfl HG.out (by omega) (by omega) HX.out HS.out (fun w' X Y h => h.rd 3 rfl) (by have := HRL.out; omega)).mono ?_
    rintro e w4 ⟨rfl, H1⟩
    rw [upd_laid (by simp), upd_laid (by simp)] at H1
    replace H : St w F w4 (lay [ledR l (noteN r 3 200 ((x.p + (rightI (B : Int)).length) / x.r)), .blk g 118 x.vsR, .blk g' 118 (kmEnd x B).vsR]) := H1.front 3
    clear H1
    go_wp2_with fail
    refine (rsRead_s l _ (m + 1) (b + ((x.p + (rightI (B : Int)).length) / x.r : Nat)) g' (kmEnd x B) n (n : Int) rfl H 0 2 3 (by omega) rfl rfl rfl (HG.out.noteN 3 200 _) (by omega) (by have := HQ1.out; omega) HE.out.1 hn).mono ?_
    rintro e w5 ⟨v5, rfl, H1⟩
    rw [upd_laid (by simp), upd_laid (by simp), noteN_noteN] at H1
    replace H1 := H1.push_mk rfl
    clear H
    have H : St w F w5 (lay [ledR l (noteN r 3 200 (kmSumN x n B)), .blk g 118 x.vsR, .row 5 1 v5 n ((kmTag x n B).map vb)]) := H1.permS [0, 1, 3] 3 rfl (by decide) (fun i hi => by
      match i, hi with
      | 0, _ => rfl
      | 1, _ => rfl
      | 2, _ => rfl)
    clear H1
    go_wp2
    go_ret2
    exact ⟨_, rfl, St.two_more HIJ.out HI.out HJ.out HKK.out HB.out H⟩
  | true =>
    have HB2 : Hid ((0 : Int) = (B : Int)) := by unfold Hid; rw [HBB.out]; rfl
    clear HBB
    go_wp2_with fail
    rw [HB2.out]
    refine (refRight_s (B : Int) w2 (by omega)).mono ?_
    rintro e w3 ⟨v3, rfl, ho, hb3⟩
    unfold OwnB at ho
    replace H := (H.pushRow 3 rfl hb3 ho).push_mk rfl
    clear ho hb3
    obtain ⟨A3, c3, rfl, -, -⟩ := row_form (H.row 3 rfl)
    go_wp2_with fail
    refine (rsWrite_s l r m b g' x A3 (rightI (B : Int)).length c3 (rightI (B : Int)) H 0 2 (by omega) rfl rfl HG.out (by omega) (by omega) HX.out HS.out (fun w' X Y h => h.rd 3 rfl) (by have := HRL.out; omega)).mono ?_
    rintro e w4 ⟨rfl, H1⟩
    rw [upd_laid (by simp), upd_laid (by simp)] at H1
    replace H : St w F w4 (lay [ledR l (noteN r 3 200 ((x.p + (rightI (B : Int)).length) / x.r)), .blk g 118 x.vsR, .blk g' 118 (kmEnd x B).vsR]) := H1.front 3
    clear H1
    go_wp2_with fail
    refine (rsRead_s l _ (m + 1) (b + ((x.p + (rightI (B : Int)).length) / x.r : Nat)) g' (kmEnd x B) n (n : Int) rfl H 0 2 3 (by omega) rfl rfl rfl (HG.out.noteN 3 200 _) (by omega) (by have := HQ1.out; omega) HE.out.1 hn).mono ?_
    rintro e w5 ⟨v5, rfl, H1⟩
    rw [upd_laid (by simp), upd_laid (by simp), noteN_noteN] at H1
    replace H1 := H1.push_mk rfl
    clear H
    have H : St w F w5 (lay [ledR l (noteN r 3 200 (kmSumN x n B)), .blk g 118 x.vsR, .row 5 1 v5 n ((kmTag x n B).map vb)]) := H1.permS [0, 1, 3] 3 rfl (by decide) (fun i hi => by
      match i, hi with
      | 0, _ => rfl
      | 1, _ => rfl
      | 2, _ => rfl)
    clear H1
    go_wp2
    go_ret2
    exact ⟨_, rfl, St.two_more HIJ.out HI.out HJ.out HKK.out HB.out H⟩

theorem rkRate_s (S : Int) (R : Nat) (hS : (S = 128 ∧ R = 168) ∨ (S = 256 ∧ R = 136)) (w : World) :
    Calls Try.prog 63 #[.int .i64 S] w fun e w' => e = .returned (.int .i64 (R : Int)) ∧ w = w' := by
  rcases hS with ⟨rfl, rfl⟩ | ⟨rfl, rfl⟩
  · go_enter Try.func63, Try.ntmps63
    go_wp2
    go_ret
    exact ⟨rfl, rfl⟩
  · go_enter Try.func63, Try.ntmps63
    go_wp2
    go_ret
    exact ⟨rfl, rfl⟩

set_option maxHeartbeats 4000000 in
theorem rkNew_s (l : Value) (r : Option (List RunT)) (m : Nat) (b : Int) (S : Int) (R : Nat) (hS : (S = 128 ∧ R = 168) ∨ (S = 256 ∧ R = 136)) (A B : Option Addr) (n nc c d : Nat) (key cus : List UInt8) (H : St w0 F0 w E) (i k1 k2 : Nat) (hi : E i = some (ledR l r)) (hk1 : E k1 = none) (hk2 : E k2 = none) (hkk : k1 ≠ k2) (hg : LW r m b) (hm : m ≤ 99999999) (hb : b ≤ 100000000000000000)
    (hA : ∀ w' X, St w0 F0 w' (upd E i X) → Rd w' 1 A n (key.map vb)) (hB : ∀ w' X, St w0 F0 w' (upd E i X) → Rd w' 1 B nc (cus.map vb)) (hn : n ≤ 1900000) (hnc : nc ≤ 1900000) :
    Calls Try.prog 40 #[l, .int .i64 S, .slice A n c, .slice B nc d] w fun e w' => ∃ gm g, e = .returned (.tuple #[lptr gm, .int .i64 0]) ∧ St w0 F0 w' (upd (upd (upd E i (ledR l (noteN r 3 200 (kmN R key cus)))) k2 (.blk g 118 (kmSp R key cus).vsR)) k1 (.blk gm 105 (macV g S))) := by
  have hlk : key.length = n := by have h := (hA w _ (by rw [upd_id hi]; exact H)).1; simpa using h
  have hlc : cus.length = nc := by have h := (hB w _ (by rw [upd_id hi]; exact H)).1; simpa using h
  obtain ⟨F, HF, -, -, hback⟩ := H.frame1 i hi
  have HBK := Lib.hid hback
  have HRA : Hid (∀ w' X L, St w F w' (lay (X :: L)) → Rd w' 1 A n (key.map vb)) := fun w' X L h => hA w' X (hback w' X ((h.front 1).to1 rfl))
  have HRB : Hid (∀ w' X L, St w F w' (lay (X :: L)) → Rd w' 1 B nc (cus.map vb)) := fun w' X L h => hB w' X (hback w' X ((h.front 1).to1 rfl))
  have HI := Lib.hid hi
  have HK1 := Lib.hid hk1
  have HK2 := Lib.hid hk2
  have HKK := Lib.hid hkk
  have HG := Lib.hid hg
  have HS := Lib.hid hS
  have hR8 : 8 ≤ R := by omega
  have hR9 : R ≤ 192 := by omega
  have hRE : Hid (padE (R : Int) = 0) := by unfold Hid padE; rw [if_pos ⟨by omega, by omega⟩]
  have hSTR := strB_le (l := key) (by omega)
  have hPAD := padI_le (l := strB key) (W := (R : Int)) (by omega) (by omega) (by omega)
  have HBO := Lib.hid (beginSp_ok kmacB cus hR8 hR9)
  have H : St w F w (lay [ledR l r]) := HF.as1
  clear hback hi hk1 hk2 hkk hg hS hA hB HF
  have hcv := fun (w : World) (C : Array Value) (n c : Nat) => Lib.run_convert_bytes_const (P := Try.prog) w 22 5 C n c Try.underlying22 Try.underlying5
  have HRT : Hid (∀ w, Calls Try.prog 63 #[.int .i64 S] w fun e w' => e = .returned (.int .i64 (R : Int)) ∧ w = w') := fun w => rkRate_s S R HS.out w
  rcases HS.out with h | h
  · have e1 : (S != 128) = false := by rw [h.1]; rfl
    clear h
    go_enter Try.func40, Try.ntmps40
    go_wp2_with fail
    refine absorb_calls (H.litAt 1 rfl w.heap.size rfl _ _ _ |>.push_mk rfl) ?_
    clear H
    intro w1 H
    generalize w.heap.size = gL at H ⊢
    replace H : St w F w1 (lay [ledR l r, .lit gL 5 (kmacB.map vb) (4, 5)]) := H
    refine (rhBegin_s l r m b S R HS.out (some ⟨gL, 0, none⟩) B 4 nc 4 d kmacB cus H 0 2 rfl rfl HG.out (by omega) (by omega) (fun w' X h => h.rdLit 1 rfl 1 4 rfl) (fun w' X h => HRB.out w' X _ (by rw [upd_laid (by simp)] at h; exact h)) (by omega) (by omega)).mono ?_
    rintro e w2 ⟨g, rfl, H1⟩
    rw [upd_laid (by simp)] at H1
    replace H : St w F w2 (lay [ledR l (noteN r 3 200 (beginN R kmacB cus)), .lit gL 5 (kmacB.map vb) (4, 5), .blk g 118 (beginSp R kmacB cus).vsR]) := H1.push_mk rfl
    clear H1
    unfold lptr
    go_wp2_with fail
    refine (refString_s A n c key w2 (HRA.out _ _ _ H) (by omega)).mono ?_
    rintro e w3 ⟨v3, rfl, ho, hb3⟩
    unfold OwnB at ho
    replace H := (H.pushRow 3 rfl hb3 ho).push_mk rfl
    clear ho hb3
    obtain ⟨A3, c3, rfl, -, -⟩ := row_form (H.row 3 rfl)
    go_wp2_with fail
    refine (HRT.out w3).mono ?_
    rintro e wx ⟨rfl, rfl⟩
    go_wp2_with fail
    refine (refPad_s A3 (strB key).length c3 (strB key) (R : Int) w3 (H.rd 3 rfl) (by omega)).mono ?_
    rintro e w4 ⟨v4, rfl, ho, hb4⟩
    unfold OwnB at ho
    rw [hRE.out]
    replace H := (H.pushRow 4 rfl hb4 ho).push_mk rfl
    clear ho hb4
    obtain ⟨A4, c4, rfl, -, -⟩ := row_form (H.row 4 rfl)
    have hq1 : beginN R kmacB cus ≤ 20000000 := by
      unfold beginN
      split
      · omega
      · refine Nat.le_trans (Nat.div_le_self _ _) ?_
        have h1 := strB_le (l := kmacB) (by decide)
        have h2 := strB_le (l := cus) (by omega)
        exact Nat.le_trans (padI_le (by omega) (by omega) (by rw [List.length_append]; omega)) (by omega)
    have HPD : Hid ((padI (strB key) (R : Int)).length ≤ 10001000) := hPAD
    clear hPAD hSTR
    go_wp2_with fail
    refine (rsWrite_s l _ (m + 1) (b + (beginN R kmacB cus : Nat)) g (beginSp R kmacB cus) A4 (padI (strB key) (R : Int)).length c4 (padI (strB key) (R : Int)) H 0 2 (by omega) rfl rfl (HG.out.noteN 3 200 _) (by omega) (by omega) HBO.out.1 HBO.out.2.1 (fun w' X Y h => h.rd 4 rfl) (by have := HPD.out; omega)).mono ?_
    rintro e w5 ⟨rfl, H1⟩
    rw [upd_laid (by simp), upd_laid (by simp), noteN_noteN, HBO.out.2.2.1] at H1
    replace H : St w F w5 (lay [ledR l (noteN r 3 200 (kmN R key cus)), .lit gL 5 (kmacB.map vb) (4, 5), .blk g 118 (kmSp R key cus).vsR]) := H1.front 3
    clear H1
    go_wp2
    go_ret2
    have H2 := (H.allocAt 3 rfl w5.heap.size rfl #[lptr g, .int .i64 S] 105).push_mk rfl
    refine ⟨_, _, rfl, St.one_two HI.out HK1.out HK2.out HKK.out HBK.out (H2.permS (L' := [ledR l (noteN r 3 200 (kmN R key cus)), .blk g 118 (kmSp R key cus).vsR, .blk w5.heap.size 105 (macV g S)]) [0, 2, 3] 3 rfl (by decide) (fun i hi => by
      match i, hi with
      | 0, _ => rfl
      | 1, _ => rfl
      | 2, _ => rfl))⟩
  · have e1 : (S != 128) = true := by rw [h.1]; rfl
    have e2 : (S != 256) = false := by rw [h.1]; rfl
    clear h
    go_enter Try.func40, Try.ntmps40
    go_wp2_with fail
    refine absorb_calls (H.litAt 1 rfl w.heap.size rfl _ _ _ |>.push_mk rfl) ?_
    clear H
    intro w1 H
    generalize w.heap.size = gL at H ⊢
    replace H : St w F w1 (lay [ledR l r, .lit gL 5 (kmacB.map vb) (4, 5)]) := H
    refine (rhBegin_s l r m b S R HS.out (some ⟨gL, 0, none⟩) B 4 nc 4 d kmacB cus H 0 2 rfl rfl HG.out (by omega) (by omega) (fun w' X h => h.rdLit 1 rfl 1 4 rfl) (fun w' X h => HRB.out w' X _ (by rw [upd_laid (by simp)] at h; exact h)) (by omega) (by omega)).mono ?_
    rintro e w2 ⟨g, rfl, H1⟩
    rw [upd_laid (by simp)] at H1
    replace H : St w F w2 (lay [ledR l (noteN r 3 200 (beginN R kmacB cus)), .lit gL 5 (kmacB.map vb) (4, 5), .blk g 118 (beginSp R kmacB cus).vsR]) := H1.push_mk rfl
    clear H1
    unfold lptr
    go_wp2_with fail
    refine (refString_s A n c key w2 (HRA.out _ _ _ H) (by omega)).mono ?_
    rintro e w3 ⟨v3, rfl, ho, hb3⟩
    unfold OwnB at ho
    replace H := (H.pushRow 3 rfl hb3 ho).push_mk rfl
    clear ho hb3
    obtain ⟨A3, c3, rfl, -, -⟩ := row_form (H.row 3 rfl)
    go_wp2_with fail
    refine (HRT.out w3).mono ?_
    rintro e wx ⟨rfl, rfl⟩
    go_wp2_with fail
    refine (refPad_s A3 (strB key).length c3 (strB key) (R : Int) w3 (H.rd 3 rfl) (by omega)).mono ?_
    rintro e w4 ⟨v4, rfl, ho, hb4⟩
    unfold OwnB at ho
    rw [hRE.out]
    replace H := (H.pushRow 4 rfl hb4 ho).push_mk rfl
    clear ho hb4
    obtain ⟨A4, c4, rfl, -, -⟩ := row_form (H.row 4 rfl)
    have hq1 : beginN R kmacB cus ≤ 20000000 := by
      unfold beginN
      split
      · omega
      · refine Nat.le_trans (Nat.div_le_self _ _) ?_
        have h1 := strB_le (l := kmacB) (by decide)
        have h2 := strB_le (l := cus) (by omega)
        exact Nat.le_trans (padI_le (by omega) (by omega) (by rw [List.length_append]; omega)) (by omega)
    have HPD : Hid ((padI (strB key) (R : Int)).length ≤ 10001000) := hPAD
    clear hPAD hSTR
    go_wp2_with fail
    refine (rsWrite_s l _ (m + 1) (b + (beginN R kmacB cus : Nat)) g (beginSp R kmacB cus) A4 (padI (strB key) (R : Int)).length c4 (padI (strB key) (R : Int)) H 0 2 (by omega) rfl rfl (HG.out.noteN 3 200 _) (by omega) (by omega) HBO.out.1 HBO.out.2.1 (fun w' X Y h => h.rd 4 rfl) (by have := HPD.out; omega)).mono ?_
    rintro e w5 ⟨rfl, H1⟩
    rw [upd_laid (by simp), upd_laid (by simp), noteN_noteN, HBO.out.2.2.1] at H1
    replace H : St w F w5 (lay [ledR l (noteN r 3 200 (kmN R key cus)), .lit gL 5 (kmacB.map vb) (4, 5), .blk g 118 (kmSp R key cus).vsR]) := H1.front 3
    clear H1
    go_wp2
    go_ret2
    have H2 := (H.allocAt 3 rfl w5.heap.size rfl #[lptr g, .int .i64 S] 105).push_mk rfl
    refine ⟨_, _, rfl, St.one_two HI.out HK1.out HK2.out HKK.out HBK.out (H2.permS (L' := [ledR l (noteN r 3 200 (kmN R key cus)), .blk g 118 (kmSp R key cus).vsR, .blk w5.heap.size 105 (macV g S)]) [0, 2, 3] 3 rfl (by decide) (fun i hi => by
      match i, hi with
      | 0, _ => rfl
      | 1, _ => rfl
      | 2, _ => rfl))⟩

theorem rkNew_no (l v1 v2 : Value) (S : Int) (hS : S ≠ 128 ∧ S ≠ 256) (w : World) :
    Calls Try.prog 40 #[l, .int .i64 S, v1, v2] w fun e w' => e = .returned (.tuple #[.pointer none, .int .i64 2]) ∧ w = w' := by
  have e1 : (S != 128) = true := by simp; omega
  have e2 : (S != 256) = true := by simp; omega
  clear hS
  go_enter Try.func40, Try.ntmps40
  go_wp2
  go_ret2
  exact ⟨rfl, rfl⟩

set_option maxHeartbeats 4000000 in
theorem rkTag_s (l : Value) (r : Option (List RunT)) (m : Nat) (b : Int) (S : Int) (R : Nat) (hS : (S = 128 ∧ R = 168) ∨ (S = 256 ∧ R = 136)) (A B C : Option Addr) (n nc np c d cp : Nat) (key cus p : List UInt8) (N : Nat) (xof : Bool) (H : St w0 F0 w E) (i k : Nat) (hi : E i = some (ledR l r)) (hk : E k = none) (hg : LW r m b) (hm : m ≤ 9999999) (hb : b ≤ 10000000000000000)
    (hA : ∀ w' X, St w0 F0 w' (upd E i X) → Rd w' 1 A n (key.map vb)) (hB : ∀ w' X, St w0 F0 w' (upd E i X) → Rd w' 1 B nc (cus.map vb)) (hC : ∀ w' X, St w0 F0 w' (upd E i X) → Rd w' 1 C np (p.map vb)) (hn : n ≤ 1900000) (hnc : nc ≤ 1900000) (hnp : np ≤ 100000000) (hN : N ≤ 65536) :
    Calls Try.prog 14 #[l, .int .i64 S, .slice A n c, .slice B nc d, .slice C np cp, .int .i64 (N : Int), .bool xof] w fun e w' => ∃ v, e = .returned (.tuple #[v, .int .i64 0]) ∧ St w0 F0 w' (upd (upd E i (ledR l (noteN r 3 200 (kmTagN R key cus p N xof)))) k (.row 5 1 v N ((kmTagB R key cus p N xof).map vb))) := by
  have hlp : p.length = np := by have h := (hC w _ (by rw [upd_id hi]; exact H)).1; simpa using h
  have hlcc : cus.length = nc := by have h := (hB w _ (by rw [upd_id hi]; exact H)).1; simpa using h
  have hlkk : key.length ≤ 1900000 := by have h := (hA w _ (by rw [upd_id hi]; exact H)).1; have h2 : key.length = n := (by simpa using h); rw [h2]; exact hn
  have HLP := Lib.hid hlp
  obtain ⟨F, HF, -, -, hback⟩ := H.frame1 i hi
  have HBK := Lib.hid hback
  have HRA : Hid (∀ w' X L, St w F w' (lay (X :: L)) → Rd w' 1 A n (key.map vb)) := fun w' X L h => hA w' X (hback w' X ((h.front 1).to1 rfl))
  have HRB : Hid (∀ w' X L, St w F w' (lay (X :: L)) → Rd w' 1 B nc (cus.map vb)) := fun w' X L h => hB w' X (hback w' X ((h.front 1).to1 rfl))
  have HRC : Hid (∀ w' X L, St w F w' (lay (X :: L)) → Rd w' 1 C np (p.map vb)) := fun w' X L h => hC w' X (hback w' X ((h.front 1).to1 rfl))
  have HI := Lib.hid hi
  have HK := Lib.hid hk
  have HG := Lib.hid hg
  have HS := Lib.hid hS
  have hS0 : (S == 0) = false := by simp; omega
  have hR8 : 8 ≤ R := by omega
  have hR9 : R ≤ 192 := by omega
  have HX := Lib.hid (kmSp_ok key cus hR8 hR9)
  have hkb : Hid (kmN R key cus ≤ 40000000) := kmN_le key cus (by omega) (by omega) hlkk (by rw [hlcc]; omega)
  have H : St w F w (lay [ledR l r]) := HF.as1
  clear hback hi hk hg hS hA hB hC HF hlp
  have hN0 : decide ((N : Int) < 0) = false := by simp
  have hN1 : decide ((N : Int) > 65536) = false := by simp; omega
  rcases HS.out with h | h
  · have e1 : (S != 128) = false := by rw [h.1]; rfl
    clear h
    go_enter Try.func14, Try.ntmps14
    go_wp2_with fail
    refine (rkNew_s l r m b S R HS.out A B n nc c d key cus H 0 2 1 rfl rfl rfl (by omega) HG.out (by omega) (by omega) (fun w' X h => HRA.out w' X _ (by rw [upd_laid (by simp)] at h; exact h)) (fun w' X h => HRB.out w' X _ (by rw [upd_laid (by simp)] at h; exact h)) hn hnc).mono ?_
    rintro e w1 ⟨gm, g, rfl, H1⟩
    clear H
    have H : St w F w1 (lay [ledR l (noteN r 3 200 (kmN R key cus)), .blk g 118 (kmSp R key cus).vsR, .blk gm 105 (macV g S)]) := H1.env (fun n => by
      match n with
      | 0 => simp [upd, lay]
      | 1 => simp [upd, lay]
      | 2 => simp [upd, lay]
      | n + 3 => simp [upd, lay])
    clear H1
    have hc1 : Hid (((kmSp R key cus).p + np) / R ≤ 100000200) := by have h1 := Nat.div_le_self ((kmSp R key cus).p + np) R; have h2 := HX.out.2.2.2; unfold Hid; omega
    have HY : Hid (((kmSp R key cus).write p).Ok) := (Sp.write_ok p HX.out.1 (by rw [HX.out.2.2.1]; exact HX.out.2.2.2)).1
    have HYS : Hid (((kmSp R key cus).write p).s = false) := by have h := (Sp.write_r p (kmSp R key cus)).2.2; unfold Hid; rw [h]; exact HX.out.2.1
    have HS0 := Lib.hid hS0
    clear hS0
    unfold lptr
    go_wp2_with fail
    refine (rkWrite_s l _ (m + 1) (b + (kmN R key cus : Nat)) gm g S HS0.out (kmSp R key cus) C np cp p H 0 2 1 (by omega) rfl rfl rfl (HG.out.noteN 3 200 _) (by omega) (by have := hkb.out; omega) HX.out.1 HX.out.2.1 (fun w' X Y h => HRC.out w' X _ (by rw [upd_laid (by simp), upd_laid (by simp)] at h; exact h)) (by omega)).mono ?_
    rintro e w2 ⟨rfl, H1⟩
    rw [upd_laid (by simp), upd_laid (by simp), noteN_noteN, HX.out.2.2.1] at H1
    clear H
    have H : St w F w2 (lay [ledR l (noteN r 3 200 (kmN R key cus + ((kmSp R key cus).p + np) / R)), .blk g 118 ((kmSp R key cus).write p).vsR, .blk gm 105 (macV g S)]) := H1
    clear H1
    go_wp2_with fail
    refine (rkSum_s l _ (m + 1) (b + (kmN R key cus + ((kmSp R key cus).p + np) / R : Nat)) gm g S HS0.out ((kmSp R key cus).write p) N (N : Int) rfl xof H 0 2 1 3 (by omega) rfl rfl rfl rfl (HG.out.noteN 3 200 _) (by omega) (by have := hkb.out; have := hc1.out; omega) HY.out HYS.out hN).mono ?_
    rintro e w3 ⟨v, rfl, H1⟩
    rw [upd_laid (by simp), upd_laid (by simp), noteN_noteN] at H1
    replace H1 := H1.push_mk rfl
    clear H
    have HTN : Hid (kmTagN R key cus p N xof = kmN R key cus + ((kmSp R key cus).p + np) / R + kmSumN ((kmSp R key cus).write p) N (kmBits N xof)) := by unfold Hid kmTagN; rw [HLP.out, Nat.add_assoc]
    have H : St w F w3 (lay [ledR l (noteN r 3 200 (kmTagN R key cus p N xof)), .row 5 1 v N ((kmTagB R key cus p N xof).map vb)]) := by rw [HTN.out]; exact H1.permS [0, 3] 2 rfl (by decide) (fun i hi => by
      match i, hi with
      | 0, _ => rfl
      | 1, _ => rfl)
    clear H1
    go_wp2
    go_ret2
    exact ⟨_, rfl, St.one_more HI.out HK.out HBK.out H⟩
  · have e1 : (S != 128) = true := by rw [h.1]; rfl
    have e2 : (S != 256) = false := by rw [h.1]; rfl
    clear h
    go_enter Try.func14, Try.ntmps14
    go_wp2_with fail
    refine (rkNew_s l r m b S R HS.out A B n nc c d key cus H 0 2 1 rfl rfl rfl (by omega) HG.out (by omega) (by omega) (fun w' X h => HRA.out w' X _ (by rw [upd_laid (by simp)] at h; exact h)) (fun w' X h => HRB.out w' X _ (by rw [upd_laid (by simp)] at h; exact h)) hn hnc).mono ?_
    rintro e w1 ⟨gm, g, rfl, H1⟩
    clear H
    have H : St w F w1 (lay [ledR l (noteN r 3 200 (kmN R key cus)), .blk g 118 (kmSp R key cus).vsR, .blk gm 105 (macV g S)]) := H1.env (fun n => by
      match n with
      | 0 => simp [upd, lay]
      | 1 => simp [upd, lay]
      | 2 => simp [upd, lay]
      | n + 3 => simp [upd, lay])
    clear H1
    have hc1 : Hid (((kmSp R key cus).p + np) / R ≤ 100000200) := by have h1 := Nat.div_le_self ((kmSp R key cus).p + np) R; have h2 := HX.out.2.2.2; unfold Hid; omega
    have HY : Hid (((kmSp R key cus).write p).Ok) := (Sp.write_ok p HX.out.1 (by rw [HX.out.2.2.1]; exact HX.out.2.2.2)).1
    have HYS : Hid (((kmSp R key cus).write p).s = false) := by have h := (Sp.write_r p (kmSp R key cus)).2.2; unfold Hid; rw [h]; exact HX.out.2.1
    have HS0 := Lib.hid hS0
    clear hS0
    unfold lptr
    go_wp2_with fail
    refine (rkWrite_s l _ (m + 1) (b + (kmN R key cus : Nat)) gm g S HS0.out (kmSp R key cus) C np cp p H 0 2 1 (by omega) rfl rfl rfl (HG.out.noteN 3 200 _) (by omega) (by have := hkb.out; omega) HX.out.1 HX.out.2.1 (fun w' X Y h => HRC.out w' X _ (by rw [upd_laid (by simp), upd_laid (by simp)] at h; exact h)) (by omega)).mono ?_
    rintro e w2 ⟨rfl, H1⟩
    rw [upd_laid (by simp), upd_laid (by simp), noteN_noteN, HX.out.2.2.1] at H1
    clear H
    have H : St w F w2 (lay [ledR l (noteN r 3 200 (kmN R key cus + ((kmSp R key cus).p + np) / R)), .blk g 118 ((kmSp R key cus).write p).vsR, .blk gm 105 (macV g S)]) := H1
    clear H1
    go_wp2_with fail
    refine (rkSum_s l _ (m + 1) (b + (kmN R key cus + ((kmSp R key cus).p + np) / R : Nat)) gm g S HS0.out ((kmSp R key cus).write p) N (N : Int) rfl xof H 0 2 1 3 (by omega) rfl rfl rfl rfl (HG.out.noteN 3 200 _) (by omega) (by have := hkb.out; have := hc1.out; omega) HY.out HYS.out hN).mono ?_
    rintro e w3 ⟨v, rfl, H1⟩
    rw [upd_laid (by simp), upd_laid (by simp), noteN_noteN] at H1
    replace H1 := H1.push_mk rfl
    clear H
    have HTN : Hid (kmTagN R key cus p N xof = kmN R key cus + ((kmSp R key cus).p + np) / R + kmSumN ((kmSp R key cus).write p) N (kmBits N xof)) := by unfold Hid kmTagN; rw [HLP.out, Nat.add_assoc]
    have H : St w F w3 (lay [ledR l (noteN r 3 200 (kmTagN R key cus p N xof)), .row 5 1 v N ((kmTagB R key cus p N xof).map vb)]) := by rw [HTN.out]; exact H1.permS [0, 3] 2 rfl (by decide) (fun i hi => by
      match i, hi with
      | 0, _ => rfl
      | 1, _ => rfl)
    clear H1
    go_wp2
    go_ret2
    exact ⟨_, rfl, St.one_more HI.out HK.out HBK.out H⟩

set_option maxHeartbeats 1000000 in
theorem rkTag_no (l v1 v2 v3 : Value) (S N : Int) (h : (S ≠ 128 ∧ S ≠ 256) ∨ N < 0 ∨ N > 65536) (xof : Bool) (w : World) :
    Calls Try.prog 14 #[l, .int .i64 S, v1, v2, v3, .int .i64 N, .bool xof] w fun e w' => e = .returned (.tuple #[.slice none 0 0, .int .i64 2]) ∧ w = w' := by
  by_cases h1 : S ≠ 128
  · have e1 : (S != 128) = true := by simp; omega
    by_cases h2 : S ≠ 256
    · have e2 : (S != 256) = true := by simp; omega
      clear h h1 h2
      go_enter Try.func14, Try.ntmps14
      go_wp2
      go_ret2
      exact ⟨rfl, rfl⟩
    · have e2 : (S != 256) = false := by simp; omega
      by_cases h3 : N < 0
      · have hN0 : decide (N < 0) = true := by simpa using h3
        clear h h1 h2 h3
        go_enter Try.func14, Try.ntmps14
        go_wp2
        go_ret2
        exact ⟨rfl, rfl⟩
      · have hN0 : decide (N < 0) = false := by simpa using h3
        have hN1 : decide (N > 65536) = true := by simp; omega
        clear h h1 h2 h3
        go_enter Try.func14, Try.ntmps14
        go_wp2
        go_ret2
        exact ⟨rfl, rfl⟩
  · have e1 : (S != 128) = false := by simp; omega
    by_cases h3 : N < 0
    · have hN0 : decide (N < 0) = true := by simpa using h3
      clear h h1 h3
      go_enter Try.func14, Try.ntmps14
      go_wp2
      go_ret2
      exact ⟨rfl, rfl⟩
    · have hN0 : decide (N < 0) = false := by simpa using h3
      have hN1 : decide (N > 65536) = true := by simp; omega
      clear h h1 h3
      go_enter Try.func14, Try.ntmps14
      go_wp2
      go_ret2
      exact ⟨rfl, rfl⟩
end
end Go.Proofs.Ythoopaknldkclaa

namespace Go.Proofs.Ythoopaknldkclaa
open Go.RowKit
set_option linter.unusedVariables false
set_option maxRecDepth 100000

def kmKey : List UInt8 := (List.range 32).map fun i => UInt8.ofNat (64 + i)
def kmMsg : List UInt8 := [0, 1, 2, 3]
theorem kmKey_len : kmKey.length = 32 := by decide +kernel
theorem kmLives_val : (kmTagB 168 kmKey [] kmMsg 32 false).take 4 = [229, 120, 11, 13] := by decide +kernel

attribute [local irreducible] permB kBytes kPerm kFrom

section
variable {w : World}

theorem message_s : Calls Try.prog 22 #[] w fun e w' => ∃ A c, e = .returned (.slice A 4 c) ∧ St w [] w' (lay [.row 5 1 (.slice A 4 c) 4 (kmMsg.map vb)]) := by
  have H := St.start_lay w []
  go_enter Try.func22, Try.ntmps22
  go_wp2
  go_ret
  exact ⟨_, _, rfl, (H.lit 0 rfl _ _ 4 rfl (by omega) _ rfl).push_mk rfl⟩

theorem KmNo.below {w w' : World} {s : Value} (h : KmNo w s) (hb : Below w.heap.size w w') : KmNo w' s := by
  rcases h with rfl | ⟨g, rfl, c0⟩
  · exact .inl rfl
  · exact .inr ⟨g, rfl, by rw [hb.cell (World.block_lt_of_cell? w _ c0)]; exact c0⟩
theorem St.kmNo {w0 w : World} {F0 : List Nat} {E : Env} {g : Nat} (H : St w0 F0 w E) (k : Nat) (hk : E k = some (.blk g 79 [.pointer none, .int .i64 0])) : KmNo w (lptr g) := .inr ⟨g, rfl, H.cell k hk rfl⟩

set_option maxHeartbeats 1000000 in
theorem kmEmpty_s (s v : Value) (n : Int) (h : KmNo w s) : Calls Try.prog 37 #[s, v, .int .i64 n] w fun e w' => e = .returned (.bool true) ∧ Below w.heap.size w w' := by
  have H := St.start_lay w []
  go_enter Try.func37, Try.ntmps37
  go_wp2_with fail
  refine (ledger_new H 0 rfl).mono ?_
  rintro e w1 ⟨l, rfl, H1⟩
  replace H1 := H1.push_mk rfl
  have hs := h.below H1.below
  clear H h
  go_wp2_with fail
  refine (kmSum_none l n true s hs).mono ?_
  rintro e w2 ⟨rfl, rfl⟩
  go_wp2_with fail
  refine (kmClone_none s hs).mono ?_
  rintro e w2 ⟨rfl, rfl⟩
  go_wp2_with fail
  refine (kmWrite_none l v s hs).mono ?_
  rintro e w2 ⟨rfl, rfl⟩
  go_wp2_with fail
  refine (kmWipe_none l s hs).mono ?_
  rintro e w2 ⟨rfl, rfl⟩
  go_wp2_with fail
  refine (kmForm_none s hs).mono ?_
  rintro e w2 ⟨rfl, rfl⟩
  go_wp2_with fail
  refine (kmStrength_none s hs).mono ?_
  rintro e w2 ⟨rfl, rfl⟩
  go_wp2_with fail
  refine (ledger_len_w H1 0 rfl).mono ?_
  rintro e w2 ⟨rfl, rfl⟩
  rw [show total [] = 0 from rfl]
  go_wp2
  go_ret
  exact ⟨rfl, H1.below⟩

set_option maxHeartbeats 1000000 in
theorem kmBegins_s (A : Option Addr) (n c : Nat) (xs : List UInt8) (b0 b1 b2 b3 : UInt8) (hA : ∀ w', Below w.heap.size w w' → Rd w' 1 A n (xs.map vb)) (h4 : 4 ≤ n) (hc : n ≤ c) (hn : n ≤ 1000000000000000000) (hv : xs.take 4 = [b0, b1, b2, b3]) :
    Calls Try.prog 23 #[.slice A n c, .int .i64 0, .int .i64 (n : Int), .agg #[vb b0, vb b1, vb b2, vb b3]] w fun e w' => e = .returned (.bool true) ∧ Below w.heap.size w w' := by
  have H0 := St.start_lay w []
  have h1 : (4 : Int) ≤ n := by omega
  have h2 : (4 : Int) ≤ c := by omega
  have HA : Hid (∀ w', Below w.heap.size w w' → Rd w' 1 A n (xs.map vb)) := hA
  have HV := Lib.hid hv
  clear hA hv
  go_enter Try.func23, Try.ntmps23
  go_wp2_with fail
  have H := (H0.allocAt 0 rfl w.heap.size rfl #[vb b0, vb b1, vb b2, vb b3] 50).push_mk rfl
  clear H0
  generalize hg : w.heap.size = g1 at H ⊢
  generalize w.alloc (.cells #[vb b0, vb b1, vb b2, vb b3] 50) = w1 at H ⊢
  subst hg
  generalize hg : w.heap.size = g1 at H ⊢
  replace H := H.drew
  refine wp_region_held_drew (S := fun w' : World => St w [] w' (lay [.blk g1 50 [vb b0, vb b1, vb b2, vb b3]])) (by kernel_rfl) ?_ (fun hHeld => ?_)
  · exact H
  refine takeV 0 rfl (by intro w h; clear h; go_simp; try with_reducible rfl) (by kernel_rfl) (by kernel_rfl) (by kernel_rfl) (by exact fun _ _ _ h => h) (by rfl) (by assumption) ?_
  try simp only [Act.put, List.setIfInBounds_toArray, List.set_cons_zero, List.set_cons_succ]
  refine takeV 1 rfl (by intro w h; clear h; go_simp; try with_reducible rfl) (by kernel_rfl) (by kernel_rfl) (by kernel_rfl) (by exact fun _ _ _ h => h) (by rfl) (by assumption) ?_
  try simp only [Act.put, List.setIfInBounds_toArray, List.set_cons_zero, List.set_cons_succ]
  refine takeV 2 rfl (by intro w h; clear h; go_simp; try with_reducible rfl) (by kernel_rfl) (by kernel_rfl) (by kernel_rfl) (by exact fun _ _ _ h => h) (by rfl) (by assumption) ?_
  try simp only [Act.put, List.setIfInBounds_toArray, List.set_cons_zero, List.set_cons_succ]
  refine takeV 3 rfl (by intro w h; clear h; go_simp; try with_reducible rfl) (by kernel_rfl) (by kernel_rfl) (by kernel_rfl) (by exact fun _ _ _ h => h) (by rfl) (by assumption) ?_
  try simp only [Act.put, List.setIfInBounds_toArray, List.set_cons_zero, List.set_cons_succ]
  refine takeV 4 rfl (by intro w h; clear h; go_simp; try with_reducible rfl) (by kernel_rfl) (by kernel_rfl) (by kernel_rfl) (by exact fun _ _ _ h => h) (by rfl) (by assumption) ?_
  try simp only [Act.put, List.setIfInBounds_toArray, List.set_cons_zero, List.set_cons_succ]
  refine takeV 5 rfl (by intro w h; clear h; go_simp; try with_reducible rfl) (by kernel_rfl) (by kernel_rfl) (by kernel_rfl) (by exact fun _ _ _ h => h) (by rfl) (by assumption) ?_
  try simp only [Act.put, List.setIfInBounds_toArray, List.set_cons_zero, List.set_cons_succ]
  refine takeV 6 rfl (by intro w h; clear h; go_simp; try with_reducible rfl) (by kernel_rfl) (by kernel_rfl) (by kernel_rfl) (by exact fun _ _ _ h => h) (by rfl) (by assumption) ?_
  try simp only [Act.put, List.setIfInBounds_toArray, List.set_cons_zero, List.set_cons_succ]
  refine takeV 7 rfl (by intro w h; clear h; go_simp; try with_reducible rfl) (by kernel_rfl) (by kernel_rfl) (by kernel_rfl) (by exact fun _ _ _ h => h) (by rfl) (by assumption) ?_
  try simp only [Act.put, List.setIfInBounds_toArray, List.set_cons_zero, List.set_cons_succ]
  refine takeV 8 rfl (by intro w h; clear h; go_simp; try with_reducible rfl) (by kernel_rfl) (by kernel_rfl) (by kernel_rfl) (by exact fun _ _ _ h => h) (by rfl) (by assumption) ?_
  try simp only [Act.put, List.setIfInBounds_toArray, List.set_cons_zero, List.set_cons_succ]
  refine takeV 9 rfl (by intro w h; clear h; go_simp; try with_reducible rfl) (by kernel_rfl) (by kernel_rfl) (by kernel_rfl) (by exact fun _ _ _ h => h) (by rfl) (by assumption) ?_
  try simp only [Act.put, List.setIfInBounds_toArray, List.set_cons_zero, List.set_cons_succ]
  refine takeV 10 rfl (by intro w h; clear h; go_simp; try with_reducible rfl) (by kernel_rfl) (by kernel_rfl) (by kernel_rfl) (by exact fun _ _ _ h => h) (by rfl) (by assumption) ?_
  try simp only [Act.put, List.setIfInBounds_toArray, List.set_cons_zero, List.set_cons_succ]
  refine takeV 11 rfl (by intro w h; have hc := h; clear h; go_simp; try with_reducible rfl) (by kernel_rfl) (by kernel_rfl) (by kernel_rfl) (by exact fun _ _ _ h => h) (by rfl) (by assumption) ?_
  try simp only [Act.put, List.setIfInBounds_toArray, List.set_cons_zero, List.set_cons_succ]
  refine take_call 12 rfl (by kernel_rfl) (fun K hK => ?_)
  try go_simp
  clear H
  have H := hHeld
  refine (sameBytes_yes A _ 4 4 c 4 (xs.take 4) [b0, b1, b2, b3] _ ((HA.out _ H.below).take h4) (H.rdBlk 0 rfl 1 4 rfl) (by omega) (by omega) HV.out).mono ?_
  rintro e wx ⟨rfl, hb⟩
  replace H := H.call hb
  refine hK.out _ _ ?_ (fun hHeld => ?_)
  · exact H
  clear hK K
  try simp only [Act.put, List.setIfInBounds_toArray, List.set_cons_zero, List.set_cons_succ]
  refine takeV 13 rfl (by intro w h; clear h; go_simp; try with_reducible rfl) (by kernel_rfl) (by kernel_rfl) (by kernel_rfl) (by exact fun _ _ _ h => h) (by rfl) (by assumption) ?_
  try simp only [Act.put, List.setIfInBounds_toArray, List.set_cons_zero, List.set_cons_succ]
  refine takeV 14 rfl (by intro w h; clear h; go_simp; try with_reducible rfl) (by kernel_rfl) (by kernel_rfl) (by kernel_rfl) (by exact fun _ _ _ h => h) (by rfl) (by assumption) ?_
  try simp only [Act.put, List.setIfInBounds_toArray, List.set_cons_zero, List.set_cons_succ]
  refine wpAnyH_done (by kernel_rfl) ?_ _
  go_wp2
  go_ret
  exact ⟨rfl, hHeld.below⟩
end
end Go.Proofs.Ythoopaknldkclaa

namespace Go.Proofs.Ythoopaknldkclaa
open Go.RowKit
set_option linter.unusedVariables false
set_option maxRecDepth 100000

attribute [local irreducible] permB kBytes kPerm kFrom

def keyTo (k : Nat) : List UInt8 := (List.range k).map fun i => UInt8.ofNat (64 + i)

theorem keyTo_succ (k : Nat) : keyTo (k + 1) = keyTo k ++ [UInt8.ofNat (64 + k)] := by
  unfold keyTo
  rw [List.range_succ, List.map_append]
  rfl

section
variable {w : World}

set_option maxHeartbeats 1000000 in
theorem key_s : Calls Try.prog 21 #[] w fun e w' => ∃ A c, e = .returned (.slice A 32 c) ∧ St w [] w' (lay [.row 5 1 (.slice A 32 c) 32 (kmKey.map vb)]) := by
  obtain ⟨i0, hi0, hz0, hz1, hz2⟩ := info_parts u8_info
  have HI := Lib.hid (⟨hi0, hz0, hz1, hz2⟩ : _ ∧ _ ∧ _ ∧ _)
  clear hi0 hz0 hz1 hz2
  have H0 := (St.start_lay w []).nilRow 0 rfl 5 1 |>.push_mk rfl
  go_enter Try.func21, Try.ntmps21
  go_wp2
  go_loopw [1, 2] (fun v i wr => ∃ k : Nat, k ≤ 32 ∧ i = .int .i64 (k : Int) ∧ St w [] wr (lay [.row 5 1 v k ((keyTo k).map vb)])) (fun _ i _ => 32 - (intOf i).toNat)
  case atStart => exact ⟨0, Nat.zero_le _, rfl, H0⟩
  case round =>
    clear H0
    obtain ⟨k, hk, rfl, H⟩ := hrel
    obtain ⟨AV, cV, rfl, -, -⟩ := row_form (H.row 0 rfl)
    by_cases hlt : k < 32
    · have hlti : (k : Int) < 32 := by omega
      have HX := Lib.hid (keyTo_succ k)
      have HB : Hid ((((UInt8.ofNat (64 + k)).toNat : Nat) : Int) = 64 + (k : Int)) := by
        unfold Hid
        rw [UInt8.toNat_ofNat']
        omega
      go_wp2_with (at_builtin; refine hold_here' ?_)
      refine Lib.hid ?_
      refine absorb_list (H.allocAt 1 rfl wr.heap.size rfl #[.int .u8 (64 + (k : Int))] 5 |>.push_mk rfl) ?_
      clear H
      intro w5 H
      generalize wr.heap.size = gN at H ⊢
      obtain ⟨hi0, hz0, hz1, hz2⟩ := HI.out
      refine wpList_append_any _ rfl (.tmp 7) (.tmp 11) _ rfl 0 5 i0 _ 1 1 Try.underlying22 hi0 hz0 hz1 hz2 rfl (by omega) (.slice AV k cV) k ((keyTo k).map vb) rfl (H.row 0 rfl) (some ⟨gN, 0, none⟩) 1 1 [.int .u8 (64 + (k : Int))] rfl (H.rdBlk 1 rfl 1 1 rfl) (by intro u hu; simp at hu; subst hu; rfl) (by simp only [maxLen]; omega) (by omega) (by omega) ?_
      intro v6 w6 hown6 hg6 hat6
      replace H := ((H.grow 0 rfl hown6 hg6 hat6).upd_mk (by simp)).front 1
      clear hown6 hg6 hat6 hi0 hz0 hz1 hz2
      have H7 : St w [] w6 (lay [.row 5 1 v6 (k + 1) ((keyTo (k + 1)).map vb)]) := by rw [HX.out, List.map_append]; unfold vb; rw [List.map_cons, HB.out]; exact H
      clear H
      go_wp2
      go_roundw
      case rel => exact ⟨k + 1, by omega, by go_num, H7⟩
      case measure => simp [intOf]; omega
    · obtain rfl : k = 32 := by omega
      rw [show ((32 : Nat) : Int) = 32 from rfl]
      go_wp2
      go_ret
      exact ⟨_, _, rfl, H⟩

set_option maxHeartbeats 1000000 in
theorem kmSum_arg (l : Value) (gm g : Nat) (S : Int) (hS : (S == 0) = false) (N : Int) (hN : N < 0 ∨ N > 65536) (xof : Bool) {w0 w : World} {F0 : List Nat} {E : Env} (H : St w0 F0 w E) (j : Nat) (hj : E j = some (.blk gm 79 (macV g S))) :
    Calls Try.prog 25 #[lptr gm, l, .int .i64 N, .bool xof] w fun e w' => e = .returned (.tuple #[.slice none 0 0, .int .i64 2]) ∧ w = w' := by
  have c1 := H.cell j hj (o := 1) rfl
  clear H hj
  by_cases h0 : N < 0
  · have hN0 : decide (N < 0) = true := by simpa using h0
    clear hN h0
    go_enter Try.func25, Try.ntmps25
    go_wp2_with fail
    refine (kmNone_no gm S w c1 hS).mono ?_
    rintro e w1 ⟨rfl, rfl⟩
    go_wp2
    go_ret2
    exact ⟨rfl, rfl⟩
  · have hN0 : decide (N < 0) = false := by simpa using h0
    have hN1 : decide (N > 65536) = true := by simp; omega
    clear hN h0
    go_enter Try.func25, Try.ntmps25
    go_wp2_with fail
    refine (kmNone_no gm S w c1 hS).mono ?_
    rintro e w1 ⟨rfl, rfl⟩
    go_wp2
    go_ret2
    exact ⟨rfl, rfl⟩

theorem noteN_none' (k s : Int) (n : Nat) : noteN none k s n = none := by unfold noteN; split <;> rfl

set_option maxHeartbeats 1000000 in
theorem kmLives_s (w : World) : Calls Try.prog 8 #[] w fun e w' => e = .returned (.bool true) ∧ Below w.heap.size w w' := by
  have H0 := (St.start_lay w []).ledNil 0 rfl |>.push_mk rfl
  have HL := Lib.hid kmLives_val
  go_enter Try.func8, Try.ntmps8
  go_wp2_with fail
  refine key_s.mono ?_
  rintro e w1 ⟨A1, c1, rfl, HN⟩
  have H := H0.also HN
  clear H0 HN
  replace H : St w [] w1 (lay [led (.pointer none) none, .row 5 1 (.slice A1 32 c1) 32 (kmKey.map vb)]) := H
  go_wp2_with fail
  refine message_s.mono ?_
  rintro e w2 ⟨A2, c2, rfl, HN⟩
  replace H := H.also HN
  clear HN
  replace H : St w [] w2 (lay [led (.pointer none) none, .row 5 1 (.slice A1 32 c1) 32 (kmKey.map vb), .row 5 1 (.slice A2 4 c2) 4 (kmMsg.map vb)]) := H
  go_wp2_with fail
  refine (kmTag_s (.pointer none) none 0 0 128 168 (.inl ⟨rfl, rfl⟩) A1 none A2 32 0 4 c1 0 c2 kmKey [] kmMsg 32 false H 0 3 rfl rfl (LW.none _ _) (by omega) (by omega) (fun w' X h => h.rd 1 rfl) (fun w' X h => Rd.none_) (fun w' X h => h.rd 2 rfl) (by omega) (by omega) (by omega) (by omega)).mono ?_
  rintro e w3 ⟨v, rfl, H1⟩
  rw [noteN_none', upd_laid (by simp)] at H1
  generalize kmTagB 168 kmKey [] kmMsg 32 false = T at H1 HL
  replace H : St w [] w3 (lay [led (.pointer none) none, .row 5 1 (.slice A1 32 c1) 32 (kmKey.map vb), .row 5 1 (.slice A2 4 c2) 4 (kmMsg.map vb), .row 5 1 v 32 (T.map vb)]) := H1.push_mk rfl
  clear H1
  obtain ⟨A3, c3, rfl, hc3, -⟩ := row_form (H.row 3 rfl)
  go_wp2_with fail
  refine (kmBegins_s A3 32 c3 T 229 120 11 13 (fun w' hb => (H.call hb).rd 3 rfl) (by omega) hc3 (by omega) HL.out).mono ?_
  rintro e w4 ⟨rfl, hb⟩
  replace H := H.call hb
  go_wp2
  go_ret
  exact ⟨rfl, H.below⟩
end
end Go.Proofs.Ythoopaknldkclaa

namespace Go.Proofs.Ythoopaknldkclaa
open Go.RowKit
set_option linter.unusedVariables false
set_option maxRecDepth 100000

attribute [local irreducible] permB kBytes kPerm kFrom

theorem upd_push {L : List Own} {k : Nat} {A : Own} (h : k = L.length) : upd (lay L) k A = lay (L ++ [A]) := by
  funext i
  subst h
  simp only [lay, upd]
  by_cases hi : i = L.length
  · subst hi; simp
  · rw [if_neg hi]
    rcases Nat.lt_or_ge i L.length with h1 | h1
    · rw [List.getElem?_append_left h1]
    · rw [List.getElem?_eq_none h1, List.getElem?_eq_none (by rw [List.length_append, List.length_singleton]; omega)]

set_option maxHeartbeats 4000000 in
theorem kmacNone_walk (A : Option Addr) (n c : Nat) (p : List UInt8) (N : Int) (w : World) (hA : Rd w 1 A n (p.map vb)) (hn0 : n ≤ 140737488351232) (hN1 : -9223372036854775808 ≤ N) (hN2 : N ≤ 9223372036854775807) :
    Calls Try.prog 7 #[.slice A n c, .int .i64 N] w fun e w' => e = .returned (.bool true) ∧ Below w.heap.size w w' := by
  by_cases hbig : 4000 < n
  · have hb : decide ((n : Int) > 4000) = true := by simp; omega
    clear hbig
    go_enter Try.func7, Try.ntmps7
    go_wp2
    go_ret
    exact ⟨rfl, Below.refl _ _⟩
  · have hb : decide ((n : Int) > 4000) = false := by simp; omega
    have hn : n ≤ 4000 := by omega
    clear hbig hn0
    have H := (St.start_lay w []).ledNil 0 rfl |>.push_mk rfl
    have hz0 := zero_mac
    go_enter Try.func7, Try.ntmps7
    go_wp2_with fail
    refine (kmNew_s (.pointer none) none 0 0 256 136 (.inr ⟨rfl, rfl⟩) A none n 0 c 0 p [] H 0 2 1 rfl rfl rfl (by omega) (LW.none _ _) (by omega) (by omega) (fun w' X h => h.arg0 hA) (fun w' X h => Rd.none_) (by omega) (by omega)).mono ?_
    rintro e w1 ⟨gm, g, rfl, H1⟩
    obtain ⟨hxo, hxs, hxr, -⟩ := kmSp_ok (R := 136) p [] (by omega) (by omega)
    generalize kmSp 136 p [] = x at H1 hxo hxs hxr
    rw [noteN_none', upd_laid (by simp), upd_push (by simp), upd_push (by simp)] at H1
    replace H : St w [] w1 (lay [led (.pointer none) none, .blk g 111 x.vs, .blk gm 79 (macV g 256)]) := H1
    clear H1
    unfold lptr
    go_wp2_with fail
    refine (ledger_new H 3 rfl).mono ?_
    rintro e w2 ⟨l, rfl, H1⟩
    replace H := H1.push_mk rfl
    clear H1
    replace H : St w [] w2 (lay [led (.pointer none) none, .blk g 111 x.vs, .blk gm 79 (macV g 256), led l (some [])]) := H
    go_wp2_with fail
    refine (kmWipe_s l (some []) 0 0 gm g 256 rfl x H 3 2 1 (by omega) (by omega) (by omega) rfl rfl rfl LW.nil (by omega) (by omega) hxo).mono ?_
    rintro e w4 ⟨rfl, H1⟩
    rw [upd_laid (by simp), upd_laid (by simp), upd_laid (by simp)] at H1
    replace H : St w [] w4 (lay [led (.pointer none) none, .blk g 111 spZero, .blk gm 79 [.pointer none, .int .i64 0], led l (some [((8, 203, 1) : RunT)])]) := H1
    clear H1
    go_wp2_with fail
    refine (ledger_runs_w 1 1 H 3 rfl (fun rs h => by injection h with h; subst h; exact ⟨by simp, by simp, by decide⟩) (by omega) 4 rfl).mono ?_
    rintro e w5 ⟨v5, rfl, H1⟩
    replace H := H1.push_mk rfl
    clear H1
    obtain ⟨A5, c5, rfl, -, -⟩ := row_shape (H.row 4 rfl)
    go_wp2_with fail
    refine absorb_calls (H.allocAt 5 rfl w5.heap.size rfl #[.int .u8 8, .int .i64 203, .int .i64 1] 58 |>.push_mk rfl) ?_
    clear H
    intro w6 H
    generalize w5.heap.size = gR at H ⊢
    refine (sameRuns_any A5 (some ⟨gR, 0, none⟩) c5 1 [(8, 203, 1)] [(8, 203, 1)] (H.rd 4 rfl) (H.rdBlk 5 rfl 3 1 rfl) (by simp) (by simp)).mono ?_
    rintro e w7 ⟨rfl, kd, rfl⟩
    replace H := H.drewN kd
    rw [decide_eq_true rfl]
    generalize w6.drewN kd = w7 at H ⊢
    go_wp2_with fail
    refine (kmLives_s w7).mono ?_
    rintro e w8 ⟨rfl, hb2⟩
    replace H := H.call hb2
    clear hb2
    go_wp2_with fail
    refine (kmEmpty_s (.pointer none) (.slice A n c) N (.inl rfl)).mono ?_
    rintro e w9 ⟨rfl, hb2⟩
    replace H := H.call hb2
    clear hb2
    go_wp2_with fail
    refine absorb_calls (H.allocAt 6 rfl w9.heap.size rfl #[.pointer none, .int .i64 0] 79 |>.push_mk rfl) ?_
    clear H
    intro wa H
    generalize w9.heap.size = gz at H ⊢
    refine (kmEmpty_s (lptr gz) (.slice A n c) N (H.kmNo 6 rfl)).mono ?_
    rintro e wb ⟨rfl, hb2⟩
    replace H := H.call hb2
    clear hb2
    go_wp2_with fail
    refine (kmEmpty_s (lptr gm) (.slice A n c) N (H.kmNo 2 rfl)).mono ?_
    rintro e wc ⟨rfl, hb2⟩
    replace H := H.call hb2
    clear hb2
    go_wp2
    go_ret
    exact ⟨rfl, H.below⟩
end Go.Proofs.Ythoopaknldkclaa
