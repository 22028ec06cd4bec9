/- Texts of this claim, merged: RpA, RpW, RpC, RpR, SpRd, SpF, RpN, RpF, RpZ, BigO, Slot, SpAny, SpSm, BSt, Calls. -/
import Derived.Deep.Cut
import Derived.Lib.AppendZerosOnto
import Derived.Test.YtgjlclihgpahbaaMgC
set_option linter.unusedVariables false

namespace Go.Proofs.Ytgjlclihgpahbaa
open Go.RowKit
set_option linter.unusedVariables false
set_option maxRecDepth 100000

attribute [local irreducible] permB kBytes kPerm kFrom

theorem rsNone_no (g : Nat) (w : World) (hc : w.cell? ⟨g, 204, none⟩ = some (.bool false)) :
    Calls Try.prog 54 #[lptr g] w fun e w' => e = .returned (.bool false) ∧ w = w' := by
  unfold lptr
  go_enter Try.func54, Try.ntmps54
  go_wp2
  go_ret
  exact ⟨rfl, rfl⟩

theorem rsNone_nil (w : World) : Calls Try.prog 54 #[.pointer none] w fun e w' => e = .returned (.bool true) ∧ w = w' := by
  go_enter Try.func54, Try.ntmps54
  go_wp2
  go_ret
  exact ⟨rfl, rfl⟩

theorem rsNone_yes (g : Nat) (w : World) (hc : w.cell? ⟨g, 204, none⟩ = some (.bool true)) :
    Calls Try.prog 54 #[lptr g] w fun e w' => e = .returned (.bool true) ∧ w = w' := by
  unfold lptr
  go_enter Try.func54, Try.ntmps54
  go_wp2
  go_ret
  exact ⟨rfl, rfl⟩

section
variable {w0 w : World} {F0 : List Nat} {E : Env}

set_option maxHeartbeats 1000000 in
theorem rsPermute_s (l : Value) (r : Option (List RunT)) (m : Nat) (b : Int) (g : Nat) (x : Sp) (H : St w0 F0 w E) (i j : Nat) (hij : i ≠ j) (hi : E i = some (ledR l r)) (hj : E j = some (.blk g 97 x.vsR)) (hg : LW r m b) (hm : m ≤ 1000000000000) (hb : b ≤ 4611686018427387903) (hx : x.b.length = 200) :
    Calls Try.prog 55 #[lptr g, l] w fun e w' => e = .returned (.tuple #[]) ∧ St w0 F0 w' (upd (upd E i (ledR l (noteN r 3 200 1))) j (.blk g 97 x.perm.vsR)) := by
  obtain ⟨F, HF, -, -, hback⟩ := H.frame2 i j hij hi hj
  have HB := Lib.hid hback
  replace HF := HF.as2
  clear H hback
  have HX := Lib.hid hx
  clear hx
  unfold lptr
  go_enter Try.func55, Try.ntmps55
  go_wp2_with (refine wpList_load_mid rfl 69 (.tmp 8) rfl g 0 rfl (x.b.map vb) _ (range_front (HF.range 1 rfl)) Try.underlying69 rfl (by rw [bytes_size, List.length_map, HX.out]) ?_)
  refine (refFrom_s x.b HX _).mono ?_
  rintro e w1 ⟨rfl, hb1⟩
  replace HF := HF.call hb1
  clear hb1
  go_wp2_with fail
  refine (refPermute_w l r m b (kFrom x.b) HF 0 rfl hg hm hb (kFrom_length _)).mono ?_
  rintro e w2 ⟨rfl, H2⟩
  replace H2 := H2.upd_mk (by simp)
  clear HF
  go_wp2_with fail
  refine (refBytes_s _ (by unfold Hid kPerm; rw [kPermTo_length, kFrom_length]) _).mono ?_
  rintro e w3 ⟨rfl, hb3⟩
  have H3 := H2.call hb3
  clear H2 hb3
  have HP : Hid (kBytes (kPerm (kFrom x.b)) = permB x.b) := by unfold Hid permB; rfl
  rw [HP.out]
  have HL := Lib.hid (permB_length x.b)
  clear HP
  have HE : Hid ((⟨permB x.b, x.r, x.f, 0, x.s⟩ : Sp) = x.perm) := by unfold Hid; rfl
  generalize permB x.b = B at HL HE
  have HT := H3.there 1 rfl
  rw [Sp.vsR_length HX.out] at HT
  go_wp2_with (refine wpList_store_mid rfl 69 (.tmp 14) (.tmp 12) rfl g 0 (B.map vb).toArray rfl rfl (there_front HT (by simp [HL.out])) (by rw [bytes_size]; simp [HL.out]) (all_oneCell_toArray (vb_one _)) ?_; refine absorb_list (H3.storeMid 1 rfl 0 (vs := B.map vb) (by rw [Sp.vsR_length HX.out, List.length_map, HL.out]; omega) |>.upd_mk (by simp)) ?_; clear H3 HT; intro w4 H4; (unfold Sp.vsR at H4); rw [sp_front x.b _ B HX.out HL.out] at H4; have c4 := H4.cell 1 rfl (o := 202) ((sp_get B _ 2 HL.out rfl).trans rfl); have f4 := H4.free 1 rfl 202)
  go_end0
  refine ⟨rfl, ?_⟩
  have H5 := (H4.store 1 rfl (o := 202) (u := .int .i64 0)).upd_mk (by simp)
  rw [sp_put B _ 2 _ HL.out rfl] at H5
  rw [← HE.out]
  exact HB.out _ _ _ (H5.to2 rfl rfl)

end

end Go.Proofs.Ytgjlclihgpahbaa

namespace Go.Proofs.Ytgjlclihgpahbaa
open Go.RowKit
set_option linter.unusedVariables false
set_option maxRecDepth 100000

attribute [local irreducible] permB kBytes kPerm kFrom

section
variable {w0 w : World} {F0 : List Nat} {E : Env}

set_option maxHeartbeats 2000000 in
theorem rsWrite_s (l : Value) (r : Option (List RunT)) (m : Nat) (b : Int) (g : Nat) (x : Sp) (A : Option Addr) (n c : Nat) (q : List UInt8) (H : St w0 F0 w E) (i j : Nat) (hij : i ≠ j) (hi : E i = some (ledR l r)) (hj : E j = some (.blk g 97 x.vsR)) (hg : LW r m b) (hm : m ≤ 999999999999) (hb : b ≤ 4000000000000000000) (hx : x.Ok) (hs : x.s = false)
    (hR : ∀ w' X Y, St w0 F0 w' (upd (upd E i X) j Y) → Rd w' 1 A n (q.map vb)) (hn : n ≤ 281474976710656) :
    Calls Try.prog 37 #[lptr g, l, .slice A n c] w fun e w' => e = .returned (.int .i64 0) ∧ St w0 F0 w' (upd (upd E i (ledR l (noteN r 3 200 ((x.p + n) / x.r)))) j (.blk g 97 (x.write q).vsR)) := by
  have hl : q.length = n := by have h := (hR w _ _ (by rw [upd_id hi, upd_id hj]; exact H)).1; simpa using h
  obtain ⟨F, HF, -, -, hback⟩ := H.frame2 i j hij hi hj
  have HB := Lib.hid hback
  have HR : Hid (∀ w' X Y, St w F w' (lay [X, Y]) → Rd w' 1 A n (q.map vb)) := fun w' X Y h => hR w' X Y (hback w' X Y (h.to2 rfl rfl))
  replace HF := HF.as2
  have HL := Lib.hid hl
  clear H hback hR hl
  obtain ⟨k1, k2, k3, k4, k5⟩ := Sp.cellsR hx.hb
  have h8 := hx.r8
  have h192 := hx.r192
  have hop := hx.op hs
  have c0 := HF.cell 1 rfl k5
  have c3 := HF.cell 1 rfl k4
  rw [hs] at c3
  have HO := Lib.hid hx
  have HS := Lib.hid hs
  have HG := Lib.hid hg
  clear k1 k2 k3 k4 k5 hx hs hg
  go_enter Try.func37, Try.ntmps37
  go_wp2_with fail
  refine (rsNone_no g w c0).mono ?_
  rintro e w1 ⟨rfl, rfl⟩
  unfold lptr
  go_wp2
  clear c0 c3
  go_loopw [7] (fun i wr => ∃ k : Nat, k ≤ n ∧ i = .int .i64 k ∧ St w F wr (lay [ledR l (noteN r 3 200 ((x.p + k) / x.r)), .blk g 97 (x.write (q.take k)).vsR])) (fun i _ => n - (intOf i).toNat)
  case atStart => exact ⟨0, Nat.zero_le _, rfl, by rw [Nat.add_zero, Nat.div_eq_of_lt hop, noteN_zero, List.take_zero, Sp.write_nil]; exact HF⟩
  case round =>
    clear HF
    obtain ⟨k, hk, rfl, HF⟩ := hrel
    by_cases hlt : k < n
    · obtain ⟨v, hv⟩ : ∃ v, q[k]? = some v := ⟨_, List.getElem?_eq_getElem (by rw [HL.out]; exact hlt)⟩
      have hok := Sp.write_ok (q.take k) HO.out hop
      have hrr := Sp.write_r (q.take k) x
      have hpp := Sp.write_p (q.take k) hop
      have HN := Lib.hid (x.write_succ hv)
      rw [List.length_take, HL.out, Nat.min_eq_left hk] at hpp
      have HC := Lib.hid (count_succ x.p x.r k (by omega))
      obtain ⟨p, o, rfl, -, hcx⟩ := (HR.out _ _ _ HF).flat (by omega) (by omega)
      have a0 := hcx k (vb v) (by rw [List.getElem?_map, hv]; rfl)
      clear hcx hv
      generalize hy : x.write (q.take k) = y at HF hok hrr hpp HN
      clear hy
      obtain ⟨hy1, hy2⟩ := hok
      have HRR := Lib.hid hrr
      have HPP := Lib.hid hpp
      have hy192 : y.r ≤ 192 := hy1.r192
      clear hrr hpp
      obtain ⟨k1, k2, k3, k4, k5⟩ := Sp.cellsR hy1.hb
      have b0 := HF.cell 1 rfl k1
      have b2 := HF.cell 1 rfl k3
      obtain ⟨u, hu⟩ : ∃ u, y.b.getD y.p 0 = u := ⟨_, rfl⟩
      have b3 := HF.cell 1 rfl (o := y.p) (sp_at y.b _ hy1.hb (by omega))
      rw [hu] at b3
      have HU := Lib.hid hu
      clear hu
      have f3 := HF.free 1 rfl y.p
      have hk1 : (k : Int) < n := by omega
      have hp1 : (y.p : Int) < 200 := by omega
      have hp2 : y.p < 200 := by omega
      have hp3 : y.p + 1 ≤ 200 := by omega
      go_wp2
      refine region_quiet_tail 22 (by kernel_rfl) (by kernel_rfl) ?_
      simp only [List.take_succ_cons, List.take_zero, List.drop_succ_cons, List.drop_zero]
      repeat (go_big_quiet_step (fail))
      refine wpQuiet_nil ?_
      intro nq
      rw [xor8v]
      go_upto_region 9 with (fail)
      have hD := ((HF.drewN nq).store 1 rfl (o := y.p) (u := vb (u ^^^ v))).upd_mk (by simp)
      unfold Sp.vsR at hD
      rw [sp_set _ _ _ hy1.hb (by omega), show y.b.set y.p (u ^^^ v) = xorAt y.b y.p v by unfold xorAt; rw [HU.out]] at hD
      refine absorb_wp hD ?_
      clear hD HF b0 b2 b3 f3 a0 HU
      intro w4 H4
      have hL : Hid ((xorAt y.b y.p v).length = 200) := by unfold Hid; rw [xorAt_length, hy1.hb]
      have HQ : Hid ((⟨xorAt y.b y.p v, y.r, y.f, y.p + 1, y.s⟩ : Sp) = y.lay v) := by unfold Hid; rfl
      have HYB := Lib.hid hy1
      clear hy1
      generalize xorAt y.b y.p v = Bx at H4 hL HQ
      have c2 := H4.cell 1 rfl (o := 202) ((sp_get Bx _ 2 hL.out rfl).trans rfl)
      have f2 := H4.free 1 rfl 202
      go_upto_region 10 with (fail)
      have hD := (H4.store 1 rfl (o := 202) (u := .int .i64 ((y.p + 1 : Nat) : Int))).upd_mk (by simp)
      rw [sp_put Bx _ 2 _ hL.out rfl, Int.natCast_add] at hD
      refine absorb_wp hD ?_
      clear hD H4 c2 f2
      intro w5 H5
      rw [show ((y.p : Int) + ((1 : Nat) : Int)) = ((y.p + 1 : Nat) : Int) by rw [Int.natCast_add]] at H5
      replace H5 : St w F w5 (lay [ledR l (noteN r 3 200 ((x.p + k) / x.r)), .blk g 97 (⟨Bx, y.r, y.f, y.p + 1, y.s⟩ : Sp).vsR]) := H5
      rw [HQ.out] at H5
      clear k1 k2 k3 k4 k5
      have hzb : (y.lay v).b.length = 200 := by rw [← HQ.out]; exact hL.out
      obtain ⟨k1, -, k3, -, -⟩ := Sp.cellsR hzb
      have b0 : w5.cell? ⟨g, 200, none⟩ = some (.int .i64 y.r) := H5.cell 1 rfl k1
      have b2 := H5.cell 1 rfl (o := 202) (u := .int .i64 ((y.p : Int) + 1)) (by rw [k3, ← HQ.out]; simp)
      clear k1 k3 HQ hL
      have HZ := Lib.hid hzb
      clear hzb
      have HC2 : Hid ((x.p + (k + 1)) / x.r = (x.p + k) / x.r + if y.p + 1 = y.r then 1 else 0) := by unfold Hid; rw [HPP.out, HRR.out.1]; exact HC.out
      by_cases he : y.p + 1 = y.r
      · have he1 : ((y.p : Int) + 1 == (y.r : Int)) = true := by simp; omega
        have HP : Hid (y.put v = (y.lay v).perm) := Sp.put_yes v he
        have HCC : Hid ((x.p + (k + 1)) / x.r = (x.p + k) / x.r + 1) := by have h := HC2.out; rw [if_pos he] at h; exact h
        have hcnt : (x.p + k) / x.r ≤ 281474976710856 := Nat.le_trans (Nat.div_le_self _ _) (by omega)
        clear he HC HC2
        go_quiet (fail)
        go_wp2_with fail
        refine (rsPermute_s l _ (m + 1) (b + ((x.p + k) / x.r : Nat)) g (y.lay v) (H5.drewN nq) 0 1 (by omega) rfl rfl (HG.out.noteN 3 200 _) (by omega) (by omega) HZ.out).mono ?_
        rintro e w6 ⟨rfl, H6⟩
        rw [upd_laid (by simp), upd_laid (by simp), noteN_noteN, ← HCC.out, ← HP.out, ← HN.out] at H6
        go_wp2
        go_roundw
        case rel => exact ⟨k + 1, by omega, by go_num, H6⟩
        case measure => simp [intOf]; omega
      · have he1 : ((y.p : Int) + 1 == (y.r : Int)) = false := by simp; omega
        have HP : Hid (y.put v = y.lay v) := Sp.put_no v he
        have HCC : Hid ((x.p + (k + 1)) / x.r = (x.p + k) / x.r) := by have h := HC2.out; rw [if_neg he] at h; exact h
        clear he HC HC2
        go_quiet (fail)
        go_wp2
        go_roundw
        case rel => exact ⟨k + 1, by omega, by go_num, by rw [HCC.out, HN.out, HP.out]; exact H5.drewN _⟩
        case measure => simp [intOf]; omega
    · obtain rfl : n = k := by omega
      go_wp2
      go_ret
      exact ⟨rfl, by rw [List.take_of_length_le (by rw [HL.out]; omega)] at HF; exact HB.out _ _ _ (HF.to2 rfl rfl)⟩

end

end Go.Proofs.Ytgjlclihgpahbaa

namespace Go.Proofs.Ytgjlclihgpahbaa
open Go.RowKit
set_option linter.unusedVariables false
set_option maxRecDepth 100000

attribute [local irreducible] permB kBytes kPerm kFrom

section
variable {w0 w : World} {F0 : List Nat} {E : Env}

set_option maxHeartbeats 2000000 in
theorem rsClose_s (l : Value) (r : Option (List RunT)) (m : Nat) (b : Int) (g : Nat) (x : Sp) (H : St w0 F0 w E) (i j : Nat) (hij : i ≠ j) (hi : E i = some (ledR l r)) (hj : E j = some (.blk g 97 x.vsR)) (hg : LW r m b) (hm : m ≤ 999999999999) (hb : b ≤ 4000000000000000000) (hx : x.Ok) (hs : x.s = false) :
    Calls Try.prog 40 #[lptr g, l] w fun e w' => e = .returned (.int .i64 0) ∧ St w0 F0 w' (upd (upd E i (ledR l (noteN r 3 200 1))) j (.blk g 97 x.close.vsR)) := by
  obtain ⟨F, HF, -, -, hback⟩ := H.frame2 i j hij hi hj
  have HB := Lib.hid hback
  replace HF := HF.as2
  clear H hback
  obtain ⟨k1, k2, k3, k4, k5⟩ := Sp.cellsR hx.hb
  have h8 := hx.r8
  have h192 := hx.r192
  have hop := hx.op hs
  obtain ⟨R, hR⟩ : ∃ R, x.r = R + 1 := ⟨x.r - 1, by omega⟩
  have HE := Lib.hid (Sp.ends_b hR)
  have HRR := Lib.hid hR
  have c0 := HF.cell 1 rfl k5
  have c1 := HF.cell 1 rfl k2
  have c2 := HF.cell 1 rfl k3
  have c3 := HF.cell 1 rfl k4
  rw [hs] at c3
  obtain ⟨u, hu⟩ : ∃ u, x.b.getD x.p 0 = u := ⟨_, rfl⟩
  have b3 := HF.cell 1 rfl (o := x.p) (sp_at x.b _ hx.hb (by omega))
  rw [hu] at b3
  have HU := Lib.hid hu
  have f3 := HF.free 1 rfl x.p
  have hR1 : R ≤ 191 := by omega
  have HX := Lib.hid hx.hb
  have hp1 : (x.p : Int) < 200 := by omega
  have hp2 : x.p < 200 := by omega
  clear k1 k2 k3 k4 k5 hx hs hu hR
  go_enter Try.func40, Try.ntmps40
  go_wp2_with fail
  refine (rsNone_no g w c0).mono ?_
  rintro e w1 ⟨rfl, rfl⟩
  unfold lptr
  go_wp2
  refine region_quiet_tail 22 (by kernel_rfl) (by kernel_rfl) ?_
  simp only [List.take_succ_cons, List.take_zero, List.drop_succ_cons, List.drop_zero]
  repeat (go_big_quiet_step (fail))
  refine wpQuiet_nil ?_
  intro nq
  rw [xor8v]
  go_upto_region 6 with (fail)
  have hD := ((HF.drewN nq).store 1 rfl (o := x.p) (u := vb (u ^^^ x.f))).upd_mk (by simp)
  unfold Sp.vsR at hD
  rw [sp_set _ _ _ HX.out (by omega), show x.b.set x.p (u ^^^ x.f) = xorAt x.b x.p x.f by unfold xorAt; rw [HU.out]] at hD
  refine absorb_wp hD ?_
  clear hD HF c0 c1 c2 c3 b3 f3 HU
  intro w4 H4
  have hL : Hid ((xorAt x.b x.p x.f).length = 200) := by unfold Hid; rw [xorAt_length, HX.out]
  generalize xorAt x.b x.p x.f = Bx at H4 hL HE
  obtain ⟨u2, hu⟩ : ∃ u2, Bx.getD R 0 = u2 := ⟨_, rfl⟩
  have b3 := H4.cell 1 rfl (o := R) (sp_at Bx _ hL.out (by omega))
  rw [hu] at b3
  have HU := Lib.hid hu
  clear hu
  have f3 := H4.free 1 rfl R
  have c0 := H4.cell 1 rfl (o := 200) ((sp_get Bx _ 0 hL.out rfl).trans rfl)
  rw [HRR.out, Int.natCast_add] at c0
  have hp3 : (R : Int) < 200 := by omega
  have hp4 : R < 200 := by omega
  have hw : IntKind.i64.wrap ((R : Int) + 1 - 1) = (R : Int) := by rw [Int.add_sub_cancel]; exact IntWalk.i64_in _ (by omega)
  refine region_quiet_tail 20 (by kernel_rfl) (by kernel_rfl) ?_
  simp only [List.take_succ_cons, List.take_zero, List.drop_succ_cons, List.drop_zero]
  repeat (go_big_quiet_step (fail))
  refine wpQuiet_nil ?_
  intro nq2
  rw [show bits .xor .u8 (u2.toNat : Int) 128 = ((u2 ^^^ 128).toNat : Int) from xor8v u2 128]
  clear hw
  go_upto_region 7 with (fail)
  have hD := ((H4.drewN nq2).store 1 rfl (o := R) (u := vb (u2 ^^^ 128))).upd_mk (by simp)
  rw [sp_set _ _ _ hL.out (by omega), show Bx.set R (u2 ^^^ 128) = xorAt Bx R 128 by unfold xorAt; rw [HU.out], ← HE.out] at hD
  refine absorb_wp hD ?_
  clear hD H4 c0 b3 f3 HU
  intro w5 H5
  have hL5 : Hid (x.ends.b.length = 200) := by unfold Hid; rw [HE.out, xorAt_length, hL.out]
  have HZ : Hid ((x.ends.perm).b = x.close.b) := by unfold Hid; rfl
  replace H5 : St w F w5 (lay [ledR l r, .blk g 97 x.ends.vsR]) := H5
  go_wp2_with fail
  refine (rsPermute_s l r m b g x.ends H5 0 1 (by omega) rfl rfl hg (by omega) (by omega) hL5.out).mono ?_
  rintro e w6 ⟨rfl, H6⟩
  rw [upd_laid (by simp), upd_laid (by simp)] at H6
  have hLp : Hid (x.ends.perm.b.length = 200) := permB_length x.ends.b
  have f6 := H6.free 1 rfl 203
  have c6 := H6.cell 1 rfl (o := 203) (Sp.cellsR hLp.out).2.2.2.1
  go_wp2
  go_ret
  have H7 := (H6.store 1 rfl (o := 203) (u := .bool true)).upd_mk (by simp)
  unfold Sp.vsR at H7
  rw [sp_put _ _ 3 _ hLp.out rfl] at H7
  exact ⟨rfl, HB.out _ _ _ (H7.to2 rfl rfl)⟩

/-- shut already -/
theorem rsClose_no (l : Value) (g : Nat) (x : Sp) (hcs : ∀ k u, x.vsR[k]? = some u → w.cell? ⟨g, k, none⟩ = some u) (hx : x.Ok) (hs : x.s = true) :
    Calls Try.prog 40 #[lptr g, l] w fun e w' => e = .returned (.int .i64 180) ∧ w = w' := by
  obtain ⟨k1, k2, k3, k4, k5⟩ := Sp.cellsR hx.hb
  have h8 := hx.r8
  have c0 := hcs _ _ k5
  have c3 := hcs _ _ k4
  rw [hs] at c3
  clear k1 k2 k3 k4 k5 hx hs hcs
  go_enter Try.func40, Try.ntmps40
  go_wp2_with fail
  refine (rsNone_no g w c0).mono ?_
  rintro e w1 ⟨rfl, rfl⟩
  unfold lptr
  go_wp2
  go_ret
  exact ⟨rfl, rfl⟩

theorem rsWrite_no (l : Value) (g : Nat) (x : Sp) (A : Option Addr) (n c : Nat) (hcs : ∀ k u, x.vsR[k]? = some u → w.cell? ⟨g, k, none⟩ = some u) (hx : x.Ok) (hs : x.s = true) :
    Calls Try.prog 37 #[lptr g, l, .slice A n c] w fun e w' => e = .returned (.int .i64 180) ∧ w = w' := by
  obtain ⟨k1, k2, k3, k4, k5⟩ := Sp.cellsR hx.hb
  have h8 := hx.r8
  have c0 := hcs _ _ k5
  have c3 := hcs _ _ k4
  rw [hs] at c3
  clear k1 k2 k3 k4 k5 hx hs hcs
  go_enter Try.func37, Try.ntmps37
  go_wp2_with fail
  refine (rsNone_no g w c0).mono ?_
  rintro e w1 ⟨rfl, rfl⟩
  unfold lptr
  go_wp2
  go_ret
  exact ⟨rfl, rfl⟩

end

end Go.Proofs.Ytgjlclihgpahbaa

namespace Go.Proofs.Ytgjlclihgpahbaa
open Go.RowKit
set_option linter.unusedVariables false
set_option maxRecDepth 100000

attribute [local irreducible] permB kBytes kPerm kFrom

section
variable {w0 w : World} {F0 : List Nat} {E : Env}

theorem rsread_end {w0 w : World} {F0 : List Nat} {x y : Sp} {t g : Nat} {u : UInt8} {v1 : Value} {A : Own} (h1 : x.after (t + 1) = y.go 1) (h2 : x.read (t + 1) = x.read t ++ (y.b.drop y.p).take 1) (h3 : (y.b.drop y.p).take 1 = [u]) (hb : y.b.length = 200)
    (H : St w0 F0 w (lay [A, .blk g 97 y.vsR, .row 5 1 v1 (t + 1) ((x.read t).map vb ++ [vb u])])) :
    St w0 F0 (w.setCell ⟨g, 202, none⟩ (.int .i64 ((y.p : Int) + 1))) (lay [A, .blk g 97 (x.after (t + 1)).vsR, .row 5 1 v1 (t + 1) ((x.read (t + 1)).map vb)]) := by
  have H2 := (H.store 1 rfl (o := 202) (u := .int .i64 ((y.p : Int) + 1))).upd_mk (by simp)
  unfold Sp.vsR at H2
  rw [sp_put _ _ 2 _ hb rfl, show ((y.p : Int) + 1) = ((y.p + 1 : Nat) : Int) by rw [Int.natCast_add]; rfl] at H2
  rw [h1, h2, h3, List.map_append, show ((y.p : Int) + 1) = ((y.p + 1 : Nat) : Int) by rw [Int.natCast_add]; rfl]
  exact H2

set_option maxHeartbeats 4000000 in
theorem rsRead_s (l : Value) (r : Option (List RunT)) (m : Nat) (b : Int) (g : Nat) (x0 : Sp) (n : Nat) (N : Int) (hN : N = n) (H : St w0 F0 w E) (i j k0 : Nat) (hij : i ≠ j) (hi : E i = some (ledR l r)) (hj : E j = some (.blk g 97 x0.vsR)) (hk : E k0 = none) (hg : LW r m b) (hm : m ≤ 999999999999) (hb : b ≤ 4000000000000000000) (hx0 : x0.Ok) (hn : n ≤ 65536) :
    Calls Try.prog 41 #[lptr g, l, .int .i64 N] w fun e w' => ∃ v, e = .returned (.tuple #[v, .int .i64 0]) ∧ St w0 F0 w' (upd (upd (upd E i (ledR l (noteN r 3 200 (x0.shutN + (x0.shut.p + n - 1) / x0.r)))) j (.blk g 97 (x0.shut.after n).vsR)) k0 (.row 5 1 v n ((x0.shut.read n).map vb))) := by
  subst hN
  obtain ⟨i0, hi0, hz0, hz1, hz2⟩ := info_parts u8_info
  obtain ⟨F, HF, -, -, hback⟩ := H.frame2 i j hij hi hj
  have HB := Lib.hid hback
  have HKK := Lib.hid hk
  have HIJ := Lib.hid hij
  have HI := Lib.hid hi
  have HJ := Lib.hid hj
  replace HF := HF.as2
  clear H hback hi hj hk hij
  obtain ⟨k1, k2, k3, k4, k5⟩ := Sp.cellsR hx0.hb
  have h8 := hx0.r8
  have c0 := HF.cell 1 rfl k5
  have c3 := HF.cell 1 rfl k4
  clear k1 k2 k3 k4 k5
  obtain ⟨x, c0', hxe, hce, hxok, hxs, hcl⟩ : ∃ (x : Sp) (c0' : Nat), Hid (x0.shut = x) ∧ Hid (x0.shutN = c0') ∧ Hid x.Ok ∧ Hid (x.s = true) ∧ c0' ≤ 1 := ⟨_, _, rfl, rfl, (Sp.shut_ok hx0).1, (Sp.shut_ok hx0).2.1, by unfold Sp.shutN; split <;> omega⟩
  have hrr : Hid (x.r = x0.r) := by unfold Hid; rw [← hxe.out]; exact (Sp.shut_ok hx0).2.2
  have hnn : decide ((n : Int) < 0) = false := by simp
  have hnn2 : decide ((n : Int) > 65536) = false := by simp; omega
  have HX0 := Lib.hid hx0
  clear hx0
  rcases hs : x0.s with _ | _
  all_goals rw [hs] at c3
  have hS := Lib.hid hs
  have e1 : Hid (x = x0.close) := by unfold Hid; rw [← hxe.out]; unfold Sp.shut; rw [if_neg (by rw [hs]; decide)]
  have e2 : Hid (c0' = 1) := by unfold Hid; rw [← hce.out]; unfold Sp.shutN; rw [if_neg (by rw [hs]; decide)]
  clear hs
  go_enter Try.func41, Try.ntmps41
  go_wp2_with fail
  refine (rsNone_no g w c0).mono ?_
  rintro e w1 ⟨rfl, rfl⟩
  unfold lptr
  go_wp2_with fail
  refine (rsClose_s l r m b g x0 HF 0 1 (by omega) rfl rfl hg hm hb HX0.out hS.out).mono ?_
  rintro e w2 ⟨rfl, H2⟩
  rw [upd_laid (by simp), upd_laid (by simp)] at H2
  replace H2 : St w F w2 (lay [ledR l (noteN r 3 200 c0'), .blk g 97 x.vsR]) := by rw [e1.out, e2.out]; exact H2
  clear c0 c3 HF
  go_upto_region 7 with (fail)
  refine absorb_wp (E := lay [ledR l (noteN r 3 200 c0'), .blk g 97 x.vsR]) H2 ?_
  clear H2 hnn hnn2
  intro w2 H2
  rotate_left
  have e1 : Hid (x = x0) := by unfold Hid; rw [← hxe.out]; unfold Sp.shut; rw [if_pos hs]
  have e2 : Hid (c0' = 0) := by unfold Hid; rw [← hce.out]; unfold Sp.shutN; rw [if_pos hs]
  clear hs
  go_enter Try.func41, Try.ntmps41
  go_wp2_with fail
  refine (rsNone_no g w c0).mono ?_
  rintro e w1 ⟨rfl, rfl⟩
  unfold lptr
  replace HF : St w F w (lay [ledR l (noteN r 3 200 c0'), .blk g 97 x.vsR]) := by rw [e1.out, e2.out, noteN_zero]; exact HF
  go_upto_region 7 with (fail)
  refine absorb_wp (E := lay [ledR l (noteN r 3 200 c0'), .blk g 97 x.vsR]) HF ?_
  clear HF hnn hnn2 c0 c3
  intro w2 H2
  rotate_left
  all_goals
    have H3 := (H2.nilRow 2 rfl 5 1).push_mk rfl
    clear H2 e1 e2
    go_wp2
    go_loopw [8, 9] (fun v i wr => ∃ t c : Nat, t ≤ n ∧ i = .int .i64 t ∧ Hid (c * x.r + (x.after t).p = x.p + t ∧ (t = 0 → c = 0) ∧ (0 < t → 1 ≤ (x.after t).p)) ∧ St w F wr (lay [ledR l (noteN r 3 200 (c0' + c)), .blk g 97 (x.after t).vsR, .row 5 1 v t ((x.read t).map vb)])) (fun _ i _ => n - (intOf i).toNat)
    case atStart => exact ⟨0, 0, Nat.zero_le _, rfl, ⟨by rw [Sp.after_zero]; omega, fun _ => rfl, fun h => absurd h (by omega)⟩, H3⟩
    case round =>
      clear H3
      obtain ⟨t, c, ht, rfl, HC, H⟩ := hrel
      obtain ⟨A9, c9, rfl, -⟩ := row_form (H.row 2 rfl)
      by_cases hlt : t < n
      · have hz := Sp.after_ok hxok.out hxs.out t
        have HZ : Hid ((x.after t).Ok ∧ (x.after t).r = x.r ∧ (x.after t).s = true) := ⟨hz.1, hz.2.1, hz.2.2.1⟩
        have hcb : c ≤ 65800 := by
          have h1 := HC.out.1
          have h2 := hxok.out.pr
          have h3 := hxok.out.r192
          have h4 := hxok.out.r8
          have : c * 1 ≤ c * x.r := Nat.mul_le_mul_left c (by omega)
          omega
        generalize hzz : x.after t = z at H HC HZ
        have HZZ := Lib.hid hzz
        clear hzz hz
        obtain ⟨k1, k2, k3, k4, k5⟩ := Sp.cellsR HZ.out.1.hb
        have b0 := H.cell 1 rfl k1
        have b2 := H.cell 1 rfl k3
        have hk1 : (t : Int) < n := by omega
        clear k1 k2 k3 k4 k5
        by_cases he : z.p = z.r
        have he1 : ((z.p : Int) == (z.r : Int)) = true := by simp; omega
        have HY := Lib.hid (Sp.turn_yes he)
        have hzp := HZ.out.1.hb
        have HCC : Hid ((c + 1) * x.r + z.turn.p = x.p + t ∧ 1 = 1) := by
          refine ⟨?_, rfl⟩
          have h1 := HC.out.1
          rw [HY.out]
          show (c + 1) * x.r + 0 = x.p + t
          rw [Nat.add_mul, Nat.one_mul, ← h1, he, HZ.out.2.1, Nat.add_zero]
        clear he
        go_wp2
        go_quiet (fail)
        go_wp2_with fail
        refine (rsPermute_s l _ (m + 1) (b + ((c0' + c : Nat) : Int)) g z (H.drewN nq) 0 1 (by omega) rfl rfl (hg.noteN 3 200 _) (by omega) (by omega) hzp).mono ?_
        rintro e w6 ⟨rfl, H6⟩
        rw [upd_laid (by simp), upd_laid (by simp), noteN_noteN] at H6
        go_upto_region 13 with (fail)
        obtain ⟨c', HCY, hcb', H7⟩ : ∃ c', Hid (c' * x.r + z.turn.p = x.p + t) ∧ c' ≤ 65801 ∧ St w F w6 (lay [ledR l (noteN r 3 200 (c0' + c')), .blk g 97 z.turn.vsR, .row 5 1 (.slice A9 t c9) t ((x.read t).map vb)]) := ⟨c + 1, HCC.out.1, by omega, by rw [HY.out]; exact H6⟩
        refine absorb_wp H7 ?_
        clear H6 H7 H HCC he1
        intro w7 H
        rotate_left
        have he1 : ((z.p : Int) == (z.r : Int)) = false := by simp; omega
        have HY := Lib.hid (Sp.turn_no he)
        go_wp2
        go_quiet (fail)
        go_upto_region 13 with (fail)
        obtain ⟨c', HCY, hcb', H7⟩ : ∃ c', Hid (c' * x.r + z.turn.p = x.p + t) ∧ c' ≤ 65801 ∧ St w F (wr.drewN nq) (lay [ledR l (noteN r 3 200 (c0' + c')), .blk g 97 z.turn.vsR, .row 5 1 (.slice A9 t c9) t ((x.read t).map vb)]) := ⟨c, by unfold Hid; rw [HY.out]; exact HC.out.1, by omega, by rw [HY.out]; exact H.drewN _⟩
        refine absorb_wp H7 ?_
        clear H7 H he1
        intro w7 H
        rotate_left
        all_goals
          clear HY HC b0 b2
          have hz1 := Sp.turn_lt HZ.out.1
          have hz2 := Sp.turn_r z
          have hze := HZZ.out
          have HAG := Sp.after_succ x t
          have hRM := Sp.read_more (x := x) t 1
          rw [hze] at HAG hRM
          have hzr := HZ.out.2.1
          have h192 := HZ.out.1.r192
          have h88 := HZ.out.1.r8
          have hr1 : z.turn.r = z.r := hz2.1
          rw [hzr] at hr1 h192 h88
          obtain ⟨hp1, hb2⟩ := hz1
          rw [hzr] at hp1
          have hRM := hRM (by omega) (by omega) hb2
          generalize z.turn = y at H HCY HAG hRM hp1 hb2 hr1
          clear hz2 hze hzr HZ HZZ
          have HAG1 := Lib.hid HAG
          have HRM1 := Lib.hid hRM
          obtain ⟨k1, -, k3, -, -⟩ := Sp.cellsR hb2
          have HR1 := Lib.hid hr1
          have HB2 := Lib.hid hb2
          have b3 : y.vsR[y.p]? = some (vb (y.b.getD y.p 0)) := sp_at y.b _ hb2 (by omega)
          have HU : Hid ((y.b.drop y.p).take 1 = [y.b.getD y.p 0]) := by
            unfold Hid
            rw [List.drop_eq_getElem_cons (by omega), List.take_succ_cons, List.take_zero, List.getD_eq_getElem?_getD, List.getElem?_eq_getElem (by omega), Option.getD_some]
          generalize y.b.getD y.p 0 = u at b3 HU
          clear HAG hRM hr1 hb2
          have hp3 : (y.p : Int) < 200 := by omega
          have hp4 : y.p < 200 := by omega
          replace H := H.drew
          refine wp_region_held_drew (S := fun w' : World => ∃ Z, St w F w' (lay [ledR l (noteN r 3 200 (c0' + c')), .blk g 97 y.vsR, Z])) (by kernel_rfl) ?_ (fun hHeld => ?_)
          · exact ⟨_, H⟩
          refine takeV 0 rfl (by intro w h; clear h; go_simp; try with_reducible rfl) (by kernel_rfl) (by kernel_rfl) (by kernel_rfl) (by exact fun _ _ _ h => h) (by rfl) (by assumption) ?_
          try simp only [Act.put, List.setIfInBounds_toArray, List.set_cons_zero, List.set_cons_succ]
          refine takeV 1 rfl (by intro w h; clear h; go_simp; try with_reducible rfl) (by kernel_rfl) (by kernel_rfl) (by kernel_rfl) (by exact fun _ _ _ h => h) (by rfl) (by assumption) ?_
          try simp only [Act.put, List.setIfInBounds_toArray, List.set_cons_zero, List.set_cons_succ]
          refine takeV 2 rfl (by intro w h; clear h; go_simp; try with_reducible rfl) (by kernel_rfl) (by kernel_rfl) (by kernel_rfl) (by exact fun _ _ _ h => h) (by rfl) (by assumption) ?_
          try simp only [Act.put, List.setIfInBounds_toArray, List.set_cons_zero, List.set_cons_succ]
          refine takeV 3 rfl (by intro w h; clear h; go_simp; try with_reducible rfl) (by kernel_rfl) (by kernel_rfl) (by kernel_rfl) (by exact fun _ _ _ h => h) (by rfl) (by assumption) ?_
          try simp only [Act.put, List.setIfInBounds_toArray, List.set_cons_zero, List.set_cons_succ]
          refine takeV 4 rfl (by intro w h; clear h; go_simp; try with_reducible rfl) (by kernel_rfl) (by kernel_rfl) (by kernel_rfl) (by exact fun _ _ _ h => h) (by rfl) (by assumption) ?_
          try simp only [Act.put, List.setIfInBounds_toArray, List.set_cons_zero, List.set_cons_succ]
          refine takeV 5 rfl (by intro w h; have hc := (h.elim fun Z h => h.cell 1 rfl k3); clear h; go_simp; try with_reducible rfl) (by kernel_rfl) (by kernel_rfl) (by kernel_rfl) (by exact fun _ _ _ h => h) (by rfl) (by assumption) ?_
          try simp only [Act.put, List.setIfInBounds_toArray, List.set_cons_zero, List.set_cons_succ]
          refine takeV 6 rfl (by intro w h; clear h; go_simp; try with_reducible rfl) (by kernel_rfl) (by kernel_rfl) (by kernel_rfl) (by exact fun _ _ _ h => h) (by rfl) (by assumption) ?_
          try simp only [Act.put, List.setIfInBounds_toArray, List.set_cons_zero, List.set_cons_succ]
          refine takeV 7 rfl (by intro w h; clear h; go_simp; try with_reducible rfl) (by kernel_rfl) (by kernel_rfl) (by kernel_rfl) (by exact fun _ _ _ h => h) (by rfl) (by assumption) ?_
          try simp only [Act.put, List.setIfInBounds_toArray, List.set_cons_zero, List.set_cons_succ]
          refine takeV 8 rfl (by intro w h; clear h; go_simp; try with_reducible rfl) (by kernel_rfl) (by kernel_rfl) (by kernel_rfl) (by exact fun _ _ _ h => h) (by rfl) (by assumption) ?_
          try simp only [Act.put, List.setIfInBounds_toArray, List.set_cons_zero, List.set_cons_succ]
          refine takeV 9 rfl (by intro w h; have hc := (h.elim fun Z h => h.cell 1 rfl b3); clear h; go_simp; try with_reducible rfl) (by kernel_rfl) (by kernel_rfl) (by kernel_rfl) (by exact fun _ _ _ h => h) (by rfl) (by assumption) ?_
          try simp only [Act.put, List.setIfInBounds_toArray, List.set_cons_zero, List.set_cons_succ]
          refine take_call 10 rfl (by kernel_rfl) (fun K hK => ?_)
          go_simp
          have H4 := (H.alloc 3 rfl #[vb u] 5).push_mk rfl
          refine hK.out _ _ ⟨_, H4.front 3⟩ (fun hHeld => ?_)
          clear hK K
          try simp only [Act.put, List.setIfInBounds_toArray, List.set_cons_zero, List.set_cons_succ]
          refine take_call 11 rfl (by kernel_rfl) (fun K hK => ?_)
          refine step_append_any _ (by rfl) (.tmp 43) (.tmp 53) _ (by rfl) 0 5 i0 (.int .u8 0) 1 1 Try.underlying27 hi0 hz0 hz1 hz2 rfl (by omega) (.slice A9 t c9) t ((x.read t).map vb) (by rfl) (H4.row 2 rfl) _ 1 1 [vb u] (by rfl) (H4.rdBlk 3 rfl 1 1 rfl) (by intro q hq; simp at hq; subst hq; rfl) (by simp only [maxLen]; omega) (by omega) (Nat.zero_le _) ?_
          intro v1 w5 hown hg2 hat
          have H5 := ((H4.grow 2 rfl hown hg2 hat).upd_mk (by simp)).front 3
          refine hK.out _ _ ⟨_, H5⟩ (fun hHeld => ?_)
          clear hK K H4 H hown hg2 hat
          try simp only [Act.put, List.setIfInBounds_toArray, List.set_cons_zero, List.set_cons_succ]
          refine takeV 12 rfl (by intro w h; clear h; go_simp; try with_reducible rfl) (by kernel_rfl) (by kernel_rfl) (by kernel_rfl) (by exact fun _ _ _ h => h) (by rfl) (by assumption) ?_
          try simp only [Act.put, List.setIfInBounds_toArray, List.set_cons_zero, List.set_cons_succ]
          refine wpAnyH_done (by kernel_rfl) ?_ _
          have H6 : St w F w5 (lay [ledR l (noteN r 3 200 (c0' + c')), .blk g 97 y.vsR, .row 5 1 v1 (t + 1) ((x.read t).map vb ++ [vb u])]) := H5
          clear hHeld H5
          have c2 := H6.cell 1 rfl k3
          have f2 := H6.free 1 rfl 202
          clear b3 k1 k3
          go_wp2
          go_roundw
          case rel => exact ⟨t + 1, c', by omega, by go_num, ⟨by rw [HAG1.out]; show c' * x.r + (y.p + 1) = _; have := HCY.out; omega, fun h => absurd h (by omega), fun _ => by rw [HAG1.out]; show 1 ≤ y.p + 1; omega⟩, rsread_end HAG1.out HRM1.out HU.out HB2.out H6⟩
          case measure => simp [intOf]; omega
      · obtain rfl : n = t := by omega
        have hcc : Hid (c = (x.p + n - 1) / x.r) := count_end HC.out.1 (by have h := Sp.after_ok hxok.out hxs.out n; rw [← h.2.1]; exact h.1.pr) HC.out.2.1 HC.out.2.2 (by have := hxok.out.r8; omega) hxok.out.pr
        have H8 := H
        rw [hcc.out, hrr.out, ← hxe.out, ← hce.out] at H8
        clear H HC
        go_wp2
        go_ret2
        exact ⟨_, rfl, St.two_more HIJ.out HI.out HJ.out HKK.out HB.out H8⟩

end

end Go.Proofs.Ytgjlclihgpahbaa

namespace Go.Proofs.Ytgjlclihgpahbaa
open Go.RowKit
set_option linter.unusedVariables false
set_option maxRecDepth 100000

attribute [local irreducible] permB kBytes kPerm kFrom

def okR (Z : Int) : Prop := 0 ≤ Z ∧ Z ≤ 65536

instance (Z : Int) : Decidable (okR Z) := inferInstanceAs (Decidable (_ ∧ _))

def Sp.rdB (x : Sp) (Z : Int) : List UInt8 := if okR Z then x.shut.read Z.toNat else []
def Sp.rdS (x : Sp) (Z : Int) : Sp := if okR Z then x.shut.after Z.toNat else x
def Sp.rdN (x : Sp) (Z : Int) : Nat := if okR Z then x.shutN + (x.shut.p + Z.toNat - 1) / x.r else 0
def rdE (Z : Int) : Int := if okR Z then 0 else 2

theorem Sp.rdB_le (x : Sp) (Z : Int) : (x.rdB Z).length ≤ 65536 := by
  unfold Sp.rdB
  split
  · rename_i h; rw [Sp.read_length]; have := h.2; omega
  · simp

theorem Sp.rdN_le {x : Sp} (h : x.Ok) (Z : Int) : x.rdN Z ≤ 70000 := by
  unfold Sp.rdN
  split
  · rename_i hz
    have h1 : x.shutN ≤ 1 := by unfold Sp.shutN; split <;> omega
    have h2 := (Sp.shut_ok h).1
    have h3 := h2.pr
    have h4 := h2.r192
    have h5 : (x.shut.p + Z.toNat - 1) / x.r ≤ x.shut.p + Z.toNat - 1 := Nat.div_le_self _ _
    have := hz.2
    omega
  · omega

theorem Sp.rdS_ok {x : Sp} (h : x.Ok) (Z : Int) : (x.rdS Z).Ok := by
  unfold Sp.rdS
  split
  · have h2 := Sp.shut_ok h
    exact (Sp.after_ok h2.1 h2.2.1 _).1
  · exact h

section
variable {w0 w : World} {F0 : List Nat} {E : Env}

theorem spRead_no (l : Value) (g : Nat) (x : Sp) (n : Int) (H : St w0 F0 w E) (j : Nat) (hj : E j = some (.blk g 71 x.vs)) (hx : x.Ok) (hn : n < 0 ∨ 65536 < n) :
    Calls Try.prog 9 #[lptr g, l, .int .i64 n] w fun e w' => e = .returned (.tuple #[.slice none 0 0, .int .i64 2]) ∧ w = w' := by
  obtain ⟨k1, k2, k3, k4⟩ := Sp.cells hx.hb
  have h8 := hx.r8
  have c0 := H.cell j hj k1
  clear k1 k2 k3 k4 hx hj H
  by_cases h1 : n < 0
  · have d1 : decide (n < 0) = true := by simp; omega
    clear hn h1
    go_enter Try.func9, Try.ntmps9
    go_wp2_with fail
    refine (spNone_no g x.r w c0 (by omega)).mono ?_
    rintro e w1 ⟨rfl, rfl⟩
    unfold lptr
    go_wp2
    go_ret2
    exact ⟨rfl, rfl⟩
  · have d1 : decide (n < 0) = false := by simp; omega
    have d2 : decide (n > 65536) = true := by simp; omega
    clear hn h1
    go_enter Try.func9, Try.ntmps9
    go_wp2_with fail
    refine (spNone_no g x.r w c0 (by omega)).mono ?_
    rintro e w1 ⟨rfl, rfl⟩
    unfold lptr
    go_wp2
    go_ret2
    exact ⟨rfl, rfl⟩

theorem spRead_any (l : Value) (r : Option (List RunT)) (m : Nat) (b : Int) (g : Nat) (x : Sp) (Z : Int) (H : St w0 F0 w E) (i j k : Nat) (hij : i ≠ j) (hi : E i = some (led l r)) (hj : E j = some (.blk g 71 x.vs)) (hk : E k = none) (hg : LW r m b) (hm : m ≤ 999999999999) (hb : b ≤ 4000000000000000000) (hx : x.Ok) :
    Calls Try.prog 9 #[lptr g, l, .int .i64 Z] w fun e w' => ∃ v, e = .returned (.tuple #[v, .int .i64 (rdE Z)]) ∧ St w0 F0 w' (upd (upd (upd E i (led l (noteN r 3 200 (x.rdN Z)))) j (.blk g 71 (x.rdS Z).vs)) k (.row 5 1 v (x.rdB Z).length ((x.rdB Z).map vb))) := by
  by_cases hz : okR Z
  · have e1 : x.rdB Z = x.shut.read Z.toNat := if_pos hz
    have e2 : x.rdS Z = x.shut.after Z.toNat := if_pos hz
    have e3 : x.rdN Z = x.shutN + (x.shut.p + Z.toNat - 1) / x.r := if_pos hz
    have e4 : rdE Z = 0 := if_pos hz
    rw [e1, e2, e3, e4, Sp.read_length]
    exact spRead_s l r m b g x Z.toNat Z (by have := hz.1; omega) H i j k hij hi hj hk hg hm hb hx (by have := hz.2; omega)
  · have e1 : x.rdB Z = [] := if_neg hz
    have e2 : x.rdS Z = x := if_neg hz
    have e3 : x.rdN Z = 0 := if_neg hz
    have e4 : rdE Z = 2 := if_neg hz
    rw [e1, e2, e3, e4, noteN_zero]
    refine (spRead_no l g x Z H j hj hx (by unfold okR at hz; omega)).mono ?_
    rintro e w1 ⟨rfl, rfl⟩
    refine ⟨_, rfl, ?_⟩
    rw [upd_id hi, upd_id hj]
    exact H.nilRow k hk _ _

theorem rsRead_no (l : Value) (g : Nat) (x : Sp) (n : Int) (H : St w0 F0 w E) (j : Nat) (hj : E j = some (.blk g 97 x.vsR)) (hx : x.Ok) (hn : n < 0 ∨ 65536 < n) :
    Calls Try.prog 41 #[lptr g, l, .int .i64 n] w fun e w' => e = .returned (.tuple #[.slice none 0 0, .int .i64 2]) ∧ w = w' := by
  obtain ⟨k1, k2, k3, k4, k5⟩ := Sp.cellsR hx.hb
  have h8 := hx.r8
  have c0 := H.cell j hj k5
  clear k1 k2 k3 k4 k5 hx hj H
  by_cases h1 : n < 0
  · have d1 : decide (n < 0) = true := by simp; omega
    clear hn h1
    go_enter Try.func41, Try.ntmps41
    go_wp2_with fail
    refine (rsNone_no g w c0).mono ?_
    rintro e w1 ⟨rfl, rfl⟩
    unfold lptr
    go_wp2
    go_ret2
    exact ⟨rfl, rfl⟩
  · have d1 : decide (n < 0) = false := by simp; omega
    have d2 : decide (n > 65536) = true := by simp; omega
    clear hn h1
    go_enter Try.func41, Try.ntmps41
    go_wp2_with fail
    refine (rsNone_no g w c0).mono ?_
    rintro e w1 ⟨rfl, rfl⟩
    unfold lptr
    go_wp2
    go_ret2
    exact ⟨rfl, rfl⟩

theorem rsRead_any (l : Value) (r : Option (List RunT)) (m : Nat) (b : Int) (g : Nat) (x : Sp) (Z : Int) (H : St w0 F0 w E) (i j k : Nat) (hij : i ≠ j) (hi : E i = some (ledR l r)) (hj : E j = some (.blk g 97 x.vsR)) (hk : E k = none) (hg : LW r m b) (hm : m ≤ 999999999999) (hb : b ≤ 4000000000000000000) (hx : x.Ok) :
    Calls Try.prog 41 #[lptr g, l, .int .i64 Z] w fun e w' => ∃ v, e = .returned (.tuple #[v, .int .i64 (rdE Z)]) ∧ St w0 F0 w' (upd (upd (upd E i (ledR l (noteN r 3 200 (x.rdN Z)))) j (.blk g 97 (x.rdS Z).vsR)) k (.row 5 1 v (x.rdB Z).length ((x.rdB Z).map vb))) := by
  by_cases hz : okR Z
  · have e1 : x.rdB Z = x.shut.read Z.toNat := if_pos hz
    have e2 : x.rdS Z = x.shut.after Z.toNat := if_pos hz
    have e3 : x.rdN Z = x.shutN + (x.shut.p + Z.toNat - 1) / x.r := if_pos hz
    have e4 : rdE Z = 0 := if_pos hz
    rw [e1, e2, e3, e4, Sp.read_length]
    exact rsRead_s l r m b g x Z.toNat Z (by have := hz.1; omega) H i j k hij hi hj hk hg hm hb hx (by have := hz.2; omega)
  · have e1 : x.rdB Z = [] := if_neg hz
    have e2 : x.rdS Z = x := if_neg hz
    have e3 : x.rdN Z = 0 := if_neg hz
    have e4 : rdE Z = 2 := if_neg hz
    rw [e1, e2, e3, e4, noteN_zero]
    refine (rsRead_no l g x Z H j hj hx (by unfold okR at hz; omega)).mono ?_
    rintro e w1 ⟨rfl, rfl⟩
    refine ⟨_, rfl, ?_⟩
    rw [upd_id hi, upd_id hj]
    exact H.nilRow k hk _ _
end
end Go.Proofs.Ytgjlclihgpahbaa

namespace Go.Proofs.Ytgjlclihgpahbaa
open Go.RowKit
set_option linter.unusedVariables false
set_option maxRecDepth 100000

attribute [local irreducible] permB kBytes kPerm kFrom

section
variable {w0 w : World} {F0 : List Nat} {E : Env}

theorem St.drop {A : Own} {k : Nat} (hk : E k = none) (H : St w0 F0 w (upd E k A)) : St w0 F0 w E := H.sub fun n C hC => by
  have : n ≠ k := fun e => by rw [e, hk] at hC; cases hC
  rw [show upd E k A n = E n from if_neg this]; exact hC

set_option maxHeartbeats 2000000 in
theorem spForm_s (g : Nat) (x : Sp) (H : St w0 F0 w E) (j k : Nat) (hj : E j = some (.blk g 71 x.vs)) (hk : E k = none) (hx : x.Ok) :
    Calls Try.prog 22 #[lptr g] w fun e w' => ∃ v, e = .returned v ∧ St w0 F0 w' (upd E k (.row 5 1 v 203 (x.form.map vb))) := by
  obtain ⟨i0, hi0, hz0, hz1, hz2⟩ := info_parts u8_info
  obtain ⟨k1, k2, k3, k4⟩ := Sp.cells hx.hb
  have h8 := hx.r8
  have hp : x.p ≤ 192 := Nat.le_trans hx.pr hx.r192
  have c0 := H.cell j hj k1
  have HX := Lib.hid hx.hb
  have HJ := Lib.hid hj
  have HK := Lib.hid hk
  clear hj hk hx
  go_enter Try.func22, Try.ntmps22
  go_wp2_with fail
  refine (spNone_no g x.r w c0 (by omega)).mono ?_
  rintro e w1 ⟨rfl, rfl⟩
  unfold lptr
  have hp1 : (x.p : Int) ≤ 192 := by omega
  have hq1 : Hid (IntKind.u8.wrap ((x.p : Int) / 256) = 0) := by unfold Hid; rw [show (x.p : Int) / 256 = 0 by omega]; rfl
  have hq2 : Hid (IntKind.u8.wrap (x.p : Int) = ((UInt8.ofNat x.p).toNat : Int)) := by unfold Hid; rw [IntKind.wrap_u8, UInt8.toNat_ofNat']; omega
  have HF : Hid (x.form = x.b ++ [0, UInt8.ofNat x.p, if x.s = true then 1 else 0]) := by unfold Hid; rfl
  have c3 := H.cell j HJ.out k4
  go_wp2
  replace H := H.drew
  refine wp_region_held_drew (S := fun w' : World => St w0 F0 w' E) (by kernel_rfl) ?_ (fun hHeld => ?_)
  · exact H
  refine takeV 0 rfl (by intro w h; clear h; go_simp; try with_reducible rfl) (by kernel_rfl) (by kernel_rfl) (by kernel_rfl) (by exact fun _ _ _ h => h) (by rfl) (by assumption) ?_
  try simp only [Act.put, List.setIfInBounds_toArray, List.set_cons_zero, List.set_cons_succ]
  refine takeV 1 rfl (by intro w h; clear h; go_simp; try with_reducible rfl) (by kernel_rfl) (by kernel_rfl) (by kernel_rfl) (by exact fun _ _ _ h => h) (by rfl) (by assumption) ?_
  try simp only [Act.put, List.setIfInBounds_toArray, List.set_cons_zero, List.set_cons_succ]
  refine takeV 2 rfl (by intro w h; clear h; go_simp; try with_reducible rfl) (by kernel_rfl) (by kernel_rfl) (by kernel_rfl) (by exact fun _ _ _ h => h) (by rfl) (by assumption) ?_
  try simp only [Act.put, List.setIfInBounds_toArray, List.set_cons_zero, List.set_cons_succ]
  refine takeV 3 rfl (by intro w h; clear h; go_simp; try with_reducible rfl) (by kernel_rfl) (by kernel_rfl) (by kernel_rfl) (by exact fun _ _ _ h => h) (by rfl) (by assumption) ?_
  try simp only [Act.put, List.setIfInBounds_toArray, List.set_cons_zero, List.set_cons_succ]
  refine takeV 4 rfl (by intro w h; clear h; go_simp; try with_reducible rfl) (by kernel_rfl) (by kernel_rfl) (by kernel_rfl) (by exact fun _ _ _ h => h) (by rfl) (by assumption) ?_
  try simp only [Act.put, List.setIfInBounds_toArray, List.set_cons_zero, List.set_cons_succ]
  refine takeV 5 rfl (by intro w h; clear h; go_simp; try with_reducible rfl) (by kernel_rfl) (by kernel_rfl) (by kernel_rfl) (by exact fun _ _ _ h => h) (by rfl) (by assumption) ?_
  try simp only [Act.put, List.setIfInBounds_toArray, List.set_cons_zero, List.set_cons_succ]
  refine takeV 6 rfl (by intro w h; clear h; go_simp; try with_reducible rfl) (by kernel_rfl) (by kernel_rfl) (by kernel_rfl) (by exact fun _ _ _ h => h) (by rfl) (by assumption) ?_
  try simp only [Act.put, List.setIfInBounds_toArray, List.set_cons_zero, List.set_cons_succ]
  refine takeV 7 rfl (by intro w h; have hc := h.cell j HJ.out k3; clear h; go_simp; try with_reducible rfl) (by kernel_rfl) (by kernel_rfl) (by kernel_rfl) (by exact fun _ _ _ h => h) (by rfl) (by assumption) ?_
  try simp only [Act.put, List.setIfInBounds_toArray, List.set_cons_zero, List.set_cons_succ]
  refine takeV 8 rfl (by intro w h; clear h; go_simp; try with_reducible rfl) (by kernel_rfl) (by kernel_rfl) (by kernel_rfl) (by exact fun _ _ _ h => h) (by rfl) (by assumption) ?_
  try simp only [Act.put, List.setIfInBounds_toArray, List.set_cons_zero, List.set_cons_succ]
  refine takeV 9 rfl (by intro w h; clear h; go_simp; try with_reducible rfl) (by kernel_rfl) (by kernel_rfl) (by kernel_rfl) (by exact fun _ _ _ h => h) (by rfl) (by assumption) ?_
  try simp only [Act.put, List.setIfInBounds_toArray, List.set_cons_zero, List.set_cons_succ]
  refine takeV 10 rfl (by intro w h; clear h; go_simp; try with_reducible rfl) (by kernel_rfl) (by kernel_rfl) (by kernel_rfl) (by exact fun _ _ _ h => h) (by rfl) (by assumption) ?_
  try simp only [Act.put, List.setIfInBounds_toArray, List.set_cons_zero, List.set_cons_succ]
  refine takeV 11 rfl (by intro w h; clear h; go_simp; try with_reducible rfl) (by kernel_rfl) (by kernel_rfl) (by kernel_rfl) (by exact fun _ _ _ h => h) (by rfl) (by assumption) ?_
  try simp only [Act.put, List.setIfInBounds_toArray, List.set_cons_zero, List.set_cons_succ]
  refine takeV 12 rfl (by intro w h; clear h; go_simp; try with_reducible rfl) (by kernel_rfl) (by kernel_rfl) (by kernel_rfl) (by exact fun _ _ _ h => h) (by rfl) (by assumption) ?_
  try simp only [Act.put, List.setIfInBounds_toArray, List.set_cons_zero, List.set_cons_succ]
  refine takeV 13 rfl (by intro w h; have hc := h.cell j HJ.out k3; clear h; go_simp; try with_reducible rfl) (by kernel_rfl) (by kernel_rfl) (by kernel_rfl) (by exact fun _ _ _ h => h) (by rfl) (by assumption) ?_
  try simp only [Act.put, List.setIfInBounds_toArray, List.set_cons_zero, List.set_cons_succ]
  refine takeV 14 rfl (by intro w h; clear h; go_simp; try with_reducible rfl) (by kernel_rfl) (by kernel_rfl) (by kernel_rfl) (by exact fun _ _ _ h => h) (by rfl) (by assumption) ?_
  try simp only [Act.put, List.setIfInBounds_toArray, List.set_cons_zero, List.set_cons_succ]
  rw [hq1.out, hq2.out]
  generalize UInt8.ofNat x.p = P8 at HF
  refine take_call 15 rfl (by kernel_rfl) (fun K hK => ?_)
  go_simp
  have H4 := H.alloc k HK.out #[.int .u8 0, .int .u8 (P8.toNat : Int), .int .u8 0] 5
  refine hK.out _ _ (St.drop HK.out H4) (fun hHeld => ?_)
  clear hK K
  try simp only [Act.put, List.setIfInBounds_toArray, List.set_cons_zero, List.set_cons_succ]
  have hjk : upd E k (.blk w.drew.heap.size 5 [.int .u8 0, .int .u8 (P8.toNat : Int), .int .u8 0]) j = some (.blk g 71 x.vs) := by rw [show upd E k _ j = E j from if_neg fun e => by have := HJ.out; rw [e, HK.out] at this; cases this]; exact HJ.out
  refine take_call 16 rfl (by kernel_rfl) (fun K hK => ?_)
  refine step_append_grows _ (by rfl) (.tmp 9) (.tmp 21) _ (by rfl) 5 i0 (.int .u8 0) 1 1 Try.underlying27 hi0 hz0 hz1 hz2 rfl (by omega) ⟨g, 0, none⟩ 200 200 (x.b.map vb) (by rfl) (by rw [List.length_map, HX.out]) (fun i u hu => by rw [Addr.add_mid, Nat.zero_add]; exact H4.cell j hjk (by unfold Sp.vs; rw [List.getElem?_append_left (List.getElem?_eq_some_iff.1 hu).1]; exact hu)) ⟨_, 0, none⟩ 3 3 [.int .u8 0, .int .u8 (P8.toNat : Int), .int .u8 0] (by rfl) rfl (fun i u hu => by rw [Addr.add_mid, Nat.zero_add]; exact H4.cell k upd_same hu) (by omega) (by simp only [maxLen]; omega) (by omega) ?_
  intro v1 w5 hown hg2
  have H5 := (St.drop HK.out H4).pushRow k HK.out ((Below.refl _ _).grown hg2 (Nat.le_refl _) (fun _ h => by cases h)) hown
  refine hK.out _ _ (St.drop HK.out H5) (fun hHeld => ?_)
  clear hK K H4 hown hg2 hjk H
  try simp only [Act.put, List.setIfInBounds_toArray, List.set_cons_zero, List.set_cons_succ]
  refine takeV 17 rfl (by intro w h; clear h; go_simp; try with_reducible rfl) (by kernel_rfl) (by kernel_rfl) (by kernel_rfl) (by exact fun _ _ _ h => h) (by rfl) (by assumption) ?_
  try simp only [Act.put, List.setIfInBounds_toArray, List.set_cons_zero, List.set_cons_succ]
  refine wpAnyH_done (by kernel_rfl) ?_ _
  clear hHeld
  obtain ⟨A1, d1, rfl, hd1, ha1⟩ := row_form (H5.row k upd_same)
  obtain ⟨g1, rfl, -⟩ := ha1 (by omega)
  replace H5 : St w0 F0 w5 (upd E k (.row 5 1 (.slice (some ⟨g1, 0, none⟩) 203 d1) 203 (x.b.map vb ++ [.int .u8 0, .int .u8 (P8.toNat : Int), .int .u8 0]))) := H5
  rw [show (200 + 3 : Nat) = 203 from rfl]
  have c6 := (St.drop HK.out H5).cell j HJ.out k4
  have f1 := World.ownsRow.frozenAt (H5.row k upd_same) 202
  have f2 := World.ownsRow.cellAt (H5.row k upd_same) 202 (by omega)
  rw [sp_get x.b _ 2 HX.out rfl] at f2
  simp only [List.getElem?_cons_succ, List.getElem?_cons_zero] at f2
  clear ha1 k1 k2 k3 k4 c0 c3
  rcases hs : x.s with _ | _
  all_goals rw [hs] at c6
  · have HF2 : Hid (x.form.map vb = x.b.map vb ++ [.int .u8 0, .int .u8 (P8.toNat : Int), .int .u8 0]) := by unfold Hid; rw [HF.out, hs, List.map_append]; rfl
    clear hs HF
    go_wp2
    go_ret
    exact ⟨_, rfl, by rw [HF2.out]; exact H5⟩
  · have HF2 : Hid (x.form.map vb = x.b.map vb ++ [.int .u8 0, .int .u8 (P8.toNat : Int), .int .u8 1]) := by unfold Hid; rw [HF.out, hs, List.map_append]; rfl
    clear hs HF
    go_wp2
    go_ret
    have H6 := H5.rowStore k upd_same (o := 202) (u := .int .u8 1)
    rw [upd_upd, sp_put x.b _ 2 _ HX.out rfl] at H6
    exact ⟨_, rfl, by rw [HF2.out]; exact H6⟩

end

end Go.Proofs.Ytgjlclihgpahbaa

namespace Go.Proofs.Ytgjlclihgpahbaa
open Go.RowKit
set_option linter.unusedVariables false
set_option maxRecDepth 100000

attribute [local irreducible] permB kBytes kPerm kFrom

theorem zero_rs (w : World) : (zeroValue 97).run Try.prog w = .ok (.agg (zb 200 ++ [Value.int .i64 0, Value.int .u8 0, Value.int .i64 0, Value.bool false, Value.bool false]).toArray) w := by kernel_rfl

theorem spZeroR_eq : (zb 200 ++ [Value.int .i64 0, Value.int .u8 0, Value.int .i64 0, Value.bool false, Value.bool false]).set 204 (Value.bool true) = spZeroR := by rw [zb_map]; rw [sp_put _ _ 4 _ zb200 rfl]; rfl

theorem spZeroR_one : ∀ u ∈ (zb 200 ++ [Value.int .i64 0, Value.int .u8 0, Value.int .i64 0, Value.bool false, Value.bool false]).set 204 (Value.bool true), u.oneCell' = true := by
  rw [spZeroR_eq]
  intro u hu
  unfold spZeroR at hu
  rcases List.mem_append.1 hu with h | h
  · exact vb_one _ u h
  · simp at h; rcases h with rfl | rfl | rfl | rfl | rfl <;> rfl

theorem rs_size : (Try.prog.info? 97).map (·.size) = some 205 := by kernel_rfl

section
variable {w0 w : World} {F0 : List Nat} {E : Env}

theorem rsNew_s (r : Int) (f : UInt8) (H : St w0 F0 w E) (k : Nat) (hk : E k = none) (h1 : 8 ≤ r) (h2 : r ≤ 192) (h3 : r % 8 = 0) :
    Calls Try.prog 35 #[.int .i64 r, .int .u8 (f.toNat : Int)] w fun e w' => ∃ g, e = .returned (.tuple #[lptr g, .int .i64 0]) ∧ St w0 F0 w' (upd E k (.blk g 97 (Sp.new r.toNat f).vsR)) := by
  have hz0 := zero_rs
  have d1 : decide (r < 8) = false := by simp; omega
  have d2 : decide (r > 192) = false := by simp; omega
  have d3 : (r % 8 != 0) = false := by simp; omega
  have hr0 : 0 ≤ r := by omega
  have HR : Hid (((r.toNat : Nat) : Int) = r) := by unfold Hid; omega
  go_enter Try.func35, Try.ntmps35
  go_wp2
  go_ret2
  have e : ((zb 200 ++ [Value.int .i64 0, Value.int .u8 0, Value.int .i64 0, Value.bool false, Value.bool false]).set 200 (Value.int .i64 r)).set 201 (Value.int .u8 (f.toNat : Int)) = (Sp.new r.toNat f).vsR := by
    rw [zb_map, sp_put _ _ 0 _ zb200 rfl, sp_put _ _ 1 _ zb200 rfl]
    unfold Sp.new Sp.vsR
    simp only [HR.out]
    rfl
  refine ⟨_, rfl, ?_⟩
  have H2 := H.alloc k hk (((zb 200 ++ [Value.int .i64 0, Value.int .u8 0, Value.int .i64 0, Value.bool false, Value.bool false]).set 200 (Value.int .i64 r)).set 201 (Value.int .u8 (f.toNat : Int))).toArray 97
  rw [List.toList_toArray, e] at H2
  rw [← e]
  rw [← e] at H2
  exact H2

theorem rsNew_no (r : Int) (f : UInt8) (h : r < 8 ∨ 192 < r ∨ r % 8 ≠ 0) :
    Calls Try.prog 35 #[.int .i64 r, .int .u8 (f.toNat : Int)] w fun e w' => e = .returned (.tuple #[.pointer none, .int .i64 2]) ∧ w = w' := by
  by_cases h1 : r < 8
  · have d1 : decide (r < 8) = true := by simp; omega
    clear h h1
    go_enter Try.func35, Try.ntmps35
    go_wp2
    go_ret2
    exact ⟨rfl, rfl⟩
  · by_cases h2 : 192 < r
    · have d1 : decide (r < 8) = false := by simp; omega
      have d2 : decide (r > 192) = true := by simp; omega
      clear h h1 h2
      go_enter Try.func35, Try.ntmps35
      go_wp2
      go_ret2
      exact ⟨rfl, rfl⟩
    · have d1 : decide (r < 8) = false := by simp; omega
      have d2 : decide (r > 192) = false := by simp; omega
      have d3 : (r % 8 != 0) = true := by simp; omega
      have hr0 : 0 ≤ r := by omega
      clear h h1 h2
      go_enter Try.func35, Try.ntmps35
      go_wp2
      go_ret2
      exact ⟨rfl, rfl⟩

set_option maxHeartbeats 1000000 in
theorem rsClone_s (g : Nat) (x : Sp) (H : St w0 F0 w E) (j k : Nat) (hj : E j = some (.blk g 97 x.vsR)) (hk : E k = none) (hx : x.Ok) :
    Calls Try.prog 44 #[lptr g] w fun e w' => ∃ g', e = .returned (.tuple #[lptr g', .int .i64 0]) ∧ St w0 F0 w' (upd E k (.blk g' 97 x.vsR)) := by
  obtain ⟨k1, k2, k3, k4, k5⟩ := Sp.cellsR hx.hb
  have h8 := hx.r8
  have c0 := H.cell j hj k1
  have c4 := H.cell j hj k5
  have HL := Lib.hid (Sp.vsR_length hx.hb)
  clear k1 k2 k3 k4 k5
  have hz0 := zero_rs
  have HH := Lib.hid H
  have HJ := Lib.hid hj
  have HK := Lib.hid hk
  clear hj hk hx
  go_enter Try.func44, Try.ntmps44
  go_wp2_with fail
  refine (rsNone_no g w c4).mono ?_
  rintro e w1 ⟨rfl, rfl⟩
  unfold lptr
  go_wp2_with (first | (refine wpList_load_row rfl 97 (.tmp 8) rfl g rfl _ _ _ _ (HH.out.blk j HJ.out) Try.underlying97 rfl (by rw [rs_size]; simp [HL.out]) ?_) | (refine wpList_store_mid rfl 97 (.tmp 4) (.tmp 9) rfl w.heap.size 0 x.vsR.toArray rfl rfl (there_new _ _ _ _ (by simp [HL.out, zb_length])) (by rw [rs_size]; simp [HL.out]) (all_oneCell_toArray (vsR_one x)) ?_; refine absorb_list (HH.out.alloc k HK.out (zb 200 ++ [Value.int .i64 0, Value.int .u8 0, Value.int .i64 0, Value.bool false, Value.bool false]).toArray 97 |>.storeAll k upd_same (vs := x.vsR) (by simp [HL.out, zb_length])) ?_; rw [upd_upd]; intro w4 H4))
  go_ret2
  exact ⟨_, rfl, H4⟩

set_option maxHeartbeats 1000000 in
theorem rsWipe_s (l : Value) (r : Option (List RunT)) (m : Nat) (b : Int) (g : Nat) (x : Sp) (H : St w0 F0 w E) (i j : Nat) (hij : i ≠ j) (hi : E i = some (ledR l r)) (hj : E j = some (.blk g 97 x.vsR)) (hg : LW r m b) (hm : m ≤ 999999999999) (hb : b ≤ 4000000000000000000) (hx : x.Ok) :
    Calls Try.prog 45 #[lptr g, l] w fun e w' => e = .returned (.int .i64 0) ∧ St w0 F0 w' (upd (upd E i (ledR l (noteN r 8 203 1))) j (.blk g 97 spZeroR)) := by
  obtain ⟨k1, k2, k3, k4, k5⟩ := Sp.cellsR hx.hb
  have h8 := hx.r8
  have c0 := H.cell j hj k1
  have c4 := H.cell j hj k5
  have HL := Lib.hid (Sp.vsR_length hx.hb)
  clear k1 k2 k3 k4 k5
  have hz0 := zero_rs
  have HI := Lib.hid hi
  have HJ := Lib.hid hj
  have HG := Lib.hid hg
  have HIJ := Lib.hid hij
  clear hi hj hg hij hx
  go_enter Try.func45, Try.ntmps45
  go_wp2_with fail
  refine (rsNone_no g w c4).mono ?_
  rintro e w1 ⟨rfl, rfl⟩
  unfold lptr
  go_wp2_with (refine wpList_store_mid rfl 97 (.tmp 9) (.tmp 8) rfl g 0 ((zb 200 ++ [Value.int .i64 0, Value.int .u8 0, Value.int .i64 0, Value.bool false, Value.bool false]).set 204 (Value.bool true)).toArray rfl rfl (by have h := H.there j HJ.out; rw [HL.out] at h; simpa [zb_length] using h) (by rw [rs_size]; simp [zb_length]) (all_oneCell_toArray spZeroR_one) ?_; refine absorb_list (H.storeAll j HJ.out (vs := (zb 200 ++ [Value.int .i64 0, Value.int .u8 0, Value.int .i64 0, Value.bool false, Value.bool false]).set 204 (Value.bool true)) (by simp [HL.out, zb_length])) ?_; rw [spZeroR_eq]; intro w4 H4)
  refine (refNote_w m b 8 203 H4 i (by rw [show upd E j (.blk g 97 spZeroR) i = E i from if_neg HIJ.out]; exact HI.out) HG.out (by omega) (by omega)).mono ?_
  rintro e w5 ⟨rfl, H5⟩
  go_wp2
  go_ret
  refine ⟨rfl, H5.env fun n => ?_⟩
  simp only [upd]
  by_cases h1 : n = i
  · subst h1; simp [HIJ.out]
  · simp [h1]

set_option maxHeartbeats 1000000 in
theorem rsRate_s (g : Nat) (x : Sp) (H : St w0 F0 w E) (j : Nat) (hj : E j = some (.blk g 97 x.vsR)) (hx : x.Ok) :
    Calls Try.prog 47 #[lptr g] w fun e w' => e = .returned (.int .i64 x.r) ∧ w = w' := by
  obtain ⟨k1, k2, k3, k4, k5⟩ := Sp.cellsR hx.hb
  have h8 := hx.r8
  have c0 := H.cell j hj k1
  have c4 := H.cell j hj k5
  clear k1 k2 k3 k4 k5 hx hj H
  go_enter Try.func47, Try.ntmps47
  go_wp2_with fail
  refine (rsNone_no g w c4).mono ?_
  rintro e w1 ⟨rfl, rfl⟩
  unfold lptr
  go_wp2
  go_ret
  exact ⟨rfl, rfl⟩

theorem rsShut_s (g : Nat) (x : Sp) (H : St w0 F0 w E) (j : Nat) (hj : E j = some (.blk g 97 x.vsR)) (hx : x.Ok) :
    Calls Try.prog 48 #[lptr g] w fun e w' => e = .returned (.bool x.s) ∧ w = w' := by
  obtain ⟨k1, k2, k3, k4, k5⟩ := Sp.cellsR hx.hb
  have h8 := hx.r8
  have c0 := H.cell j hj k1
  have c4 := H.cell j hj k5
  have c3 := H.cell j hj k4
  clear k1 k2 k3 k4 k5 hx hj H
  go_enter Try.func48, Try.ntmps48
  go_wp2_with fail
  refine (rsNone_no g w c4).mono ?_
  rintro e w1 ⟨rfl, rfl⟩
  unfold lptr
  go_wp2
  go_ret
  exact ⟨rfl, rfl⟩

end

end Go.Proofs.Ytgjlclihgpahbaa

namespace Go.Proofs.Ytgjlclihgpahbaa
open Go.RowKit
set_option linter.unusedVariables false
set_option maxRecDepth 100000

attribute [local irreducible] permB kBytes kPerm kFrom

theorem upd_other {E : Env} {j k : Nat} {A B : Own} (h : j ≠ k) (hj : E j = some A) : upd E k B j = some A := by rw [← hj]; exact if_neg h

theorem rd_new1 (w : World) (us : List Value) (t : TypeId) (n : Nat) (h : us.length = n) : Rd (w.alloc (.cells us.toArray t)) 1 (some ⟨w.heap.size, 0, none⟩) n us :=
  ⟨by omega, fun _ => ⟨_, rfl, by simp, fun j u hu => by rw [Addr.add_mid, Nat.zero_add, World.cell?_alloc_at _ _ _ _ rfl]; simpa using hu⟩⟩

section
variable {w0 w : World} {F0 : List Nat} {E : Env}

set_option maxHeartbeats 2000000 in
theorem rsForm_s (g : Nat) (x : Sp) (H : St w0 F0 w E) (j k : Nat) (hj : E j = some (.blk g 97 x.vsR)) (hk : E k = none) (hx : x.Ok) :
    Calls Try.prog 46 #[lptr g] w fun e w' => ∃ v, e = .returned v ∧ St w0 F0 w' (upd E k (.row 5 1 v 203 (x.form.map vb))) := by
  obtain ⟨i0, hi0, hz0, hz1, hz2⟩ := info_parts u8_info
  obtain ⟨k1, k2, k3, k4, k5⟩ := Sp.cellsR hx.hb
  have h8 := hx.r8
  have hp : x.p ≤ 192 := Nat.le_trans hx.pr hx.r192
  have c4 := H.cell j hj k5
  have hkj : j ≠ k := fun e => by rw [e, hk] at hj; cases hj
  have HKJ := Lib.hid hkj
  have HX := Lib.hid hx.hb
  have HJ := Lib.hid hj
  have HK := Lib.hid hk
  clear hj hk hx hkj
  go_enter Try.func46, Try.ntmps46
  go_wp2_with fail
  refine (rsNone_no g w c4).mono ?_
  rintro e w1 ⟨rfl, rfl⟩
  unfold lptr
  have hp1 : (x.p : Int) ≤ 192 := by omega
  have hq1 : Hid (IntKind.u8.wrap (IntKind.i64.wrap ((x.p : Int) / 256)) = 0) := by unfold Hid; rw [show (x.p : Int) / 256 = 0 by omega]; rfl
  have hq2 : Hid (IntKind.u8.wrap ((x.p : Int).tmod 256) = ((UInt8.ofNat x.p).toNat : Int)) := by unfold Hid; rw [Int.tmod_eq_emod_of_nonneg (by omega), IntKind.wrap_u8, UInt8.toNat_ofNat']; omega
  have HF : Hid (x.form = x.b ++ [0, UInt8.ofNat x.p, if x.s = true then 1 else 0]) := by unfold Hid; rfl
  have H0 := H.nilRow k HK.out 5 1
  have hrd : Rd w 1 (some ⟨g, 0, none⟩) 200 (x.b.map vb) := ⟨by rw [List.length_map, HX.out], fun _ => ⟨_, rfl, H.lt j HJ.out, fun i u hu => by rw [Addr.add_mid, Nat.zero_add]; exact H.cell j HJ.out (by unfold Sp.vsR; rw [List.getElem?_append_left (List.getElem?_eq_some_iff.1 hu).1]; exact hu)⟩⟩
  go_wp2_with (at_builtin; refine wpList_append_any _ rfl (.tmp 6) (.tmp 10) _ rfl 0 5 i0 (.int .u8 0) 1 1 Try.underlying27 hi0 hz0 hz1 hz2 rfl (by omega) (.slice none 0 0) 0 [] rfl (H0.row k upd_same) (some ⟨g, 0, none⟩) 200 200 (x.b.map vb) rfl hrd (vb_one _) (by simp only [maxLen]; omega) (by omega) (Nat.zero_le _) ?_; intro v1 w3 hown3 hg3 hat3)
  have H3 := H0.grow k upd_same hown3 hg3 hat3
  rw [upd_upd, Nat.zero_add, List.nil_append] at H3
  clear H0 hrd hown3 hg3 hat3 H c4
  have H := H3.drew
  clear H3
  refine wp_region_held_drew (S := fun w' : World => ∃ Z, St w0 F0 w' (upd E k Z)) (by kernel_rfl) ?_ (fun hHeld => ?_)
  · exact ⟨_, H⟩
  refine takeV 0 rfl (by intro w h; clear h; go_simp; try with_reducible rfl) (by kernel_rfl) (by kernel_rfl) (by kernel_rfl) (by exact fun _ _ _ h => h) (by rfl) (by assumption) ?_
  try simp only [Act.put, List.setIfInBounds_toArray, List.set_cons_zero, List.set_cons_succ]
  refine takeV 1 rfl (by intro w h; clear h; go_simp; try with_reducible rfl) (by kernel_rfl) (by kernel_rfl) (by kernel_rfl) (by exact fun _ _ _ h => h) (by rfl) (by assumption) ?_
  try simp only [Act.put, List.setIfInBounds_toArray, List.set_cons_zero, List.set_cons_succ]
  refine takeV 2 rfl (by intro w h; clear h; go_simp; try with_reducible rfl) (by kernel_rfl) (by kernel_rfl) (by kernel_rfl) (by exact fun _ _ _ h => h) (by rfl) (by assumption) ?_
  try simp only [Act.put, List.setIfInBounds_toArray, List.set_cons_zero, List.set_cons_succ]
  refine takeV 3 rfl (by intro w h; clear h; go_simp; try with_reducible rfl) (by kernel_rfl) (by kernel_rfl) (by kernel_rfl) (by exact fun _ _ _ h => h) (by rfl) (by assumption) ?_
  try simp only [Act.put, List.setIfInBounds_toArray, List.set_cons_zero, List.set_cons_succ]
  refine takeV 4 rfl (by intro w h; have hc := (h.elim fun Z h => h.cell j (upd_other HKJ.out HJ.out) k3); clear h; go_simp; try with_reducible rfl) (by kernel_rfl) (by kernel_rfl) (by kernel_rfl) (by exact fun _ _ _ h => h) (by rfl) (by assumption) ?_
  try simp only [Act.put, List.setIfInBounds_toArray, List.set_cons_zero, List.set_cons_succ]
  refine takeV 5 rfl (by intro w h; clear h; go_simp; try with_reducible rfl) (by kernel_rfl) (by kernel_rfl) (by kernel_rfl) (by exact fun _ _ _ h => h) (by rfl) (by assumption) ?_
  try simp only [Act.put, List.setIfInBounds_toArray, List.set_cons_zero, List.set_cons_succ]
  refine takeV 6 rfl (by intro w h; clear h; go_simp; try with_reducible rfl) (by kernel_rfl) (by kernel_rfl) (by kernel_rfl) (by exact fun _ _ _ h => h) (by rfl) (by assumption) ?_
  try simp only [Act.put, List.setIfInBounds_toArray, List.set_cons_zero, List.set_cons_succ]
  refine takeV 7 rfl (by intro w h; clear h; go_simp; try with_reducible rfl) (by kernel_rfl) (by kernel_rfl) (by kernel_rfl) (by exact fun _ _ _ h => h) (by rfl) (by assumption) ?_
  try simp only [Act.put, List.setIfInBounds_toArray, List.set_cons_zero, List.set_cons_succ]
  refine takeV 8 rfl (by intro w h; clear h; go_simp; try with_reducible rfl) (by kernel_rfl) (by kernel_rfl) (by kernel_rfl) (by exact fun _ _ _ h => h) (by rfl) (by assumption) ?_
  try simp only [Act.put, List.setIfInBounds_toArray, List.set_cons_zero, List.set_cons_succ]
  refine takeV 9 rfl (by intro w h; clear h; go_simp; try with_reducible rfl) (by kernel_rfl) (by kernel_rfl) (by kernel_rfl) (by exact fun _ _ _ h => h) (by rfl) (by assumption) ?_
  try simp only [Act.put, List.setIfInBounds_toArray, List.set_cons_zero, List.set_cons_succ]
  refine takeV 10 rfl (by intro w h; have hc := (h.elim fun Z h => h.cell j (upd_other HKJ.out HJ.out) k3); clear h; go_simp; try with_reducible rfl) (by kernel_rfl) (by kernel_rfl) (by kernel_rfl) (by exact fun _ _ _ h => h) (by rfl) (by assumption) ?_
  try simp only [Act.put, List.setIfInBounds_toArray, List.set_cons_zero, List.set_cons_succ]
  refine takeV 11 rfl (by intro w h; clear h; go_simp; try with_reducible rfl) (by kernel_rfl) (by kernel_rfl) (by kernel_rfl) (by exact fun _ _ _ h => h) (by rfl) (by assumption) ?_
  try simp only [Act.put, List.setIfInBounds_toArray, List.set_cons_zero, List.set_cons_succ]
  refine takeV 12 rfl (by intro w h; clear h; go_simp; try with_reducible rfl) (by kernel_rfl) (by kernel_rfl) (by kernel_rfl) (by exact fun _ _ _ h => h) (by rfl) (by assumption) ?_
  try simp only [Act.put, List.setIfInBounds_toArray, List.set_cons_zero, List.set_cons_succ]
  rw [hq1.out, hq2.out]
  generalize UInt8.ofNat x.p = P8 at HF
  refine take_call 13 rfl (by kernel_rfl) (fun K hK => ?_)
  go_simp
  have H4 := H.call (Below.alloc (Below.refl _ _) (Nat.le_refl _) (.cells #[.int .u8 0, .int .u8 (P8.toNat : Int)] 5))
  refine hK.out _ _ ⟨_, H4⟩ (fun hHeld => ?_)
  clear hK K
  try simp only [Act.put, List.setIfInBounds_toArray, List.set_cons_zero, List.set_cons_succ]
  refine take_call 14 rfl (by kernel_rfl) (fun K hK => ?_)
  refine step_append_any _ (by rfl) (.tmp 12) (.tmp 25) _ (by rfl) 0 5 i0 (.int .u8 0) 1 1 Try.underlying27 hi0 hz0 hz1 hz2 rfl (by omega) v1 200 (x.b.map vb) (by rfl) (H4.row k upd_same) _ 2 2 [.int .u8 0, .int .u8 (P8.toNat : Int)] (by rfl) (rd_new1 _ _ _ 2 rfl) (by intro q hq; simp at hq; rcases hq with rfl | rfl <;> rfl) (by simp only [maxLen]; omega) (by omega) (Nat.zero_le _) ?_
  intro v2 w5 hown hg2 hat
  have H5 := H4.grow k upd_same hown hg2 hat
  rw [upd_upd] at H5
  refine hK.out _ _ ⟨_, H5⟩ (fun hHeld => ?_)
  clear hK K H4 hown hg2 hat H
  try simp only [Act.put, List.setIfInBounds_toArray, List.set_cons_zero, List.set_cons_succ]
  refine takeV 15 rfl (by intro w h; clear h; go_simp; try with_reducible rfl) (by kernel_rfl) (by kernel_rfl) (by kernel_rfl) (by exact fun _ _ _ h => h) (by rfl) (by assumption) ?_
  try simp only [Act.put, List.setIfInBounds_toArray, List.set_cons_zero, List.set_cons_succ]
  refine wpAnyH_done (by kernel_rfl) ?_ _
  clear hHeld
  have c6 := H5.cell j (upd_other HKJ.out HJ.out) k4
  clear k1 k2 k3 k4 k5 hq1 hq2
  rcases hs : x.s with _ | _
  all_goals rw [hs] at c6
  · have HF2 : Hid (x.form.map vb = (x.b.map vb ++ [.int .u8 0, .int .u8 (P8.toNat : Int)]) ++ [.int .u8 0]) := by unfold Hid; rw [HF.out, hs, List.map_append, List.append_assoc]; rfl
    clear hs HF
    go_wp2_with (at_builtin; refine wpList_append_any _ rfl (.tmp 34) (.tmp 35) _ rfl 0 5 i0 (.int .u8 0) 1 1 Try.underlying27 hi0 hz0 hz1 hz2 rfl (by omega) v2 (200 + 2) (x.b.map vb ++ [.int .u8 0, .int .u8 (P8.toNat : Int)]) rfl ((H5.call (Below.alloc (Below.refl _ _) (Nat.le_refl _) (.cells #[.int .u8 0] 5))).row k upd_same) _ 1 1 [.int .u8 0] rfl (rd_new1 _ _ _ 1 rfl) (by intro q hq; simp at hq; subst hq; rfl) (by simp only [maxLen]; omega) (by omega) (Nat.zero_le _) ?_; intro v4 w6 hown6 hg6 hat6)
    go_ret
    have H6 := (H5.call (Below.alloc (Below.refl _ _) (Nat.le_refl _) (.cells #[.int .u8 0] 5))).grow k upd_same hown6 hg6 hat6
    rw [upd_upd, ← HF2.out] at H6
    exact ⟨_, rfl, H6⟩
  · have HF2 : Hid (x.form.map vb = (x.b.map vb ++ [.int .u8 0, .int .u8 (P8.toNat : Int)]) ++ [.int .u8 1]) := by unfold Hid; rw [HF.out, hs, List.map_append, List.append_assoc]; rfl
    clear hs HF
    go_wp2_with (at_builtin; refine wpList_append_any _ rfl (.tmp 31) (.tmp 32) _ rfl 0 5 i0 (.int .u8 0) 1 1 Try.underlying27 hi0 hz0 hz1 hz2 rfl (by omega) v2 (200 + 2) (x.b.map vb ++ [.int .u8 0, .int .u8 (P8.toNat : Int)]) rfl ((H5.call (Below.alloc (Below.refl _ _) (Nat.le_refl _) (.cells #[.int .u8 1] 5))).row k upd_same) _ 1 1 [.int .u8 1] rfl (rd_new1 _ _ _ 1 rfl) (by intro q hq; simp at hq; subst hq; rfl) (by simp only [maxLen]; omega) (by omega) (Nat.zero_le _) ?_; intro v4 w6 hown6 hg6 hat6)
    go_ret
    have H6 := (H5.call (Below.alloc (Below.refl _ _) (Nat.le_refl _) (.cells #[.int .u8 1] 5))).grow k upd_same hown6 hg6 hat6
    rw [upd_upd, ← HF2.out] at H6
    exact ⟨_, rfl, H6⟩

end

end Go.Proofs.Ytgjlclihgpahbaa

namespace Go.Proofs.Ytgjlclihgpahbaa
open Go.RowKit
set_option linter.unusedVariables false
set_option maxRecDepth 100000

/-- no sponge: nil, or one that is gone -/
def RpNo (w : World) (s : Value) : Prop := s = .pointer none ∨ ∃ g, s = lptr g ∧ w.cell? ⟨g, 204, none⟩ = some (.bool true)

section
variable {w : World}

theorem rsRead_none (l : Value) (n : Int) (s : Value) (h : RpNo w s) : Calls Try.prog 41 #[s, l, .int .i64 n] w fun e w' => e = .returned (.tuple #[.slice none 0 0, .int .i64 1]) ∧ w = w' := by
  rcases h with rfl | ⟨g, rfl, c0⟩
  · go_enter Try.func41, Try.ntmps41
    go_wp2_with fail
    refine (rsNone_nil w).mono ?_
    rintro e w1 ⟨rfl, rfl⟩
    go_wp2
    go_ret2
    exact ⟨rfl, rfl⟩
  · unfold lptr
    go_enter Try.func41, Try.ntmps41
    go_wp2_with fail
    refine (rsNone_yes g w c0).mono ?_
    rintro e w1 ⟨rfl, rfl⟩
    go_wp2
    go_ret2
    exact ⟨rfl, rfl⟩

theorem rsClone_none  (s : Value) (h : RpNo w s) : Calls Try.prog 44 #[s] w fun e w' => e = .returned (.tuple #[.pointer none, .int .i64 1]) ∧ w = w' := by
  rcases h with rfl | ⟨g, rfl, c0⟩
  · go_enter Try.func44, Try.ntmps44
    go_wp2_with fail
    refine (rsNone_nil w).mono ?_
    rintro e w1 ⟨rfl, rfl⟩
    go_wp2
    go_ret2
    exact ⟨rfl, rfl⟩
  · unfold lptr
    go_enter Try.func44, Try.ntmps44
    go_wp2_with fail
    refine (rsNone_yes g w c0).mono ?_
    rintro e w1 ⟨rfl, rfl⟩
    go_wp2
    go_ret2
    exact ⟨rfl, rfl⟩

theorem rsWrite_none (l v : Value) (s : Value) (h : RpNo w s) : Calls Try.prog 37 #[s, l, v] w fun e w' => e = .returned (.int .i64 1) ∧ w = w' := by
  rcases h with rfl | ⟨g, rfl, c0⟩
  · go_enter Try.func37, Try.ntmps37
    go_wp2_with fail
    refine (rsNone_nil w).mono ?_
    rintro e w1 ⟨rfl, rfl⟩
    go_wp2
    go_ret
    exact ⟨rfl, rfl⟩
  · unfold lptr
    go_enter Try.func37, Try.ntmps37
    go_wp2_with fail
    refine (rsNone_yes g w c0).mono ?_
    rintro e w1 ⟨rfl, rfl⟩
    go_wp2
    go_ret
    exact ⟨rfl, rfl⟩

theorem rsClose_none (l : Value) (s : Value) (h : RpNo w s) : Calls Try.prog 40 #[s, l] w fun e w' => e = .returned (.int .i64 1) ∧ w = w' := by
  rcases h with rfl | ⟨g, rfl, c0⟩
  · go_enter Try.func40, Try.ntmps40
    go_wp2_with fail
    refine (rsNone_nil w).mono ?_
    rintro e w1 ⟨rfl, rfl⟩
    go_wp2
    go_ret
    exact ⟨rfl, rfl⟩
  · unfold lptr
    go_enter Try.func40, Try.ntmps40
    go_wp2_with fail
    refine (rsNone_yes g w c0).mono ?_
    rintro e w1 ⟨rfl, rfl⟩
    go_wp2
    go_ret
    exact ⟨rfl, rfl⟩

theorem rsWipe_none (l : Value) (s : Value) (h : RpNo w s) : Calls Try.prog 45 #[s, l] w fun e w' => e = .returned (.int .i64 1) ∧ w = w' := by
  rcases h with rfl | ⟨g, rfl, c0⟩
  · go_enter Try.func45, Try.ntmps45
    go_wp2_with fail
    refine (rsNone_nil w).mono ?_
    rintro e w1 ⟨rfl, rfl⟩
    go_wp2
    go_ret
    exact ⟨rfl, rfl⟩
  · unfold lptr
    go_enter Try.func45, Try.ntmps45
    go_wp2_with fail
    refine (rsNone_yes g w c0).mono ?_
    rintro e w1 ⟨rfl, rfl⟩
    go_wp2
    go_ret
    exact ⟨rfl, rfl⟩

theorem rsForm_none  (s : Value) (h : RpNo w s) : Calls Try.prog 46 #[s] w fun e w' => e = .returned (.slice none 0 0) ∧ w = w' := by
  rcases h with rfl | ⟨g, rfl, c0⟩
  · go_enter Try.func46, Try.ntmps46
    go_wp2_with fail
    refine (rsNone_nil w).mono ?_
    rintro e w1 ⟨rfl, rfl⟩
    go_wp2
    go_ret
    exact ⟨rfl, rfl⟩
  · unfold lptr
    go_enter Try.func46, Try.ntmps46
    go_wp2_with fail
    refine (rsNone_yes g w c0).mono ?_
    rintro e w1 ⟨rfl, rfl⟩
    go_wp2
    go_ret
    exact ⟨rfl, rfl⟩

theorem rsRate_none  (s : Value) (h : RpNo w s) : Calls Try.prog 47 #[s] w fun e w' => e = .returned (.int .i64 0) ∧ w = w' := by
  rcases h with rfl | ⟨g, rfl, c0⟩
  · go_enter Try.func47, Try.ntmps47
    go_wp2_with fail
    refine (rsNone_nil w).mono ?_
    rintro e w1 ⟨rfl, rfl⟩
    go_wp2
    go_ret
    exact ⟨rfl, rfl⟩
  · unfold lptr
    go_enter Try.func47, Try.ntmps47
    go_wp2_with fail
    refine (rsNone_yes g w c0).mono ?_
    rintro e w1 ⟨rfl, rfl⟩
    go_wp2
    go_ret
    exact ⟨rfl, rfl⟩

theorem rsShut_none  (s : Value) (h : RpNo w s) : Calls Try.prog 48 #[s] w fun e w' => e = .returned (.bool false) ∧ w = w' := by
  rcases h with rfl | ⟨g, rfl, c0⟩
  · go_enter Try.func48, Try.ntmps48
    go_wp2_with fail
    refine (rsNone_nil w).mono ?_
    rintro e w1 ⟨rfl, rfl⟩
    go_wp2
    go_ret
    exact ⟨rfl, rfl⟩
  · unfold lptr
    go_enter Try.func48, Try.ntmps48
    go_wp2_with fail
    refine (rsNone_yes g w c0).mono ?_
    rintro e w1 ⟨rfl, rfl⟩
    go_wp2
    go_ret
    exact ⟨rfl, rfl⟩

end

end Go.Proofs.Ytgjlclihgpahbaa

namespace Go.Proofs.Ytgjlclihgpahbaa
open Go.RowKit
set_option linter.unusedVariables false

def bigO {α : Type} (f : α → Own) : List α → Own
  | [] => .emp
  | x :: t => .sep (f x) (bigO f t)

theorem bigO_snoc {α : Type} (f : α → Own) (x : α) : ∀ (L : List α) (w : World) (F : List Nat), (Own.sep (bigO f L) (f x)).holds w F → (bigO f (L ++ [x])).holds w F := by
  intro L
  induction L with
  | nil =>
    rintro w F ⟨G, H, rfl, hG, hH, d⟩
    have e : G = [] := hG
    subst e
    exact ⟨H, [], by simp, hH, rfl, by simp⟩
  | cons y L ih =>
    rintro w F ⟨G, H, rfl, ⟨G1, G2, rfl, h1, h2, d1⟩, hH, d⟩
    refine ⟨G1, G2 ++ H, by simp, h1, ih w (G2 ++ H) ⟨G2, H, rfl, h2, hH, fun g hg => d g (by simp [hg])⟩, fun g hg => ?_⟩
    rw [List.mem_append]
    rintro (h | h)
    · exact d1 g hg h
    · exact d g (by simp [hg]) h

section
variable {w0 w : World} {F0 : List Nat} {E : Env}

theorem St.recast {A A' : Own} (H : St w0 F0 w E) (k : Nat) (hk : E k = some A) (h : ∀ w F, A.holds w F → A'.holds w F) : St w0 F0 w (upd E k A') := by
  obtain ⟨F, hA, -, -, hc⟩ := H.change k hk
  exact hc w A' F (h w F hA) (Low.refl _ _) fun g hg => .inl hg

theorem St.part_mk {L : List Own} {A B : Own} (H : St w0 F0 w (lay L)) (i : Nat) (hi : L[i]? = some (.sep A B)) : St w0 F0 w (lay (L.set i A ++ [B])) := by
  have hl : i < L.length := (List.getElem?_eq_some_iff.1 hi).1
  refine (H.part i L.length (by omega) hi (by simp [lay])).env fun k => ?_
  simp only [lay, upd]
  by_cases hk : k = L.length
  · subst hk; simp
  · rw [if_neg hk]
    by_cases hki : k = i
    · subst hki; rw [if_pos rfl, List.getElem?_append_left (by simpa using hl), List.getElem?_set_self hl]
    · rw [if_neg hki]
      rcases Nat.lt_or_ge k L.length with h | h
      · rw [List.getElem?_append_left (by simpa using h), List.getElem?_set_ne (fun e => hki e.symm)]
      · rw [List.getElem?_eq_none (by simp; omega), List.getElem?_eq_none h]

/-- one more element -/
theorem St.fam_push {α : Type} {f : α → Own} {L : List α} {x : α} {A B X Y : Own} {rest : List Own} (H : St w0 F0 w (lay (A :: B :: bigO f L :: X :: Y :: rest))) (hf : f x = .sep X Y) : St w0 F0 w (lay [A, B, bigO f (L ++ [x])]) := by
  have H1 := (H.join 3 4 (by omega) (A := X) (B := Y) rfl rfl)
  have H2 := H1.join 2 3 (by omega) (A := bigO f L) (B := .sep X Y) (by simp [upd, del, lay]) (by simp [upd])
  have H3 := H2.recast (A := .sep (bigO f L) (.sep X Y)) (A' := bigO f (L ++ [x])) 2 (by simp [upd]) (fun w F h => bigO_snoc f x L w F (by rw [hf]; exact h))
  refine H3.sub fun k C hC => ?_
  match k, hC with
  | 0, hC => simpa [upd, del, lay] using hC
  | 1, hC => simpa [upd, del, lay] using hC
  | 2, hC => simpa [upd, del, lay] using hC
  | k + 3, hC => simp [lay] at hC

end

/-- a piece of the family, to be read -/
theorem bigO_row {α : Type} {f : α → Own} {w : World} : ∀ {L : List α} {F : List Nat} {i : Nat} {x : α}, (bigO f L).holds w F → L[i]? = some x → ∃ G, (f x).holds w G := by
  intro L
  induction L with
  | nil => intro F i x h hx; simp at hx
  | cons y L ih =>
    rintro F i x ⟨G, H, rfl, hG, hH, d⟩ hx
    cases i with
    | zero => simp at hx; subst hx; exact ⟨G, hG⟩
    | succ i => exact ih hH (by simpa using hx)

theorem St.bigRow {α : Type} {f : α → Own} {L : List α} {w0 w : World} {F0 : List Nat} {E : Env} (H : St w0 F0 w E) (k : Nat) (hk : E k = some (bigO f L)) {i : Nat} {x : α} (hx : L[i]? = some x) : ∃ G, (f x).holds w G := by
  obtain ⟨F, hA, -, -, -⟩ := H.change k hk
  exact bigO_row hA hx

/-- one more element, a piece of its own -/
theorem St.bigPush {α : Type} {f : α → Own} {L : List α} {x : α} {w0 w : World} {F0 : List Nat} {A : Own} (H : St w0 F0 w (lay [A, bigO f L, f x])) : St w0 F0 w (lay [A, bigO f (L ++ [x])]) := by
  have H1 := H.join 1 2 (by omega) (A := bigO f L) (B := f x) rfl rfl
  have H2 := H1.recast (A := .sep (bigO f L) (f x)) (A' := bigO f (L ++ [x])) 1 (by simp [upd]) (fun w F h => bigO_snoc f x L w F h)
  refine H2.sub fun k C hC => ?_
  match k, hC with
  | 0, hC => simpa [upd, del, lay] using hC
  | 1, hC => simpa [upd, del, lay] using hC
  | k + 2, hC => simp [lay] at hC

end Go.Proofs.Ytgjlclihgpahbaa

namespace Go.Proofs.Ytgjlclihgpahbaa
open Go.RowKit
set_option linter.unusedVariables false
set_option maxRecDepth 100000

section
variable {w0 w : World} {F0 : List Nat} {E : Env}

theorem St.recast2 {A A' : Own} (H : St w0 F0 w E) (k : Nat) (hk : E k = some A) (h : ∀ w F, A.holds w F → ∃ F', A'.holds w F' ∧ ∀ g ∈ F', g ∈ F) : St w0 F0 w (upd E k A') := by
  obtain ⟨F, hA, -, -, hc⟩ := H.change k hk
  obtain ⟨F', h1, h2⟩ := h w F hA
  exact hc w A' F' h1 (Low.refl _ _) fun g hg => .inl (h2 g hg)

variable {α : Type} {f : α → Own}

theorem bigO_take {e : α} (he : ∀ w, (f e).holds w []) : ∀ (L : List α) (k : Nat) (x : α) (w : World) (F : List Nat), L[k]? = some x → (bigO f L).holds w F → ∃ F', (Own.sep (bigO f (L.set k e)) (f x)).holds w F' ∧ ∀ g ∈ F', g ∈ F := by
  intro L
  induction L with
  | nil => intro k x w F h; simp at h
  | cons y t ih =>
    rintro k x w F hx ⟨G, H, rfl, hG, hH, d⟩
    cases k with
    | zero =>
      simp only [List.getElem?_cons_zero, Option.some.injEq] at hx
      subst hx
      exact ⟨([] ++ H) ++ G, ⟨[] ++ H, G, rfl, ⟨[], H, rfl, he w, hH, by simp⟩, hG, fun g hg h2 => d g h2 (by simpa using hg)⟩, fun g hg => by simp at hg ⊢; exact hg.symm⟩
    | succ k =>
      obtain ⟨F', ⟨G2, H2, rfl, h1, h2, d2⟩, hs⟩ := ih k x w H (by simpa using hx) hH
      refine ⟨(G ++ G2) ++ H2, ⟨G ++ G2, H2, rfl, ⟨G, G2, rfl, hG, h1, fun g hg h => d g hg (hs g (by simp [h]))⟩, h2, fun g hg h => ?_⟩, fun g hg => ?_⟩
      · rcases List.mem_append.1 hg with k1 | k1
        · exact d g k1 (hs g (by simp [h]))
        · exact d2 g k1 h
      · rcases List.mem_append.1 hg with k1 | k1
        · rcases List.mem_append.1 k1 with k2 | k2
          · simp [k2]
          · exact List.mem_append.2 (.inr (hs g (by simp [k2])))
        · exact List.mem_append.2 (.inr (hs g (by simp [k1])))

theorem bigO_put : ∀ (L : List α) (k : Nat) (x : α) (w : World) (F : List Nat), k < L.length → (Own.sep (bigO f L) (f x)).holds w F → ∃ F', (bigO f (L.set k x)).holds w F' ∧ ∀ g ∈ F', g ∈ F := by
  intro L
  induction L with
  | nil => intro k x w F h; simp at h
  | cons y t ih =>
    rintro k x w F hk ⟨G, H, rfl, ⟨G1, G2, rfl, h1, h2, d1⟩, hH, d⟩
    cases k with
    | zero => exact ⟨H ++ G2, ⟨H, G2, rfl, hH, h2, fun g hg h => d g (by simp [h]) hg⟩, fun g hg => by simp at hg ⊢; rcases hg with h | h <;> simp [h]⟩
    | succ k =>
      obtain ⟨F', h3, hs⟩ := ih k x w (G2 ++ H) (by simpa using hk) ⟨G2, H, rfl, h2, hH, fun g hg => d g (by simp [hg])⟩
      refine ⟨G1 ++ F', ⟨G1, F', rfl, h1, h3, fun g hg h => ?_⟩, fun g hg => ?_⟩
      · rcases List.mem_append.1 (hs g h) with k1 | k1
        · exact d1 g hg k1
        · exact d g (by simp [hg]) k1
      · rcases List.mem_append.1 hg with k1 | k1
        · simp [k1]
        · rcases List.mem_append.1 (hs g k1) with k2 | k2 <;> simp [k2]

theorem St.takeSlot {e : α} (he : ∀ w, (f e).holds w []) {L0 : List Own} {L : List α} {x : α} (H : St w0 F0 w (lay L0)) (i k : Nat) (hi : L0[i]? = some (bigO f L)) (hx : L[k]? = some x) : St w0 F0 w (lay (L0.set i (bigO f (L.set k e)) ++ [f x])) := by
  have hl : i < L0.length := (List.getElem?_eq_some_iff.1 hi).1
  have h1 := (H.recast2 (A := bigO f L) (A' := .sep (bigO f (L.set k e)) (f x)) i hi (fun w F h => bigO_take he L k x w F hx h)).upd_mk hl
  have h2 := h1.part_mk i (List.getElem?_set_self hl)
  rwa [List.set_set] at h2

theorem St.putSlot {L0 : List Own} {L : List α} {x : α} (H : St w0 F0 w (lay (L0 ++ [f x]))) (i k : Nat) (hi : L0[i]? = some (bigO f L)) (hk : k < L.length) : St w0 F0 w (lay (L0.set i (bigO f (L.set k x)))) := by
  have hl : i < L0.length := (List.getElem?_eq_some_iff.1 hi).1
  have h1 := H.join i L0.length (by omega) (A := bigO f L) (B := f x) (by simp only [lay]; rw [List.getElem?_append_left hl]; exact hi) (by simp [lay])
  have h2 := h1.recast2 (A := .sep (bigO f L) (f x)) (A' := bigO f (L.set k x)) i (by simp [upd]) (fun w F h => bigO_put L k x w F hk h)
  refine h2.sub fun n C hC => ?_
  simp only [lay] at hC
  simp only [upd, del, lay]
  by_cases hn : n = i
  · subst hn
    rw [List.getElem?_set_self hl] at hC
    rw [if_pos rfl]; exact hC
  · rw [List.getElem?_set_ne (fun e => hn e.symm)] at hC
    have hnl : n < L0.length := (List.getElem?_eq_some_iff.1 hC).1
    rw [if_neg hn, if_neg hn, if_neg (by omega), List.getElem?_append_left hnl]
    exact hC

/-- two pieces that are one -/
theorem St.join_mk {L : List Own} {A B : Own} (H : St w0 F0 w (lay (L ++ [B]))) (i : Nat) (hi : L[i]? = some A) : St w0 F0 w (lay (L.set i (.sep A B))) := by
  have hl : i < L.length := (List.getElem?_eq_some_iff.1 hi).1
  have h1 := H.join i L.length (by omega) (A := A) (B := B) (by simp only [lay]; rw [List.getElem?_append_left hl]; exact hi) (by simp [lay])
  refine h1.sub fun n C hC => ?_
  simp only [lay] at hC
  simp only [upd, del, lay]
  by_cases hn : n = i
  · subst hn
    rw [List.getElem?_set_self hl] at hC
    rw [if_pos rfl]; exact hC
  · rw [List.getElem?_set_ne (fun e => hn e.symm)] at hC
    have hnl : n < L.length := (List.getElem?_eq_some_iff.1 hC).1
    rw [if_neg hn, if_neg (by omega), List.getElem?_append_left hnl]
    exact hC

/-- a walk of its own over a piece and one that is two -/
theorem St.loc {A B C : Own} (H : St w0 F0 w E) (i j : Nat) (hij : i ≠ j) (hi : E i = some A) (hj : E j = some (.sep B C)) :
    ∃ F, St w F w (lay [A, B, C]) ∧ (∀ (w' : World) (A' B' C' : Own), St w F w' (lay [A', B', C']) → St w0 F0 w' (upd (upd E i A') j (.sep B' C'))) ∧
      ∀ (w' : World) (A' B' C' R : Own) (k : Nat), E k = none → St w F w' (lay [A', B', C', R]) → St w0 F0 w' (upd (upd (upd E i A') j (.sep B' C')) k R) := by
  obtain ⟨F, HF, -, -, hback⟩ := H.frame2 i j hij hi hj
  have base : ∀ (w' : World) (A' B' C' : Own), St w F w' (lay [A', B', C']) → St w0 F0 w' (upd (upd E i A') j (.sep B' C')) := fun w' A' B' C' h => by
    refine hback w' A' (.sep B' C') ?_
    exact (St.join_mk (L := [A', B']) (A := B') (B := C') h 1 rfl).to2 rfl rfl
  refine ⟨F, HF.as2.part_mk 1 rfl, base, fun w' A' B' C' R k hk h => ?_⟩
  have hki : k ≠ i := fun e => by rw [e, hi] at hk; cases hk
  have hkj : k ≠ j := fun e => by rw [e, hj] at hk; cases hk
  have h1 : St w F w' (lay [.sep A' R, B', C']) := St.join_mk (L := [A', B', C']) (A := A') (B := R) h 0 rfl
  have h2 := base w' (.sep A' R) B' C' h1
  have h3 := h2.part (A := A') (B := R) i k (Ne.symm hki) (by simp [upd, hij]) (by simp [upd, hki, hkj, hk])
  refine h3.env fun n => ?_
  simp only [upd]
  by_cases hk' : n = k
  · simp [hk']
  · by_cases hj' : n = j
    · subst hj'; simp [Ne.symm hij, Ne.symm hkj]
    · by_cases hi' : n = i
      · subst hi'; simp [hij, Ne.symm hki]
      · simp [hk', hj', hi']
theorem St.loc1 {A : Own} (H : St w0 F0 w E) (i : Nat) (hi : E i = some A) :
    ∃ F, St w F w (lay [A]) ∧ (∀ (w' : World) (A' : Own), St w F w' (lay [A']) → St w0 F0 w' (upd E i A')) ∧
      ∀ (w' : World) (A' R : Own) (k : Nat), E k = none → St w F w' (lay [A', R]) → St w0 F0 w' (upd (upd E i A') k R) := by
  obtain ⟨F, HF, -, -, hback⟩ := H.frame1 i hi
  have base : ∀ (w' : World) (A' : Own), St w F w' (lay [A']) → St w0 F0 w' (upd E i A') := fun w' A' h => hback w' A' (h.to1 rfl)
  refine ⟨F, HF.as1, base, fun w' A' R k hk h => ?_⟩
  have hki : k ≠ i := fun e => by rw [e, hi] at hk; cases hk
  have h1 : St w F w' (lay [.sep A' R]) := St.join_mk (L := [A']) (A := A') (B := R) h 0 rfl
  have h3 := (base w' (.sep A' R) h1).part (A := A') (B := R) i k (Ne.symm hki) (by simp [upd]) (by simp [upd, hki, hk])
  refine h3.env fun n => ?_
  simp only [upd]
  by_cases hk' : n = k
  · simp [hk']
  · by_cases hi' : n = i
    · subst hi'; simp [Ne.symm hki]
    · simp [hk', hi']

theorem upd2_id {A B : Own} {i j : Nat} (hi : E i = some A) (hj : E j = some B) : upd (upd E i A) j B = E := by
  rw [upd_id hi, upd_id hj]
theorem upd_mid {A X : Own} {i j : Nat} (hij : i ≠ j) (hj : E j = some A) : upd (upd E i X) j A = upd E i X :=
  upd_id (by simp [upd, Ne.symm hij, hj])
/-- one of two pieces is let go -/
theorem sep_left {A B : Own} {w : World} {F : List Nat} (h : (Own.sep A B).holds w F) : ∃ F', A.holds w F' ∧ ∀ g ∈ F', g ∈ F := by
  obtain ⟨G, K, rfl, hA, -, -⟩ := h
  exact ⟨G, hA, fun g hg => by simp [hg]⟩
end

/-- what was told, and what was wanted: two slices that hold the same -/
structure Tp where
  v : Value
  u : Value
  l : List UInt8
def Tp.own (p : Tp) : Own := .sep (.row 5 1 p.v p.l.length (p.l.map vb)) (.row 5 1 p.u p.l.length (p.l.map vb))

theorem tp_hp {w : World} : ∀ {L : List Tp} {F : List Nat}, (bigO Tp.own L).holds w F →
    (∀ (i : Nat) (p : Tp), L[i]? = some p → w.ownsRow 0 5 1 p.v p.l.length (p.l.map vb) ∧ ∀ g ∈ p.v.ownBlock.toList, g ∈ F) ∧
    ∀ (i j : Nat) (p q : Tp), i ≠ j → L[i]? = some p → L[j]? = some q → p.v.ownBlock = none ∨ p.v.ownBlock ≠ q.v.ownBlock := by
  intro L
  induction L with
  | nil => intro F _; exact ⟨fun i p h => by simp at h, fun i j p q _ h => by simp at h⟩
  | cons y t ih =>
    rintro F ⟨G, H, rfl, ⟨G1, G2, rfl, ⟨h1, e1⟩, h2, d1⟩, hH, d⟩
    obtain ⟨k1, k2⟩ := ih hH
    have hy : ∀ (j : Nat) (q : Tp), t[j]? = some q → y.v.ownBlock = none ∨ y.v.ownBlock ≠ q.v.ownBlock := by
      intro j q hq
      cases hb : y.v.ownBlock with
      | none => exact .inl rfl
      | some g =>
        refine .inr fun e => ?_
        exact d g (by rw [e1, hb]; simp) ((k1 j q hq).2 g (by rw [← e]; simp))
    refine ⟨fun i p hp => ?_, fun i j p q hij hp hq => ?_⟩
    · cases i with
      | zero =>
        simp only [List.getElem?_cons_zero, Option.some.injEq] at hp
        subst hp
        exact ⟨h1, fun g hg => by rw [← e1] at hg; simp [hg]⟩
      | succ i =>
        obtain ⟨a, b⟩ := k1 i p (by simpa using hp)
        exact ⟨a, fun g hg => List.mem_append.2 (.inr (b g hg))⟩
    · cases i with
      | zero =>
        simp only [List.getElem?_cons_zero, Option.some.injEq] at hp
        subst hp
        cases j with
        | zero => exact absurd rfl hij
        | succ j => exact hy j q (by simpa using hq)
      | succ i =>
        cases j with
        | zero =>
          simp only [List.getElem?_cons_zero, Option.some.injEq] at hq
          subst hq
          rcases hy i p (by simpa using hp) with h | h
          · cases hb : p.v.ownBlock with
            | none => exact .inl rfl
            | some g => exact .inr (by rw [h]; simp)
          · exact .inr (Ne.symm h)
        | succ j => exact k2 i j p q (by omega) (by simpa using hp) (by simpa using hq)

set_option maxHeartbeats 1000000 in
theorem apart_nil (w : World) : Calls Try.prog 29 #[.slice none 0 0] w fun e w' => e = .returned (.bool true) ∧ w = w' := by
  go_enter Try.func29, Try.ntmps29
  go_wp2
  go_loopw [3] (fun i wr => i = .int .i64 0 ∧ w = wr) (fun _ _ => 0)
  case atStart => exact ⟨rfl, rfl⟩
  case round =>
    obtain ⟨rfl, e1⟩ := hrel
    go_wp2
    go_loopw [6] (fun i wr2 => i = .int .i64 0 ∧ w = wr2) (fun _ _ => 0)
    case atStart => exact ⟨rfl, e1⟩
    case round =>
      obtain ⟨rfl, e2⟩ := hrel
      go_wp2
      go_loopw [9] (fun i wr3 => i = .int .i64 0 ∧ w = wr3) (fun _ _ => 0)
      case atStart => exact ⟨rfl, e2⟩
      case round =>
        obtain ⟨rfl, e3⟩ := hrel
        go_wp2
        go_ret
        exact ⟨rfl, e3⟩

theorem apart_big {w0 w : World} {E : Env} (H : St w0 [] w E) (k kt : Nat) (tps : List Tp) (A : Option Addr) (n c : Nat) (hk : E k = some (bigO Tp.own tps)) (ht : E kt = some (.row 27 1 (.slice A n c) n (tps.map Tp.v))) (hn : tps.length = n) (hn' : n ≤ 1000) (hl : ∀ p ∈ tps, p.l.length ≤ 140737488355320) :
    Calls Try.prog 29 #[.slice A n c] w fun e w' => e = .returned (.bool true) ∧ Below w0.heap.size w0 w' := by
  rcases (H.row kt ht).2 with ⟨e, -⟩ | ⟨gL, cap, cur, e, -⟩
  · rw [e]
    refine (apart_nil w).mono ?_
    rintro e w' ⟨rfl, rfl⟩
    exact ⟨rfl, H.below⟩
  · injection e with e1 e2 e3
    subst e1
    obtain ⟨F, hF, hF0, -, -⟩ := H.change k hk
    obtain ⟨k1, k2⟩ := tp_hp hF
    have hp : Hp w w0.heap.size (tps.map fun p => (p.v, p.l)) := by
      refine ⟨fun i p hp => ?_, fun i j p q hij hp hq => ?_⟩
      · rw [List.getElem?_map] at hp
        obtain ⟨t, h1, rfl⟩ := Option.map_eq_some_iff.1 hp
        obtain ⟨a, b⟩ := k1 i t h1
        exact ownsRow_base a fun g hg => by have := hF0 g (b g hg); simpa using this
      · rw [List.getElem?_map] at hp hq
        obtain ⟨t, h1, rfl⟩ := Option.map_eq_some_iff.1 hp
        obtain ⟨s, h2, rfl⟩ := Option.map_eq_some_iff.1 hq
        exact k2 i j t s hij h1 h2
    have hfam := hp.fam
    rw [List.length_map, hn, List.map_map, List.map_map] at hfam
    have hL : LR w gL n c (tps.map Tp.v) := H.row kt ht
    refine (apartBytes_any gL n c w0.heap.size _ _ w hL hfam hn' H.low.size ?_).mono fun e w' he => ⟨he.1, H.below.trans he.2⟩
    intro j hj
    rw [List.getD_eq_getElem?_getD, List.getElem?_map, List.getElem?_eq_getElem (by omega)]
    exact hl _ (List.getElem_mem _)
end Go.Proofs.Ytgjlclihgpahbaa

namespace Go.Proofs.Ytgjlclihgpahbaa
open Go.RowKit
set_option linter.unusedVariables false
set_option maxRecDepth 100000

attribute [local irreducible] permB kBytes kPerm kFrom

inductive KA where
  | nil
  | dead (g : Nat)
  | live (g : Nat) (x : Sp)

/-- what a sponge is, but for where it lies -/
abbrev KS := Option (Option Sp)
def KA.abs : KA → KS
  | .nil => none
  | .dead _ => some none
  | .live _ x => some (some x)
def KA.v : KA → Value
  | .nil => .pointer none
  | .dead g => lptr g
  | .live g _ => lptr g
def KS.Ok (s : KS) : Prop := ∀ x, s = some (some x) → x.Ok

def erA : KS → Int
  | some (some _) => 0
  | _ => 1
def wrE : KS → Int
  | some (some x) => if x.s = true then 180 else 0
  | _ => 1
def wrA (s : KS) (q : List UInt8) : KS := match s with
  | some (some x) => if x.s = true then some (some x) else some (some (x.write q))
  | s => s
def wrL (s : KS) (r : Option (List RunT)) (n : Nat) : Option (List RunT) := match s with
  | some (some x) => if x.s = true then r else noteN r 3 200 ((x.p + n) / x.r)
  | _ => r
def csA (s : KS) : KS := match s with
  | some (some x) => if x.s = true then some (some x) else some (some x.close)
  | s => s
def csL (s : KS) (r : Option (List RunT)) : Option (List RunT) := match s with
  | some (some x) => if x.s = true then r else noteN r 3 200 1
  | _ => r
def suOk (N : Int) : Prop := 0 ≤ N ∧ N ≤ 65536
instance (N : Int) : Decidable (suOk N) := by unfold suOk; infer_instance
def reE (s : KS) (N : Int) : Int := match s with
  | some (some _) => if suOk N then 0 else 2
  | _ => 1
def reA (s : KS) (N : Int) : KS := match s with
  | some (some x) => if suOk N then some (some (x.shut.after N.toNat)) else some (some x)
  | s => s
def reB (s : KS) (N : Int) : List UInt8 := match s with
  | some (some x) => if suOk N then x.shut.read N.toNat else []
  | _ => []
def reL (s : KS) (r : Option (List RunT)) (N : Int) : Option (List RunT) := match s with
  | some (some x) => if suOk N then noteN r 3 200 (x.shutN + (x.shut.p + N.toNat - 1) / x.r) else r
  | _ => r
def clA : KS → KS
  | some (some p) => some (some p)
  | _ => none
def wiA : KS → KS
  | some (some p) => some none
  | s => s
def wiL (s : KS) (r : Option (List RunT)) : Option (List RunT) := match s with
  | some (some _) => noteN r 8 203 1
  | _ => r
def foB : KS → List UInt8
  | some (some x) => x.form
  | _ => []
def raA : KS → Int
  | some (some x) => x.r
  | _ => 0
def shA : KS → Bool
  | some (some x) => x.s
  | _ => false
def neOk (S : Int) : Prop := 8 ≤ S ∧ S ≤ 192 ∧ S % 8 = 0
instance (S : Int) : Decidable (neOk S) := by unfold neOk; infer_instance
def neA (S : Int) (f : UInt8) : KS := if neOk S then some (some (Sp.new S.toNat f)) else none
def neE (S : Int) : Int := if neOk S then 0 else 2

theorem wrA_ok {s : KS} (h : s.Ok) (q : List UInt8) : (wrA s q).Ok := by
  match s, h with
  | none, h => exact h
  | some none, h => exact h
  | some (some x), h =>
    have h1 := h x rfl
    unfold wrA
    simp only
    split
    · exact h
    · rename_i hs
      intro x' e
      injection e with e
      injection e with e
      subst e
      exact (Sp.write_ok q h1 (h1.op (by simpa using hs))).1
theorem csA_ok {s : KS} (h : s.Ok) : (csA s).Ok := by
  match s, h with
  | none, h => exact h
  | some none, h => exact h
  | some (some x), h =>
    have h1 := h x rfl
    unfold csA
    simp only
    split
    · exact h
    · rename_i hs
      intro x' e
      injection e with e
      injection e with e
      subst e
      have h2 := (Sp.shut_ok h1).1
      unfold Sp.shut at h2
      rwa [if_neg hs] at h2
theorem reA_ok {s : KS} (h : s.Ok) (N : Int) : (reA s N).Ok := by
  match s, h with
  | none, h => exact h
  | some none, h => exact h
  | some (some x), h =>
    have h1 := h x rfl
    unfold reA
    simp only
    split
    · intro x' e
      injection e with e
      injection e with e
      subst e
      have h2 := Sp.shut_ok h1
      exact (Sp.after_ok h2.1 h2.2.1 N.toNat).1
    · exact h
theorem clA_ok {s : KS} (h : s.Ok) : (clA s).Ok := by
  match s, h with
  | none, h => exact h
  | some none, h => intro x e; cases e
  | some (some x), h => exact h
theorem wiA_ok {s : KS} (h : s.Ok) : (wiA s).Ok := by
  match s, h with
  | none, h => exact h
  | some none, h => exact h
  | some (some x), h => intro x e; cases e
theorem neA_ok (S : Int) (f : UInt8) : (neA S f).Ok := by
  unfold neA
  split
  · rename_i h
    intro x e
    injection e with e
    injection e with e
    subst e
    exact Sp.new_ok _ _ (by have := h.1; omega) (by have := h.2.1; omega)
  · intro x e; cases e

theorem wrL_lw {s : KS} (h : s.Ok) {r : Option (List RunT)} {m n : Nat} {b : Int} (hg : LW r m b) (hn : n ≤ 1000000) : LW (wrL s r n) (m + 1) (b + 100000000) := by
  match s, h with
  | none, h => exact hg.more (by omega) (by omega)
  | some none, h => exact hg.more (by omega) (by omega)
  | some (some x), h =>
    have h1 := h x rfl
    unfold wrL
    simp only
    split
    · exact hg.more (by omega) (by omega)
    · have hp := h1.pr
      have hr := h1.r192
      have hd := Nat.div_le_self (x.p + n) x.r
      exact (hg.noteN 3 200 ((x.p + n) / x.r)).more (by omega) (by omega)
theorem csL_lw {s : KS} {r : Option (List RunT)} {m : Nat} {b : Int} (hg : LW r m b) : LW (csL s r) (m + 1) (b + 100000000) := by
  match s with
  | none => exact hg.more (by omega) (by omega)
  | some none => exact hg.more (by omega) (by omega)
  | some (some x) =>
    unfold csL
    simp only
    split
    · exact hg.more (by omega) (by omega)
    · exact (hg.noteN 3 200 1).more (by omega) (by omega)
theorem reL_lw {s : KS} (h : s.Ok) {r : Option (List RunT)} {m : Nat} {b : Int} (hg : LW r m b) (N : Int) : LW (reL s r N) (m + 1) (b + 100000000) := by
  match s, h with
  | none, h => exact hg.more (by omega) (by omega)
  | some none, h => exact hg.more (by omega) (by omega)
  | some (some x), h =>
    have h1 := h x rfl
    unfold reL
    simp only
    split
    · rename_i hN
      have h2 := (Sp.shut_ok h1).1
      have hp := h2.pr
      have hr := h2.r192
      obtain ⟨hN1, hN2⟩ := hN
      have hd := Nat.div_le_self (x.shut.p + N.toNat - 1) x.r
      have hsn : x.shutN ≤ 1 := by unfold Sp.shutN; split <;> omega
      exact (hg.noteN 3 200 _).more (by omega) (by omega)
    · exact hg.more (by omega) (by omega)
theorem wiL_lw {s : KS} {r : Option (List RunT)} {m : Nat} {b : Int} (hg : LW r m b) : LW (wiL s r) (m + 1) (b + 100000000) := by
  match s with
  | none => exact hg.more (by omega) (by omega)
  | some none => exact hg.more (by omega) (by omega)
  | some (some x) => exact (hg.noteN 8 203 1).more (by omega) (by omega)
theorem reB_le (s : KS) (N : Int) : (reB s N).length ≤ 65536 := by
  unfold reB
  split
  · split
    · rename_i hN
      rw [Sp.read_length]
      have := hN.2
      omega
    · simp
  · simp
theorem foB_le {s : KS} (h : s.Ok) : (foB s).length ≤ 203 := by
  match s, h with
  | none, h => simp [foB]
  | some none, h => simp [foB]
  | some (some x), h => exact Nat.le_of_eq (Sp.form_length (h x rfl).hb)

/-- a sponge's memory -/
def KA.ownM : KA → Own
  | .nil => .emp
  | .dead g => .blk g 71 spZero
  | .live g x => .blk g 71 x.vs

section
variable {w0 w : World} {F0 : List Nat} {E : Env}

theorem spNo_nil : SpNo w (KA.nil).v := .inl rfl
theorem spNo_dead {g : Nat} (H : St w0 F0 w E) (j : Nat) (hj : E j = some (KA.dead g).ownM) : SpNo w (KA.dead g).v := .inr ⟨g, rfl, H.cell (g := g) (T := 71) (cs := spZero) j hj rfl, H.cell (g := g) (T := 71) (cs := spZero) j hj rfl⟩

theorem spWrite_any (l : Value) (r : Option (List RunT)) (m : Nat) (b : Int) (a : KA) (ha : a.abs.Ok) (A : Option Addr) (n c : Nat) (q : List UInt8) (H : St w0 F0 w E) (i j : Nat) (hij : i ≠ j) (hi : E i = some (led l r)) (hj : E j = some a.ownM) (hg : LW r m b) (hm : m ≤ 999999999999) (hb : b ≤ 4000000000000000000)
    (hR : ∀ w' X Y, St w0 F0 w' (upd (upd E i X) j Y) → Rd w' 1 A n (q.map vb)) (hn : n ≤ 281474976710656) :
    Calls Try.prog 14 #[a.v, l, .slice A n c] w fun e w' => ∃ a' : KA, a'.abs = wrA a.abs q ∧ a'.v = a.v ∧ e = .returned (.int .i64 (wrE a.abs)) ∧ St w0 F0 w' (upd (upd E i (led l (wrL a.abs r n))) j a'.ownM) := by
  cases a with
  | nil =>
    refine (spWrite_none l (.slice A n c) _ spNo_nil).mono ?_
    rintro e w' ⟨rfl, rfl⟩
    exact ⟨.nil, rfl, rfl, rfl, H.env fun k => congrFun (upd2_id hi hj) k⟩
  | dead g =>
    refine (spWrite_none l (.slice A n c) _ (spNo_dead H j hj)).mono ?_
    rintro e w' ⟨rfl, rfl⟩
    exact ⟨.dead g, rfl, rfl, rfl, H.env fun k => congrFun (upd2_id hi hj) k⟩
  | live g x =>
    have h1 := ha x rfl
    change E j = some (.blk g 71 x.vs) at hj
    by_cases hs : x.s = true
    · have e1 : wrE (KA.live g x).abs = 180 := if_pos hs
      have e2 : wrA (KA.live g x).abs q = some (some x) := if_pos hs
      have e3 : wrL (KA.live g x).abs r n = r := if_pos hs
      rw [e1, e2, e3]
      refine (spWrite_no l g x A n c (fun k u hu => H.cell j hj hu) h1 hs).mono ?_
      rintro e w' ⟨rfl, rfl⟩
      exact ⟨.live g x, rfl, rfl, rfl, H.env fun k => congrFun (upd2_id hi hj) k⟩
    · have e1 : wrE (KA.live g x).abs = 0 := if_neg hs
      have e2 : wrA (KA.live g x).abs q = some (some (x.write q)) := if_neg hs
      have e3 : wrL (KA.live g x).abs r n = noteN r 3 200 ((x.p + n) / x.r) := if_neg hs
      rw [e1, e2, e3]
      refine (spWrite_s l r m b g x A n c q H i j hij hi hj hg hm hb h1 (by simpa using hs) hR hn).mono ?_
      rintro e w' ⟨rfl, H1⟩
      exact ⟨.live g (x.write q), rfl, rfl, rfl, H1⟩

theorem spClose_any (l : Value) (r : Option (List RunT)) (m : Nat) (b : Int) (a : KA) (ha : a.abs.Ok) (H : St w0 F0 w E) (i j : Nat) (hij : i ≠ j) (hi : E i = some (led l r)) (hj : E j = some a.ownM) (hg : LW r m b) (hm : m ≤ 999999999999) (hb : b ≤ 4000000000000000000) :
    Calls Try.prog 8 #[a.v, l] w fun e w' => ∃ a' : KA, a'.abs = csA a.abs ∧ a'.v = a.v ∧ e = .returned (.int .i64 (wrE a.abs)) ∧ St w0 F0 w' (upd (upd E i (led l (csL a.abs r))) j a'.ownM) := by
  cases a with
  | nil =>
    refine (spClose_none l _ spNo_nil).mono ?_
    rintro e w' ⟨rfl, rfl⟩
    exact ⟨.nil, rfl, rfl, rfl, H.env fun k => congrFun (upd2_id hi hj) k⟩
  | dead g =>
    refine (spClose_none l _ (spNo_dead H j hj)).mono ?_
    rintro e w' ⟨rfl, rfl⟩
    exact ⟨.dead g, rfl, rfl, rfl, H.env fun k => congrFun (upd2_id hi hj) k⟩
  | live g x =>
    have h1 := ha x rfl
    change E j = some (.blk g 71 x.vs) at hj
    by_cases hs : x.s = true
    · have e1 : wrE (KA.live g x).abs = 180 := if_pos hs
      have e2 : csA (KA.live g x).abs = some (some x) := if_pos hs
      have e3 : csL (KA.live g x).abs r = r := if_pos hs
      rw [e1, e2, e3]
      refine (spClose_no l g x (fun k u hu => H.cell j hj hu) h1 hs).mono ?_
      rintro e w' ⟨rfl, rfl⟩
      exact ⟨.live g x, rfl, rfl, rfl, H.env fun k => congrFun (upd2_id hi hj) k⟩
    · have e1 : wrE (KA.live g x).abs = 0 := if_neg hs
      have e2 : csA (KA.live g x).abs = some (some x.close) := if_neg hs
      have e3 : csL (KA.live g x).abs r = noteN r 3 200 1 := if_neg hs
      rw [e1, e2, e3]
      refine (spClose_s l r m b g x H i j hij hi hj hg hm hb h1 (by simpa using hs)).mono ?_
      rintro e w' ⟨rfl, H1⟩
      exact ⟨.live g x.close, rfl, rfl, rfl, H1⟩

theorem spReadK_any (l : Value) (r : Option (List RunT)) (m : Nat) (b : Int) (a : KA) (ha : a.abs.Ok) (N : Int) (H : St w0 F0 w E) (i j k0 : Nat) (hij : i ≠ j) (hi : E i = some (led l r)) (hj : E j = some a.ownM) (hk : E k0 = none) (hg : LW r m b) (hm : m ≤ 999999999999) (hb : b ≤ 4000000000000000000) :
    Calls Try.prog 9 #[a.v, l, .int .i64 N] w fun e w' => ∃ (a' : KA) (v : Value), a'.abs = reA a.abs N ∧ a'.v = a.v ∧ e = .returned (.tuple #[v, .int .i64 (reE a.abs N)]) ∧ St w0 F0 w' (upd (upd (upd E i (led l (reL a.abs r N))) j a'.ownM) k0 (.row 5 1 v (reB a.abs N).length ((reB a.abs N).map vb))) := by
  cases a with
  | nil =>
    refine (spRead_none l N _ spNo_nil).mono ?_
    rintro e w' ⟨rfl, rfl⟩
    exact ⟨.nil, _, rfl, rfl, rfl, by show St w0 F0 w (upd (upd (upd E i (led l r)) j _) k0 _); rw [upd2_id hi hj]; exact H.nilRow k0 hk _ _⟩
  | dead g =>
    refine (spRead_none l N _ (spNo_dead H j hj)).mono ?_
    rintro e w' ⟨rfl, rfl⟩
    exact ⟨.dead g, _, rfl, rfl, rfl, by show St w0 F0 w (upd (upd (upd E i (led l r)) j _) k0 _); rw [upd2_id hi hj]; exact H.nilRow k0 hk _ _⟩
  | live g x =>
    have h1 := ha x rfl
    change E j = some (.blk g 71 x.vs) at hj
    by_cases hN : suOk N
    · obtain ⟨N, rfl⟩ : ∃ q : Nat, N = q := ⟨N.toNat, by have := hN.1; omega⟩
      have e1 : reE (KA.live g x).abs N = 0 := if_pos hN
      have e2 : reB (KA.live g x).abs N = x.shut.read N := if_pos hN
      have e3 : reL (KA.live g x).abs r N = noteN r 3 200 (x.shutN + (x.shut.p + N - 1) / x.r) := if_pos hN
      have e4 : reA (KA.live g x).abs N = some (some (x.shut.after N)) := if_pos hN
      rw [e1, e2, e3, e4]
      refine (spRead_s l r m b g x N (N : Int) rfl H i j k0 hij hi hj hk hg hm hb h1 (by have := hN.2; omega)).mono ?_
      rintro e w' ⟨v, rfl, H1⟩
      have hl := (H1.row k0 upd_same).1
      rw [List.length_map, Nat.mul_one] at hl
      rw [hl]
      exact ⟨.live g (x.shut.after N), v, rfl, rfl, rfl, H1⟩
    · have e1 : reE (KA.live g x).abs N = 2 := if_neg hN
      have e2 : reB (KA.live g x).abs N = [] := if_neg hN
      have e3 : reL (KA.live g x).abs r N = r := if_neg hN
      have e4 : reA (KA.live g x).abs N = some (some x) := if_neg hN
      rw [e1, e2, e3, e4]
      refine (spRead_no l g x N H j hj h1 (by unfold suOk at hN; omega)).mono ?_
      rintro e w' ⟨rfl, rfl⟩
      refine ⟨.live g x, _, rfl, rfl, rfl, ?_⟩
      show St w0 F0 w (upd (upd (upd E i (led l r)) j (.blk g 71 x.vs)) k0 _)
      rw [upd2_id hi hj]
      exact H.nilRow k0 hk _ _

theorem spClone_any (a : KA) (ha : a.abs.Ok) (H : St w0 F0 w E) (j k : Nat) (hj : E j = some a.ownM) (hk : E k = none) :
    Calls Try.prog 43 #[a.v] w fun e w' => ∃ a' : KA, a'.abs = clA a.abs ∧ e = .returned (.tuple #[a'.v, .int .i64 (erA a.abs)]) ∧ St w0 F0 w' (upd E k a'.ownM) := by
  cases a with
  | nil =>
    refine (spClone_none _ spNo_nil).mono ?_
    rintro e w' ⟨rfl, rfl⟩
    exact ⟨.nil, rfl, rfl, H.nothing k hk⟩
  | dead g =>
    refine (spClone_none _ (spNo_dead H j hj)).mono ?_
    rintro e w' ⟨rfl, rfl⟩
    exact ⟨.nil, rfl, rfl, H.nothing k hk⟩
  | live g x =>
    refine (spClone_s g x H j k hj hk (ha x rfl)).mono ?_
    rintro e w' ⟨g', rfl, H1⟩
    exact ⟨.live g' x, rfl, rfl, H1⟩

theorem spWipe_any (l : Value) (r : Option (List RunT)) (m : Nat) (b : Int) (a : KA) (ha : a.abs.Ok) (H : St w0 F0 w E) (i j : Nat) (hij : i ≠ j) (hi : E i = some (led l r)) (hj : E j = some a.ownM) (hg : LW r m b) (hm : m ≤ 999999999999) (hb : b ≤ 4000000000000000000) :
    Calls Try.prog 30 #[a.v, l] w fun e w' => ∃ a' : KA, a'.abs = wiA a.abs ∧ a'.v = a.v ∧ e = .returned (.int .i64 (erA a.abs)) ∧ St w0 F0 w' (upd (upd E i (led l (wiL a.abs r))) j a'.ownM) := by
  cases a with
  | nil =>
    refine (spWipe_none l _ spNo_nil).mono ?_
    rintro e w' ⟨rfl, rfl⟩
    exact ⟨.nil, rfl, rfl, rfl, H.env fun k => congrFun (upd2_id hi hj) k⟩
  | dead g =>
    refine (spWipe_none l _ (spNo_dead H j hj)).mono ?_
    rintro e w' ⟨rfl, rfl⟩
    exact ⟨.dead g, rfl, rfl, rfl, H.env fun k => congrFun (upd2_id hi hj) k⟩
  | live g x =>
    refine (spWipe_s l r m b g x H i j hij hi hj hg hm hb (ha x rfl)).mono ?_
    rintro e w' ⟨rfl, H1⟩
    exact ⟨.dead g, rfl, rfl, rfl, H1⟩

theorem spForm_any (a : KA) (ha : a.abs.Ok) (H : St w0 F0 w E) (j k : Nat) (hj : E j = some a.ownM) (hk : E k = none) :
    Calls Try.prog 22 #[a.v] w fun e w' => ∃ v, e = .returned v ∧ St w0 F0 w' (upd E k (.row 5 1 v (foB a.abs).length ((foB a.abs).map vb))) := by
  cases a with
  | nil =>
    refine (spForm_none _ spNo_nil).mono ?_
    rintro e w' ⟨rfl, rfl⟩
    exact ⟨_, rfl, H.nilRow k hk _ _⟩
  | dead g =>
    refine (spForm_none _ (spNo_dead H j hj)).mono ?_
    rintro e w' ⟨rfl, rfl⟩
    exact ⟨_, rfl, H.nilRow k hk _ _⟩
  | live g x =>
    refine (spForm_s g x H j k hj hk (ha x rfl)).mono ?_
    rintro e w' ⟨v, rfl, H1⟩
    have hl := (H1.row k upd_same).1
    rw [List.length_map, Nat.mul_one] at hl
    refine ⟨v, rfl, ?_⟩
    show St w0 F0 w' (upd E k (.row 5 1 v x.form.length (x.form.map vb)))
    rw [hl]
    exact H1

theorem spRate_any (a : KA) (ha : a.abs.Ok) (H : St w0 F0 w E) (j : Nat) (hj : E j = some a.ownM) :
    Calls Try.prog 15 #[a.v] w fun e w' => e = .returned (.int .i64 (raA a.abs)) ∧ w = w' := by
  cases a with
  | nil => exact spRate_none _ spNo_nil
  | dead g => exact spRate_none _ (spNo_dead H j hj)
  | live g x => exact spRate_s g x H j hj (ha x rfl)

theorem spShut_any (a : KA) (ha : a.abs.Ok) (H : St w0 F0 w E) (j : Nat) (hj : E j = some a.ownM) :
    Calls Try.prog 12 #[a.v] w fun e w' => e = .returned (.bool (shA a.abs)) ∧ w = w' := by
  cases a with
  | nil => exact spShut_none _ spNo_nil
  | dead g => exact spShut_none _ (spNo_dead H j hj)
  | live g x => exact spShut_s g x H j hj (ha x rfl)

theorem spNew_any (S : Int) (f : UInt8) (H : St w0 F0 w E) (k : Nat) (hk : E k = none) :
    Calls Try.prog 7 #[.int .i64 S, .int .u8 (f.toNat : Int)] w fun e w' => ∃ a' : KA, a'.abs = neA S f ∧ e = .returned (.tuple #[a'.v, .int .i64 (neE S)]) ∧ St w0 F0 w' (upd E k a'.ownM) := by
  by_cases hS : neOk S
  · unfold neA neE
    rw [if_pos hS, if_pos hS]
    refine (spNew_s S f H k hk hS.1 hS.2.1 hS.2.2).mono ?_
    rintro e w' ⟨g, rfl, H1⟩
    exact ⟨.live g _, rfl, rfl, H1⟩
  · unfold neA neE
    rw [if_neg hS, if_neg hS]
    refine (spNew_no S f (by unfold neOk at hS; omega)).mono ?_
    rintro e w' ⟨rfl, rfl⟩
    exact ⟨.nil, rfl, rfl, H.nothing k hk⟩
end

/-- a sponge's memory -/
def KA.ownR : KA → Own
  | .nil => .emp
  | .dead g => .blk g 97 spZeroR
  | .live g x => .blk g 97 x.vsR

section
variable {w0 w : World} {F0 : List Nat} {E : Env}

theorem rsNo_nil : RpNo w (KA.nil).v := .inl rfl
theorem rsNo_dead {g : Nat} (H : St w0 F0 w E) (j : Nat) (hj : E j = some (KA.dead g).ownR) : RpNo w (KA.dead g).v := .inr ⟨g, rfl, H.cell (g := g) (T := 97) (cs := spZeroR) j hj rfl⟩

theorem rsWrite_any (l : Value) (r : Option (List RunT)) (m : Nat) (b : Int) (a : KA) (ha : a.abs.Ok) (A : Option Addr) (n c : Nat) (q : List UInt8) (H : St w0 F0 w E) (i j : Nat) (hij : i ≠ j) (hi : E i = some (ledR l r)) (hj : E j = some a.ownR) (hg : LW r m b) (hm : m ≤ 999999999999) (hb : b ≤ 4000000000000000000)
    (hR : ∀ w' X Y, St w0 F0 w' (upd (upd E i X) j Y) → Rd w' 1 A n (q.map vb)) (hn : n ≤ 281474976710656) :
    Calls Try.prog 37 #[a.v, l, .slice A n c] w fun e w' => ∃ a' : KA, a'.abs = wrA a.abs q ∧ a'.v = a.v ∧ e = .returned (.int .i64 (wrE a.abs)) ∧ St w0 F0 w' (upd (upd E i (ledR l (wrL a.abs r n))) j a'.ownR) := by
  cases a with
  | nil =>
    refine (rsWrite_none l (.slice A n c) _ rsNo_nil).mono ?_
    rintro e w' ⟨rfl, rfl⟩
    exact ⟨.nil, rfl, rfl, rfl, H.env fun k => congrFun (upd2_id hi hj) k⟩
  | dead g =>
    refine (rsWrite_none l (.slice A n c) _ (rsNo_dead H j hj)).mono ?_
    rintro e w' ⟨rfl, rfl⟩
    exact ⟨.dead g, rfl, rfl, rfl, H.env fun k => congrFun (upd2_id hi hj) k⟩
  | live g x =>
    have h1 := ha x rfl
    change E j = some (.blk g 97 x.vsR) at hj
    by_cases hs : x.s = true
    · have e1 : wrE (KA.live g x).abs = 180 := if_pos hs
      have e2 : wrA (KA.live g x).abs q = some (some x) := if_pos hs
      have e3 : wrL (KA.live g x).abs r n = r := if_pos hs
      rw [e1, e2, e3]
      refine (rsWrite_no l g x A n c (fun k u hu => H.cell j hj hu) h1 hs).mono ?_
      rintro e w' ⟨rfl, rfl⟩
      exact ⟨.live g x, rfl, rfl, rfl, H.env fun k => congrFun (upd2_id hi hj) k⟩
    · have e1 : wrE (KA.live g x).abs = 0 := if_neg hs
      have e2 : wrA (KA.live g x).abs q = some (some (x.write q)) := if_neg hs
      have e3 : wrL (KA.live g x).abs r n = noteN r 3 200 ((x.p + n) / x.r) := if_neg hs
      rw [e1, e2, e3]
      refine (rsWrite_s l r m b g x A n c q H i j hij hi hj hg hm hb h1 (by simpa using hs) hR hn).mono ?_
      rintro e w' ⟨rfl, H1⟩
      exact ⟨.live g (x.write q), rfl, rfl, rfl, H1⟩

theorem rsClose_any (l : Value) (r : Option (List RunT)) (m : Nat) (b : Int) (a : KA) (ha : a.abs.Ok) (H : St w0 F0 w E) (i j : Nat) (hij : i ≠ j) (hi : E i = some (ledR l r)) (hj : E j = some a.ownR) (hg : LW r m b) (hm : m ≤ 999999999999) (hb : b ≤ 4000000000000000000) :
    Calls Try.prog 40 #[a.v, l] w fun e w' => ∃ a' : KA, a'.abs = csA a.abs ∧ a'.v = a.v ∧ e = .returned (.int .i64 (wrE a.abs)) ∧ St w0 F0 w' (upd (upd E i (ledR l (csL a.abs r))) j a'.ownR) := by
  cases a with
  | nil =>
    refine (rsClose_none l _ rsNo_nil).mono ?_
    rintro e w' ⟨rfl, rfl⟩
    exact ⟨.nil, rfl, rfl, rfl, H.env fun k => congrFun (upd2_id hi hj) k⟩
  | dead g =>
    refine (rsClose_none l _ (rsNo_dead H j hj)).mono ?_
    rintro e w' ⟨rfl, rfl⟩
    exact ⟨.dead g, rfl, rfl, rfl, H.env fun k => congrFun (upd2_id hi hj) k⟩
  | live g x =>
    have h1 := ha x rfl
    change E j = some (.blk g 97 x.vsR) at hj
    by_cases hs : x.s = true
    · have e1 : wrE (KA.live g x).abs = 180 := if_pos hs
      have e2 : csA (KA.live g x).abs = some (some x) := if_pos hs
      have e3 : csL (KA.live g x).abs r = r := if_pos hs
      rw [e1, e2, e3]
      refine (rsClose_no l g x (fun k u hu => H.cell j hj hu) h1 hs).mono ?_
      rintro e w' ⟨rfl, rfl⟩
      exact ⟨.live g x, rfl, rfl, rfl, H.env fun k => congrFun (upd2_id hi hj) k⟩
    · have e1 : wrE (KA.live g x).abs = 0 := if_neg hs
      have e2 : csA (KA.live g x).abs = some (some x.close) := if_neg hs
      have e3 : csL (KA.live g x).abs r = noteN r 3 200 1 := if_neg hs
      rw [e1, e2, e3]
      refine (rsClose_s l r m b g x H i j hij hi hj hg hm hb h1 (by simpa using hs)).mono ?_
      rintro e w' ⟨rfl, H1⟩
      exact ⟨.live g x.close, rfl, rfl, rfl, H1⟩

theorem rsReadK_any (l : Value) (r : Option (List RunT)) (m : Nat) (b : Int) (a : KA) (ha : a.abs.Ok) (N : Int) (H : St w0 F0 w E) (i j k0 : Nat) (hij : i ≠ j) (hi : E i = some (ledR l r)) (hj : E j = some a.ownR) (hk : E k0 = none) (hg : LW r m b) (hm : m ≤ 999999999999) (hb : b ≤ 4000000000000000000) :
    Calls Try.prog 41 #[a.v, l, .int .i64 N] w fun e w' => ∃ (a' : KA) (v : Value), a'.abs = reA a.abs N ∧ a'.v = a.v ∧ e = .returned (.tuple #[v, .int .i64 (reE a.abs N)]) ∧ St w0 F0 w' (upd (upd (upd E i (ledR l (reL a.abs r N))) j a'.ownR) k0 (.row 5 1 v (reB a.abs N).length ((reB a.abs N).map vb))) := by
  cases a with
  | nil =>
    refine (rsRead_none l N _ rsNo_nil).mono ?_
    rintro e w' ⟨rfl, rfl⟩
    exact ⟨.nil, _, rfl, rfl, rfl, by show St w0 F0 w (upd (upd (upd E i (ledR l r)) j _) k0 _); rw [upd2_id hi hj]; exact H.nilRow k0 hk _ _⟩
  | dead g =>
    refine (rsRead_none l N _ (rsNo_dead H j hj)).mono ?_
    rintro e w' ⟨rfl, rfl⟩
    exact ⟨.dead g, _, rfl, rfl, rfl, by show St w0 F0 w (upd (upd (upd E i (ledR l r)) j _) k0 _); rw [upd2_id hi hj]; exact H.nilRow k0 hk _ _⟩
  | live g x =>
    have h1 := ha x rfl
    change E j = some (.blk g 97 x.vsR) at hj
    by_cases hN : suOk N
    · obtain ⟨N, rfl⟩ : ∃ q : Nat, N = q := ⟨N.toNat, by have := hN.1; omega⟩
      have e1 : reE (KA.live g x).abs N = 0 := if_pos hN
      have e2 : reB (KA.live g x).abs N = x.shut.read N := if_pos hN
      have e3 : reL (KA.live g x).abs r N = noteN r 3 200 (x.shutN + (x.shut.p + N - 1) / x.r) := if_pos hN
      have e4 : reA (KA.live g x).abs N = some (some (x.shut.after N)) := if_pos hN
      rw [e1, e2, e3, e4]
      refine (rsRead_s l r m b g x N (N : Int) rfl H i j k0 hij hi hj hk hg hm hb h1 (by have := hN.2; omega)).mono ?_
      rintro e w' ⟨v, rfl, H1⟩
      have hl := (H1.row k0 upd_same).1
      rw [List.length_map, Nat.mul_one] at hl
      rw [hl]
      exact ⟨.live g (x.shut.after N), v, rfl, rfl, rfl, H1⟩
    · have e1 : reE (KA.live g x).abs N = 2 := if_neg hN
      have e2 : reB (KA.live g x).abs N = [] := if_neg hN
      have e3 : reL (KA.live g x).abs r N = r := if_neg hN
      have e4 : reA (KA.live g x).abs N = some (some x) := if_neg hN
      rw [e1, e2, e3, e4]
      refine (rsRead_no l g x N H j hj h1 (by unfold suOk at hN; omega)).mono ?_
      rintro e w' ⟨rfl, rfl⟩
      refine ⟨.live g x, _, rfl, rfl, rfl, ?_⟩
      show St w0 F0 w (upd (upd (upd E i (ledR l r)) j (.blk g 97 x.vsR)) k0 _)
      rw [upd2_id hi hj]
      exact H.nilRow k0 hk _ _

theorem rsClone_any (a : KA) (ha : a.abs.Ok) (H : St w0 F0 w E) (j k : Nat) (hj : E j = some a.ownR) (hk : E k = none) :
    Calls Try.prog 44 #[a.v] w fun e w' => ∃ a' : KA, a'.abs = clA a.abs ∧ e = .returned (.tuple #[a'.v, .int .i64 (erA a.abs)]) ∧ St w0 F0 w' (upd E k a'.ownR) := by
  cases a with
  | nil =>
    refine (rsClone_none _ rsNo_nil).mono ?_
    rintro e w' ⟨rfl, rfl⟩
    exact ⟨.nil, rfl, rfl, H.nothing k hk⟩
  | dead g =>
    refine (rsClone_none _ (rsNo_dead H j hj)).mono ?_
    rintro e w' ⟨rfl, rfl⟩
    exact ⟨.nil, rfl, rfl, H.nothing k hk⟩
  | live g x =>
    refine (rsClone_s g x H j k hj hk (ha x rfl)).mono ?_
    rintro e w' ⟨g', rfl, H1⟩
    exact ⟨.live g' x, rfl, rfl, H1⟩

theorem rsWipe_any (l : Value) (r : Option (List RunT)) (m : Nat) (b : Int) (a : KA) (ha : a.abs.Ok) (H : St w0 F0 w E) (i j : Nat) (hij : i ≠ j) (hi : E i = some (ledR l r)) (hj : E j = some a.ownR) (hg : LW r m b) (hm : m ≤ 999999999999) (hb : b ≤ 4000000000000000000) :
    Calls Try.prog 45 #[a.v, l] w fun e w' => ∃ a' : KA, a'.abs = wiA a.abs ∧ a'.v = a.v ∧ e = .returned (.int .i64 (erA a.abs)) ∧ St w0 F0 w' (upd (upd E i (ledR l (wiL a.abs r))) j a'.ownR) := by
  cases a with
  | nil =>
    refine (rsWipe_none l _ rsNo_nil).mono ?_
    rintro e w' ⟨rfl, rfl⟩
    exact ⟨.nil, rfl, rfl, rfl, H.env fun k => congrFun (upd2_id hi hj) k⟩
  | dead g =>
    refine (rsWipe_none l _ (rsNo_dead H j hj)).mono ?_
    rintro e w' ⟨rfl, rfl⟩
    exact ⟨.dead g, rfl, rfl, rfl, H.env fun k => congrFun (upd2_id hi hj) k⟩
  | live g x =>
    refine (rsWipe_s l r m b g x H i j hij hi hj hg hm hb (ha x rfl)).mono ?_
    rintro e w' ⟨rfl, H1⟩
    exact ⟨.dead g, rfl, rfl, rfl, H1⟩

theorem rsForm_any (a : KA) (ha : a.abs.Ok) (H : St w0 F0 w E) (j k : Nat) (hj : E j = some a.ownR) (hk : E k = none) :
    Calls Try.prog 46 #[a.v] w fun e w' => ∃ v, e = .returned v ∧ St w0 F0 w' (upd E k (.row 5 1 v (foB a.abs).length ((foB a.abs).map vb))) := by
  cases a with
  | nil =>
    refine (rsForm_none _ rsNo_nil).mono ?_
    rintro e w' ⟨rfl, rfl⟩
    exact ⟨_, rfl, H.nilRow k hk _ _⟩
  | dead g =>
    refine (rsForm_none _ (rsNo_dead H j hj)).mono ?_
    rintro e w' ⟨rfl, rfl⟩
    exact ⟨_, rfl, H.nilRow k hk _ _⟩
  | live g x =>
    refine (rsForm_s g x H j k hj hk (ha x rfl)).mono ?_
    rintro e w' ⟨v, rfl, H1⟩
    have hl := (H1.row k upd_same).1
    rw [List.length_map, Nat.mul_one] at hl
    refine ⟨v, rfl, ?_⟩
    show St w0 F0 w' (upd E k (.row 5 1 v x.form.length (x.form.map vb)))
    rw [hl]
    exact H1

theorem rsRate_any (a : KA) (ha : a.abs.Ok) (H : St w0 F0 w E) (j : Nat) (hj : E j = some a.ownR) :
    Calls Try.prog 47 #[a.v] w fun e w' => e = .returned (.int .i64 (raA a.abs)) ∧ w = w' := by
  cases a with
  | nil => exact rsRate_none _ rsNo_nil
  | dead g => exact rsRate_none _ (rsNo_dead H j hj)
  | live g x => exact rsRate_s g x H j hj (ha x rfl)

theorem rsShut_any (a : KA) (ha : a.abs.Ok) (H : St w0 F0 w E) (j : Nat) (hj : E j = some a.ownR) :
    Calls Try.prog 48 #[a.v] w fun e w' => e = .returned (.bool (shA a.abs)) ∧ w = w' := by
  cases a with
  | nil => exact rsShut_none _ rsNo_nil
  | dead g => exact rsShut_none _ (rsNo_dead H j hj)
  | live g x => exact rsShut_s g x H j hj (ha x rfl)

theorem rsNew_any (S : Int) (f : UInt8) (H : St w0 F0 w E) (k : Nat) (hk : E k = none) :
    Calls Try.prog 35 #[.int .i64 S, .int .u8 (f.toNat : Int)] w fun e w' => ∃ a' : KA, a'.abs = neA S f ∧ e = .returned (.tuple #[a'.v, .int .i64 (neE S)]) ∧ St w0 F0 w' (upd E k a'.ownR) := by
  by_cases hS : neOk S
  · unfold neA neE
    rw [if_pos hS, if_pos hS]
    refine (rsNew_s S f H k hk hS.1 hS.2.1 hS.2.2).mono ?_
    rintro e w' ⟨g, rfl, H1⟩
    exact ⟨.live g _, rfl, rfl, H1⟩
  · unfold neA neE
    rw [if_neg hS, if_neg hS]
    refine (rsNew_no S f (by unfold neOk at hS; omega)).mono ?_
    rintro e w' ⟨rfl, rfl⟩
    exact ⟨.nil, rfl, rfl, H.nothing k hk⟩
end
end Go.Proofs.Ytgjlclihgpahbaa

namespace Go.Proofs.Ytgjlclihgpahbaa
open Go.RowKit
set_option linter.unusedVariables false
set_option maxRecDepth 100000

def costZ (z : Int) : Nat := if 0 < z ∧ z ≤ 65536 then z.toNat else 0
def spactN (s : SpactR) : Nat := s.n3 + (if s.z1 = 2 then costZ s.z4 else 0)
def sumTo {α : Type} (f : α → Nat) (l : List α) (k : Nat) : Nat := ((l.take k).map f).sum

theorem sumTo_succ {α : Type} (f : α → Nat) {l : List α} {k : Nat} {x : α} (h : l[k]? = some x) : sumTo f l (k + 1) = sumTo f l k + f x := by
  unfold sumTo; rw [List.take_add_one, h]; simp
theorem sumTo_le {α : Type} (f : α → Nat) (l : List α) (k b : Nat) (h : ∀ x ∈ l, f x ≤ b) : sumTo f l k ≤ b * k := by
  induction k with
  | zero => simp [sumTo]
  | succ k ih =>
    rcases Nat.lt_or_ge k l.length with hk | hk
    · rw [sumTo_succ f (List.getElem?_eq_getElem hk)]
      have := h _ (List.getElem_mem hk)
      rw [Nat.mul_succ]
      omega
    · have : sumTo f l (k + 1) = sumTo f l k := by unfold sumTo; rw [List.take_of_length_le (by omega), List.take_of_length_le hk]
      rw [this, Nat.mul_succ]; omega
theorem sumTo_mem {α : Type} (f : α → Nat) {l : List α} {k i : Nat} {x : α} (h : l[i]? = some x) (hi : i < k) : f x ≤ sumTo f l k := by
  induction k with
  | zero => omega
  | succ k ih =>
    rcases Nat.lt_or_ge k l.length with hk | hk
    · rw [sumTo_succ f (List.getElem?_eq_getElem hk)]
      by_cases e : i = k
      · subst e
        rw [List.getElem?_eq_getElem hk] at h
        injection h with h
        rw [h]; omega
      · have := ih (by omega); omega
    · have hl : i < l.length := (List.getElem?_eq_some_iff.1 h).1
      have e : sumTo f l (k + 1) = sumTo f l k := by unfold sumTo; rw [List.take_of_length_le (by omega), List.take_of_length_le hk]
      rw [e]
      exact ih (by omega)

set_option maxHeartbeats 4000000 in
theorem spSmall_s (A : Option Addr) (n c : Nat) (ks : List SpactR) (w : World) (hA : Rd w 7 A n (spactsV ks)) (hn : n ≤ 17592186043904) (ha : ∀ s ∈ ks, s.n3 ≤ 140737488351232) :
    Calls Try.prog 23 #[.slice A n c] w fun e w' => ∃ b : Bool, e = .returned (.bool b) ∧ (b = true → n ≤ 60 ∧ sumTo spactN ks n ≤ 6000) ∧ Below w.heap.size w w' := by
  have hla : ks.length = n := by have := hA.1; rw [spactsV_length] at this; omega
  have HLA := Lib.hid hla
  have HA := Lib.hid ha
  clear hla ha
  have H := St.start_lay w []
  go_enter Try.func23, Try.ntmps23
  go_wp2
  go_loopw [3, 4] (fun v i wr => ∃ j : Nat, j ≤ n ∧ i = .int .i64 (j : Int) ∧ v = .int .i64 ((sumTo spactN ks j : Nat) : Int) ∧ sumTo spactN ks j ≤ 6000 ∧ St w [] wr (lay [])) (fun _ i _ => n - (intOf i).toNat)
  case atStart => exact ⟨0, Nat.zero_le _, rfl, rfl, Nat.zero_le _, H⟩
  case round =>
    clear H
    obtain ⟨j, hj, rfl, rfl, h4, H⟩ := hrel
    by_cases hlt : j < n
    · obtain ⟨x, hx⟩ : ∃ r, ks[j]? = some r := ⟨_, List.getElem?_eq_getElem (by rw [HLA.out]; exact hlt)⟩
      obtain ⟨p, o, rfl, a0, a1, a2, a3, a4, a5, a6, hlt2⟩ := spact_cells (H.arg0 hA) hx
      have hb := HA.out x (List.mem_of_getElem? hx)
      have hs := sumTo_succ spactN hx
      rw [show spactN x = x.n3 + (if x.z1 = 2 then costZ x.z4 else 0) from rfl] at hs
      have HS : Hid (sumTo spactN ks (j + 1) = sumTo spactN ks j + x.n3 + (if x.z1 = 2 then costZ x.z4 else 0)) := by unfold Hid; omega
      clear hx hs a0 a2 a5 a6
      generalize sumTo spactN ks j = s at HS h4
      have hki : (j : Int) < n := by omega
      generalize x.z4 = z at a4 HS
      generalize x.z1 = y at a1 HS
      generalize x.n3 = q at a3 HS hb
      by_cases hcc : ¬ y = 2
      · have hy : (y == 2) = false := by simpa using hcc
        have hcz : (((if y = 2 then costZ z else 0) : Nat) : Int) = 0 := by rw [if_neg hcc]; rfl
        have HSI : Hid (((sumTo spactN ks (j + 1) : Nat) : Int) = (s : Int) + (q : Int)) := by unfold Hid; rw [HS.out]; push_cast; omega
        clear HS hcz
        by_cases hw : (s : Int) + (q : Int) ≤ 6000
        · have hq : decide ((s : Int) + (q : Int) > 6000) = false := by simp; omega
          have hw4 : sumTo spactN ks (j + 1) ≤ 6000 := by have := HSI.out; omega
          clear hw
          go_wp2
          go_roundw
          case rel => exact ⟨j + 1, by omega, by go_num, by first | (rw [HSI.out]; done) | (rw [HSI.out]; go_num), hw4, H⟩
          case measure => simp [intOf]; omega
        · have hq : decide ((s : Int) + (q : Int) > 6000) = true := by simp; omega
          clear hw
          go_wp2
          go_ret
          first | exact ⟨false, rfl, (fun h => by cases h), H.below⟩ | exact .inl ⟨rfl, H.below⟩ | exact ⟨rfl, H.below⟩
      · skip
        have hyy : y = 2 := by omega
        clear hcc
        by_cases hcc : z ≤ 0
        · have hy : (y == 2) = true := by simpa using hyy
          have hz1 : decide (z > 0) = false := by simp; omega
          have hcz : (((if y = 2 then costZ z else 0) : Nat) : Int) = 0 := by rw [if_pos hyy]; unfold costZ; rw [if_neg (by omega)]; rfl
          have HSI : Hid (((sumTo spactN ks (j + 1) : Nat) : Int) = (s : Int) + (q : Int)) := by unfold Hid; rw [HS.out]; push_cast; omega
          clear HS hcz
          by_cases hw : (s : Int) + (q : Int) ≤ 6000
          · have hq : decide ((s : Int) + (q : Int) > 6000) = false := by simp; omega
            have hw4 : sumTo spactN ks (j + 1) ≤ 6000 := by have := HSI.out; omega
            clear hw
            go_wp2
            go_roundw
            case rel => exact ⟨j + 1, by omega, by go_num, by first | (rw [HSI.out]; done) | (rw [HSI.out]; go_num), hw4, H⟩
            case measure => simp [intOf]; omega
          · have hq : decide ((s : Int) + (q : Int) > 6000) = true := by simp; omega
            clear hw
            go_wp2
            go_ret
            first | exact ⟨false, rfl, (fun h => by cases h), H.below⟩ | exact .inl ⟨rfl, H.below⟩ | exact ⟨rfl, H.below⟩
        · skip
          by_cases hcc : ¬ z ≤ 65536
          · have hy : (y == 2) = true := by simpa using hyy
            have hz1 : decide (z > 0) = true := by simp; omega
            have hz2 : decide (z ≤ 65536) = false := by simp; omega
            have hcz : (((if y = 2 then costZ z else 0) : Nat) : Int) = 0 := by rw [if_pos hyy]; unfold costZ; rw [if_neg (by omega)]; rfl
            have HSI : Hid (((sumTo spactN ks (j + 1) : Nat) : Int) = (s : Int) + (q : Int)) := by unfold Hid; rw [HS.out]; push_cast; omega
            clear HS hcz
            by_cases hw : (s : Int) + (q : Int) ≤ 6000
            · have hq : decide ((s : Int) + (q : Int) > 6000) = false := by simp; omega
              have hw4 : sumTo spactN ks (j + 1) ≤ 6000 := by have := HSI.out; omega
              clear hw
              go_wp2
              go_roundw
              case rel => exact ⟨j + 1, by omega, by go_num, by first | (rw [HSI.out]; done) | (rw [HSI.out]; go_num), hw4, H⟩
              case measure => simp [intOf]; omega
            · have hq : decide ((s : Int) + (q : Int) > 6000) = true := by simp; omega
              clear hw
              go_wp2
              go_ret
              first | exact ⟨false, rfl, (fun h => by cases h), H.below⟩ | exact .inl ⟨rfl, H.below⟩ | exact ⟨rfl, H.below⟩
          · skip
            have hy : (y == 2) = true := by simpa using hyy
            have hz1 : decide (z > 0) = true := by simp; omega
            have hz2 : decide (z ≤ 65536) = true := by simp; omega
            have hcz : (((if y = 2 then costZ z else 0) : Nat) : Int) = z := by rw [if_pos hyy]; unfold costZ; rw [if_pos (by omega)]; omega
            have HSI : Hid (((sumTo spactN ks (j + 1) : Nat) : Int) = (s : Int) + (q : Int) + z) := by unfold Hid; rw [HS.out]; push_cast; omega
            clear HS hcz
            by_cases hw : (s : Int) + (q : Int) + z ≤ 6000
            · have hq : decide ((s : Int) + (q : Int) + z > 6000) = false := by simp; omega
              have hw4 : sumTo spactN ks (j + 1) ≤ 6000 := by have := HSI.out; omega
              clear hw
              go_wp2
              go_roundw
              case rel => exact ⟨j + 1, by omega, by go_num, by first | (rw [HSI.out]; done) | (rw [HSI.out]; go_num), hw4, H⟩
              case measure => simp [intOf]; omega
            · have hq : decide ((s : Int) + (q : Int) + z > 6000) = true := by simp; omega
              clear hw
              go_wp2
              go_ret
              first | exact ⟨false, rfl, (fun h => by cases h), H.below⟩ | exact .inl ⟨rfl, H.below⟩ | exact ⟨rfl, H.below⟩
    · obtain rfl : j = n := by omega
      have hki : ¬ (j : Int) < j := by omega
      by_cases h1 : j ≤ 60
      · have q1 : decide ((j : Int) ≤ 60) = true := by simp; omega
        go_wp2
        go_ret
        first | exact ⟨true, rfl, (fun _ => ⟨h1, h4⟩), H.below⟩ | exact .inr ⟨rfl, ⟨h1, h4⟩, H.below⟩ | exact .inr ⟨rfl, h4, H.below⟩ | exact .inr ⟨rfl, h1, H.below⟩ | exact ⟨.inr rfl, H.below⟩ | exact ⟨rfl, ⟨h1, h4⟩, H.below⟩ | exact ⟨rfl, h4, H.below⟩ | exact ⟨rfl, H.below⟩ | exact .inr ⟨rfl, H.below⟩
      · have q1 : decide ((j : Int) ≤ 60) = false := by simp; omega
        go_wp2
        go_ret
        first | exact ⟨false, rfl, (fun h => by cases h), H.below⟩ | exact .inl ⟨rfl, H.below⟩ | exact ⟨rfl, H.below⟩
end Go.Proofs.Ytgjlclihgpahbaa

namespace Go.Proofs.Ytgjlclihgpahbaa
open Go.RowKit
set_option linter.unusedVariables false

/-- n bytes from a on -/
def fld (l : List UInt8) (a n : Nat) : List UInt8 := (l.drop a).take n
theorem fld_length (l : List UInt8) (a n : Nat) (h : a + n ≤ l.length) : (fld l a n).length = n := by simp [fld]; omega
theorem Rd.fld {w : World} {b o n : Nat} {l : List UInt8} (h : Rd w 1 (some ⟨b, o, none⟩) n (l.map vb)) (a m : Nat) (hm : a + m ≤ n) {A : Option Addr} (hA : A = some ⟨b, o + a, none⟩) : Rd w 1 A m ((fld l a m).map vb) := by
  have hl : l.length = n := by simpa using h.1
  refine ⟨by simp [Go.Proofs.Ytgjlclihgpahbaa.fld]; omega, fun hn => ⟨_, hA, ?_, fun j u hu => ?_⟩⟩
  · obtain ⟨ad, e, hb, -⟩ := h.2 (by omega)
    injection e with e; subst e; exact hb
  · obtain ⟨ad, e, -, hc⟩ := h.2 (by omega)
    injection e with e; subst e
    have hj : j < ((Go.Proofs.Ytgjlclihgpahbaa.fld l a m).map vb).length := (List.getElem?_eq_some_iff.1 hu).1
    have hj2 : j < m := by simp [Go.Proofs.Ytgjlclihgpahbaa.fld] at hj; omega
    have h2 := hc (a + j) u (by
      rw [← hu]
      simp [Go.Proofs.Ytgjlclihgpahbaa.fld, List.getElem?_drop, hj2])
    rw [Addr.add_mid] at h2 ⊢
    rw [Nat.add_assoc]; exact h2

theorem Rd.fld_if {w : World} {b o n : Nat} {l : List UInt8} (h : Rd w 1 (some ⟨b, o, none⟩) n (l.map vb)) (a m c : Nat) (hm : a + m ≤ n) (hc : n ≤ c) : Rd w 1 (if c = a then some ⟨b, o, none⟩ else some ⟨b, o + a, none⟩) m ((Go.Proofs.Ytgjlclihgpahbaa.fld l a m).map vb) := by
  by_cases hca : c = a
  · obtain rfl : m = 0 := by omega
    exact ⟨by simp [Go.Proofs.Ytgjlclihgpahbaa.fld], fun h => by omega⟩
  · exact h.fld a m hm (by rw [if_neg hca])
def Held (p : Prop) : Prop := p
theorem hold_here {p : Prop} (h : Held p) : p := h
theorem Held.go {p : Prop} (h : p) : Held p := h
theorem absorb_post {Q : Exit → Act → World → Prop} {a : Act} {w0 w : World} {F0 : List Nat} {E : Env} (H : St w0 F0 w E) (h : ∀ w', St w0 F0 w' E → Q .normal a w') : Q .normal a w := h w H
theorem Rd.zero {w : World} {A : Option Addr} {m : Nat} (h : m = 0) : Rd w 1 A m (([] : List UInt8).map vb) := ⟨by simp [h], fun h' => by omega⟩

theorem own_enc {w : World} {base n : Nat} {v : Value} {l : List UInt8} {xs : List Value} (h : l.map vb = xs) (ho : w.ownsRow base 5 1 v n xs) (hn : n = l.length) : OwnB w base v l := by
  subst h hn; exact ho
theorem St.pushOwnB {w0 w w' : World} {F0 : List Nat} {E : Env} {v : Value} {l : List UInt8} (H : St w0 F0 w E) (k : Nat) (hk : E k = none) (ho : OwnB w' w.heap.size v l) (hb : Below w.heap.size w w') : St w0 F0 w' (upd E k (.row 5 1 v l.length (l.map vb))) := H.pushRow k hk hb ho
theorem St.lit {w0 w : World} {F0 : List Nat} {E : Env} (H : St w0 F0 w E) (k : Nat) (hk : E k = none) (e : TypeId) (cs : Array Value) (n : Nat) (hn : cs.size = n) (h1 : n ≤ 1000) (b : Nat) (hb : b = w.heap.size) : St w0 F0 (w.alloc (.cells cs e)) (upd E k (.row e 1 (.slice (some ⟨b, 0, none⟩) n n) n cs.toList)) := by
  subst hb
  exact H.pushRow k hk ((Below.refl _ _).alloc (Nat.le_refl _) _) (World.ownsRow_lit w cs n (Nat.le_refl _) (by simp only [maxLen]; omega) (by omega))
theorem St.shape_row {w0 w : World} {F0 : List Nat} {L : List Own} {e : TypeId} {v : Value} {n n' : Nat} {xs xs' : List Value} (H : St w0 F0 w (lay L)) (k : Nat) (hk : L[k]? = some (.row e 1 v n xs)) (hn : n = n') (hx : xs = xs') : St w0 F0 w (lay (L.set k (.row e 1 v n' xs'))) := by
  subst hn hx
  have h := List.getElem?_eq_some_iff.1 hk
  obtain ⟨h1, h2⟩ := h
  rw [← h2, List.set_getElem_self]
  exact H
theorem St.perm {w0 w : World} {F0 : List Nat} {L L' : List Own} (H : St w0 F0 w (lay L)) (p : List Nat) (n : Nat) (hn : L'.length = n) (hp : ∀ i, i < n → ∀ j, j < n → p.getD i 0 = p.getD j 0 → i = j) (h : ∀ i, i < n → L[p.getD i 0]? = L'[i]?) : St w0 F0 w (lay L') := by
  obtain ⟨lo, Fs, h1, h2⟩ := H
  have hl : ∀ i A, lay L' i = some A → i < n ∧ lay L (p.getD i 0) = some A := by
    intro i A hA
    have hi : i < n := by rw [← hn]; exact (List.getElem?_eq_some_iff.1 hA).1
    exact ⟨hi, (h i hi).trans hA⟩
  exact ⟨lo, fun k => Fs (p.getD k 0), fun i A hA => h1 _ A (hl i A hA).2, fun i j A B hij hA hB => h2 _ _ A B (fun e => hij (hp i (hl i A hA).1 j (hl j B hB).1 e)) (hl i A hA).2 (hl j B hB).2⟩
/-- one piece alone is kept -/
theorem St.only {w0 w : World} {F0 : List Nat} {L : List Own} {A : Own} (H : St w0 F0 w (lay L)) (i : Nat) (h : L[i]? = some A) : St w0 F0 w (lay [A]) :=
  H.perm [i] 1 rfl (by intro i hi j hj _; omega) (by
    intro j hj
    obtain rfl : j = 0 := by omega
    exact h)
theorem Rd.front {w : World} {A : Option Addr} {n m : Nat} {l k : List UInt8} (h : Rd w 1 A m ((l ++ k).map vb)) (hn : l.length = n) (hm : n ≤ m) : Rd w 1 A n (l.map vb) := by
  have := h.take hm
  rw [List.take_left' hn] at this
  exact this
theorem b_bne (x : Int) : (x != x) = false := by simp
theorem u8_wrap (x : Nat) : IntKind.u8.wrap (x : Int) = ((UInt8.ofNat (x % 256)).toNat : Int) := by
  rw [UInt8.toNat_ofNat', IntKind.wrap_u8]
  omega

/-- append of noughts: 'append(s, make([]byte, k)...)' -/
theorem zeroCells_one (z : Value) (k : Nat) : (Builtin.zeroCells #[z] k).toList = List.replicate k z := by
  refine List.ext_getElem? fun i => ?_
  simp [Builtin.zeroCells, List.getElem?_replicate]
  by_cases h : i < k
  · simp [h, Nat.mod_one]
  · simp [h]
theorem run_append_zeros {P : Program} (w : World) (base : Nat) (t tn ty e : TypeId) (i : TypeInfo) (z : Value) (kn : IntKind) (ht : P.underlying t = some (.slice e)) (htn : P.underlying tn = some (.int kn)) (hi : P.info? e = some i) (hz : i.zero = some z)
    (hsize : i.size = 1) (hby : i.bytes = 1) (hzs : z.cells = #[z]) (hz1 : z.oneCell' = true)
    (v : Value) (n : Nat) (xs : List Value) (hown : w.ownsRow base e 1 v n xs) (k : Nat) (hk : n + k ≤ 140737488355328) (hbase : base ≤ w.heap.size) :
    ∃ v' w', (Builtin.append_ #[t, tn] ty #[v, .int .i64 (k : Int)]).run P w = .ok v' w' ∧ w'.ownsRow base e 1 v' (n + k) (xs ++ List.replicate k z) ∧ w.grownBy w' v.ownBlock ∧ (v'.ownBlock = v.ownBlock ∨ v'.ownBlock = some w.heap.size) := by
  have hw : IntKind.i64.wrap (k : Int) = k := by rw [IntKind.wrap_i64]; omega
  have hneg : ¬ ((k : Int) < 0) := by omega
  have h48i : ¬ (281474976710656 < (k : Int)) := by omega
  have hlen : (xs ++ List.replicate k z).length = (n + k) * 1 := by rw [List.length_append, hown.1, List.length_replicate]; omega
  have hzl : (Builtin.zeroCells z.cells k).size = k := by rw [hzs]; simp [Builtin.zeroCells]
  have grown : ∀ (old : Nat) (pre : Array Value), pre.toList = xs →
      (w.drew.alloc (.cells (pre ++ Builtin.zeroCells z.cells k ++ Builtin.zeroCells z.cells (grownCap w (n + k) old e - (n + k))) e)).ownsRow base e 1
        (.slice (some ⟨w.heap.size, 0, none⟩) (n + k) (grownCap w (n + k) old e)) (n + k) (xs ++ List.replicate k z) := by
    intro old pre hpre
    have hge := grownCap_ge w (n + k) old e
    have hcm : grownCap w (n + k) old e ≤ maxLen := grownCap_le_maxLen w (n + k) old e (by simp only [maxLen]; omega)
    have hps : pre.size = n := by rw [← Array.length_toList, hpre]; have := hown.1; omega
    refine ⟨hlen, .inr ⟨w.heap.size, _, _, rfl, hbase, heap_alloc_new w.drew _, hge, hcm, ?_, ?_⟩⟩
    · simp only [Array.size_append, hps, hzl]
      rw [hzs]
      simp [Builtin.zeroCells]
      try omega
    · simp only [Array.toList_append]
      rw [hpre, hzs, zeroCells_one, ← hlen]
      exact List.take_left
  have hbel : ∀ o, w.grownBy (w.drew.alloc o) v.ownBlock := fun o => by
    have hb : Below w.heap.size w (w.drew.alloc o) := (Below.refl _ _).drew.alloc (Nat.le_refl _) _
    exact ⟨hb.os, hb.tape, hb.output, hb.size, fun k hk _ => hb.block k hk⟩
  rcases hown.2 with ⟨rfl, rfl⟩ | ⟨g, cap, cur, rfl, hbg, hg, hnc, hcm, hcs, htake⟩
  · have hx : xs = [] := List.eq_nil_of_length_eq_zero (by simpa using hown.1)
    subst hx
    rcases Nat.eq_zero_or_pos k with h0 | h0
    · subst h0
      refine ⟨.slice none 0 0, w, ?_, by simpa using hown, World.grownBy.refl w _, .inl rfl⟩
      simp [Builtin.append_, run_underlying ht, run_underlying htn, sizeOf, typeInfo, hi, asInt, asIntOf, show IntKind.i64.wrap 0 = 0 from rfl]
    · have hr := Go.Lib.run_append_nil_zeros (P := P) w t tn ty e i z .i64 kn ht htn hi hz k h0 (by omega) (by omega) (by rw [hby]; omega)
      have hgr := grown 0 #[] rfl
      simp only [Nat.zero_add, Array.empty_append] at hgr
      refine ⟨_, _, hr, ?_, hbel _, .inr rfl⟩
      simpa using hgr
  · by_cases hroom : n + k ≤ cap
    · rcases Nat.eq_zero_or_pos k with h0 | h0
      · subst h0
        refine ⟨.slice (some ⟨g, 0, none⟩) n cap, w, ?_, by simpa using hown, World.grownBy.refl w _, .inl rfl⟩
        simp [Builtin.append_, run_underlying ht, run_underlying htn, sizeOf, typeInfo, hi, asInt, asIntOf, show IntKind.i64.wrap 0 = 0 from rfl, hnc, storeCells]
      · have hst := run_storeCells_at P g (n * 1) e (List.replicate k z) 0 cur w hg (by simp; omega) (by intro u hu; rw [List.eq_of_mem_replicate hu]; exact hz1)
        simp only [Nat.add_zero, Nat.mul_one] at hst
        have hns : ¬ (k = 0) := by omega
        have hzt : (Builtin.zeroCells z.cells k).toList = List.replicate k z := by rw [hzs]; exact zeroCells_one z k
        have hrun : (Builtin.append_ #[t, tn] ty #[.slice (some ⟨g, 0, none⟩) n cap, .int .i64 (k : Int)]).run P w = .ok (.slice (some ⟨g, 0, none⟩) (n + k) cap) (w.setRow g (cur.toList.take n ++ List.replicate k z ++ cur.toList.drop (n + (List.replicate k z).length)).toArray) := by
          simp [Builtin.append_, run_underlying ht, run_underlying htn, sizeOf, typeInfo, zeroValue, hi, hz, hsize, hby, asInt, asIntOf, hw, hneg, h48i, hns, hroom, hzt, Addr.add_lit]
          have h9 := hst
          simp at h9 ⊢
          rw [h9]
          rfl
        refine ⟨_, _, hrun, ⟨hlen, .inr ⟨g, cap, _, rfl, hbg, setRow_heap w g cur _ e _ hg, hroom, hcm, ?_, ?_⟩⟩, ⟨rfl, rfl, rfl, by simp, fun k _ hk => setRow_other w g k _ (fun e => hk (by simp [Value.ownBlock, e]))⟩, .inl rfl⟩
        · simp only [List.size_toArray, List.length_append, List.length_take, List.length_drop, Array.length_toList, List.length_replicate]
          omega
        · rw [← hlen]
          have : cur.toList.take n = xs := by rw [← htake, Nat.mul_one]
          rw [this]
          exact List.take_left
    · have hx1 : cur.toList.take (n * 1) = xs := htake
      have hold := run_firstCells_some (P := P) w.drew i.size n ⟨g, 0, none⟩ n cap xs (by rw [hsize]; exact hown.1) (by simpa using hown.cells (g := g) rfl)
      have h0 : 0 < k := by omega
      have hr := Go.Lib.run_append_grow_zeros (P := P) w t tn ty e i z .i64 kn ht htn hi hz (some ⟨g, 0, none⟩) n cap xs hold k h0 (by omega) (by omega) (by omega) (by rw [hby]; omega) (growslice_fits (by omega) (by rw [hby]; omega))
      exact ⟨_, _, hr, grown cap xs.toArray (by simp), hbel _, .inr rfl⟩
end Go.Proofs.Ytgjlclihgpahbaa

namespace Go.Proofs.Ytgjlclihgpahbaa
open Go.RowKit
set_option linter.unusedVariables false
set_option maxRecDepth 100000

theorem Rd.frontB {w : World} {A : Option Addr} {n m : Nat} {l k : List UInt8} (h : Rd w 1 A m ((l ++ k).map vb)) (hn : l.length = n) (hm : n ≤ m) : Rd w 1 A n (l.map vb) := by
  have := h.take hm
  rw [List.take_left' hn] at this
  exact this

/-- a piece known less well -/
theorem St.blur {w0 w : World} {F0 : List Nat} {L : List Own} {α : Type} {A : α → Own} (H : St w0 F0 w (lay L)) (a : α) (i : Nat) (hi : L[i]? = some (A a)) : St w0 F0 w (lay (L.set i (.ex A))) :=
  (St.shutEx a H i hi).upd_mk (List.getElem?_eq_some_iff.1 hi).1

theorem upd_push {L : List Own} {k : Nat} {A : Own} (h : k = L.length) : upd (lay L) k A = lay (L ++ [A]) := by
  funext i
  subst h
  simp only [lay, upd]
  by_cases hi : i = L.length
  · subst hi; simp
  · rw [if_neg hi]
    rcases Nat.lt_or_ge i L.length with h1 | h1
    · rw [List.getElem?_append_left h1]
    · rw [List.getElem?_eq_none h1, List.getElem?_eq_none (by rw [List.length_append, List.length_singleton]; omega)]

theorem load_guard2 {P : Program} {ops : Array Oper} {rest : List Oper} {o : Oper} {a : Act} {w : World} {Q : Exit → Act → World → Prop} (hw : Region.wanted o (yielded ops a.tmps) = true) (ty : TypeId) (x : Operand) (ho : o.op = .load ty x)
    (g : Nat) (hx : a.eval x = .pointer (some ⟨g, 0, none⟩)) (t : TypeId) (cs : Array Value) (fr : Nat × Nat) (d : TypeDesc) (hg : w.heap[g]? = some (.cells cs t fr))
    (hu : P.underlying ty = some d) (hd : (match d with | .struct _ | .array _ _ => true | _ => false) = true) (hi : (P.info? ty).map (·.size) = some cs.size)
    (h : wpList P ops Q rest (a.put o.dst (.agg cs)) w) : wpList P ops Q (o :: rest) a w := by
  unfold wpList
  rw [if_pos hw]
  exact .inl (wp_load_row ty x ho g hx t cs fr d hg hu hd hi h)

theorem hx_cell {w : World} {g o : Nat} {T : TypeId} {cs : List Value} {u : Value} (h : w.heap[g]? = some (.cells cs.toArray T (0, 0))) (hu : cs[o]? = some u) : w.cell? ⟨g, o, none⟩ = some u := by
  rw [cell_of_row w g o _ _ _ h]; simpa using hu

theorem tp_cell {w : World} {e : TypeId} {g n c j : Nat} {tps : List Tp} {tp : Tp} {f : Tp → Value} (h : w.ownsRow 0 e 1 (.slice (some ⟨g, 0, none⟩) n c) n (tps.map f)) (hj : tps[j]? = some tp) (hn : tps.length = n) : w.cell? ⟨g, j, none⟩ = some (f tp) := by
  have hl : j < tps.length := (List.getElem?_eq_some_iff.1 hj).1
  rw [World.ownsRow.cellAt h j (by omega), List.getElem?_map, hj]
  rfl

section
variable {w0 w : World} {F0 : List Nat} {E : Env}

theorem lent_st {L : List Own} (A : Option Addr) (n c : Nat) (l : List UInt8) (H : St w0 F0 w (lay L)) (hR : Rd w 1 A n (l.map vb)) (hn : n ≤ 140737488355320) :
    Calls Try.prog 36 #[.slice A n c] w fun e w' => ∃ g cF, n + 6 ≤ cF ∧ e = .returned (.slice (some ⟨g, 0, none⟩) (n + 6) cF) ∧ St w0 F0 w' (lay (L ++ [.row 5 1 (.slice (some ⟨g, 0, none⟩) (n + 6) cF) (n + 6) ((l ++ marksB 7 0 6).map vb)])) := by
  have hl : l.length = n := by simpa using hR.1
  refine (lentBytes_any A n c l w hR hn).mono ?_
  rintro e w' ⟨v, rfl, ho, hb⟩
  obtain ⟨g, cF, rfl, hcF, -, -⟩ := ho.lent hl
  refine ⟨g, cF, hcF, rfl, ?_⟩
  unfold OwnB at ho
  rw [List.length_append, marksB_length, hl] at ho
  exact (H.pushRow L.length (by simp [lay]) hb ho).push_mk rfl
end
end Go.Proofs.Ytgjlclihgpahbaa
