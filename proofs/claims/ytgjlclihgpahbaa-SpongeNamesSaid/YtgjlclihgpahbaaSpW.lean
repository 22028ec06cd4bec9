/- The program's sponge: Write. -/
import Derived.Test.YtgjlclihgpahbaaSpA
import Derived.Test.YtgjlclihgpahbaaQTail
import Derived.Test.YtgjlclihgpahbaaKitO

namespace Go.Proofs.Ytgjlclihgpahbaa
open Go.RowKit
set_option linter.unusedVariables false
set_option maxRecDepth 100000

attribute [local irreducible] permB kBytes kPerm kFrom

theorem xor8v (a b : UInt8) : bits .xor .u8 (a.toNat : Int) (b.toNat : Int) = ((a ^^^ b).toNat : Int) := by
  rw [u8_xor_nat _ _ a.toNat_lt b.toNat_lt, UInt8.toNat_xor]

section
variable {w0 w : World} {F0 : List Nat} {E : Env}

set_option maxHeartbeats 2000000 in
theorem spWrite_s (l : Value) (r : Option (List RunT)) (m : Nat) (b : Int) (g : Nat) (x : Sp) (A : Option Addr) (n c : Nat) (q : List UInt8) (H : St w0 F0 w E) (i j : Nat) (hij : i ≠ j) (hi : E i = some (led l r)) (hj : E j = some (.blk g 71 x.vs)) (hg : LW r m b) (hm : m ≤ 999999999999) (hb : b ≤ 4000000000000000000) (hx : x.Ok) (hs : x.s = false)
    (hR : ∀ w' X Y, St w0 F0 w' (upd (upd E i X) j Y) → Rd w' 1 A n (q.map vb)) (hn : n ≤ 281474976710656) :
    Calls Try.prog 14 #[lptr g, l, .slice A n c] w fun e w' => e = .returned (.int .i64 0) ∧ St w0 F0 w' (upd (upd E i (led l (noteN r 3 200 ((x.p + n) / x.r)))) j (.blk g 71 (x.write q).vs)) := by
  have hl : q.length = n := by have h := (hR w _ _ (by rw [upd_id hi, upd_id hj]; exact H)).1; simpa using h
  obtain ⟨F, HF, -, -, hback⟩ := H.frame2 i j hij hi hj
  have HB := Lib.hid hback
  have HR : Hid (∀ w' X Y, St w F w' (lay [X, Y]) → Rd w' 1 A n (q.map vb)) := fun w' X Y h => hR w' X Y (hback w' X Y (h.to2 rfl rfl))
  replace HF := HF.as2
  have HL := Lib.hid hl
  clear H hback hR hl
  obtain ⟨k1, k2, k3, k4⟩ := Sp.cells hx.hb
  have h8 := hx.r8
  have h192 := hx.r192
  have hop := hx.op hs
  have c0 := HF.cell 1 rfl k1
  have c3 := HF.cell 1 rfl k4
  rw [hs] at c3
  have HO := Lib.hid hx
  have HS := Lib.hid hs
  have HG := Lib.hid hg
  clear k1 k2 k3 k4 hx hs hg
  go_enter Try.func14, Try.ntmps14
  go_wp2_with fail
  refine (spNone_no g x.r w c0 (by omega)).mono ?_
  rintro e w1 ⟨rfl, rfl⟩
  unfold lptr
  go_wp2
  clear c0 c3
  go_loopw [19] (fun i wr => ∃ k : Nat, k ≤ n ∧ i = .int .i64 k ∧ St w F wr (lay [led l (noteN r 3 200 ((x.p + k) / x.r)), .blk g 71 (x.write (q.take k)).vs])) (fun i _ => n - (intOf i).toNat)
  case atStart => exact ⟨0, Nat.zero_le _, rfl, by rw [Nat.add_zero, Nat.div_eq_of_lt hop, noteN_zero, List.take_zero, Sp.write_nil]; exact HF⟩
  case round =>
    clear HF
    obtain ⟨k, hk, rfl, HF⟩ := hrel
    by_cases hlt : k < n
    · obtain ⟨v, hv⟩ : ∃ v, q[k]? = some v := ⟨_, List.getElem?_eq_getElem (by rw [HL.out]; exact hlt)⟩
      have hok := Sp.write_ok (q.take k) HO.out hop
      have hrr := Sp.write_r (q.take k) x
      have hpp := Sp.write_p (q.take k) hop
      have HN := Lib.hid (x.write_succ hv)
      rw [List.length_take, HL.out, Nat.min_eq_left hk] at hpp
      have HC := Lib.hid (count_succ x.p x.r k (by omega))
      obtain ⟨p, o, rfl, -, hcx⟩ := (HR.out _ _ _ HF).flat (by omega) (by omega)
      have a0 := hcx k (vb v) (by rw [List.getElem?_map, hv]; rfl)
      clear hcx hv
      generalize hy : x.write (q.take k) = y at HF hok hrr hpp HN
      clear hy
      obtain ⟨hy1, hy2⟩ := hok
      have HRR := Lib.hid hrr
      have HPP := Lib.hid hpp
      have hy192 : y.r ≤ 192 := hy1.r192
      clear hrr hpp
      obtain ⟨k1, k2, k3, k4⟩ := Sp.cells hy1.hb
      have b0 := HF.cell 1 rfl k1
      have b2 := HF.cell 1 rfl k3
      obtain ⟨u, hu⟩ : ∃ u, y.b.getD y.p 0 = u := ⟨_, rfl⟩
      have b3 := HF.cell 1 rfl (o := y.p) (sp_at y.b _ hy1.hb (by omega))
      rw [hu] at b3
      have HU := Lib.hid hu
      clear hu
      have f3 := HF.free 1 rfl y.p
      have hk1 : (k : Int) < n := by omega
      have hp1 : (y.p : Int) < 200 := by omega
      have hp2 : y.p < 200 := by omega
      have hp3 : y.p + 1 ≤ 200 := by omega
      go_wp2
      refine region_quiet_tail 14 (by kernel_rfl) (by kernel_rfl) ?_
      simp only [List.take_succ_cons, List.take_zero, List.drop_succ_cons, List.drop_zero]
      repeat (go_big_quiet_step (fail))
      refine wpQuiet_nil ?_
      intro nq
      rw [xor8v]
      go_upto_region 9 with (fail)
      have hD := ((HF.drewN nq).store 1 rfl (o := y.p) (u := vb (u ^^^ v))).upd_mk (by simp)
      unfold Sp.vs at hD
      rw [sp_set _ _ _ hy1.hb (by omega), show y.b.set y.p (u ^^^ v) = xorAt y.b y.p v by unfold xorAt; rw [HU.out]] at hD
      refine absorb_wp hD ?_
      clear hD HF b0 b2 b3 f3 a0 HU
      intro w4 H4
      have hL : Hid ((xorAt y.b y.p v).length = 200) := by unfold Hid; rw [xorAt_length, hy1.hb]
      have HQ : Hid ((⟨xorAt y.b y.p v, y.r, y.f, y.p + 1, y.s⟩ : Sp) = y.lay v) := by unfold Hid; rfl
      have HYB := Lib.hid hy1
      clear hy1
      generalize xorAt y.b y.p v = Bx at H4 hL HQ
      have c2 := H4.cell 1 rfl (o := 202) ((sp_get Bx _ 2 hL.out rfl).trans rfl)
      have f2 := H4.free 1 rfl 202
      go_upto_region 10 with (fail)
      have hD := (H4.store 1 rfl (o := 202) (u := .int .i64 ((y.p + 1 : Nat) : Int))).upd_mk (by simp)
      rw [sp_put Bx _ 2 _ hL.out rfl, Int.natCast_add] at hD
      refine absorb_wp hD ?_
      clear hD H4 c2 f2
      intro w5 H5
      rw [show ((y.p : Int) + ((1 : Nat) : Int)) = ((y.p + 1 : Nat) : Int) by rw [Int.natCast_add]] at H5
      replace H5 : St w F w5 (lay [led l (noteN r 3 200 ((x.p + k) / x.r)), .blk g 71 (⟨Bx, y.r, y.f, y.p + 1, y.s⟩ : Sp).vs]) := H5
      rw [HQ.out] at H5
      clear k1 k2 k3 k4
      have hzb : (y.lay v).b.length = 200 := by rw [← HQ.out]; exact hL.out
      obtain ⟨k1, -, k3, -⟩ := Sp.cells hzb
      have b0 : w5.cell? ⟨g, 200, none⟩ = some (.int .i64 y.r) := H5.cell 1 rfl k1
      have b2 := H5.cell 1 rfl (o := 202) (u := .int .i64 ((y.p : Int) + 1)) (by rw [k3, ← HQ.out]; simp)
      clear k1 k3 HQ hL
      have HZ := Lib.hid hzb
      clear hzb
      have HC2 : Hid ((x.p + (k + 1)) / x.r = (x.p + k) / x.r + if y.p + 1 = y.r then 1 else 0) := by unfold Hid; rw [HPP.out, HRR.out.1]; exact HC.out
      by_cases he : y.p + 1 = y.r
      · have he1 : ((y.p : Int) + 1 == (y.r : Int)) = true := by simp; omega
        have HP : Hid (y.put v = (y.lay v).perm) := Sp.put_yes v he
        have HCC : Hid ((x.p + (k + 1)) / x.r = (x.p + k) / x.r + 1) := by have h := HC2.out; rw [if_pos he] at h; exact h
        have hcnt : (x.p + k) / x.r ≤ 281474976710856 := Nat.le_trans (Nat.div_le_self _ _) (by omega)
        clear he HC HC2
        go_quiet (fail)
        go_wp2_with fail
        refine (spPermute_s l _ (m + 1) (b + ((x.p + k) / x.r : Nat)) g (y.lay v) (H5.drewN nq) 0 1 (by omega) rfl rfl (HG.out.noteN 3 200 _) (by omega) (by omega) HZ.out).mono ?_
        rintro e w6 ⟨rfl, H6⟩
        rw [upd_laid (by simp), upd_laid (by simp), noteN_noteN, ← HCC.out, ← HP.out, ← HN.out] at H6
        go_wp2
        go_roundw
        case rel => exact ⟨k + 1, by omega, by go_num, H6⟩
        case measure => simp [intOf]; omega
      · have he1 : ((y.p : Int) + 1 == (y.r : Int)) = false := by simp; omega
        have HP : Hid (y.put v = y.lay v) := Sp.put_no v he
        have HCC : Hid ((x.p + (k + 1)) / x.r = (x.p + k) / x.r) := by have h := HC2.out; rw [if_neg he] at h; exact h
        clear he HC HC2
        go_quiet (fail)
        go_wp2
        go_roundw
        case rel => exact ⟨k + 1, by omega, by go_num, by rw [HCC.out, HN.out, HP.out]; exact H5.drewN _⟩
        case measure => simp [intOf]; omega
    · obtain rfl : n = k := by omega
      go_wp2
      go_ret
      exact ⟨rfl, by rw [List.take_of_length_le (by rw [HL.out]; omega)] at HF; exact HB.out _ _ _ (HF.to2 rfl rfl)⟩

end

end Go.Proofs.Ytgjlclihgpahbaa
