/- The program's sponge: Close. -/
import Derived.Test.YtgjlclihgpahbaaSpW

namespace Go.Proofs.Ytgjlclihgpahbaa
open Go.RowKit
set_option linter.unusedVariables false
set_option maxRecDepth 100000

attribute [local irreducible] permB kBytes kPerm kFrom

theorem Sp.ends_b {x : Sp} {R : Nat} (h : x.r = R + 1) : x.ends.b = xorAt (xorAt x.b x.p x.f) R 128 := by
  show xorAt (xorAt x.b x.p x.f) (x.r - 1) 128 = _
  rw [h, Nat.add_sub_cancel]

section
variable {w0 w : World} {F0 : List Nat} {E : Env}

set_option maxHeartbeats 2000000 in
theorem spClose_s (l : Value) (r : Option (List RunT)) (m : Nat) (b : Int) (g : Nat) (x : Sp) (H : St w0 F0 w E) (i j : Nat) (hij : i ≠ j) (hi : E i = some (led l r)) (hj : E j = some (.blk g 71 x.vs)) (hg : LW r m b) (hm : m ≤ 999999999999) (hb : b ≤ 4000000000000000000) (hx : x.Ok) (hs : x.s = false) :
    Calls Try.prog 8 #[lptr g, l] w fun e w' => e = .returned (.int .i64 0) ∧ St w0 F0 w' (upd (upd E i (led l (noteN r 3 200 1))) j (.blk g 71 x.close.vs)) := by
  obtain ⟨F, HF, -, -, hback⟩ := H.frame2 i j hij hi hj
  have HB := Lib.hid hback
  replace HF := HF.as2
  clear H hback
  obtain ⟨k1, k2, k3, k4⟩ := Sp.cells hx.hb
  have h8 := hx.r8
  have h192 := hx.r192
  have hop := hx.op hs
  obtain ⟨R, hR⟩ : ∃ R, x.r = R + 1 := ⟨x.r - 1, by omega⟩
  have HE := Lib.hid (Sp.ends_b hR)
  have HRR := Lib.hid hR
  have c0 := HF.cell 1 rfl k1
  have c1 := HF.cell 1 rfl k2
  have c2 := HF.cell 1 rfl k3
  have c3 := HF.cell 1 rfl k4
  rw [hs] at c3
  obtain ⟨u, hu⟩ : ∃ u, x.b.getD x.p 0 = u := ⟨_, rfl⟩
  have b3 := HF.cell 1 rfl (o := x.p) (sp_at x.b _ hx.hb (by omega))
  rw [hu] at b3
  have HU := Lib.hid hu
  have f3 := HF.free 1 rfl x.p
  have hR1 : R ≤ 191 := by omega
  have HX := Lib.hid hx.hb
  have hp1 : (x.p : Int) < 200 := by omega
  have hp2 : x.p < 200 := by omega
  clear k1 k2 k3 k4 hx hs hu hR
  go_enter Try.func8, Try.ntmps8
  go_wp2_with fail
  refine (spNone_no g x.r w c0 (by omega)).mono ?_
  rintro e w1 ⟨rfl, rfl⟩
  unfold lptr
  go_wp2
  refine region_quiet_tail 17 (by kernel_rfl) (by kernel_rfl) ?_
  simp only [List.take_succ_cons, List.take_zero, List.drop_succ_cons, List.drop_zero]
  repeat (go_big_quiet_step (fail))
  refine wpQuiet_nil ?_
  intro nq
  rw [xor8v]
  go_upto_region 6 with (fail)
  have hD := ((HF.drewN nq).store 1 rfl (o := x.p) (u := vb (u ^^^ x.f))).upd_mk (by simp)
  unfold Sp.vs at hD
  rw [sp_set _ _ _ HX.out (by omega), show x.b.set x.p (u ^^^ x.f) = xorAt x.b x.p x.f by unfold xorAt; rw [HU.out]] at hD
  refine absorb_wp hD ?_
  clear hD HF c0 c1 c2 c3 b3 f3 HU
  intro w4 H4
  have hL : Hid ((xorAt x.b x.p x.f).length = 200) := by unfold Hid; rw [xorAt_length, HX.out]
  generalize xorAt x.b x.p x.f = Bx at H4 hL HE
  obtain ⟨u2, hu⟩ : ∃ u2, Bx.getD R 0 = u2 := ⟨_, rfl⟩
  have b3 := H4.cell 1 rfl (o := R) (sp_at Bx _ hL.out (by omega))
  rw [hu] at b3
  have HU := Lib.hid hu
  clear hu
  have f3 := H4.free 1 rfl R
  have c0 := H4.cell 1 rfl (o := 200) ((sp_get Bx _ 0 hL.out rfl).trans rfl)
  rw [HRR.out, Int.natCast_add] at c0
  have hp3 : (R : Int) < 200 := by omega
  have hp4 : R < 200 := by omega
  have hw : IntKind.i64.wrap ((R : Int) + 1 - 1) = (R : Int) := by rw [Int.add_sub_cancel]; exact IntWalk.i64_in _ (by omega)
  refine region_quiet_tail 14 (by kernel_rfl) (by kernel_rfl) ?_
  simp only [List.take_succ_cons, List.take_zero, List.drop_succ_cons, List.drop_zero]
  repeat (go_big_quiet_step (fail))
  refine wpQuiet_nil ?_
  intro nq2
  rw [show bits .xor .u8 (u2.toNat : Int) 128 = ((u2 ^^^ 128).toNat : Int) from xor8v u2 128]
  clear hw
  go_upto_region 7 with (fail)
  have hD := ((H4.drewN nq2).store 1 rfl (o := R) (u := vb (u2 ^^^ 128))).upd_mk (by simp)
  rw [sp_set _ _ _ hL.out (by omega), show Bx.set R (u2 ^^^ 128) = xorAt Bx R 128 by unfold xorAt; rw [HU.out], ← HE.out] at hD
  refine absorb_wp hD ?_
  clear hD H4 c0 b3 f3 HU
  intro w5 H5
  have hL5 : Hid (x.ends.b.length = 200) := by unfold Hid; rw [HE.out, xorAt_length, hL.out]
  have HZ : Hid ((x.ends.perm).b = x.close.b) := by unfold Hid; rfl
  replace H5 : St w F w5 (lay [led l r, .blk g 71 x.ends.vs]) := H5
  go_wp2_with fail
  refine (spPermute_s l r m b g x.ends H5 0 1 (by omega) rfl rfl hg (by omega) (by omega) hL5.out).mono ?_
  rintro e w6 ⟨rfl, H6⟩
  rw [upd_laid (by simp), upd_laid (by simp)] at H6
  have hLp : Hid (x.ends.perm.b.length = 200) := permB_length x.ends.b
  have f6 := H6.free 1 rfl 203
  have c6 := H6.cell 1 rfl (o := 203) (Sp.cells hLp.out).2.2.2
  go_wp2
  go_ret
  have H7 := (H6.store 1 rfl (o := 203) (u := .bool true)).upd_mk (by simp)
  unfold Sp.vs at H7
  rw [sp_put _ _ 3 _ hLp.out rfl] at H7
  exact ⟨rfl, HB.out _ _ _ (H7.to2 rfl rfl)⟩

/-- shut already -/
theorem spClose_no (l : Value) (g : Nat) (x : Sp) (hcs : ∀ k u, x.vs[k]? = some u → w.cell? ⟨g, k, none⟩ = some u) (hx : x.Ok) (hs : x.s = true) :
    Calls Try.prog 8 #[lptr g, l] w fun e w' => e = .returned (.int .i64 180) ∧ w = w' := by
  obtain ⟨k1, k2, k3, k4⟩ := Sp.cells hx.hb
  have h8 := hx.r8
  have c0 := hcs _ _ k1
  have c3 := hcs _ _ k4
  rw [hs] at c3
  clear k1 k2 k3 k4 hx hs hcs
  go_enter Try.func8, Try.ntmps8
  go_wp2_with fail
  refine (spNone_no g x.r w c0 (by omega)).mono ?_
  rintro e w1 ⟨rfl, rfl⟩
  unfold lptr
  go_wp2
  go_ret
  exact ⟨rfl, rfl⟩

theorem spWrite_no (l : Value) (g : Nat) (x : Sp) (A : Option Addr) (n c : Nat) (hcs : ∀ k u, x.vs[k]? = some u → w.cell? ⟨g, k, none⟩ = some u) (hx : x.Ok) (hs : x.s = true) :
    Calls Try.prog 14 #[lptr g, l, .slice A n c] w fun e w' => e = .returned (.int .i64 180) ∧ w = w' := by
  obtain ⟨k1, k2, k3, k4⟩ := Sp.cells hx.hb
  have h8 := hx.r8
  have c0 := hcs _ _ k1
  have c3 := hcs _ _ k4
  rw [hs] at c3
  clear k1 k2 k3 k4 hx hs hcs
  go_enter Try.func14, Try.ntmps14
  go_wp2_with fail
  refine (spNone_no g x.r w c0 (by omega)).mono ?_
  rintro e w1 ⟨rfl, rfl⟩
  unfold lptr
  go_wp2
  go_ret
  exact ⟨rfl, rfl⟩

end

end Go.Proofs.Ytgjlclihgpahbaa
