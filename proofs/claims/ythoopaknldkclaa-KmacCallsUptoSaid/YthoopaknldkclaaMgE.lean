/- Texts of this claim, merged: RpF, RhB, ShBN, SpZ, Lit, KmP, RpZ, Km, Rkm, KmL, KmK, KmSm, KmA, LawKmNo, BigO. -/
import Derived.Lib.SlBytesConst
import Derived.Test.YthoopaknldkclaaMgD
set_option linter.unusedVariables false

namespace Go.Proofs.Ythoopaknldkclaa
open Go.RowKit
set_option linter.unusedVariables false
set_option maxRecDepth 100000

attribute [local irreducible] permB kBytes kPerm kFrom

theorem upd_other {E : Env} {j k : Nat} {A B : Own} (h : j ≠ k) (hj : E j = some A) : upd E k B j = some A := by rw [← hj]; exact if_neg h

theorem rd_new1 (w : World) (us : List Value) (t : TypeId) (n : Nat) (h : us.length = n) : Rd (w.alloc (.cells us.toArray t)) 1 (some ⟨w.heap.size, 0, none⟩) n us :=
  ⟨by omega, fun _ => ⟨_, rfl, by simp, fun j u hu => by rw [Addr.add_mid, Nat.zero_add, World.cell?_alloc_at _ _ _ _ rfl]; simpa using hu⟩⟩

section
variable {w0 w : World} {F0 : List Nat} {E : Env}

set_option maxHeartbeats 2000000 in
theorem rsForm_s (g : Nat) (x : Sp) (H : St w0 F0 w E) (j k : Nat) (hj : E j = some (.blk g 118 x.vsR)) (hk : E k = none) (hx : x.Ok) :
    Calls Try.prog 78 #[lptr g] w fun e w' => ∃ v, e = .returned v ∧ St w0 F0 w' (upd E k (.row 5 1 v 203 (x.form.map vb))) := by
  obtain ⟨i0, hi0, hz0, hz1, hz2⟩ := info_parts u8_info
  obtain ⟨k1, k2, k3, k4, k5⟩ := Sp.cellsR hx.hb
  have h8 := hx.r8
  have hp : x.p ≤ 192 := Nat.le_trans hx.pr hx.r192
  have c4 := H.cell j hj k5
  have hkj : j ≠ k := fun e => by rw [e, hk] at hj; cases hj
  have HKJ := Lib.hid hkj
  have HX := Lib.hid hx.hb
  have HJ := Lib.hid hj
  have HK := Lib.hid hk
  clear hj hk hx hkj
  go_enter Try.func78, Try.ntmps78
  go_wp2_with fail
  refine (rsNone_no g w c4).mono ?_
  rintro e w1 ⟨rfl, rfl⟩
  unfold lptr
  have hp1 : (x.p : Int) ≤ 192 := by omega
  have hq1 : Hid (IntKind.u8.wrap (IntKind.i64.wrap ((x.p : Int) / 256)) = 0) := by unfold Hid; rw [show (x.p : Int) / 256 = 0 by omega]; rfl
  have hq2 : Hid (IntKind.u8.wrap ((x.p : Int).tmod 256) = ((UInt8.ofNat x.p).toNat : Int)) := by unfold Hid; rw [Int.tmod_eq_emod_of_nonneg (by omega), IntKind.wrap_u8, UInt8.toNat_ofNat']; omega
  have HF : Hid (x.form = x.b ++ [0, UInt8.ofNat x.p, if x.s = true then 1 else 0]) := by unfold Hid; rfl
  have H0 := H.nilRow k HK.out 5 1
  have hrd : Rd w 1 (some ⟨g, 0, none⟩) 200 (x.b.map vb) := ⟨by rw [List.length_map, HX.out], fun _ => ⟨_, rfl, H.lt j HJ.out, fun i u hu => by rw [Addr.add_mid, Nat.zero_add]; exact H.cell j HJ.out (by unfold Sp.vsR; rw [List.getElem?_append_left (List.getElem?_eq_some_iff.1 hu).1]; exact hu)⟩⟩
  go_wp2_with (at_builtin; refine wpList_append_any _ rfl (.tmp 6) (.tmp 10) _ rfl 0 5 i0 (.int .u8 0) 1 1 Try.underlying22 hi0 hz0 hz1 hz2 rfl (by omega) (.slice none 0 0) 0 [] rfl (H0.row k upd_same) (some ⟨g, 0, none⟩) 200 200 (x.b.map vb) rfl hrd (vb_one _) (by simp only [maxLen]; omega) (by omega) (Nat.zero_le _) ?_; intro v1 w3 hown3 hg3 hat3)
  have H3 := H0.grow k upd_same hown3 hg3 hat3
  rw [upd_upd, Nat.zero_add, List.nil_append] at H3
  clear H0 hrd hown3 hg3 hat3 H c4
  have H := H3.drew
  clear H3
  refine wp_region_held_drew (S := fun w' : World => ∃ Z, St w0 F0 w' (upd E k Z)) (by kernel_rfl) ?_ (fun hHeld => ?_)
  · exact ⟨_, H⟩
  refine takeV 0 rfl (by intro w h; clear h; go_simp; try with_reducible rfl) (by kernel_rfl) (by kernel_rfl) (by kernel_rfl) (by exact fun _ _ _ h => h) (by rfl) (by assumption) ?_
  try simp only [Act.put, List.setIfInBounds_toArray, List.set_cons_zero, List.set_cons_succ]
  refine takeV 1 rfl (by intro w h; clear h; go_simp; try with_reducible rfl) (by kernel_rfl) (by kernel_rfl) (by kernel_rfl) (by exact fun _ _ _ h => h) (by rfl) (by assumption) ?_
  try simp only [Act.put, List.setIfInBounds_toArray, List.set_cons_zero, List.set_cons_succ]
  refine takeV 2 rfl (by intro w h; clear h; go_simp; try with_reducible rfl) (by kernel_rfl) (by kernel_rfl) (by kernel_rfl) (by exact fun _ _ _ h => h) (by rfl) (by assumption) ?_
  try simp only [Act.put, List.setIfInBounds_toArray, List.set_cons_zero, List.set_cons_succ]
  refine takeV 3 rfl (by intro w h; clear h; go_simp; try with_reducible rfl) (by kernel_rfl) (by kernel_rfl) (by kernel_rfl) (by exact fun _ _ _ h => h) (by rfl) (by assumption) ?_
  try simp only [Act.put, List.setIfInBounds_toArray, List.set_cons_zero, List.set_cons_succ]
  refine takeV 4 rfl (by intro w h; have hc := (h.elim fun Z h => h.cell j (upd_other HKJ.out HJ.out) k3); clear h; go_simp; try with_reducible rfl) (by kernel_rfl) (by kernel_rfl) (by kernel_rfl) (by exact fun _ _ _ h => h) (by rfl) (by assumption) ?_
  try simp only [Act.put, List.setIfInBounds_toArray, List.set_cons_zero, List.set_cons_succ]
  refine takeV 5 rfl (by intro w h; clear h; go_simp; try with_reducible rfl) (by kernel_rfl) (by kernel_rfl) (by kernel_rfl) (by exact fun _ _ _ h => h) (by rfl) (by assumption) ?_
  try simp only [Act.put, List.setIfInBounds_toArray, List.set_cons_zero, List.set_cons_succ]
  refine takeV 6 rfl (by intro w h; clear h; go_simp; try with_reducible rfl) (by kernel_rfl) (by kernel_rfl) (by kernel_rfl) (by exact fun _ _ _ h => h) (by rfl) (by assumption) ?_
  try simp only [Act.put, List.setIfInBounds_toArray, List.set_cons_zero, List.set_cons_succ]
  refine takeV 7 rfl (by intro w h; clear h; go_simp; try with_reducible rfl) (by kernel_rfl) (by kernel_rfl) (by kernel_rfl) (by exact fun _ _ _ h => h) (by rfl) (by assumption) ?_
  try simp only [Act.put, List.setIfInBounds_toArray, List.set_cons_zero, List.set_cons_succ]
  refine takeV 8 rfl (by intro w h; clear h; go_simp; try with_reducible rfl) (by kernel_rfl) (by kernel_rfl) (by kernel_rfl) (by exact fun _ _ _ h => h) (by rfl) (by assumption) ?_
  try simp only [Act.put, List.setIfInBounds_toArray, List.set_cons_zero, List.set_cons_succ]
  refine takeV 9 rfl (by intro w h; clear h; go_simp; try with_reducible rfl) (by kernel_rfl) (by kernel_rfl) (by kernel_rfl) (by exact fun _ _ _ h => h) (by rfl) (by assumption) ?_
  try simp only [Act.put, List.setIfInBounds_toArray, List.set_cons_zero, List.set_cons_succ]
  refine takeV 10 rfl (by intro w h; have hc := (h.elim fun Z h => h.cell j (upd_other HKJ.out HJ.out) k3); clear h; go_simp; try with_reducible rfl) (by kernel_rfl) (by kernel_rfl) (by kernel_rfl) (by exact fun _ _ _ h => h) (by rfl) (by assumption) ?_
  try simp only [Act.put, List.setIfInBounds_toArray, List.set_cons_zero, List.set_cons_succ]
  refine takeV 11 rfl (by intro w h; clear h; go_simp; try with_reducible rfl) (by kernel_rfl) (by kernel_rfl) (by kernel_rfl) (by exact fun _ _ _ h => h) (by rfl) (by assumption) ?_
  try simp only [Act.put, List.setIfInBounds_toArray, List.set_cons_zero, List.set_cons_succ]
  refine takeV 12 rfl (by intro w h; clear h; go_simp; try with_reducible rfl) (by kernel_rfl) (by kernel_rfl) (by kernel_rfl) (by exact fun _ _ _ h => h) (by rfl) (by assumption) ?_
  try simp only [Act.put, List.setIfInBounds_toArray, List.set_cons_zero, List.set_cons_succ]
  rw [hq1.out, hq2.out]
  generalize UInt8.ofNat x.p = P8 at HF
  refine take_call 13 rfl (by kernel_rfl) (fun K hK => ?_)
  go_simp
  have H4 := H.call (Below.alloc (Below.refl _ _) (Nat.le_refl _) (.cells #[.int .u8 0, .int .u8 (P8.toNat : Int)] 5))
  refine hK.out _ _ ⟨_, H4⟩ (fun hHeld => ?_)
  clear hK K
  try simp only [Act.put, List.setIfInBounds_toArray, List.set_cons_zero, List.set_cons_succ]
  refine take_call 14 rfl (by kernel_rfl) (fun K hK => ?_)
  refine step_append_any _ (by rfl) (.tmp 12) (.tmp 25) _ (by rfl) 0 5 i0 (.int .u8 0) 1 1 Try.underlying22 hi0 hz0 hz1 hz2 rfl (by omega) v1 200 (x.b.map vb) (by rfl) (H4.row k upd_same) _ 2 2 [.int .u8 0, .int .u8 (P8.toNat : Int)] (by rfl) (rd_new1 _ _ _ 2 rfl) (by intro q hq; simp at hq; rcases hq with rfl | rfl <;> rfl) (by simp only [maxLen]; omega) (by omega) (Nat.zero_le _) ?_
  intro v2 w5 hown hg2 hat
  have H5 := H4.grow k upd_same hown hg2 hat
  rw [upd_upd] at H5
  refine hK.out _ _ ⟨_, H5⟩ (fun hHeld => ?_)
  clear hK K H4 hown hg2 hat H
  try simp only [Act.put, List.setIfInBounds_toArray, List.set_cons_zero, List.set_cons_succ]
  refine takeV 15 rfl (by intro w h; clear h; go_simp; try with_reducible rfl) (by kernel_rfl) (by kernel_rfl) (by kernel_rfl) (by exact fun _ _ _ h => h) (by rfl) (by assumption) ?_
  try simp only [Act.put, List.setIfInBounds_toArray, List.set_cons_zero, List.set_cons_succ]
  refine wpAnyH_done (by kernel_rfl) ?_ _
  clear hHeld
  have c6 := H5.cell j (upd_other HKJ.out HJ.out) k4
  clear k1 k2 k3 k4 k5 hq1 hq2
  rcases hs : x.s with _ | _
  all_goals rw [hs] at c6
  · have HF2 : Hid (x.form.map vb = (x.b.map vb ++ [.int .u8 0, .int .u8 (P8.toNat : Int)]) ++ [.int .u8 0]) := by unfold Hid; rw [HF.out, hs, List.map_append, List.append_assoc]; rfl
    clear hs HF
    go_wp2_with (at_builtin; refine wpList_append_any _ rfl (.tmp 34) (.tmp 35) _ rfl 0 5 i0 (.int .u8 0) 1 1 Try.underlying22 hi0 hz0 hz1 hz2 rfl (by omega) v2 (200 + 2) (x.b.map vb ++ [.int .u8 0, .int .u8 (P8.toNat : Int)]) rfl ((H5.call (Below.alloc (Below.refl _ _) (Nat.le_refl _) (.cells #[.int .u8 0] 5))).row k upd_same) _ 1 1 [.int .u8 0] rfl (rd_new1 _ _ _ 1 rfl) (by intro q hq; simp at hq; subst hq; rfl) (by simp only [maxLen]; omega) (by omega) (Nat.zero_le _) ?_; intro v4 w6 hown6 hg6 hat6)
    go_ret
    have H6 := (H5.call (Below.alloc (Below.refl _ _) (Nat.le_refl _) (.cells #[.int .u8 0] 5))).grow k upd_same hown6 hg6 hat6
    rw [upd_upd, ← HF2.out] at H6
    exact ⟨_, rfl, H6⟩
  · have HF2 : Hid (x.form.map vb = (x.b.map vb ++ [.int .u8 0, .int .u8 (P8.toNat : Int)]) ++ [.int .u8 1]) := by unfold Hid; rw [HF.out, hs, List.map_append, List.append_assoc]; rfl
    clear hs HF
    go_wp2_with (at_builtin; refine wpList_append_any _ rfl (.tmp 31) (.tmp 32) _ rfl 0 5 i0 (.int .u8 0) 1 1 Try.underlying22 hi0 hz0 hz1 hz2 rfl (by omega) v2 (200 + 2) (x.b.map vb ++ [.int .u8 0, .int .u8 (P8.toNat : Int)]) rfl ((H5.call (Below.alloc (Below.refl _ _) (Nat.le_refl _) (.cells #[.int .u8 1] 5))).row k upd_same) _ 1 1 [.int .u8 1] rfl (rd_new1 _ _ _ 1 rfl) (by intro q hq; simp at hq; subst hq; rfl) (by simp only [maxLen]; omega) (by omega) (Nat.zero_le _) ?_; intro v4 w6 hown6 hg6 hat6)
    go_ret
    have H6 := (H5.call (Below.alloc (Below.refl _ _) (Nat.le_refl _) (.cells #[.int .u8 1] 5))).grow k upd_same hown6 hg6 hat6
    rw [upd_upd, ← HF2.out] at H6
    exact ⟨_, rfl, H6⟩

end

end Go.Proofs.Ythoopaknldkclaa

namespace Go.Proofs.Ythoopaknldkclaa
open Go.RowKit
set_option linter.unusedVariables false
set_option maxRecDepth 100000

attribute [local irreducible] permB kBytes kPerm kFrom

section
variable {w0 w : World} {F0 : List Nat} {E : Env}

set_option maxHeartbeats 2000000 in
theorem rhBegin_s (l : Value) (r : Option (List RunT)) (m : Nat) (b : Int) (S : Int) (R : Nat) (hS : (S = 128 ∧ R = 168) ∨ (S = 256 ∧ R = 136)) (A B : Option Addr) (n nc c d : Nat) (xs ys : List UInt8) (H : St w0 F0 w E) (i k : Nat) (hi : E i = some (ledR l r)) (hk : E k = none) (hg : LW r m b) (hm : m ≤ 999999999) (hb : b ≤ 1000000000000000000)
    (hA : ∀ w' X, St w0 F0 w' (upd E i X) → Rd w' 1 A n (xs.map vb)) (hB : ∀ w' X, St w0 F0 w' (upd E i X) → Rd w' 1 B nc (ys.map vb)) (hn : n ≤ 2000000) (hnc : nc ≤ 2000000) :
    Calls Try.prog 60 #[l, .int .i64 S, .slice A n c, .slice B nc d] w fun e w' => ∃ g, e = .returned (.tuple #[lptr g, .int .i64 0]) ∧ St w0 F0 w' (upd (upd E i (ledR l (noteN r 3 200 (beginN R xs ys)))) k (.blk g 118 (beginSp R xs ys).vsR)) := by
  obtain ⟨i0, hi0, hz0, hz1, hz2⟩ := info_parts u8_info
  obtain ⟨F, HF, -, -, hback⟩ := H.frame1 i hi
  have HB := Lib.hid hback
  have HA : Hid (∀ w' X, St w F w' (one X) → Rd w' 1 A n (xs.map vb)) := fun w' X h => hA w' X (hback w' X h)
  have HBB : Hid (∀ w' X, St w F w' (one X) → Rd w' 1 B nc (ys.map vb)) := fun w' X h => hB w' X (hback w' X h)
  replace HF := HF.as1
  have HI := Lib.hid hi
  have HK := Lib.hid hk
  have hlx : xs.length = n := by have h := (HA.out w _ (HF.to1 rfl)).1; simpa using h
  have hly : ys.length = nc := by have h := (HBB.out w _ (HF.to1 rfl)).1; simpa using h
  have HX := Lib.hid hlx
  have HY := Lib.hid hly
  have HG := Lib.hid hg
  clear hback hA hB hi hk H hlx hly hg
  have hR1 : R ≤ 168 := by omega
  have hR2 : 136 ≤ R := by omega
  have hR8 : R % 8 = 0 := by rcases hS with ⟨-, rfl⟩ | ⟨-, rfl⟩ <;> rfl
  have HSP : Hid (beginSp R xs ys = if n + nc = 0 then Sp.new R 31 else (Sp.new R 4).write (prefixB R xs ys)) := by unfold Hid; rw [← HX.out, ← HY.out]; rfl
  have HSN : Hid (beginN R xs ys = if n + nc = 0 then 0 else (prefixB R xs ys).length / R) := by unfold Hid; rw [← HX.out, ← HY.out]; rfl
  have hRz : ((R : Int) == 0) = false := by simp; omega
  by_cases h0 : n + nc = 0
  · obtain rfl : n = 0 := by omega
    obtain rfl : nc = 0 := by omega
    have HSP2 : Hid (beginSp R xs ys = Sp.new R 31) := HSP.out
    have HSN2 : Hid (beginN R xs ys = 0) := HSN.out
    clear HSP HSN
    rcases hS with ⟨rfl, rfl⟩ | ⟨rfl, rfl⟩
    · go_enter Try.func60, Try.ntmps60
      go_wp2_with fail
      refine (rsNew_s _ 31 HF 1 rfl (by omega) (by omega) (by omega)).mono ?_
      rintro e w2 ⟨g, rfl, H2⟩
      replace H2 := H2.push_mk rfl
      unfold lptr
      go_wp2
      go_ret2
      refine ⟨g, rfl, St.one_more HI.out HK.out HB.out ?_⟩
      rw [HSP2.out, HSN2.out, noteN_zero]
      exact H2
    · go_enter Try.func60, Try.ntmps60
      go_wp2_with fail
      refine (rsNew_s _ 31 HF 1 rfl (by omega) (by omega) (by omega)).mono ?_
      rintro e w2 ⟨g, rfl, H2⟩
      replace H2 := H2.push_mk rfl
      unfold lptr
      go_wp2
      go_ret2
      refine ⟨g, rfl, St.one_more HI.out HK.out HB.out ?_⟩
      rw [HSP2.out, HSN2.out, noteN_zero]
      exact H2
  · have HSP2 : Hid (beginSp R xs ys = (Sp.new R 4).write (prefixB R xs ys)) := by unfold Hid; rw [HSP.out, if_neg h0]
    have HSN2 : Hid (beginN R xs ys = (prefixB R xs ys).length / R) := by unfold Hid; rw [HSN.out, if_neg h0]
    clear HSP HSN
    have hq1 : ((n : Int) + (nc : Int) == 0) = false := by simp; omega
    rcases hS with ⟨rfl, rfl⟩ | ⟨rfl, rfl⟩
    · go_enter Try.func60, Try.ntmps60
      go_wp2_with fail
      refine (rsNew_s _ 4 HF 1 rfl (by omega) (by omega) (by omega)).mono ?_
      rintro e w2 ⟨g, rfl, H2⟩
      replace H2 := H2.push_mk rfl
      unfold lptr
      go_wp2_with fail
      refine (refString_s A n c xs w2 (HA.out _ _ (H2.to1 rfl)) (by omega)).mono ?_
      rintro e w3 ⟨v1, rfl, ho1, hb1⟩
      replace H2 := (H2.pushOwnB 2 rfl ho1 hb1).push_mk rfl
      clear ho1 hb1
      go_wp2_with fail
      refine (refString_s B nc d ys w3 (HBB.out _ _ (H2.to1 rfl)) (by omega)).mono ?_
      rintro e w4 ⟨v2, rfl, ho2, hb2⟩
      replace H2 := (H2.pushOwnB 3 rfl ho2 hb2).push_mk rfl
      clear ho2 hb2
      have hs1 := strB_le (l := xs) (by rw [HX.out]; exact hn)
      have hs2 := strB_le (l := ys) (by rw [HY.out]; exact hnc)
      have HPB : Hid (prefixB 168 xs ys = padI (strB xs ++ strB ys) 168) := by unfold Hid; rfl
      generalize strB xs = s1 at H2 hs1 HPB
      generalize strB ys = s2 at H2 hs2 HPB
      obtain ⟨A1, d1, rfl, -⟩ := row_form (H2.row 2 rfl)
      obtain ⟨A2, d2, rfl, -⟩ := row_form (H2.row 3 rfl)
      go_wp2_with (at_builtin; refine wpList_append_any _ rfl (.tmp 45) (.tmp 47) _ rfl 0 5 i0 (.int .u8 0) 1 1 Try.underlying22 hi0 hz0 hz1 hz2 rfl (by omega) (.slice A1 s1.length d1) s1.length (s1.map vb) rfl (H2.row 2 rfl) A2 s2.length d2 (s2.map vb) rfl (H2.rd 3 rfl) (vb_one _) (by simp only [maxLen]; omega) (by omega) (Nat.zero_le _) ?_; intro v5 w5 hown5 hg5 hat5)
      have H5 := (H2.grow 2 rfl hown5 hg5 hat5).upd_mk (by simp)
      clear hown5 hg5 hat5 H2
      replace H5 : St w F w5 (lay [ledR l r, .blk g 118 (Sp.new 168 4).vsR, .row 5 1 v5 (s1.length + s2.length) (s1.map vb ++ s2.map vb), .row 5 1 (.slice A2 s2.length d2) s2.length (s2.map vb)]) := H5
      obtain ⟨A5, d5, rfl, -⟩ := row_form (H5.row 2 rfl)
      have HL12 : Hid ((s1 ++ s2).length = s1.length + s2.length) := List.length_append
      have hr5 := H5.rd 2 rfl
      rw [← List.map_append] at hr5
      go_wp2_with fail
      refine (refPad_s A5 (s1.length + s2.length) d5 (s1 ++ s2) 168 w5 hr5 (by omega)).mono ?_
      rintro e w6 ⟨v6, rfl, ho6, hb6⟩
      clear hr5
      rw [← HPB.out] at ho6
      replace H5 := (H5.pushOwnB 4 rfl ho6 hb6).push_mk rfl
      clear ho6 hb6
      have hpl : (prefixB 168 xs ys).length ≤ 10001000 := by rw [HPB.out]; exact padI_le (by omega) (by omega) (by rw [HL12.out]; omega)
      have hpe : padE 168 = 0 := if_pos (show padOk 168 from ⟨by omega, by omega⟩)
      rw [hpe]
      clear hpe
      generalize prefixB 168 xs ys = pf at H5 hpl HSP2 HSN2
      obtain ⟨A6, d6, rfl, -⟩ := row_form (H5.row 4 rfl)
      replace H5 : St w F w6 (lay [ledR l r, .blk g 118 (Sp.new 168 4).vsR, .row 5 1 (.slice A5 (s1.length + s2.length) d5) (s1.length + s2.length) (s1.map vb ++ s2.map vb), .row 5 1 (.slice A2 s2.length d2) s2.length (s2.map vb), .row 5 1 (.slice A6 pf.length d6) pf.length (pf.map vb)]) := H5
      go_wp2_with fail
      refine (rsWrite_s l r m b g (Sp.new 168 4) A6 pf.length d6 pf H5 0 1 (by omega) rfl rfl HG.out (by omega) (by omega) (Sp.new_ok _ _ (by omega) (by omega)) rfl (fun w' X Y h => h.rd 4 rfl) (by omega)).mono ?_
      rintro e w7 ⟨rfl, H7⟩
      rw [upd_laid (by simp), upd_laid (by simp)] at H7
      replace H7 := H7.front 2
      go_wp2
      go_ret2
      refine ⟨g, rfl, St.one_more HI.out HK.out HB.out ?_⟩
      rw [HSP2.out, HSN2.out]
      rw [show (Sp.new 168 4).p = 0 from rfl, show (Sp.new 168 4).r = 168 from rfl, Nat.zero_add] at H7
      exact H7
    · go_enter Try.func60, Try.ntmps60
      go_wp2_with fail
      refine (rsNew_s _ 4 HF 1 rfl (by omega) (by omega) (by omega)).mono ?_
      rintro e w2 ⟨g, rfl, H2⟩
      replace H2 := H2.push_mk rfl
      unfold lptr
      go_wp2_with fail
      refine (refString_s A n c xs w2 (HA.out _ _ (H2.to1 rfl)) (by omega)).mono ?_
      rintro e w3 ⟨v1, rfl, ho1, hb1⟩
      replace H2 := (H2.pushOwnB 2 rfl ho1 hb1).push_mk rfl
      clear ho1 hb1
      go_wp2_with fail
      refine (refString_s B nc d ys w3 (HBB.out _ _ (H2.to1 rfl)) (by omega)).mono ?_
      rintro e w4 ⟨v2, rfl, ho2, hb2⟩
      replace H2 := (H2.pushOwnB 3 rfl ho2 hb2).push_mk rfl
      clear ho2 hb2
      have hs1 := strB_le (l := xs) (by rw [HX.out]; exact hn)
      have hs2 := strB_le (l := ys) (by rw [HY.out]; exact hnc)
      have HPB : Hid (prefixB 136 xs ys = padI (strB xs ++ strB ys) 136) := by unfold Hid; rfl
      generalize strB xs = s1 at H2 hs1 HPB
      generalize strB ys = s2 at H2 hs2 HPB
      obtain ⟨A1, d1, rfl, -⟩ := row_form (H2.row 2 rfl)
      obtain ⟨A2, d2, rfl, -⟩ := row_form (H2.row 3 rfl)
      go_wp2_with (at_builtin; refine wpList_append_any _ rfl (.tmp 45) (.tmp 47) _ rfl 0 5 i0 (.int .u8 0) 1 1 Try.underlying22 hi0 hz0 hz1 hz2 rfl (by omega) (.slice A1 s1.length d1) s1.length (s1.map vb) rfl (H2.row 2 rfl) A2 s2.length d2 (s2.map vb) rfl (H2.rd 3 rfl) (vb_one _) (by simp only [maxLen]; omega) (by omega) (Nat.zero_le _) ?_; intro v5 w5 hown5 hg5 hat5)
      have H5 := (H2.grow 2 rfl hown5 hg5 hat5).upd_mk (by simp)
      clear hown5 hg5 hat5 H2
      replace H5 : St w F w5 (lay [ledR l r, .blk g 118 (Sp.new 136 4).vsR, .row 5 1 v5 (s1.length + s2.length) (s1.map vb ++ s2.map vb), .row 5 1 (.slice A2 s2.length d2) s2.length (s2.map vb)]) := H5
      obtain ⟨A5, d5, rfl, -⟩ := row_form (H5.row 2 rfl)
      have HL12 : Hid ((s1 ++ s2).length = s1.length + s2.length) := List.length_append
      have hr5 := H5.rd 2 rfl
      rw [← List.map_append] at hr5
      go_wp2_with fail
      refine (refPad_s A5 (s1.length + s2.length) d5 (s1 ++ s2) 136 w5 hr5 (by omega)).mono ?_
      rintro e w6 ⟨v6, rfl, ho6, hb6⟩
      clear hr5
      rw [← HPB.out] at ho6
      replace H5 := (H5.pushOwnB 4 rfl ho6 hb6).push_mk rfl
      clear ho6 hb6
      have hpl : (prefixB 136 xs ys).length ≤ 10001000 := by rw [HPB.out]; exact padI_le (by omega) (by omega) (by rw [HL12.out]; omega)
      have hpe : padE 136 = 0 := if_pos (show padOk 136 from ⟨by omega, by omega⟩)
      rw [hpe]
      clear hpe
      generalize prefixB 136 xs ys = pf at H5 hpl HSP2 HSN2
      obtain ⟨A6, d6, rfl, -⟩ := row_form (H5.row 4 rfl)
      replace H5 : St w F w6 (lay [ledR l r, .blk g 118 (Sp.new 136 4).vsR, .row 5 1 (.slice A5 (s1.length + s2.length) d5) (s1.length + s2.length) (s1.map vb ++ s2.map vb), .row 5 1 (.slice A2 s2.length d2) s2.length (s2.map vb), .row 5 1 (.slice A6 pf.length d6) pf.length (pf.map vb)]) := H5
      go_wp2_with fail
      refine (rsWrite_s l r m b g (Sp.new 136 4) A6 pf.length d6 pf H5 0 1 (by omega) rfl rfl HG.out (by omega) (by omega) (Sp.new_ok _ _ (by omega) (by omega)) rfl (fun w' X Y h => h.rd 4 rfl) (by omega)).mono ?_
      rintro e w7 ⟨rfl, H7⟩
      rw [upd_laid (by simp), upd_laid (by simp)] at H7
      replace H7 := H7.front 2
      go_wp2
      go_ret2
      refine ⟨g, rfl, St.one_more HI.out HK.out HB.out ?_⟩
      rw [HSP2.out, HSN2.out]
      rw [show (Sp.new 136 4).p = 0 from rfl, show (Sp.new 136 4).r = 136 from rfl, Nat.zero_add] at H7
      exact H7

end

end Go.Proofs.Ythoopaknldkclaa

namespace Go.Proofs.Ythoopaknldkclaa
open Go.RowKit
set_option linter.unusedVariables false
set_option maxRecDepth 100000

theorem shBegin_no (l : Value) (S : Int) (v1 v2 : Value) (hS : S ≠ 128 ∧ S ≠ 256) (w : World) :
    Calls Try.prog 43 #[l, .int .i64 S, v1, v2] w fun e w' => e = .returned (.tuple #[.pointer none, .int .i64 2]) ∧ w = w' := by
  have e1 : (S == 128) = false := by simp; omega
  have e2 : (S == 256) = false := by simp; omega
  have hr : Calls Try.prog 69 #[.int .i64 S] w fun e w' => e = .returned (.int .i64 0) ∧ w = w' := by
    clear hS
    go_enter Try.func69, Try.ntmps69
    go_wp2
    go_ret
    exact ⟨rfl, rfl⟩
  have HR := Lib.hid hr
  clear hr hS
  go_enter Try.func43, Try.ntmps43
  go_wp2_with fail
  refine HR.out.mono ?_
  rintro e w1 ⟨rfl, rfl⟩
  go_wp2
  go_ret2
  exact ⟨rfl, rfl⟩

theorem rhBegin_no (l : Value) (S : Int) (v1 v2 : Value) (hS : S ≠ 128 ∧ S ≠ 256) (w : World) :
    Calls Try.prog 60 #[l, .int .i64 S, v1, v2] w fun e w' => e = .returned (.tuple #[.pointer none, .int .i64 2]) ∧ w = w' := by
  have e1 : (S != 128) = true := by simp; omega
  have e2 : (S != 256) = true := by simp; omega
  clear hS
  go_enter Try.func60, Try.ntmps60
  go_wp2
  go_ret2
  exact ⟨rfl, rfl⟩
end Go.Proofs.Ythoopaknldkclaa

namespace Go.Proofs.Ythoopaknldkclaa
open Go.RowKit
set_option linter.unusedVariables false
set_option maxRecDepth 100000

/-- no sponge: nil, or one whose memory is noughts -/
def SpNo (w : World) (s : Value) : Prop := s = .pointer none ∨ ∃ g, s = lptr g ∧ w.cell? ⟨g, 200, none⟩ = some (.int .i64 0) ∧ w.cell? ⟨g, 203, none⟩ = some (.bool false)

section
variable {w : World}

theorem spRead_none (l : Value) (n : Int) (s : Value) (h : SpNo w s) : Calls Try.prog 51 #[s, l, .int .i64 n] w fun e w' => e = .returned (.tuple #[.slice none 0 0, .int .i64 1]) ∧ w = w' := by
  rcases h with rfl | ⟨g, rfl, c0, c3⟩
  · go_enter Try.func51, Try.ntmps51
    go_wp2_with fail
    refine (spNone_nil w).mono ?_
    rintro e w1 ⟨rfl, rfl⟩
    go_wp2
    go_ret2
    exact ⟨rfl, rfl⟩
  · unfold lptr
    go_enter Try.func51, Try.ntmps51
    go_wp2_with fail
    refine (spNone_yes g w c0).mono ?_
    rintro e w1 ⟨rfl, rfl⟩
    go_wp2
    go_ret2
    exact ⟨rfl, rfl⟩

theorem spClone_none  (s : Value) (h : SpNo w s) : Calls Try.prog 49 #[s] w fun e w' => e = .returned (.tuple #[.pointer none, .int .i64 1]) ∧ w = w' := by
  rcases h with rfl | ⟨g, rfl, c0, c3⟩
  · go_enter Try.func49, Try.ntmps49
    go_wp2_with fail
    refine (spNone_nil w).mono ?_
    rintro e w1 ⟨rfl, rfl⟩
    go_wp2
    go_ret2
    exact ⟨rfl, rfl⟩
  · unfold lptr
    go_enter Try.func49, Try.ntmps49
    go_wp2_with fail
    refine (spNone_yes g w c0).mono ?_
    rintro e w1 ⟨rfl, rfl⟩
    go_wp2
    go_ret2
    exact ⟨rfl, rfl⟩

theorem spWrite_none (l v : Value) (s : Value) (h : SpNo w s) : Calls Try.prog 47 #[s, l, v] w fun e w' => e = .returned (.int .i64 1) ∧ w = w' := by
  rcases h with rfl | ⟨g, rfl, c0, c3⟩
  · go_enter Try.func47, Try.ntmps47
    go_wp2_with fail
    refine (spNone_nil w).mono ?_
    rintro e w1 ⟨rfl, rfl⟩
    go_wp2
    go_ret
    exact ⟨rfl, rfl⟩
  · unfold lptr
    go_enter Try.func47, Try.ntmps47
    go_wp2_with fail
    refine (spNone_yes g w c0).mono ?_
    rintro e w1 ⟨rfl, rfl⟩
    go_wp2
    go_ret
    exact ⟨rfl, rfl⟩

theorem spClose_none (l : Value) (s : Value) (h : SpNo w s) : Calls Try.prog 75 #[s, l] w fun e w' => e = .returned (.int .i64 1) ∧ w = w' := by
  rcases h with rfl | ⟨g, rfl, c0, c3⟩
  · go_enter Try.func75, Try.ntmps75
    go_wp2_with fail
    refine (spNone_nil w).mono ?_
    rintro e w1 ⟨rfl, rfl⟩
    go_wp2
    go_ret
    exact ⟨rfl, rfl⟩
  · unfold lptr
    go_enter Try.func75, Try.ntmps75
    go_wp2_with fail
    refine (spNone_yes g w c0).mono ?_
    rintro e w1 ⟨rfl, rfl⟩
    go_wp2
    go_ret
    exact ⟨rfl, rfl⟩

theorem spWipe_none (l : Value) (s : Value) (h : SpNo w s) : Calls Try.prog 53 #[s, l] w fun e w' => e = .returned (.int .i64 1) ∧ w = w' := by
  rcases h with rfl | ⟨g, rfl, c0, c3⟩
  · go_enter Try.func53, Try.ntmps53
    go_wp2_with fail
    refine (spNone_nil w).mono ?_
    rintro e w1 ⟨rfl, rfl⟩
    go_wp2
    go_ret
    exact ⟨rfl, rfl⟩
  · unfold lptr
    go_enter Try.func53, Try.ntmps53
    go_wp2_with fail
    refine (spNone_yes g w c0).mono ?_
    rintro e w1 ⟨rfl, rfl⟩
    go_wp2
    go_ret
    exact ⟨rfl, rfl⟩

theorem spForm_none  (s : Value) (h : SpNo w s) : Calls Try.prog 52 #[s] w fun e w' => e = .returned (.slice none 0 0) ∧ w = w' := by
  rcases h with rfl | ⟨g, rfl, c0, c3⟩
  · go_enter Try.func52, Try.ntmps52
    go_wp2_with fail
    refine (spNone_nil w).mono ?_
    rintro e w1 ⟨rfl, rfl⟩
    go_wp2
    go_ret
    exact ⟨rfl, rfl⟩
  · unfold lptr
    go_enter Try.func52, Try.ntmps52
    go_wp2_with fail
    refine (spNone_yes g w c0).mono ?_
    rintro e w1 ⟨rfl, rfl⟩
    go_wp2
    go_ret
    exact ⟨rfl, rfl⟩

theorem spRate_none  (s : Value) (h : SpNo w s) : Calls Try.prog 46 #[s] w fun e w' => e = .returned (.int .i64 0) ∧ w = w' := by
  rcases h with rfl | ⟨g, rfl, c0, c3⟩
  · go_enter Try.func46, Try.ntmps46
    go_wp2
    go_ret
    exact ⟨rfl, rfl⟩
  · unfold lptr
    go_enter Try.func46, Try.ntmps46
    go_wp2
    go_ret
    exact ⟨rfl, rfl⟩

end

end Go.Proofs.Ythoopaknldkclaa

namespace Go.Proofs.Ythoopaknldkclaa
open Go.RowKit
set_option linter.unusedVariables false

def Own.lit (g : Nat) (T : TypeId) (cs : List Value) (m : Nat × Nat) : Own where
  holds w F := w.heap[g]? = some (.cells cs.toArray T m) ∧ F = [g]
  loc := fun ⟨h, e⟩ k => ⟨by rw [k g (by simp [e])]; exact h, e⟩
  old := fun ⟨h, e⟩ k hk => by rw [e] at hk; simp at hk; subst hk; exact lt_of_heap h

section
variable {w0 w w' : World} {F0 : List Nat} {E : Env}

theorem St.litAt (H : St w0 F0 w E) (k : Nat) (hk : E k = none) (b : Nat) (hb : b = w.heap.size) (cs : Array Value) (T : TypeId) (m : Nat × Nat) : St w0 F0 (w.alloc (.cells cs T m)) (upd E k (.lit b T cs.toList m)) := by
  subst hb
  exact H.push k hk ((Below.refl _ _).alloc (Nat.le_refl _) _) (F := [w.heap.size]) ⟨by rw [heap_alloc_new], rfl⟩ (by simp)

theorem St.rdLit {g : Nat} {T : TypeId} {cs : List Value} {m : Nat × Nat} (H : St w0 F0 w E) (k : Nat) (hk : E k = some (.lit g T cs m)) (size n : Nat) (hl : cs.length = n * size) : Rd w size (some ⟨g, 0, none⟩) n cs := by
  obtain ⟨F, ⟨h, -⟩, -⟩ := H.change k hk
  refine ⟨hl, fun _ => ⟨_, rfl, lt_of_heap h, fun j u hu => ?_⟩⟩
  rw [Addr.add_mid, Nat.zero_add, cell_of_row w g j _ _ _ h]
  simpa using hu
end
end Go.Proofs.Ythoopaknldkclaa

namespace Go.Proofs.Ythoopaknldkclaa
open Go.RowKit
set_option linter.unusedVariables false

def kmacB : List UInt8 := [75, 77, 65, 67]
def kmPad (R : Nat) (key : List UInt8) : List UInt8 := padI (strB key) (R : Int)
def kmSp (R : Nat) (key cus : List UInt8) : Sp := (beginSp R kmacB cus).write (kmPad R key)
def kmN (R : Nat) (key cus : List UInt8) : Nat := beginN R kmacB cus + ((beginSp R kmacB cus).p + (kmPad R key).length) / R
def kmEnd (x : Sp) (B : Nat) : Sp := x.write (rightI (B : Int))
def kmTag (x : Sp) (n B : Nat) : List UInt8 := (kmEnd x B).shut.read n
def kmSumN (x : Sp) (n B : Nat) : Nat := (x.p + (rightI (B : Int)).length) / x.r + ((kmEnd x B).shutN + ((kmEnd x B).shut.p + n - 1) / (kmEnd x B).r)
def kmBits (n : Nat) (xof : Bool) : Nat := if xof then 0 else 8 * n

theorem kmSp_ok {R : Nat} (key cus : List UInt8) (h : 8 ≤ R) (h' : R ≤ 192) : (kmSp R key cus).Ok ∧ (kmSp R key cus).s = false ∧ (kmSp R key cus).r = R ∧ (kmSp R key cus).p < R := by
  obtain ⟨h1, h2, h3, h4⟩ := beginSp_ok kmacB cus h h'
  obtain ⟨k1, k2⟩ := Sp.write_ok (kmPad R key) h1 (by rw [h3]; exact h4)
  obtain ⟨m1, m2, m3⟩ := Sp.write_r (kmPad R key) (beginSp R kmacB cus)
  unfold kmSp
  refine ⟨k1, by rw [m3]; exact h2, by rw [m1]; exact h3, ?_⟩
  rw [m1, h3] at k2
  exact k2
theorem kmEnd_ok {x : Sp} (B : Nat) (hx : x.Ok) (hs : x.s = false) : (kmEnd x B).Ok ∧ (kmEnd x B).s = false ∧ (kmEnd x B).r = x.r := by
  obtain ⟨k1, k2⟩ := Sp.write_ok (rightI (B : Int)) hx (hx.op hs)
  obtain ⟨m1, m2, m3⟩ := Sp.write_r (rightI (B : Int)) x
  unfold kmEnd
  exact ⟨k1, by rw [m3]; exact hs, m1⟩
theorem rightI_le (n : Int) (h : n ≤ 9223372036854775807) : (rightI n).length ≤ 9 := by
  unfold rightI
  split
  · simp
  · unfold rightB
    have := numB_le (n := n.toNat) (by omega)
    rw [List.length_append, List.length_cons, List.length_nil]; omega

def kmTagN (R : Nat) (key cus p : List UInt8) (n : Nat) (xof : Bool) : Nat := kmN R key cus + (((kmSp R key cus).p + p.length) / R + kmSumN ((kmSp R key cus).write p) n (kmBits n xof))
def kmTagB (R : Nat) (key cus p : List UInt8) (n : Nat) (xof : Bool) : List UInt8 := kmTag ((kmSp R key cus).write p) n (kmBits n xof)

theorem St.one_two {w0 w w' : World} {F0 F : List Nat} {E : Env} {A R1 R2 A0 : Own} {i k1 k2 : Nat} (hi : E i = some A0) (hk1 : E k1 = none) (hk2 : E k2 = none) (hkk : k1 ≠ k2)
    (hback : ∀ (w' : World) (A' : Own), St w F w' (one A') → St w0 F0 w' (upd E i A')) (H : St w F w' (lay [A, R1, R2])) : St w0 F0 w' (upd (upd (upd E i A) k2 R1) k1 R2) := by
  have hki : k1 ≠ i := fun e => by rw [e, hi] at hk1; cases hk1
  have H1 := H.join 1 2 (by omega) rfl rfl
  have H2 : St w F w' (lay [A, .sep R1 R2]) := H1.sub fun n C hC => by
    match n, hC with
    | 0, hC => simpa [upd, del, lay] using hC
    | 1, hC => simpa [upd, del, lay] using hC
    | n + 2, hC => simp [lay] at hC
  have H3 := St.one_more hi hk2 hback H2
  have H4 := H3.part (A := R1) (B := R2) k2 k1 (Ne.symm hkk) (by simp [upd]) (by simp [upd, hkk, hki, hk1])
  refine H4.env fun n => ?_
  simp only [upd]
  by_cases h1 : n = k1
  · simp [h1]
  · by_cases h2 : n = k2
    · subst h2; simp [h1]
    · simp [h1, h2]

theorem St.permS {w0 w : World} {F0 : List Nat} {L L' : List Own} (H : St w0 F0 w (lay L)) (p : List Nat) (n : Nat) (hn : L'.length = n) (hp : ∀ i, i < n → ∀ j, j < n → p.getD i 0 = p.getD j 0 → i = j) (h : ∀ i, i < n → L[p.getD i 0]? = L'[i]?) : St w0 F0 w (lay L') := by
  obtain ⟨lo, Fs, h1, h2⟩ := H
  have hl : ∀ i A, lay L' i = some A → i < n ∧ lay L (p.getD i 0) = some A := by
    intro i A hA
    have hi : i < n := by rw [← hn]; exact (List.getElem?_eq_some_iff.1 hA).1
    exact ⟨hi, (h i hi).trans hA⟩
  exact ⟨lo, fun k => Fs (p.getD k 0), fun i A hA => h1 _ A (hl i A hA).2, fun i j A B hij hA hB => h2 _ _ A B (fun e => hij (hp i (hl i A hA).1 j (hl j B hB).1 e)) (hl i A hA).2 (hl j B hB).2⟩
end Go.Proofs.Ythoopaknldkclaa

namespace Go.Proofs.Ythoopaknldkclaa
open Go.RowKit
set_option linter.unusedVariables false
set_option maxRecDepth 100000

/-- no sponge: nil, or one that is gone -/
def RpNo (w : World) (s : Value) : Prop := s = .pointer none ∨ ∃ g, s = lptr g ∧ w.cell? ⟨g, 204, none⟩ = some (.bool true)

section
variable {w : World}

theorem rsRead_none (l : Value) (n : Int) (s : Value) (h : RpNo w s) : Calls Try.prog 68 #[s, l, .int .i64 n] w fun e w' => e = .returned (.tuple #[.slice none 0 0, .int .i64 1]) ∧ w = w' := by
  rcases h with rfl | ⟨g, rfl, c0⟩
  · go_enter Try.func68, Try.ntmps68
    go_wp2_with fail
    refine (rsNone_nil w).mono ?_
    rintro e w1 ⟨rfl, rfl⟩
    go_wp2
    go_ret2
    exact ⟨rfl, rfl⟩
  · unfold lptr
    go_enter Try.func68, Try.ntmps68
    go_wp2_with fail
    refine (rsNone_yes g w c0).mono ?_
    rintro e w1 ⟨rfl, rfl⟩
    go_wp2
    go_ret2
    exact ⟨rfl, rfl⟩

theorem rsClone_none  (s : Value) (h : RpNo w s) : Calls Try.prog 66 #[s] w fun e w' => e = .returned (.tuple #[.pointer none, .int .i64 1]) ∧ w = w' := by
  rcases h with rfl | ⟨g, rfl, c0⟩
  · go_enter Try.func66, Try.ntmps66
    go_wp2_with fail
    refine (rsNone_nil w).mono ?_
    rintro e w1 ⟨rfl, rfl⟩
    go_wp2
    go_ret2
    exact ⟨rfl, rfl⟩
  · unfold lptr
    go_enter Try.func66, Try.ntmps66
    go_wp2_with fail
    refine (rsNone_yes g w c0).mono ?_
    rintro e w1 ⟨rfl, rfl⟩
    go_wp2
    go_ret2
    exact ⟨rfl, rfl⟩

theorem rsWrite_none (l v : Value) (s : Value) (h : RpNo w s) : Calls Try.prog 64 #[s, l, v] w fun e w' => e = .returned (.int .i64 1) ∧ w = w' := by
  rcases h with rfl | ⟨g, rfl, c0⟩
  · go_enter Try.func64, Try.ntmps64
    go_wp2_with fail
    refine (rsNone_nil w).mono ?_
    rintro e w1 ⟨rfl, rfl⟩
    go_wp2
    go_ret
    exact ⟨rfl, rfl⟩
  · unfold lptr
    go_enter Try.func64, Try.ntmps64
    go_wp2_with fail
    refine (rsNone_yes g w c0).mono ?_
    rintro e w1 ⟨rfl, rfl⟩
    go_wp2
    go_ret
    exact ⟨rfl, rfl⟩

theorem rsClose_none (l : Value) (s : Value) (h : RpNo w s) : Calls Try.prog 84 #[s, l] w fun e w' => e = .returned (.int .i64 1) ∧ w = w' := by
  rcases h with rfl | ⟨g, rfl, c0⟩
  · go_enter Try.func84, Try.ntmps84
    go_wp2_with fail
    refine (rsNone_nil w).mono ?_
    rintro e w1 ⟨rfl, rfl⟩
    go_wp2
    go_ret
    exact ⟨rfl, rfl⟩
  · unfold lptr
    go_enter Try.func84, Try.ntmps84
    go_wp2_with fail
    refine (rsNone_yes g w c0).mono ?_
    rintro e w1 ⟨rfl, rfl⟩
    go_wp2
    go_ret
    exact ⟨rfl, rfl⟩

theorem rsWipe_none (l : Value) (s : Value) (h : RpNo w s) : Calls Try.prog 77 #[s, l] w fun e w' => e = .returned (.int .i64 1) ∧ w = w' := by
  rcases h with rfl | ⟨g, rfl, c0⟩
  · go_enter Try.func77, Try.ntmps77
    go_wp2_with fail
    refine (rsNone_nil w).mono ?_
    rintro e w1 ⟨rfl, rfl⟩
    go_wp2
    go_ret
    exact ⟨rfl, rfl⟩
  · unfold lptr
    go_enter Try.func77, Try.ntmps77
    go_wp2_with fail
    refine (rsNone_yes g w c0).mono ?_
    rintro e w1 ⟨rfl, rfl⟩
    go_wp2
    go_ret
    exact ⟨rfl, rfl⟩

theorem rsForm_none  (s : Value) (h : RpNo w s) : Calls Try.prog 78 #[s] w fun e w' => e = .returned (.slice none 0 0) ∧ w = w' := by
  rcases h with rfl | ⟨g, rfl, c0⟩
  · go_enter Try.func78, Try.ntmps78
    go_wp2_with fail
    refine (rsNone_nil w).mono ?_
    rintro e w1 ⟨rfl, rfl⟩
    go_wp2
    go_ret
    exact ⟨rfl, rfl⟩
  · unfold lptr
    go_enter Try.func78, Try.ntmps78
    go_wp2_with fail
    refine (rsNone_yes g w c0).mono ?_
    rintro e w1 ⟨rfl, rfl⟩
    go_wp2
    go_ret
    exact ⟨rfl, rfl⟩

end

end Go.Proofs.Ythoopaknldkclaa

namespace Go.Proofs.Ythoopaknldkclaa
open Go.RowKit
set_option linter.unusedVariables false
set_option maxRecDepth 100000

attribute [local irreducible] permB kBytes kPerm kFrom

/-- a Mac's cells -/
abbrev macV (g : Nat) (S : Int) : List Value := [lptr g, .int .i64 S]
/-- nil, or a Mac that nobody made -/
def KmNo (w : World) (s : Value) : Prop := s = .pointer none ∨ ∃ g, s = lptr g ∧ w.cell? ⟨g, 1, none⟩ = some (.int .i64 0)

section
variable {w0 w : World} {F0 : List Nat} {E : Env}

theorem kmNone_no (g : Nat) (S : Int) (w : World) (hc : w.cell? ⟨g, 1, none⟩ = some (.int .i64 S)) (hS : (S == 0) = false) :
    Calls Try.prog 48 #[lptr g] w fun e w' => e = .returned (.bool false) ∧ w = w' := by
  unfold lptr
  go_enter Try.func48, Try.ntmps48
  go_wp2
  go_ret
  exact ⟨rfl, rfl⟩
theorem kmNone_nil (w : World) : Calls Try.prog 48 #[.pointer none] w fun e w' => e = .returned (.bool true) ∧ w = w' := by
  go_enter Try.func48, Try.ntmps48
  go_wp2
  go_ret
  exact ⟨rfl, rfl⟩
theorem kmNone_off (g : Nat) (w : World) (hc : w.cell? ⟨g, 1, none⟩ = some (.int .i64 0)) :
    Calls Try.prog 48 #[lptr g] w fun e w' => e = .returned (.bool true) ∧ w = w' := by
  unfold lptr
  go_enter Try.func48, Try.ntmps48
  go_wp2
  go_ret
  exact ⟨rfl, rfl⟩

theorem kmSum_none (l : Value) (n : Int) (b : Bool) (s : Value) (h : KmNo w s) : Calls Try.prog 25 #[s, l, .int .i64 n, .bool b] w fun e w' => e = .returned (.tuple #[.slice none 0 0, .int .i64 1]) ∧ w = w' := by
  rcases h with rfl | ⟨g, rfl, c0⟩
  · go_enter Try.func25, Try.ntmps25
    go_wp2_with fail
    refine (kmNone_nil w).mono ?_
    rintro e w1 ⟨rfl, rfl⟩
    go_wp2
    go_ret2
    exact ⟨rfl, rfl⟩
  · go_enter Try.func25, Try.ntmps25
    go_wp2_with fail
    refine (kmNone_off g w c0).mono ?_
    rintro e w1 ⟨rfl, rfl⟩
    go_wp2
    go_ret2
    exact ⟨rfl, rfl⟩

theorem kmClone_none (s : Value) (h : KmNo w s) : Calls Try.prog 31 #[s] w fun e w' => e = .returned (.tuple #[.pointer none, .int .i64 1]) ∧ w = w' := by
  rcases h with rfl | ⟨g, rfl, c0⟩
  · go_enter Try.func31, Try.ntmps31
    go_wp2_with fail
    refine (kmNone_nil w).mono ?_
    rintro e w1 ⟨rfl, rfl⟩
    go_wp2
    go_ret2
    exact ⟨rfl, rfl⟩
  · go_enter Try.func31, Try.ntmps31
    go_wp2_with fail
    refine (kmNone_off g w c0).mono ?_
    rintro e w1 ⟨rfl, rfl⟩
    go_wp2
    go_ret2
    exact ⟨rfl, rfl⟩

theorem kmWrite_none (l v s : Value) (h : KmNo w s) : Calls Try.prog 29 #[s, l, v] w fun e w' => e = .returned (.int .i64 1) ∧ w = w' := by
  rcases h with rfl | ⟨g, rfl, c0⟩
  · go_enter Try.func29, Try.ntmps29
    go_wp2_with fail
    refine (kmNone_nil w).mono ?_
    rintro e w1 ⟨rfl, rfl⟩
    go_wp2
    go_ret
    exact ⟨rfl, rfl⟩
  · go_enter Try.func29, Try.ntmps29
    go_wp2_with fail
    refine (kmNone_off g w c0).mono ?_
    rintro e w1 ⟨rfl, rfl⟩
    go_wp2
    go_ret
    exact ⟨rfl, rfl⟩

theorem kmWipe_none (l s : Value) (h : KmNo w s) : Calls Try.prog 32 #[s, l] w fun e w' => e = .returned (.int .i64 1) ∧ w = w' := by
  rcases h with rfl | ⟨g, rfl, c0⟩
  · go_enter Try.func32, Try.ntmps32
    go_wp2_with fail
    refine (kmNone_nil w).mono ?_
    rintro e w1 ⟨rfl, rfl⟩
    go_wp2
    go_ret
    exact ⟨rfl, rfl⟩
  · go_enter Try.func32, Try.ntmps32
    go_wp2_with fail
    refine (kmNone_off g w c0).mono ?_
    rintro e w1 ⟨rfl, rfl⟩
    go_wp2
    go_ret
    exact ⟨rfl, rfl⟩

theorem kmForm_none (s : Value) (h : KmNo w s) : Calls Try.prog 28 #[s] w fun e w' => e = .returned (.slice none 0 0) ∧ w = w' := by
  rcases h with rfl | ⟨g, rfl, c0⟩
  · go_enter Try.func28, Try.ntmps28
    go_wp2_with fail
    refine (kmNone_nil w).mono ?_
    rintro e w1 ⟨rfl, rfl⟩
    go_wp2
    go_ret
    exact ⟨rfl, rfl⟩
  · go_enter Try.func28, Try.ntmps28
    go_wp2_with fail
    refine (kmNone_off g w c0).mono ?_
    rintro e w1 ⟨rfl, rfl⟩
    go_wp2
    go_ret
    exact ⟨rfl, rfl⟩

theorem kmStrength_none (s : Value) (h : KmNo w s) : Calls Try.prog 27 #[s] w fun e w' => e = .returned (.int .i64 0) ∧ w = w' := by
  rcases h with rfl | ⟨g, rfl, c0⟩
  · go_enter Try.func27, Try.ntmps27
    go_wp2
    go_ret
    exact ⟨rfl, rfl⟩
  · unfold lptr
    go_enter Try.func27, Try.ntmps27
    go_wp2
    go_ret
    exact ⟨rfl, rfl⟩

theorem kmStrength_s (gm g : Nat) (S : Int) (H : St w0 F0 w E) (j : Nat) (hj : E j = some (.blk gm 79 (macV g S))) :
    Calls Try.prog 27 #[lptr gm] w fun e w' => e = .returned (.int .i64 S) ∧ w = w' := by
  have c1 := H.cell j hj (o := 1) rfl
  unfold lptr
  go_enter Try.func27, Try.ntmps27
  go_wp2
  go_ret
  exact ⟨rfl, rfl⟩

theorem kmForm_s (gm g : Nat) (S : Int) (hS : (S == 0) = false) (x : Sp) (H : St w0 F0 w E) (j j2 k : Nat) (hj : E j = some (.blk gm 79 (macV g S))) (hj2 : E j2 = some (.blk g 111 x.vs)) (hk : E k = none) (hx : x.Ok) :
    Calls Try.prog 28 #[lptr gm] w fun e w' => ∃ v, e = .returned v ∧ St w0 F0 w' (upd E k (.row 5 1 v 203 (x.form.map vb))) := by
  have c0 := H.cell j hj (o := 0) rfl
  have c1 := H.cell j hj (o := 1) rfl
  have HJ := Lib.hid hj2
  have HK := Lib.hid hk
  clear hj hj2 hk
  go_enter Try.func28, Try.ntmps28
  go_wp2_with fail
  refine (kmNone_no gm S w c1 hS).mono ?_
  rintro e w1 ⟨rfl, rfl⟩
  unfold lptr at c0 ⊢
  go_wp2_with fail
  refine (spForm_s g x H j2 k HJ.out HK.out hx).mono ?_
  rintro e w2 ⟨v, rfl, H2⟩
  go_wp2
  go_ret
  exact ⟨_, rfl, H2⟩

theorem kmWrite_s (l : Value) (r : Option (List RunT)) (m : Nat) (b : Int) (gm g : Nat) (S : Int) (hS : (S == 0) = false) (x : Sp) (A : Option Addr) (n c : Nat) (q : List UInt8) (H : St w0 F0 w E) (i j j2 : Nat) (hij : i ≠ j2) (hi : E i = some (led l r)) (hj : E j = some (.blk gm 79 (macV g S))) (hj2 : E j2 = some (.blk g 111 x.vs)) (hg : LW r m b) (hm : m ≤ 999999999999) (hb : b ≤ 4000000000000000000) (hx : x.Ok) (hs : x.s = false)
    (hR : ∀ w' X Y, St w0 F0 w' (upd (upd E i X) j2 Y) → Rd w' 1 A n (q.map vb)) (hn : n ≤ 281474976710656) :
    Calls Try.prog 29 #[lptr gm, l, .slice A n c] w fun e w' => e = .returned (.int .i64 0) ∧ St w0 F0 w' (upd (upd E i (led l (noteN r 3 200 ((x.p + n) / x.r)))) j2 (.blk g 111 (x.write q).vs)) := by
  have c0 := H.cell j hj (o := 0) rfl
  have c1 := H.cell j hj (o := 1) rfl
  have hc := spWrite_s l r m b g x A n c q H i j2 hij hi hj2 hg hm hb hx hs hR hn
  have HC := Lib.hid hc
  clear hc hi hj hj2 hR hg hm hb H hs hn hij hx
  go_enter Try.func29, Try.ntmps29
  go_wp2_with fail
  refine (kmNone_no gm S w c1 hS).mono ?_
  rintro e w1 ⟨rfl, rfl⟩
  unfold lptr at c0 ⊢
  go_wp2_with fail
  refine HC.out.mono ?_
  rintro e w2 ⟨rfl, H2⟩
  go_wp2
  go_ret
  exact ⟨rfl, H2⟩

set_option maxHeartbeats 1000000 in
theorem kmClone_s (gm g : Nat) (S : Int) (hS : (S == 0) = false) (x : Sp) (H : St w0 F0 w E) (j j2 k1 k2 : Nat) (hj : E j = some (.blk gm 79 (macV g S))) (hj2 : E j2 = some (.blk g 111 x.vs)) (hk1 : E k1 = none) (hk2 : E k2 = none) (hkk : k1 ≠ k2) (hx : x.Ok) :
    Calls Try.prog 31 #[lptr gm] w fun e w' => ∃ gm' g', e = .returned (.tuple #[lptr gm', .int .i64 0]) ∧ St w0 F0 w' (upd (upd E k2 (.blk g' 111 x.vs)) k1 (.blk gm' 79 (macV g' S))) := by
  have c0 := H.cell j hj (o := 0) rfl
  have c1 := H.cell j hj (o := 1) rfl
  have HJ := Lib.hid hj
  have HJ2 := Lib.hid hj2
  have HK1 := Lib.hid hk1
  have HK2 := Lib.hid hk2
  have HKK := Lib.hid hkk
  clear hj hj2 hk1 hk2 hkk
  go_enter Try.func31, Try.ntmps31
  go_wp2_with fail
  refine (kmNone_no gm S w c1 hS).mono ?_
  rintro e w1 ⟨rfl, rfl⟩
  unfold lptr at c0 ⊢
  go_wp2_with fail
  refine (spClone_s g x H j2 k2 HJ2.out HK2.out hx).mono ?_
  rintro e w2 ⟨g', rfl, H2⟩
  have hjk : upd E k2 (.blk g' 111 x.vs) j = some (.blk gm 79 (macV g S)) := by
    have : j ≠ k2 := fun e => by have h := HJ.out; rw [e, HK2.out] at h; cases h
    simp [upd, this, HJ.out]
  have d1 := H2.cell j hjk (o := 1) rfl
  clear c0 c1 H hjk
  unfold lptr
  go_wp2
  go_ret2
  exact ⟨_, _, rfl, H2.allocAt k1 (by simp [upd, HKK.out, HK1.out]) w2.heap.size rfl #[lptr g', .int .i64 S] 79⟩

theorem hold_store {P : Program} {ops : Array Oper} {rest : List Oper} {o : Oper} {a : Act} {Q : Exit → Act → World → Prop} {w : World} (ty : TypeId) (x y : Operand) (ho : o.op = .store ty x y) (h : Hid (wpList P ops Q (o :: rest) a w)) : wpList P ops Q (o :: rest) a w := h
theorem mac_size : (Try.prog.info? 79).map (·.size) = some 2 := by kernel_rfl
theorem zero_mac (w : World) : (zeroValue 79).run Try.prog w = .ok (.agg #[.pointer none, .int .i64 0]) w := by kernel_rfl

set_option maxHeartbeats 1000000 in
theorem kmWipe_s (l : Value) (r : Option (List RunT)) (m : Nat) (b : Int) (gm g : Nat) (S : Int) (hS : (S == 0) = false) (x : Sp) (H : St w0 F0 w E) (i j j2 : Nat) (hij : i ≠ j2) (hji : j ≠ i) (hjj : j ≠ j2) (hi : E i = some (led l r)) (hj : E j = some (.blk gm 79 (macV g S))) (hj2 : E j2 = some (.blk g 111 x.vs)) (hg : LW r m b) (hm : m ≤ 999999999999) (hb : b ≤ 4000000000000000000) (hx : x.Ok) :
    Calls Try.prog 32 #[lptr gm, l] w fun e w' => e = .returned (.int .i64 0) ∧ St w0 F0 w' (upd (upd (upd E i (led l (noteN r 8 203 1))) j2 (.blk g 111 spZero)) j (.blk gm 79 [.pointer none, .int .i64 0])) := by
  have c0 := H.cell j hj (o := 0) rfl
  have c1 := H.cell j hj (o := 1) rfl
  have hc := spWipe_s l r m b g x H i j2 hij hi hj2 hg hm hb hx
  have HC := Lib.hid hc
  have HJ := Lib.hid hj
  have HJI := Lib.hid hji
  have HJJ := Lib.hid hjj
  have hz := zero_mac
  clear hc hi hj hj2 hg hm hb H hij hx hji hjj
  go_enter Try.func32, Try.ntmps32
  go_wp2_with fail
  refine (kmNone_no gm S w c1 hS).mono ?_
  rintro e w1 ⟨rfl, rfl⟩
  unfold lptr at c0 ⊢
  go_wp2_with fail
  refine HC.out.mono ?_
  rintro e w2 ⟨rfl, H2⟩
  have hjk : upd (upd E i (led l (noteN r 8 203 1))) j2 (.blk g 111 spZero) j = some (.blk gm 79 (macV g S)) := by simp [upd, HJI.out, HJJ.out, HJ.out]
  have HJK := Lib.hid hjk
  clear hjk c0 c1
  go_wp2_with (with_reducible refine hold_store 79 (.tmp 16) (.tmp 15) (by rfl) ?_)
  refine Lib.hid ?_
  refine wpList_store_mid rfl 79 (.tmp 16) (.tmp 15) rfl gm 0 #[.pointer none, .int .i64 0] rfl rfl (by have h := H2.there j HJK.out; exact h) (by rw [mac_size]; rfl) (by kernel_rfl) ?_
  have H4 := H2.storeAll j HJK.out (vs := [.pointer none, .int .i64 0]) rfl
  show wpList Try.prog _ _ [] _ (w2.setCells gm 0 [.pointer none, .int .i64 0])
  simp only [Act.put]
  go_wp2
  go_ret
  exact ⟨rfl, H4⟩

set_option maxHeartbeats 4000000 in
theorem kmSum_s (l : Value) (r : Option (List RunT)) (m : Nat) (b : Int) (gm g : Nat) (S : Int) (hS : (S == 0) = false) (x : Sp) (n : Nat) (N : Int) (hN : N = n) (xof : Bool) (H : St w0 F0 w E) (i j j2 k0 : Nat) (hij : i ≠ j2) (hi : E i = some (led l r)) (hj : E j = some (.blk gm 79 (macV g S))) (hj2 : E j2 = some (.blk g 111 x.vs)) (hk : E k0 = none) (hg : LW r m b) (hm : m ≤ 99999999999) (hb : b ≤ 3000000000000000000) (hx : x.Ok) (hs : x.s = false) (hn : n ≤ 65536) :
    Calls Try.prog 25 #[lptr gm, l, .int .i64 N, .bool xof] w fun e w' => ∃ v, e = .returned (.tuple #[v, .int .i64 0]) ∧ St w0 F0 w' (upd (upd (upd E i (led l (noteN r 3 200 (kmSumN x n (kmBits n xof))))) j2 (.blk g 111 x.vs)) k0 (.row 5 1 v n ((kmTag x n (kmBits n xof)).map vb))) := by
  subst hN
  have c0 := H.cell j hj (o := 0) rfl
  have c1 := H.cell j hj (o := 1) rfl
  obtain ⟨F, HF, -, -, hback⟩ := H.frame2 i j2 hij hi hj2
  have HB := Lib.hid hback
  have HKK := Lib.hid hk
  have HIJ := Lib.hid hij
  have HI := Lib.hid hi
  have HJ := Lib.hid hj2
  have HG := Lib.hid hg
  have HX := Lib.hid hx
  have HS := Lib.hid hs
  have H : St w F w (lay [led l r, .blk g 111 x.vs]) := HF.as2
  obtain ⟨B, hB⟩ : ∃ B, kmBits n xof = B := ⟨_, rfl⟩
  have hBb : B ≤ 524288 := by rw [← hB]; unfold kmBits; split <;> omega
  have HBB : Hid ((B : Int) = if xof then 0 else 8 * (n : Int)) := by unfold Hid; rw [← hB]; unfold kmBits; split <;> omega
  rw [hB]
  have hrl := rightI_le (B : Int) (by omega)
  have hxr := hx.r8
  have hxp := hx.pr
  have hxr2 := hx.r192
  have hq1 : (x.p + (rightI (B : Int)).length) / x.r ≤ 400 := Nat.le_trans (Nat.div_le_self _ _) (by omega)
  have HQ1 := Lib.hid hq1
  have HRL := Lib.hid hrl
  clear hback hi hj hj2 hk hij hg HF hx hs hB hxr hxp hxr2 hq1 hrl
  go_enter Try.func25, Try.ntmps25
  go_wp2_with fail
  refine (kmNone_no gm S w c1 hS).mono ?_
  rintro e w1 ⟨rfl, rfl⟩
  unfold lptr at c0 ⊢
  have hn0 : decide ((n : Int) < 0) = false := by simp
  have hn1 : decide ((n : Int) > 65536) = false := by simp; omega
  have hn2 : ¬ (n : Int) < 0 := by omega
  have hn3 : ¬ (n : Int) > 65536 := by omega
  go_wp2_with fail
  refine (spClone_s g x H 1 2 rfl rfl HX.out).mono ?_
  rintro e w2 ⟨g', rfl, H1⟩
  replace H : St w F w2 (lay [led l r, .blk g 111 x.vs, .blk g' 111 x.vs]) := H1.push_mk rfl
  clear H1 c0 c1
  unfold lptr
  have HE := Lib.hid (kmEnd_ok B HX.out HS.out)
  cases xof with
  | false =>
    have HB2 : Hid (8 * (n : Int) = (B : Int)) := by unfold Hid; rw [HBB.out]; rfl
    clear HBB
    go_wp2_with fail
    rw [HB2.out]
    refine (right_s (B : Int) w2 (by omega)).mono ?_
    rintro e w3 ⟨v3, rfl, ho, hb3⟩
    unfold OwnB at ho
    replace H := (H.pushRow 3 rfl hb3 ho).push_mk rfl
    clear ho hb3
    obtain ⟨A3, c3, rfl, -, -⟩ := row_form (H.row 3 rfl)
    go_wp2_with fail
    refine (spWrite_s l r m b g' x A3 (rightI (B : Int)).length c3 (rightI (B : Int)) H 0 2 (by omega) rfl rfl HG.out (by omega) (by omega) HX.out HS.out (fun w' X Y h => h.rd 3 rfl) (by have := HRL.out; omega)).mono ?_
    rintro e w4 ⟨rfl, H1⟩
    rw [upd_laid (by simp), upd_laid (by simp)] at H1
    replace H : St w F w4 (lay [led l (noteN r 3 200 ((x.p + (rightI (B : Int)).length) / x.r)), .blk g 111 x.vs, .blk g' 111 (kmEnd x B).vs]) := H1.front 3
    clear H1
    go_wp2_with fail
    refine (spRead_s l _ (m + 1) (b + ((x.p + (rightI (B : Int)).length) / x.r : Nat)) g' (kmEnd x B) n (n : Int) rfl H 0 2 3 (by omega) rfl rfl rfl (HG.out.noteN 3 200 _) (by omega) (by have := HQ1.out; omega) HE.out.1 hn).mono ?_
    rintro e w5 ⟨v5, rfl, H1⟩
    rw [upd_laid (by simp), upd_laid (by simp), noteN_noteN] at H1
    replace H1 := H1.push_mk rfl
    clear H
    have H : St w F w5 (lay [led l (noteN r 3 200 (kmSumN x n B)), .blk g 111 x.vs, .row 5 1 v5 n ((kmTag x n B).map vb)]) := H1.permS [0, 1, 3] 3 rfl (by decide) (fun i hi => by
      match i, hi with
      | 0, _ => rfl
      | 1, _ => rfl
      | 2, _ => rfl)
    clear H1
    go_wp2
    go_ret2
    exact ⟨_, rfl, St.two_more HIJ.out HI.out HJ.out HKK.out HB.out H⟩
  | true =>
    have HB2 : Hid ((0 : Int) = (B : Int)) := by unfold Hid; rw [HBB.out]; rfl
    clear HBB
    go_wp2_with fail
    rw [HB2.out]
    refine (right_s (B : Int) w2 (by omega)).mono ?_
    rintro e w3 ⟨v3, rfl, ho, hb3⟩
    unfold OwnB at ho
    replace H := (H.pushRow 3 rfl hb3 ho).push_mk rfl
    clear ho hb3
    obtain ⟨A3, c3, rfl, -, -⟩ := row_form (H.row 3 rfl)
    go_wp2_with fail
    refine (spWrite_s l r m b g' x A3 (rightI (B : Int)).length c3 (rightI (B : Int)) H 0 2 (by omega) rfl rfl HG.out (by omega) (by omega) HX.out HS.out (fun w' X Y h => h.rd 3 rfl) (by have := HRL.out; omega)).mono ?_
    rintro e w4 ⟨rfl, H1⟩
    rw [upd_laid (by simp), upd_laid (by simp)] at H1
    replace H : St w F w4 (lay [led l (noteN r 3 200 ((x.p + (rightI (B : Int)).length) / x.r)), .blk g 111 x.vs, .blk g' 111 (kmEnd x B).vs]) := H1.front 3
    clear H1
    go_wp2_with fail
    refine (spRead_s l _ (m + 1) (b + ((x.p + (rightI (B : Int)).length) / x.r : Nat)) g' (kmEnd x B) n (n : Int) rfl H 0 2 3 (by omega) rfl rfl rfl (HG.out.noteN 3 200 _) (by omega) (by have := HQ1.out; omega) HE.out.1 hn).mono ?_
    rintro e w5 ⟨v5, rfl, H1⟩
    rw [upd_laid (by simp), upd_laid (by simp), noteN_noteN] at H1
    replace H1 := H1.push_mk rfl
    clear H
    have H : St w F w5 (lay [led l (noteN r 3 200 (kmSumN x n B)), .blk g 111 x.vs, .row 5 1 v5 n ((kmTag x n B).map vb)]) := H1.permS [0, 1, 3] 3 rfl (by decide) (fun i hi => by
      match i, hi with
      | 0, _ => rfl
      | 1, _ => rfl
      | 2, _ => rfl)
    clear H1
    go_wp2
    go_ret2
    exact ⟨_, rfl, St.two_more HIJ.out HI.out HJ.out HKK.out HB.out H⟩

set_option maxHeartbeats 4000000 in
theorem kmNew_s (l : Value) (r : Option (List RunT)) (m : Nat) (b : Int) (S : Int) (R : Nat) (hS : (S = 128 ∧ R = 168) ∨ (S = 256 ∧ R = 136)) (A B : Option Addr) (n nc c d : Nat) (key cus : List UInt8) (H : St w0 F0 w E) (i k1 k2 : Nat) (hi : E i = some (led l r)) (hk1 : E k1 = none) (hk2 : E k2 = none) (hkk : k1 ≠ k2) (hg : LW r m b) (hm : m ≤ 99999999) (hb : b ≤ 100000000000000000)
    (hA : ∀ w' X, St w0 F0 w' (upd E i X) → Rd w' 1 A n (key.map vb)) (hB : ∀ w' X, St w0 F0 w' (upd E i X) → Rd w' 1 B nc (cus.map vb)) (hn : n ≤ 1900000) (hnc : nc ≤ 1900000) :
    Calls Try.prog 24 #[l, .int .i64 S, .slice A n c, .slice B nc d] w fun e w' => ∃ gm g, e = .returned (.tuple #[lptr gm, .int .i64 0]) ∧ St w0 F0 w' (upd (upd (upd E i (led l (noteN r 3 200 (kmN R key cus)))) k2 (.blk g 111 (kmSp R key cus).vs)) k1 (.blk gm 79 (macV g S))) := by
  have hlk : key.length = n := by have h := (hA w _ (by rw [upd_id hi]; exact H)).1; simpa using h
  have hlc : cus.length = nc := by have h := (hB w _ (by rw [upd_id hi]; exact H)).1; simpa using h
  obtain ⟨F, HF, -, -, hback⟩ := H.frame1 i hi
  have HBK := Lib.hid hback
  have HRA : Hid (∀ w' X L, St w F w' (lay (X :: L)) → Rd w' 1 A n (key.map vb)) := fun w' X L h => hA w' X (hback w' X ((h.front 1).to1 rfl))
  have HRB : Hid (∀ w' X L, St w F w' (lay (X :: L)) → Rd w' 1 B nc (cus.map vb)) := fun w' X L h => hB w' X (hback w' X ((h.front 1).to1 rfl))
  have HI := Lib.hid hi
  have HK1 := Lib.hid hk1
  have HK2 := Lib.hid hk2
  have HKK := Lib.hid hkk
  have HG := Lib.hid hg
  have HS := Lib.hid hS
  have hR8 : 8 ≤ R := by omega
  have hR9 : R ≤ 192 := by omega
  have hRE : Hid (padE (R : Int) = 0) := by unfold Hid padE; rw [if_pos ⟨by omega, by omega⟩]
  have hSTR := strB_le (l := key) (by omega)
  have hPAD := padI_le (l := strB key) (W := (R : Int)) (by omega) (by omega) (by omega)
  have HBO := Lib.hid (beginSp_ok kmacB cus hR8 hR9)
  have H : St w F w (lay [led l r]) := HF.as1
  clear hback hi hk1 hk2 hkk hg hS hA hB HF
  have hcv := fun (w : World) (C : Array Value) (n c : Nat) => Lib.run_convert_bytes_const (P := Try.prog) w 22 5 C n c Try.underlying22 Try.underlying5
  go_enter Try.func24, Try.ntmps24
  go_wp2_with fail
  refine absorb_calls (H.litAt 1 rfl w.heap.size rfl _ _ _ |>.push_mk rfl) ?_
  clear H
  intro w1 H
  generalize w.heap.size = gL at H ⊢
  replace H : St w F w1 (lay [led l r, .lit gL 5 (kmacB.map vb) (4, 5)]) := H
  refine (shBegin_s l r m b S R HS.out (some ⟨gL, 0, none⟩) B 4 nc 4 d kmacB cus H 0 2 rfl rfl HG.out (by omega) (by omega) (fun w' X h => h.rdLit 1 rfl 1 4 rfl) (fun w' X h => HRB.out w' X _ (by rw [upd_laid (by simp)] at h; exact h)) (by omega) (by omega)).mono ?_
  rintro e w2 ⟨g, rfl, H1⟩
  rw [upd_laid (by simp)] at H1
  replace H : St w F w2 (lay [led l (noteN r 3 200 (beginN R kmacB cus)), .lit gL 5 (kmacB.map vb) (4, 5), .blk g 111 (beginSp R kmacB cus).vs]) := H1.push_mk rfl
  clear H1
  unfold lptr
  go_wp2_with fail
  refine (string_s A n c key w2 (HRA.out _ _ _ H) (by omega)).mono ?_
  rintro e w3 ⟨v3, rfl, ho, hb3⟩
  unfold OwnB at ho
  replace H := (H.pushRow 3 rfl hb3 ho).push_mk rfl
  clear ho hb3
  obtain ⟨A3, c3, rfl, -, -⟩ := row_form (H.row 3 rfl)
  go_wp2_with fail
  refine (spRate_s g (beginSp R kmacB cus) H 2 rfl HBO.out.1).mono ?_
  rintro e wx ⟨rfl, rfl⟩
  rw [HBO.out.2.2.1]
  go_wp2_with fail
  refine (pad_s A3 (strB key).length c3 (strB key) (R : Int) w3 (H.rd 3 rfl) (by omega)).mono ?_
  rintro e w4 ⟨v4, rfl, ho, hb4⟩
  unfold OwnB at ho
  rw [hRE.out]
  replace H := (H.pushRow 4 rfl hb4 ho).push_mk rfl
  clear ho hb4
  obtain ⟨A4, c4, rfl, -, -⟩ := row_form (H.row 4 rfl)
  have hq1 : beginN R kmacB cus ≤ 20000000 := by
    unfold beginN
    split
    · omega
    · refine Nat.le_trans (Nat.div_le_self _ _) ?_
      have h1 := strB_le (l := kmacB) (by decide)
      have h2 := strB_le (l := cus) (by omega)
      exact Nat.le_trans (padI_le (by omega) (by omega) (by rw [List.length_append]; omega)) (by omega)
  have HPD : Hid ((padI (strB key) (R : Int)).length ≤ 10001000) := hPAD
  clear hPAD hSTR
  go_wp2_with fail
  refine (spWrite_s l _ (m + 1) (b + (beginN R kmacB cus : Nat)) g (beginSp R kmacB cus) A4 (padI (strB key) (R : Int)).length c4 (padI (strB key) (R : Int)) H 0 2 (by omega) rfl rfl (HG.out.noteN 3 200 _) (by omega) (by omega) HBO.out.1 HBO.out.2.1 (fun w' X Y h => h.rd 4 rfl) (by have := HPD.out; omega)).mono ?_
  rintro e w5 ⟨rfl, H1⟩
  rw [upd_laid (by simp), upd_laid (by simp), noteN_noteN, HBO.out.2.2.1] at H1
  replace H : St w F w5 (lay [led l (noteN r 3 200 (kmN R key cus)), .lit gL 5 (kmacB.map vb) (4, 5), .blk g 111 (kmSp R key cus).vs]) := H1.front 3
  clear H1
  go_wp2
  go_ret2
  have H2 := (H.allocAt 3 rfl w5.heap.size rfl #[lptr g, .int .i64 S] 79).push_mk rfl
  refine ⟨_, _, rfl, St.one_two HI.out HK1.out HK2.out HKK.out HBK.out (H2.permS (L' := [led l (noteN r 3 200 (kmN R key cus)), .blk g 111 (kmSp R key cus).vs, .blk w5.heap.size 79 (macV g S)]) [0, 2, 3] 3 rfl (by decide) (fun i hi => by
    match i, hi with
    | 0, _ => rfl
    | 1, _ => rfl
    | 2, _ => rfl))⟩

theorem kmNew_no (l v1 v2 : Value) (S : Int) (hS : S ≠ 128 ∧ S ≠ 256) (w : World) :
    Calls Try.prog 24 #[l, .int .i64 S, v1, v2] w fun e w' => e = .returned (.tuple #[.pointer none, .int .i64 2]) ∧ Below w.heap.size w w' := by
  have H := St.start_lay w []
  have HS := Lib.hid hS
  clear hS
  have hcv := fun (w : World) (C : Array Value) (n c : Nat) => Lib.run_convert_bytes_const (P := Try.prog) w 22 5 C n c Try.underlying22 Try.underlying5
  go_enter Try.func24, Try.ntmps24
  go_wp2_with fail
  refine absorb_calls (H.litAt 0 rfl w.heap.size rfl _ _ _ |>.push_mk rfl) ?_
  clear H
  intro w1 H
  generalize w.heap.size = gL at H ⊢
  refine (shBegin_no l S _ v2 HS.out w1).mono ?_
  rintro e w2 ⟨rfl, rfl⟩
  go_wp2
  go_ret2
  exact ⟨rfl, H.below⟩

theorem kmN_le {R : Nat} (key cus : List UInt8) (h : 8 ≤ R) (h' : R ≤ 192) (hk : key.length ≤ 1900000) (hc : cus.length ≤ 1900000) : kmN R key cus ≤ 40000000 := by
  have hSTR := strB_le (l := key) (by omega)
  have hPAD := padI_le (l := strB key) (W := (R : Int)) (by omega) (by omega) (by omega)
  have hb : beginN R kmacB cus ≤ 20000000 := by
    unfold beginN
    split
    · omega
    · refine Nat.le_trans (Nat.div_le_self _ _) ?_
      have h1 := strB_le (l := kmacB) (by decide)
      have h2 := strB_le (l := cus) (by omega)
      exact Nat.le_trans (padI_le (by omega) (by omega) (by rw [List.length_append]; omega)) (by omega)
  obtain ⟨-, -, h3, h4⟩ := beginSp_ok kmacB cus h h'
  have h5 := Nat.div_le_self ((beginSp R kmacB cus).p + (kmPad R key).length) R
  have h6 : (kmPad R key).length ≤ 10001000 := hPAD
  unfold kmN
  omega

set_option maxHeartbeats 4000000 in
theorem kmTag_s (l : Value) (r : Option (List RunT)) (m : Nat) (b : Int) (S : Int) (R : Nat) (hS : (S = 128 ∧ R = 168) ∨ (S = 256 ∧ R = 136)) (A B C : Option Addr) (n nc np c d cp : Nat) (key cus p : List UInt8) (N : Nat) (xof : Bool) (H : St w0 F0 w E) (i k : Nat) (hi : E i = some (led l r)) (hk : E k = none) (hg : LW r m b) (hm : m ≤ 9999999) (hb : b ≤ 10000000000000000)
    (hA : ∀ w' X, St w0 F0 w' (upd E i X) → Rd w' 1 A n (key.map vb)) (hB : ∀ w' X, St w0 F0 w' (upd E i X) → Rd w' 1 B nc (cus.map vb)) (hC : ∀ w' X, St w0 F0 w' (upd E i X) → Rd w' 1 C np (p.map vb)) (hn : n ≤ 1900000) (hnc : nc ≤ 1900000) (hnp : np ≤ 100000000) (hN : N ≤ 65536) :
    Calls Try.prog 13 #[l, .int .i64 S, .slice A n c, .slice B nc d, .slice C np cp, .int .i64 (N : Int), .bool xof] w fun e w' => ∃ v, e = .returned (.tuple #[v, .int .i64 0]) ∧ St w0 F0 w' (upd (upd E i (led l (noteN r 3 200 (kmTagN R key cus p N xof)))) k (.row 5 1 v N ((kmTagB R key cus p N xof).map vb))) := by
  have hlp : p.length = np := by have h := (hC w _ (by rw [upd_id hi]; exact H)).1; simpa using h
  have hlcc : cus.length = nc := by have h := (hB w _ (by rw [upd_id hi]; exact H)).1; simpa using h
  have hlkk : key.length ≤ 1900000 := by have h := (hA w _ (by rw [upd_id hi]; exact H)).1; have h2 : key.length = n := (by simpa using h); rw [h2]; exact hn
  have HLP := Lib.hid hlp
  obtain ⟨F, HF, -, -, hback⟩ := H.frame1 i hi
  have HBK := Lib.hid hback
  have HRA : Hid (∀ w' X L, St w F w' (lay (X :: L)) → Rd w' 1 A n (key.map vb)) := fun w' X L h => hA w' X (hback w' X ((h.front 1).to1 rfl))
  have HRB : Hid (∀ w' X L, St w F w' (lay (X :: L)) → Rd w' 1 B nc (cus.map vb)) := fun w' X L h => hB w' X (hback w' X ((h.front 1).to1 rfl))
  have HRC : Hid (∀ w' X L, St w F w' (lay (X :: L)) → Rd w' 1 C np (p.map vb)) := fun w' X L h => hC w' X (hback w' X ((h.front 1).to1 rfl))
  have HI := Lib.hid hi
  have HK := Lib.hid hk
  have HG := Lib.hid hg
  have HS := Lib.hid hS
  have hS0 : (S == 0) = false := by simp; omega
  have hR8 : 8 ≤ R := by omega
  have hR9 : R ≤ 192 := by omega
  have HX := Lib.hid (kmSp_ok key cus hR8 hR9)
  have hkb : Hid (kmN R key cus ≤ 40000000) := kmN_le key cus (by omega) (by omega) hlkk (by rw [hlcc]; omega)
  have H : St w F w (lay [led l r]) := HF.as1
  clear hback hi hk hg hS hA hB hC HF hlp
  have hN0 : decide ((N : Int) < 0) = false := by simp
  have hN1 : decide ((N : Int) > 65536) = false := by simp; omega
  go_enter Try.func13, Try.ntmps13
  go_wp2_with fail
  refine (kmNew_s l r m b S R HS.out A B n nc c d key cus H 0 2 1 rfl rfl rfl (by omega) HG.out (by omega) (by omega) (fun w' X h => HRA.out w' X _ (by rw [upd_laid (by simp)] at h; exact h)) (fun w' X h => HRB.out w' X _ (by rw [upd_laid (by simp)] at h; exact h)) hn hnc).mono ?_
  rintro e w1 ⟨gm, g, rfl, H1⟩
  clear H
  have H : St w F w1 (lay [led l (noteN r 3 200 (kmN R key cus)), .blk g 111 (kmSp R key cus).vs, .blk gm 79 (macV g S)]) := H1.env (fun n => by
    match n with
    | 0 => simp [upd, lay]
    | 1 => simp [upd, lay]
    | 2 => simp [upd, lay]
    | n + 3 => simp [upd, lay])
  clear H1
  have hc1 : Hid (((kmSp R key cus).p + np) / R ≤ 100000200) := by have h1 := Nat.div_le_self ((kmSp R key cus).p + np) R; have h2 := HX.out.2.2.2; unfold Hid; omega
  have HY : Hid (((kmSp R key cus).write p).Ok) := (Sp.write_ok p HX.out.1 (by rw [HX.out.2.2.1]; exact HX.out.2.2.2)).1
  have HYS : Hid (((kmSp R key cus).write p).s = false) := by have h := (Sp.write_r p (kmSp R key cus)).2.2; unfold Hid; rw [h]; exact HX.out.2.1
  have HS0 := Lib.hid hS0
  clear hS0
  unfold lptr
  go_wp2_with fail
  refine (kmWrite_s l _ (m + 1) (b + (kmN R key cus : Nat)) gm g S HS0.out (kmSp R key cus) C np cp p H 0 2 1 (by omega) rfl rfl rfl (HG.out.noteN 3 200 _) (by omega) (by have := hkb.out; omega) HX.out.1 HX.out.2.1 (fun w' X Y h => HRC.out w' X _ (by rw [upd_laid (by simp), upd_laid (by simp)] at h; exact h)) (by omega)).mono ?_
  rintro e w2 ⟨rfl, H1⟩
  rw [upd_laid (by simp), upd_laid (by simp), noteN_noteN, HX.out.2.2.1] at H1
  clear H
  have H : St w F w2 (lay [led l (noteN r 3 200 (kmN R key cus + ((kmSp R key cus).p + np) / R)), .blk g 111 ((kmSp R key cus).write p).vs, .blk gm 79 (macV g S)]) := H1
  clear H1
  go_wp2_with fail
  refine (kmSum_s l _ (m + 1) (b + (kmN R key cus + ((kmSp R key cus).p + np) / R : Nat)) gm g S HS0.out ((kmSp R key cus).write p) N (N : Int) rfl xof H 0 2 1 3 (by omega) rfl rfl rfl rfl (HG.out.noteN 3 200 _) (by omega) (by have := hkb.out; have := hc1.out; omega) HY.out HYS.out hN).mono ?_
  rintro e w3 ⟨v, rfl, H1⟩
  rw [upd_laid (by simp), upd_laid (by simp), noteN_noteN] at H1
  replace H1 := H1.push_mk rfl
  clear H
  have HTN : Hid (kmTagN R key cus p N xof = kmN R key cus + ((kmSp R key cus).p + np) / R + kmSumN ((kmSp R key cus).write p) N (kmBits N xof)) := by unfold Hid kmTagN; rw [HLP.out, Nat.add_assoc]
  have H : St w F w3 (lay [led l (noteN r 3 200 (kmTagN R key cus p N xof)), .row 5 1 v N ((kmTagB R key cus p N xof).map vb)]) := by rw [HTN.out]; exact H1.permS [0, 3] 2 rfl (by decide) (fun i hi => by
    match i, hi with
    | 0, _ => rfl
    | 1, _ => rfl)
  clear H1
  go_wp2
  go_ret2
  exact ⟨_, rfl, St.one_more HI.out HK.out HBK.out H⟩

set_option maxHeartbeats 1000000 in
theorem kmTag_len (l v1 v2 v3 : Value) (S N : Int) (hN : N < 0 ∨ N > 65536) (xof : Bool) (w : World) :
    Calls Try.prog 13 #[l, .int .i64 S, v1, v2, v3, .int .i64 N, .bool xof] w fun e w' => e = .returned (.tuple #[.slice none 0 0, .int .i64 2]) ∧ w' = w := by
  by_cases h0 : N < 0
  · have hN0 : decide (N < 0) = true := by simpa using h0
    clear hN h0
    go_enter Try.func13, Try.ntmps13
    go_wp2
    go_ret2
    exact ⟨rfl, rfl⟩
  · have hN0 : decide (N < 0) = false := by simpa using h0
    have hN1 : decide (N > 65536) = true := by simp; omega
    clear hN h0
    go_enter Try.func13, Try.ntmps13
    go_wp2
    go_ret2
    exact ⟨rfl, rfl⟩

set_option maxHeartbeats 1000000 in
theorem kmTag_no (l v1 v2 v3 : Value) (S N : Int) (hS : S ≠ 128 ∧ S ≠ 256) (hN : 0 ≤ N ∧ N ≤ 65536) (xof : Bool) (w : World) :
    Calls Try.prog 13 #[l, .int .i64 S, v1, v2, v3, .int .i64 N, .bool xof] w fun e w' => e = .returned (.tuple #[.slice none 0 0, .int .i64 2]) ∧ Below w.heap.size w w' := by
  have hN0 : decide (N < 0) = false := by simp; omega
  have hN1 : decide (N > 65536) = false := by simp; omega
  have HS := Lib.hid hS
  clear hS hN
  go_enter Try.func13, Try.ntmps13
  go_wp2_with fail
  refine (kmNew_no l v1 v2 S HS.out w).mono ?_
  rintro e w1 ⟨rfl, hb⟩
  have HB := Lib.hid hb
  clear hb
  go_wp2
  go_ret2
  exact ⟨rfl, HB.out⟩
end
end Go.Proofs.Ythoopaknldkclaa

namespace Go.Proofs.Ythoopaknldkclaa
open Go.RowKit
set_option linter.unusedVariables false
set_option maxRecDepth 100000

attribute [local irreducible] permB kBytes kPerm kFrom

/-- nil, or a Mac that nobody made -/
def RkNo (w : World) (s : Value) : Prop := s = .pointer none ∨ ∃ g, s = lptr g ∧ w.cell? ⟨g, 0, none⟩ = some (.pointer none)

section
variable {w0 w : World} {F0 : List Nat} {E : Env}

theorem rkNone_no (gm g : Nat) (w : World) (hc : w.cell? ⟨gm, 0, none⟩ = some (lptr g)) :
    Calls Try.prog 65 #[lptr gm] w fun e w' => e = .returned (.bool false) ∧ w = w' := by
  unfold lptr at hc ⊢
  go_enter Try.func65, Try.ntmps65
  go_wp2
  go_ret
  exact ⟨rfl, rfl⟩
theorem rkNone_nil (w : World) : Calls Try.prog 65 #[.pointer none] w fun e w' => e = .returned (.bool true) ∧ w = w' := by
  go_enter Try.func65, Try.ntmps65
  go_wp2
  go_ret
  exact ⟨rfl, rfl⟩
theorem rkNone_off (g : Nat) (w : World) (hc : w.cell? ⟨g, 0, none⟩ = some (.pointer none)) :
    Calls Try.prog 65 #[lptr g] w fun e w' => e = .returned (.bool true) ∧ w = w' := by
  unfold lptr
  go_enter Try.func65, Try.ntmps65
  go_wp2
  go_ret
  exact ⟨rfl, rfl⟩

theorem rkSum_none (l : Value) (n : Int) (b : Bool) (s : Value) (h : RkNo w s) : Calls Try.prog 42 #[s, l, .int .i64 n, .bool b] w fun e w' => e = .returned (.tuple #[.slice none 0 0, .int .i64 1]) ∧ w = w' := by
  rcases h with rfl | ⟨g, rfl, c0⟩
  · go_enter Try.func42, Try.ntmps42
    go_wp2_with fail
    refine (rkNone_nil w).mono ?_
    rintro e w1 ⟨rfl, rfl⟩
    go_wp2
    go_ret2
    exact ⟨rfl, rfl⟩
  · go_enter Try.func42, Try.ntmps42
    go_wp2_with fail
    refine (rkNone_off g w c0).mono ?_
    rintro e w1 ⟨rfl, rfl⟩
    go_wp2
    go_ret2
    exact ⟨rfl, rfl⟩

theorem rkClone_none (s : Value) (h : RkNo w s) : Calls Try.prog 56 #[s] w fun e w' => e = .returned (.tuple #[.pointer none, .int .i64 1]) ∧ w = w' := by
  rcases h with rfl | ⟨g, rfl, c0⟩
  · go_enter Try.func56, Try.ntmps56
    go_wp2_with fail
    refine (rkNone_nil w).mono ?_
    rintro e w1 ⟨rfl, rfl⟩
    go_wp2
    go_ret2
    exact ⟨rfl, rfl⟩
  · go_enter Try.func56, Try.ntmps56
    go_wp2_with fail
    refine (rkNone_off g w c0).mono ?_
    rintro e w1 ⟨rfl, rfl⟩
    go_wp2
    go_ret2
    exact ⟨rfl, rfl⟩

theorem rkWrite_none (l v s : Value) (h : RkNo w s) : Calls Try.prog 41 #[s, l, v] w fun e w' => e = .returned (.int .i64 1) ∧ w = w' := by
  rcases h with rfl | ⟨g, rfl, c0⟩
  · go_enter Try.func41, Try.ntmps41
    go_wp2_with fail
    refine (rkNone_nil w).mono ?_
    rintro e w1 ⟨rfl, rfl⟩
    go_wp2
    go_ret
    exact ⟨rfl, rfl⟩
  · go_enter Try.func41, Try.ntmps41
    go_wp2_with fail
    refine (rkNone_off g w c0).mono ?_
    rintro e w1 ⟨rfl, rfl⟩
    go_wp2
    go_ret
    exact ⟨rfl, rfl⟩

theorem rkWipe_none (l s : Value) (h : RkNo w s) : Calls Try.prog 57 #[s, l] w fun e w' => e = .returned (.int .i64 1) ∧ w = w' := by
  rcases h with rfl | ⟨g, rfl, c0⟩
  · go_enter Try.func57, Try.ntmps57
    go_wp2_with fail
    refine (rkNone_nil w).mono ?_
    rintro e w1 ⟨rfl, rfl⟩
    go_wp2
    go_ret
    exact ⟨rfl, rfl⟩
  · go_enter Try.func57, Try.ntmps57
    go_wp2_with fail
    refine (rkNone_off g w c0).mono ?_
    rintro e w1 ⟨rfl, rfl⟩
    go_wp2
    go_ret
    exact ⟨rfl, rfl⟩

theorem rkForm_none (s : Value) (h : RkNo w s) : Calls Try.prog 58 #[s] w fun e w' => e = .returned (.slice none 0 0) ∧ w = w' := by
  rcases h with rfl | ⟨g, rfl, c0⟩
  · go_enter Try.func58, Try.ntmps58
    go_wp2_with fail
    refine (rkNone_nil w).mono ?_
    rintro e w1 ⟨rfl, rfl⟩
    go_wp2
    go_ret
    exact ⟨rfl, rfl⟩
  · go_enter Try.func58, Try.ntmps58
    go_wp2_with fail
    refine (rkNone_off g w c0).mono ?_
    rintro e w1 ⟨rfl, rfl⟩
    go_wp2
    go_ret
    exact ⟨rfl, rfl⟩

theorem rkStrength_none (s : Value) (h : RkNo w s) : Calls Try.prog 59 #[s] w fun e w' => e = .returned (.int .i64 0) ∧ w = w' := by
  rcases h with rfl | ⟨g, rfl, c0⟩
  · go_enter Try.func59, Try.ntmps59
    go_wp2_with fail
    refine (rkNone_nil w).mono ?_
    rintro e w1 ⟨rfl, rfl⟩
    go_wp2
    go_ret
    exact ⟨rfl, rfl⟩
  · go_enter Try.func59, Try.ntmps59
    go_wp2_with fail
    refine (rkNone_off g w c0).mono ?_
    rintro e w1 ⟨rfl, rfl⟩
    go_wp2
    go_ret
    exact ⟨rfl, rfl⟩

theorem rkStrength_s (gm g : Nat) (S : Int) (H : St w0 F0 w E) (j : Nat) (hj : E j = some (.blk gm 105 (macV g S))) :
    Calls Try.prog 59 #[lptr gm] w fun e w' => e = .returned (.int .i64 S) ∧ w = w' := by
  have c0 := H.cell j hj (o := 0) rfl
  have c1 := H.cell j hj (o := 1) rfl
  go_enter Try.func59, Try.ntmps59
  go_wp2_with fail
  refine (rkNone_no gm _ w c0).mono ?_
  rintro e w1 ⟨rfl, rfl⟩
  unfold lptr at c1 ⊢
  go_wp2
  go_ret
  exact ⟨rfl, rfl⟩

theorem rkForm_s (gm g : Nat) (S : Int) (hS : (S == 0) = false) (x : Sp) (H : St w0 F0 w E) (j j2 k : Nat) (hj : E j = some (.blk gm 105 (macV g S))) (hj2 : E j2 = some (.blk g 118 x.vsR)) (hk : E k = none) (hx : x.Ok) :
    Calls Try.prog 58 #[lptr gm] w fun e w' => ∃ v, e = .returned v ∧ St w0 F0 w' (upd E k (.row 5 1 v 203 (x.form.map vb))) := by
  have c0 := H.cell j hj (o := 0) rfl
  have c1 := H.cell j hj (o := 1) rfl
  have HJ := Lib.hid hj2
  have HK := Lib.hid hk
  clear hj hj2 hk
  go_enter Try.func58, Try.ntmps58
  go_wp2_with fail
  refine (rkNone_no gm _ w c0).mono ?_
  rintro e w1 ⟨rfl, rfl⟩
  unfold lptr at c0 ⊢
  go_wp2_with fail
  refine (rsForm_s g x H j2 k HJ.out HK.out hx).mono ?_
  rintro e w2 ⟨v, rfl, H2⟩
  go_wp2
  go_ret
  exact ⟨_, rfl, H2⟩

theorem rkWrite_s (l : Value) (r : Option (List RunT)) (m : Nat) (b : Int) (gm g : Nat) (S : Int) (hS : (S == 0) = false) (x : Sp) (A : Option Addr) (n c : Nat) (q : List UInt8) (H : St w0 F0 w E) (i j j2 : Nat) (hij : i ≠ j2) (hi : E i = some (ledR l r)) (hj : E j = some (.blk gm 105 (macV g S))) (hj2 : E j2 = some (.blk g 118 x.vsR)) (hg : LW r m b) (hm : m ≤ 999999999999) (hb : b ≤ 4000000000000000000) (hx : x.Ok) (hs : x.s = false)
    (hR : ∀ w' X Y, St w0 F0 w' (upd (upd E i X) j2 Y) → Rd w' 1 A n (q.map vb)) (hn : n ≤ 281474976710656) :
    Calls Try.prog 41 #[lptr gm, l, .slice A n c] w fun e w' => e = .returned (.int .i64 0) ∧ St w0 F0 w' (upd (upd E i (ledR l (noteN r 3 200 ((x.p + n) / x.r)))) j2 (.blk g 118 (x.write q).vsR)) := by
  have c0 := H.cell j hj (o := 0) rfl
  have c1 := H.cell j hj (o := 1) rfl
  have hc := rsWrite_s l r m b g x A n c q H i j2 hij hi hj2 hg hm hb hx hs hR hn
  have HC := Lib.hid hc
  clear hc hi hj hj2 hR hg hm hb H hs hn hij hx
  go_enter Try.func41, Try.ntmps41
  go_wp2_with fail
  refine (rkNone_no gm _ w c0).mono ?_
  rintro e w1 ⟨rfl, rfl⟩
  unfold lptr at c0 ⊢
  go_wp2_with fail
  refine HC.out.mono ?_
  rintro e w2 ⟨rfl, H2⟩
  go_wp2
  go_ret
  exact ⟨rfl, H2⟩

set_option maxHeartbeats 1000000 in
theorem rkClone_s (gm g : Nat) (S : Int) (hS : (S == 0) = false) (x : Sp) (H : St w0 F0 w E) (j j2 k1 k2 : Nat) (hj : E j = some (.blk gm 105 (macV g S))) (hj2 : E j2 = some (.blk g 118 x.vsR)) (hk1 : E k1 = none) (hk2 : E k2 = none) (hkk : k1 ≠ k2) (hx : x.Ok) :
    Calls Try.prog 56 #[lptr gm] w fun e w' => ∃ gm' g', e = .returned (.tuple #[lptr gm', .int .i64 0]) ∧ St w0 F0 w' (upd (upd E k2 (.blk g' 118 x.vsR)) k1 (.blk gm' 105 (macV g' S))) := by
  have c0 := H.cell j hj (o := 0) rfl
  have c1 := H.cell j hj (o := 1) rfl
  have HJ := Lib.hid hj
  have HJ2 := Lib.hid hj2
  have HK1 := Lib.hid hk1
  have HK2 := Lib.hid hk2
  have HKK := Lib.hid hkk
  clear hj hj2 hk1 hk2 hkk
  go_enter Try.func56, Try.ntmps56
  go_wp2_with fail
  refine (rkNone_no gm _ w c0).mono ?_
  rintro e w1 ⟨rfl, rfl⟩
  unfold lptr at c0 ⊢
  go_wp2_with fail
  refine (rsClone_s g x H j2 k2 HJ2.out HK2.out hx).mono ?_
  rintro e w2 ⟨g', rfl, H2⟩
  have hjk : upd E k2 (.blk g' 118 x.vsR) j = some (.blk gm 105 (macV g S)) := by
    have : j ≠ k2 := fun e => by have h := HJ.out; rw [e, HK2.out] at h; cases h
    simp [upd, this, HJ.out]
  have d1 := H2.cell j hjk (o := 1) rfl
  clear c0 c1 H hjk
  unfold lptr
  go_wp2
  go_ret2
  exact ⟨_, _, rfl, H2.allocAt k1 (by simp [upd, HKK.out, HK1.out]) w2.heap.size rfl #[lptr g', .int .i64 S] 105⟩

theorem rmac_size : (Try.prog.info? 105).map (·.size) = some 2 := by kernel_rfl
theorem zero_rmac (w : World) : (zeroValue 105).run Try.prog w = .ok (.agg #[.pointer none, .int .i64 0]) w := by kernel_rfl

set_option maxHeartbeats 1000000 in
theorem rkWipe_s (l : Value) (r : Option (List RunT)) (m : Nat) (b : Int) (gm g : Nat) (S : Int) (hS : (S == 0) = false) (x : Sp) (H : St w0 F0 w E) (i j j2 : Nat) (hij : i ≠ j2) (hji : j ≠ i) (hjj : j ≠ j2) (hi : E i = some (ledR l r)) (hj : E j = some (.blk gm 105 (macV g S))) (hj2 : E j2 = some (.blk g 118 x.vsR)) (hg : LW r m b) (hm : m ≤ 999999999999) (hb : b ≤ 4000000000000000000) (hx : x.Ok) :
    Calls Try.prog 57 #[lptr gm, l] w fun e w' => e = .returned (.int .i64 0) ∧ St w0 F0 w' (upd (upd (upd E i (ledR l (noteN r 8 203 1))) j2 (.blk g 118 spZeroR)) j (.blk gm 105 [.pointer none, .int .i64 0])) := by
  have c0 := H.cell j hj (o := 0) rfl
  have c1 := H.cell j hj (o := 1) rfl
  have hc := rsWipe_s l r m b g x H i j2 hij hi hj2 hg hm hb hx
  have HC := Lib.hid hc
  have HJ := Lib.hid hj
  have HJI := Lib.hid hji
  have HJJ := Lib.hid hjj
  have hz := zero_rmac
  clear hc hi hj hj2 hg hm hb H hij hx hji hjj
  go_enter Try.func57, Try.ntmps57
  go_wp2_with fail
  refine (rkNone_no gm _ w c0).mono ?_
  rintro e w1 ⟨rfl, rfl⟩
  unfold lptr at c0 ⊢
  go_wp2_with fail
  refine HC.out.mono ?_
  rintro e w2 ⟨rfl, H2⟩
  have hjk : upd (upd E i (ledR l (noteN r 8 203 1))) j2 (.blk g 118 spZeroR) j = some (.blk gm 105 (macV g S)) := by simp [upd, HJI.out, HJJ.out, HJ.out]
  have HJK := Lib.hid hjk
  clear hjk c0 c1
  go_wp2_with (with_reducible refine hold_store 105 (.tmp 15) (.tmp 14) (by rfl) ?_)
  refine Lib.hid ?_
  refine wpList_store_mid rfl 105 (.tmp 15) (.tmp 14) rfl gm 0 #[.pointer none, .int .i64 0] rfl rfl (by have h := H2.there j HJK.out; exact h) (by rw [rmac_size]; rfl) (by kernel_rfl) ?_
  have H4 := H2.storeAll j HJK.out (vs := [.pointer none, .int .i64 0]) rfl
  show wpList Try.prog _ _ [] _ (w2.setCells gm 0 [.pointer none, .int .i64 0])
  simp only [Act.put]
  go_wp2
  go_ret
  exact ⟨rfl, H4⟩

set_option maxHeartbeats 4000000 in
theorem rkSum_s (l : Value) (r : Option (List RunT)) (m : Nat) (b : Int) (gm g : Nat) (S : Int) (hS : (S == 0) = false) (x : Sp) (n : Nat) (N : Int) (hN : N = n) (xof : Bool) (H : St w0 F0 w E) (i j j2 k0 : Nat) (hij : i ≠ j2) (hi : E i = some (ledR l r)) (hj : E j = some (.blk gm 105 (macV g S))) (hj2 : E j2 = some (.blk g 118 x.vsR)) (hk : E k0 = none) (hg : LW r m b) (hm : m ≤ 99999999999) (hb : b ≤ 3000000000000000000) (hx : x.Ok) (hs : x.s = false) (hn : n ≤ 65536) :
    Calls Try.prog 42 #[lptr gm, l, .int .i64 N, .bool xof] w fun e w' => ∃ v, e = .returned (.tuple #[v, .int .i64 0]) ∧ St w0 F0 w' (upd (upd (upd E i (ledR l (noteN r 3 200 (kmSumN x n (kmBits n xof))))) j2 (.blk g 118 x.vsR)) k0 (.row 5 1 v n ((kmTag x n (kmBits n xof)).map vb))) := by
  subst hN
  have c0 := H.cell j hj (o := 0) rfl
  have c1 := H.cell j hj (o := 1) rfl
  obtain ⟨F, HF, -, -, hback⟩ := H.frame2 i j2 hij hi hj2
  have HB := Lib.hid hback
  have HKK := Lib.hid hk
  have HIJ := Lib.hid hij
  have HI := Lib.hid hi
  have HJ := Lib.hid hj2
  have HG := Lib.hid hg
  have HX := Lib.hid hx
  have HS := Lib.hid hs
  have H : St w F w (lay [ledR l r, .blk g 118 x.vsR]) := HF.as2
  obtain ⟨B, hB⟩ : ∃ B, kmBits n xof = B := ⟨_, rfl⟩
  have hBb : B ≤ 524288 := by rw [← hB]; unfold kmBits; split <;> omega
  have HBB : Hid ((B : Int) = if xof then 0 else 8 * (n : Int)) := by unfold Hid; rw [← hB]; unfold kmBits; split <;> omega
  rw [hB]
  have hrl := rightI_le (B : Int) (by omega)
  have hxr := hx.r8
  have hxp := hx.pr
  have hxr2 := hx.r192
  have hq1 : (x.p + (rightI (B : Int)).length) / x.r ≤ 400 := Nat.le_trans (Nat.div_le_self _ _) (by omega)
  have HQ1 := Lib.hid hq1
  have HRL := Lib.hid hrl
  clear hback hi hj hj2 hk hij hg HF hx hs hB hxr hxp hxr2 hq1 hrl
  go_enter Try.func42, Try.ntmps42
  go_wp2_with fail
  refine (rkNone_no gm _ w c0).mono ?_
  rintro e w1 ⟨rfl, rfl⟩
  unfold lptr at c0 ⊢
  have hn0 : decide ((n : Int) < 0) = false := by simp
  have hn1 : decide ((n : Int) > 65536) = false := by simp; omega
  have hn2 : ¬ (n : Int) < 0 := by omega
  have hn3 : ¬ (n : Int) > 65536 := by omega
  go_wp2_with fail
  refine (rsClone_s g x H 1 2 rfl rfl HX.out).mono ?_
  rintro e w2 ⟨g', rfl, H1⟩
  replace H : St w F w2 (lay [ledR l r, .blk g 118 x.vsR, .blk g' 118 x.vsR]) := H1.push_mk rfl
  clear H1 c0 c1
  unfold lptr
  have HE := Lib.hid (kmEnd_ok B HX.out HS.out)
  cases xof with
  | false =>
    have HB2 : Hid (8 * (n : Int) = (B : Int)) := by unfold Hid; rw [HBB.out]; rfl
    clear HBB
    go_wp2_with fail
    rw [HB2.out]
    refine (refRight_s (B : Int) w2 (by omega)).mono ?_
    rintro e w3 ⟨v3, rfl, ho, hb3⟩
    unfold OwnB at ho
    replace H := (H.pushRow 3 rfl hb3 ho).push_mk rfl
    clear ho hb3
    obtain ⟨A3, c3, rfl, -, -⟩ := row_form (H.row 3 rfl)
    go_wp2_with fail
    refine (rsWrite_s l r m b g' x A3 (rightI (B : Int)).length c3 (rightI (B : Int)) H 0 2 (by omega) rfl rfl HG.out (by omega) (by omega) HX.out HS.out (fun w' X Y h => h.rd 3 rfl) (by have := HRL.out; omega)).mono ?_
    rintro e w4 ⟨rfl, H1⟩
    rw [upd_laid (by simp), upd_laid (by simp)] at H1
    replace H : St w F w4 (lay [ledR l (noteN r 3 200 ((x.p + (rightI (B : Int)).length) / x.r)), .blk g 118 x.vsR, .blk g' 118 (kmEnd x B).vsR]) := H1.front 3
    clear H1
    go_wp2_with fail
    refine (rsRead_s l _ (m + 1) (b + ((x.p + (rightI (B : Int)).length) / x.r : Nat)) g' (kmEnd x B) n (n : Int) rfl H 0 2 3 (by omega) rfl rfl rfl (HG.out.noteN 3 200 _) (by omega) (by have := HQ1.out; omega) HE.out.1 hn).mono ?_
    rintro e w5 ⟨v5, rfl, H1⟩
    rw [upd_laid (by simp), upd_laid (by simp), noteN_noteN] at H1
    replace H1 := H1.push_mk rfl
    clear H
    have H : St w F w5 (lay [ledR l (noteN r 3 200 (kmSumN x n B)), .blk g 118 x.vsR, .row 5 1 v5 n ((kmTag x n B).map vb)]) := H1.permS [0, 1, 3] 3 rfl (by decide) (fun i hi => by
      match i, hi with
      | 0, _ => rfl
      | 1, _ => rfl
      | 2, _ => rfl)
    clear H1
    go_wp2
    go_ret2
    exact ⟨_, rfl, St.two_more HIJ.out HI.out HJ.out HKK.out HB.out H⟩
  | true =>
    have HB2 : Hid ((0 : Int) = (B : Int)) := by unfold Hid; rw [HBB.out]; rfl
    clear HBB
    go_wp2_with fail
    rw [HB2.out]
    refine (refRight_s (B : Int) w2 (by omega)).mono ?_
    rintro e w3 ⟨v3, rfl, ho, hb3⟩
    unfold OwnB at ho
    replace H := (H.pushRow 3 rfl hb3 ho).push_mk rfl
    clear ho hb3
    obtain ⟨A3, c3, rfl, -, -⟩ := row_form (H.row 3 rfl)
    go_wp2_with fail
    refine (rsWrite_s l r m b g' x A3 (rightI (B : Int)).length c3 (rightI (B : Int)) H 0 2 (by omega) rfl rfl HG.out (by omega) (by omega) HX.out HS.out (fun w' X Y h => h.rd 3 rfl) (by have := HRL.out; omega)).mono ?_
    rintro e w4 ⟨rfl, H1⟩
    rw [upd_laid (by simp), upd_laid (by simp)] at H1
    replace H : St w F w4 (lay [ledR l (noteN r 3 200 ((x.p + (rightI (B : Int)).length) / x.r)), .blk g 118 x.vsR, .blk g' 118 (kmEnd x B).vsR]) := H1.front 3
    clear H1
    go_wp2_with fail
    refine (rsRead_s l _ (m + 1) (b + ((x.p + (rightI (B : Int)).length) / x.r : Nat)) g' (kmEnd x B) n (n : Int) rfl H 0 2 3 (by omega) rfl rfl rfl (HG.out.noteN 3 200 _) (by omega) (by have := HQ1.out; omega) HE.out.1 hn).mono ?_
    rintro e w5 ⟨v5, rfl, H1⟩
    rw [upd_laid (by simp), upd_laid (by simp), noteN_noteN] at H1
    replace H1 := H1.push_mk rfl
    clear H
    have H : St w F w5 (lay [ledR l (noteN r 3 200 (kmSumN x n B)), .blk g 118 x.vsR, .row 5 1 v5 n ((kmTag x n B).map vb)]) := H1.permS [0, 1, 3] 3 rfl (by decide) (fun i hi => by
      match i, hi with
      | 0, _ => rfl
      | 1, _ => rfl
      | 2, _ => rfl)
    clear H1
    go_wp2
    go_ret2
    exact ⟨_, rfl, St.two_more HIJ.out HI.out HJ.out HKK.out HB.out H⟩

theorem rkRate_s (S : Int) (R : Nat) (hS : (S = 128 ∧ R = 168) ∨ (S = 256 ∧ R = 136)) (w : World) :
    Calls Try.prog 63 #[.int .i64 S] w fun e w' => e = .returned (.int .i64 (R : Int)) ∧ w = w' := by
  rcases hS with ⟨rfl, rfl⟩ | ⟨rfl, rfl⟩
  · go_enter Try.func63, Try.ntmps63
    go_wp2
    go_ret
    exact ⟨rfl, rfl⟩
  · go_enter Try.func63, Try.ntmps63
    go_wp2
    go_ret
    exact ⟨rfl, rfl⟩

set_option maxHeartbeats 4000000 in
theorem rkNew_s (l : Value) (r : Option (List RunT)) (m : Nat) (b : Int) (S : Int) (R : Nat) (hS : (S = 128 ∧ R = 168) ∨ (S = 256 ∧ R = 136)) (A B : Option Addr) (n nc c d : Nat) (key cus : List UInt8) (H : St w0 F0 w E) (i k1 k2 : Nat) (hi : E i = some (ledR l r)) (hk1 : E k1 = none) (hk2 : E k2 = none) (hkk : k1 ≠ k2) (hg : LW r m b) (hm : m ≤ 99999999) (hb : b ≤ 100000000000000000)
    (hA : ∀ w' X, St w0 F0 w' (upd E i X) → Rd w' 1 A n (key.map vb)) (hB : ∀ w' X, St w0 F0 w' (upd E i X) → Rd w' 1 B nc (cus.map vb)) (hn : n ≤ 1900000) (hnc : nc ≤ 1900000) :
    Calls Try.prog 40 #[l, .int .i64 S, .slice A n c, .slice B nc d] w fun e w' => ∃ gm g, e = .returned (.tuple #[lptr gm, .int .i64 0]) ∧ St w0 F0 w' (upd (upd (upd E i (ledR l (noteN r 3 200 (kmN R key cus)))) k2 (.blk g 118 (kmSp R key cus).vsR)) k1 (.blk gm 105 (macV g S))) := by
  have hlk : key.length = n := by have h := (hA w _ (by rw [upd_id hi]; exact H)).1; simpa using h
  have hlc : cus.length = nc := by have h := (hB w _ (by rw [upd_id hi]; exact H)).1; simpa using h
  obtain ⟨F, HF, -, -, hback⟩ := H.frame1 i hi
  have HBK := Lib.hid hback
  have HRA : Hid (∀ w' X L, St w F w' (lay (X :: L)) → Rd w' 1 A n (key.map vb)) := fun w' X L h => hA w' X (hback w' X ((h.front 1).to1 rfl))
  have HRB : Hid (∀ w' X L, St w F w' (lay (X :: L)) → Rd w' 1 B nc (cus.map vb)) := fun w' X L h => hB w' X (hback w' X ((h.front 1).to1 rfl))
  have HI := Lib.hid hi
  have HK1 := Lib.hid hk1
  have HK2 := Lib.hid hk2
  have HKK := Lib.hid hkk
  have HG := Lib.hid hg
  have HS := Lib.hid hS
  have hR8 : 8 ≤ R := by omega
  have hR9 : R ≤ 192 := by omega
  have hRE : Hid (padE (R : Int) = 0) := by unfold Hid padE; rw [if_pos ⟨by omega, by omega⟩]
  have hSTR := strB_le (l := key) (by omega)
  have hPAD := padI_le (l := strB key) (W := (R : Int)) (by omega) (by omega) (by omega)
  have HBO := Lib.hid (beginSp_ok kmacB cus hR8 hR9)
  have H : St w F w (lay [ledR l r]) := HF.as1
  clear hback hi hk1 hk2 hkk hg hS hA hB HF
  have hcv := fun (w : World) (C : Array Value) (n c : Nat) => Lib.run_convert_bytes_const (P := Try.prog) w 22 5 C n c Try.underlying22 Try.underlying5
  have HRT : Hid (∀ w, Calls Try.prog 63 #[.int .i64 S] w fun e w' => e = .returned (.int .i64 (R : Int)) ∧ w = w') := fun w => rkRate_s S R HS.out w
  rcases HS.out with h | h
  · have e1 : (S != 128) = false := by rw [h.1]; rfl
    clear h
    go_enter Try.func40, Try.ntmps40
    go_wp2_with fail
    refine absorb_calls (H.litAt 1 rfl w.heap.size rfl _ _ _ |>.push_mk rfl) ?_
    clear H
    intro w1 H
    generalize w.heap.size = gL at H ⊢
    replace H : St w F w1 (lay [ledR l r, .lit gL 5 (kmacB.map vb) (4, 5)]) := H
    refine (rhBegin_s l r m b S R HS.out (some ⟨gL, 0, none⟩) B 4 nc 4 d kmacB cus H 0 2 rfl rfl HG.out (by omega) (by omega) (fun w' X h => h.rdLit 1 rfl 1 4 rfl) (fun w' X h => HRB.out w' X _ (by rw [upd_laid (by simp)] at h; exact h)) (by omega) (by omega)).mono ?_
    rintro e w2 ⟨g, rfl, H1⟩
    rw [upd_laid (by simp)] at H1
    replace H : St w F w2 (lay [ledR l (noteN r 3 200 (beginN R kmacB cus)), .lit gL 5 (kmacB.map vb) (4, 5), .blk g 118 (beginSp R kmacB cus).vsR]) := H1.push_mk rfl
    clear H1
    unfold lptr
    go_wp2_with fail
    refine (refString_s A n c key w2 (HRA.out _ _ _ H) (by omega)).mono ?_
    rintro e w3 ⟨v3, rfl, ho, hb3⟩
    unfold OwnB at ho
    replace H := (H.pushRow 3 rfl hb3 ho).push_mk rfl
    clear ho hb3
    obtain ⟨A3, c3, rfl, -, -⟩ := row_form (H.row 3 rfl)
    go_wp2_with fail
    refine (HRT.out w3).mono ?_
    rintro e wx ⟨rfl, rfl⟩
    go_wp2_with fail
    refine (refPad_s A3 (strB key).length c3 (strB key) (R : Int) w3 (H.rd 3 rfl) (by omega)).mono ?_
    rintro e w4 ⟨v4, rfl, ho, hb4⟩
    unfold OwnB at ho
    rw [hRE.out]
    replace H := (H.pushRow 4 rfl hb4 ho).push_mk rfl
    clear ho hb4
    obtain ⟨A4, c4, rfl, -, -⟩ := row_form (H.row 4 rfl)
    have hq1 : beginN R kmacB cus ≤ 20000000 := by
      unfold beginN
      split
      · omega
      · refine Nat.le_trans (Nat.div_le_self _ _) ?_
        have h1 := strB_le (l := kmacB) (by decide)
        have h2 := strB_le (l := cus) (by omega)
        exact Nat.le_trans (padI_le (by omega) (by omega) (by rw [List.length_append]; omega)) (by omega)
    have HPD : Hid ((padI (strB key) (R : Int)).length ≤ 10001000) := hPAD
    clear hPAD hSTR
    go_wp2_with fail
    refine (rsWrite_s l _ (m + 1) (b + (beginN R kmacB cus : Nat)) g (beginSp R kmacB cus) A4 (padI (strB key) (R : Int)).length c4 (padI (strB key) (R : Int)) H 0 2 (by omega) rfl rfl (HG.out.noteN 3 200 _) (by omega) (by omega) HBO.out.1 HBO.out.2.1 (fun w' X Y h => h.rd 4 rfl) (by have := HPD.out; omega)).mono ?_
    rintro e w5 ⟨rfl, H1⟩
    rw [upd_laid (by simp), upd_laid (by simp), noteN_noteN, HBO.out.2.2.1] at H1
    replace H : St w F w5 (lay [ledR l (noteN r 3 200 (kmN R key cus)), .lit gL 5 (kmacB.map vb) (4, 5), .blk g 118 (kmSp R key cus).vsR]) := H1.front 3
    clear H1
    go_wp2
    go_ret2
    have H2 := (H.allocAt 3 rfl w5.heap.size rfl #[lptr g, .int .i64 S] 105).push_mk rfl
    refine ⟨_, _, rfl, St.one_two HI.out HK1.out HK2.out HKK.out HBK.out (H2.permS (L' := [ledR l (noteN r 3 200 (kmN R key cus)), .blk g 118 (kmSp R key cus).vsR, .blk w5.heap.size 105 (macV g S)]) [0, 2, 3] 3 rfl (by decide) (fun i hi => by
      match i, hi with
      | 0, _ => rfl
      | 1, _ => rfl
      | 2, _ => rfl))⟩
  · have e1 : (S != 128) = true := by rw [h.1]; rfl
    have e2 : (S != 256) = false := by rw [h.1]; rfl
    clear h
    go_enter Try.func40, Try.ntmps40
    go_wp2_with fail
    refine absorb_calls (H.litAt 1 rfl w.heap.size rfl _ _ _ |>.push_mk rfl) ?_
    clear H
    intro w1 H
    generalize w.heap.size = gL at H ⊢
    replace H : St w F w1 (lay [ledR l r, .lit gL 5 (kmacB.map vb) (4, 5)]) := H
    refine (rhBegin_s l r m b S R HS.out (some ⟨gL, 0, none⟩) B 4 nc 4 d kmacB cus H 0 2 rfl rfl HG.out (by omega) (by omega) (fun w' X h => h.rdLit 1 rfl 1 4 rfl) (fun w' X h => HRB.out w' X _ (by rw [upd_laid (by simp)] at h; exact h)) (by omega) (by omega)).mono ?_
    rintro e w2 ⟨g, rfl, H1⟩
    rw [upd_laid (by simp)] at H1
    replace H : St w F w2 (lay [ledR l (noteN r 3 200 (beginN R kmacB cus)), .lit gL 5 (kmacB.map vb) (4, 5), .blk g 118 (beginSp R kmacB cus).vsR]) := H1.push_mk rfl
    clear H1
    unfold lptr
    go_wp2_with fail
    refine (refString_s A n c key w2 (HRA.out _ _ _ H) (by omega)).mono ?_
    rintro e w3 ⟨v3, rfl, ho, hb3⟩
    unfold OwnB at ho
    replace H := (H.pushRow 3 rfl hb3 ho).push_mk rfl
    clear ho hb3
    obtain ⟨A3, c3, rfl, -, -⟩ := row_form (H.row 3 rfl)
    go_wp2_with fail
    refine (HRT.out w3).mono ?_
    rintro e wx ⟨rfl, rfl⟩
    go_wp2_with fail
    refine (refPad_s A3 (strB key).length c3 (strB key) (R : Int) w3 (H.rd 3 rfl) (by omega)).mono ?_
    rintro e w4 ⟨v4, rfl, ho, hb4⟩
    unfold OwnB at ho
    rw [hRE.out]
    replace H := (H.pushRow 4 rfl hb4 ho).push_mk rfl
    clear ho hb4
    obtain ⟨A4, c4, rfl, -, -⟩ := row_form (H.row 4 rfl)
    have hq1 : beginN R kmacB cus ≤ 20000000 := by
      unfold beginN
      split
      · omega
      · refine Nat.le_trans (Nat.div_le_self _ _) ?_
        have h1 := strB_le (l := kmacB) (by decide)
        have h2 := strB_le (l := cus) (by omega)
        exact Nat.le_trans (padI_le (by omega) (by omega) (by rw [List.length_append]; omega)) (by omega)
    have HPD : Hid ((padI (strB key) (R : Int)).length ≤ 10001000) := hPAD
    clear hPAD hSTR
    go_wp2_with fail
    refine (rsWrite_s l _ (m + 1) (b + (beginN R kmacB cus : Nat)) g (beginSp R kmacB cus) A4 (padI (strB key) (R : Int)).length c4 (padI (strB key) (R : Int)) H 0 2 (by omega) rfl rfl (HG.out.noteN 3 200 _) (by omega) (by omega) HBO.out.1 HBO.out.2.1 (fun w' X Y h => h.rd 4 rfl) (by have := HPD.out; omega)).mono ?_
    rintro e w5 ⟨rfl, H1⟩
    rw [upd_laid (by simp), upd_laid (by simp), noteN_noteN, HBO.out.2.2.1] at H1
    replace H : St w F w5 (lay [ledR l (noteN r 3 200 (kmN R key cus)), .lit gL 5 (kmacB.map vb) (4, 5), .blk g 118 (kmSp R key cus).vsR]) := H1.front 3
    clear H1
    go_wp2
    go_ret2
    have H2 := (H.allocAt 3 rfl w5.heap.size rfl #[lptr g, .int .i64 S] 105).push_mk rfl
    refine ⟨_, _, rfl, St.one_two HI.out HK1.out HK2.out HKK.out HBK.out (H2.permS (L' := [ledR l (noteN r 3 200 (kmN R key cus)), .blk g 118 (kmSp R key cus).vsR, .blk w5.heap.size 105 (macV g S)]) [0, 2, 3] 3 rfl (by decide) (fun i hi => by
      match i, hi with
      | 0, _ => rfl
      | 1, _ => rfl
      | 2, _ => rfl))⟩

theorem rkNew_no (l v1 v2 : Value) (S : Int) (hS : S ≠ 128 ∧ S ≠ 256) (w : World) :
    Calls Try.prog 40 #[l, .int .i64 S, v1, v2] w fun e w' => e = .returned (.tuple #[.pointer none, .int .i64 2]) ∧ w = w' := by
  have e1 : (S != 128) = true := by simp; omega
  have e2 : (S != 256) = true := by simp; omega
  clear hS
  go_enter Try.func40, Try.ntmps40
  go_wp2
  go_ret2
  exact ⟨rfl, rfl⟩

set_option maxHeartbeats 4000000 in
theorem rkTag_s (l : Value) (r : Option (List RunT)) (m : Nat) (b : Int) (S : Int) (R : Nat) (hS : (S = 128 ∧ R = 168) ∨ (S = 256 ∧ R = 136)) (A B C : Option Addr) (n nc np c d cp : Nat) (key cus p : List UInt8) (N : Nat) (xof : Bool) (H : St w0 F0 w E) (i k : Nat) (hi : E i = some (ledR l r)) (hk : E k = none) (hg : LW r m b) (hm : m ≤ 9999999) (hb : b ≤ 10000000000000000)
    (hA : ∀ w' X, St w0 F0 w' (upd E i X) → Rd w' 1 A n (key.map vb)) (hB : ∀ w' X, St w0 F0 w' (upd E i X) → Rd w' 1 B nc (cus.map vb)) (hC : ∀ w' X, St w0 F0 w' (upd E i X) → Rd w' 1 C np (p.map vb)) (hn : n ≤ 1900000) (hnc : nc ≤ 1900000) (hnp : np ≤ 100000000) (hN : N ≤ 65536) :
    Calls Try.prog 14 #[l, .int .i64 S, .slice A n c, .slice B nc d, .slice C np cp, .int .i64 (N : Int), .bool xof] w fun e w' => ∃ v, e = .returned (.tuple #[v, .int .i64 0]) ∧ St w0 F0 w' (upd (upd E i (ledR l (noteN r 3 200 (kmTagN R key cus p N xof)))) k (.row 5 1 v N ((kmTagB R key cus p N xof).map vb))) := by
  have hlp : p.length = np := by have h := (hC w _ (by rw [upd_id hi]; exact H)).1; simpa using h
  have hlcc : cus.length = nc := by have h := (hB w _ (by rw [upd_id hi]; exact H)).1; simpa using h
  have hlkk : key.length ≤ 1900000 := by have h := (hA w _ (by rw [upd_id hi]; exact H)).1; have h2 : key.length = n := (by simpa using h); rw [h2]; exact hn
  have HLP := Lib.hid hlp
  obtain ⟨F, HF, -, -, hback⟩ := H.frame1 i hi
  have HBK := Lib.hid hback
  have HRA : Hid (∀ w' X L, St w F w' (lay (X :: L)) → Rd w' 1 A n (key.map vb)) := fun w' X L h => hA w' X (hback w' X ((h.front 1).to1 rfl))
  have HRB : Hid (∀ w' X L, St w F w' (lay (X :: L)) → Rd w' 1 B nc (cus.map vb)) := fun w' X L h => hB w' X (hback w' X ((h.front 1).to1 rfl))
  have HRC : Hid (∀ w' X L, St w F w' (lay (X :: L)) → Rd w' 1 C np (p.map vb)) := fun w' X L h => hC w' X (hback w' X ((h.front 1).to1 rfl))
  have HI := Lib.hid hi
  have HK := Lib.hid hk
  have HG := Lib.hid hg
  have HS := Lib.hid hS
  have hS0 : (S == 0) = false := by simp; omega
  have hR8 : 8 ≤ R := by omega
  have hR9 : R ≤ 192 := by omega
  have HX := Lib.hid (kmSp_ok key cus hR8 hR9)
  have hkb : Hid (kmN R key cus ≤ 40000000) := kmN_le key cus (by omega) (by omega) hlkk (by rw [hlcc]; omega)
  have H : St w F w (lay [ledR l r]) := HF.as1
  clear hback hi hk hg hS hA hB hC HF hlp
  have hN0 : decide ((N : Int) < 0) = false := by simp
  have hN1 : decide ((N : Int) > 65536) = false := by simp; omega
  rcases HS.out with h | h
  · have e1 : (S != 128) = false := by rw [h.1]; rfl
    clear h
    go_enter Try.func14, Try.ntmps14
    go_wp2_with fail
    refine (rkNew_s l r m b S R HS.out A B n nc c d key cus H 0 2 1 rfl rfl rfl (by omega) HG.out (by omega) (by omega) (fun w' X h => HRA.out w' X _ (by rw [upd_laid (by simp)] at h; exact h)) (fun w' X h => HRB.out w' X _ (by rw [upd_laid (by simp)] at h; exact h)) hn hnc).mono ?_
    rintro e w1 ⟨gm, g, rfl, H1⟩
    clear H
    have H : St w F w1 (lay [ledR l (noteN r 3 200 (kmN R key cus)), .blk g 118 (kmSp R key cus).vsR, .blk gm 105 (macV g S)]) := H1.env (fun n => by
      match n with
      | 0 => simp [upd, lay]
      | 1 => simp [upd, lay]
      | 2 => simp [upd, lay]
      | n + 3 => simp [upd, lay])
    clear H1
    have hc1 : Hid (((kmSp R key cus).p + np) / R ≤ 100000200) := by have h1 := Nat.div_le_self ((kmSp R key cus).p + np) R; have h2 := HX.out.2.2.2; unfold Hid; omega
    have HY : Hid (((kmSp R key cus).write p).Ok) := (Sp.write_ok p HX.out.1 (by rw [HX.out.2.2.1]; exact HX.out.2.2.2)).1
    have HYS : Hid (((kmSp R key cus).write p).s = false) := by have h := (Sp.write_r p (kmSp R key cus)).2.2; unfold Hid; rw [h]; exact HX.out.2.1
    have HS0 := Lib.hid hS0
    clear hS0
    unfold lptr
    go_wp2_with fail
    refine (rkWrite_s l _ (m + 1) (b + (kmN R key cus : Nat)) gm g S HS0.out (kmSp R key cus) C np cp p H 0 2 1 (by omega) rfl rfl rfl (HG.out.noteN 3 200 _) (by omega) (by have := hkb.out; omega) HX.out.1 HX.out.2.1 (fun w' X Y h => HRC.out w' X _ (by rw [upd_laid (by simp), upd_laid (by simp)] at h; exact h)) (by omega)).mono ?_
    rintro e w2 ⟨rfl, H1⟩
    rw [upd_laid (by simp), upd_laid (by simp), noteN_noteN, HX.out.2.2.1] at H1
    clear H
    have H : St w F w2 (lay [ledR l (noteN r 3 200 (kmN R key cus + ((kmSp R key cus).p + np) / R)), .blk g 118 ((kmSp R key cus).write p).vsR, .blk gm 105 (macV g S)]) := H1
    clear H1
    go_wp2_with fail
    refine (rkSum_s l _ (m + 1) (b + (kmN R key cus + ((kmSp R key cus).p + np) / R : Nat)) gm g S HS0.out ((kmSp R key cus).write p) N (N : Int) rfl xof H 0 2 1 3 (by omega) rfl rfl rfl rfl (HG.out.noteN 3 200 _) (by omega) (by have := hkb.out; have := hc1.out; omega) HY.out HYS.out hN).mono ?_
    rintro e w3 ⟨v, rfl, H1⟩
    rw [upd_laid (by simp), upd_laid (by simp), noteN_noteN] at H1
    replace H1 := H1.push_mk rfl
    clear H
    have HTN : Hid (kmTagN R key cus p N xof = kmN R key cus + ((kmSp R key cus).p + np) / R + kmSumN ((kmSp R key cus).write p) N (kmBits N xof)) := by unfold Hid kmTagN; rw [HLP.out, Nat.add_assoc]
    have H : St w F w3 (lay [ledR l (noteN r 3 200 (kmTagN R key cus p N xof)), .row 5 1 v N ((kmTagB R key cus p N xof).map vb)]) := by rw [HTN.out]; exact H1.permS [0, 3] 2 rfl (by decide) (fun i hi => by
      match i, hi with
      | 0, _ => rfl
      | 1, _ => rfl)
    clear H1
    go_wp2
    go_ret2
    exact ⟨_, rfl, St.one_more HI.out HK.out HBK.out H⟩
  · have e1 : (S != 128) = true := by rw [h.1]; rfl
    have e2 : (S != 256) = false := by rw [h.1]; rfl
    clear h
    go_enter Try.func14, Try.ntmps14
    go_wp2_with fail
    refine (rkNew_s l r m b S R HS.out A B n nc c d key cus H 0 2 1 rfl rfl rfl (by omega) HG.out (by omega) (by omega) (fun w' X h => HRA.out w' X _ (by rw [upd_laid (by simp)] at h; exact h)) (fun w' X h => HRB.out w' X _ (by rw [upd_laid (by simp)] at h; exact h)) hn hnc).mono ?_
    rintro e w1 ⟨gm, g, rfl, H1⟩
    clear H
    have H : St w F w1 (lay [ledR l (noteN r 3 200 (kmN R key cus)), .blk g 118 (kmSp R key cus).vsR, .blk gm 105 (macV g S)]) := H1.env (fun n => by
      match n with
      | 0 => simp [upd, lay]
      | 1 => simp [upd, lay]
      | 2 => simp [upd, lay]
      | n + 3 => simp [upd, lay])
    clear H1
    have hc1 : Hid (((kmSp R key cus).p + np) / R ≤ 100000200) := by have h1 := Nat.div_le_self ((kmSp R key cus).p + np) R; have h2 := HX.out.2.2.2; unfold Hid; omega
    have HY : Hid (((kmSp R key cus).write p).Ok) := (Sp.write_ok p HX.out.1 (by rw [HX.out.2.2.1]; exact HX.out.2.2.2)).1
    have HYS : Hid (((kmSp R key cus).write p).s = false) := by have h := (Sp.write_r p (kmSp R key cus)).2.2; unfold Hid; rw [h]; exact HX.out.2.1
    have HS0 := Lib.hid hS0
    clear hS0
    unfold lptr
    go_wp2_with fail
    refine (rkWrite_s l _ (m + 1) (b + (kmN R key cus : Nat)) gm g S HS0.out (kmSp R key cus) C np cp p H 0 2 1 (by omega) rfl rfl rfl (HG.out.noteN 3 200 _) (by omega) (by have := hkb.out; omega) HX.out.1 HX.out.2.1 (fun w' X Y h => HRC.out w' X _ (by rw [upd_laid (by simp), upd_laid (by simp)] at h; exact h)) (by omega)).mono ?_
    rintro e w2 ⟨rfl, H1⟩
    rw [upd_laid (by simp), upd_laid (by simp), noteN_noteN, HX.out.2.2.1] at H1
    clear H
    have H : St w F w2 (lay [ledR l (noteN r 3 200 (kmN R key cus + ((kmSp R key cus).p + np) / R)), .blk g 118 ((kmSp R key cus).write p).vsR, .blk gm 105 (macV g S)]) := H1
    clear H1
    go_wp2_with fail
    refine (rkSum_s l _ (m + 1) (b + (kmN R key cus + ((kmSp R key cus).p + np) / R : Nat)) gm g S HS0.out ((kmSp R key cus).write p) N (N : Int) rfl xof H 0 2 1 3 (by omega) rfl rfl rfl rfl (HG.out.noteN 3 200 _) (by omega) (by have := hkb.out; have := hc1.out; omega) HY.out HYS.out hN).mono ?_
    rintro e w3 ⟨v, rfl, H1⟩
    rw [upd_laid (by simp), upd_laid (by simp), noteN_noteN] at H1
    replace H1 := H1.push_mk rfl
    clear H
    have HTN : Hid (kmTagN R key cus p N xof = kmN R key cus + ((kmSp R key cus).p + np) / R + kmSumN ((kmSp R key cus).write p) N (kmBits N xof)) := by unfold Hid kmTagN; rw [HLP.out, Nat.add_assoc]
    have H : St w F w3 (lay [ledR l (noteN r 3 200 (kmTagN R key cus p N xof)), .row 5 1 v N ((kmTagB R key cus p N xof).map vb)]) := by rw [HTN.out]; exact H1.permS [0, 3] 2 rfl (by decide) (fun i hi => by
      match i, hi with
      | 0, _ => rfl
      | 1, _ => rfl)
    clear H1
    go_wp2
    go_ret2
    exact ⟨_, rfl, St.one_more HI.out HK.out HBK.out H⟩

set_option maxHeartbeats 1000000 in
theorem rkTag_no (l v1 v2 v3 : Value) (S N : Int) (h : (S ≠ 128 ∧ S ≠ 256) ∨ N < 0 ∨ N > 65536) (xof : Bool) (w : World) :
    Calls Try.prog 14 #[l, .int .i64 S, v1, v2, v3, .int .i64 N, .bool xof] w fun e w' => e = .returned (.tuple #[.slice none 0 0, .int .i64 2]) ∧ w = w' := by
  by_cases h1 : S ≠ 128
  · have e1 : (S != 128) = true := by simp; omega
    by_cases h2 : S ≠ 256
    · have e2 : (S != 256) = true := by simp; omega
      clear h h1 h2
      go_enter Try.func14, Try.ntmps14
      go_wp2
      go_ret2
      exact ⟨rfl, rfl⟩
    · have e2 : (S != 256) = false := by simp; omega
      by_cases h3 : N < 0
      · have hN0 : decide (N < 0) = true := by simpa using h3
        clear h h1 h2 h3
        go_enter Try.func14, Try.ntmps14
        go_wp2
        go_ret2
        exact ⟨rfl, rfl⟩
      · have hN0 : decide (N < 0) = false := by simpa using h3
        have hN1 : decide (N > 65536) = true := by simp; omega
        clear h h1 h2 h3
        go_enter Try.func14, Try.ntmps14
        go_wp2
        go_ret2
        exact ⟨rfl, rfl⟩
  · have e1 : (S != 128) = false := by simp; omega
    by_cases h3 : N < 0
    · have hN0 : decide (N < 0) = true := by simpa using h3
      clear h h1 h3
      go_enter Try.func14, Try.ntmps14
      go_wp2
      go_ret2
      exact ⟨rfl, rfl⟩
    · have hN0 : decide (N < 0) = false := by simpa using h3
      have hN1 : decide (N > 65536) = true := by simp; omega
      clear h h1 h3
      go_enter Try.func14, Try.ntmps14
      go_wp2
      go_ret2
      exact ⟨rfl, rfl⟩
end
end Go.Proofs.Ythoopaknldkclaa

namespace Go.Proofs.Ythoopaknldkclaa
open Go.RowKit
set_option linter.unusedVariables false
set_option maxRecDepth 100000

def kmKey : List UInt8 := (List.range 32).map fun i => UInt8.ofNat (64 + i)
def kmMsg : List UInt8 := [0, 1, 2, 3]
theorem kmKey_len : kmKey.length = 32 := by decide +kernel
theorem kmLives_val : (kmTagB 168 kmKey [] kmMsg 32 false).take 4 = [229, 120, 11, 13] := by decide +kernel

attribute [local irreducible] permB kBytes kPerm kFrom

section
variable {w : World}

theorem message_s : Calls Try.prog 22 #[] w fun e w' => ∃ A c, e = .returned (.slice A 4 c) ∧ St w [] w' (lay [.row 5 1 (.slice A 4 c) 4 (kmMsg.map vb)]) := by
  have H := St.start_lay w []
  go_enter Try.func22, Try.ntmps22
  go_wp2
  go_ret
  exact ⟨_, _, rfl, (H.lit 0 rfl _ _ 4 rfl (by omega) _ rfl).push_mk rfl⟩

theorem KmNo.below {w w' : World} {s : Value} (h : KmNo w s) (hb : Below w.heap.size w w') : KmNo w' s := by
  rcases h with rfl | ⟨g, rfl, c0⟩
  · exact .inl rfl
  · exact .inr ⟨g, rfl, by rw [hb.cell (World.block_lt_of_cell? w _ c0)]; exact c0⟩
theorem St.kmNo {w0 w : World} {F0 : List Nat} {E : Env} {g : Nat} (H : St w0 F0 w E) (k : Nat) (hk : E k = some (.blk g 79 [.pointer none, .int .i64 0])) : KmNo w (lptr g) := .inr ⟨g, rfl, H.cell k hk rfl⟩

set_option maxHeartbeats 1000000 in
theorem kmEmpty_s (s v : Value) (n : Int) (h : KmNo w s) : Calls Try.prog 37 #[s, v, .int .i64 n] w fun e w' => e = .returned (.bool true) ∧ Below w.heap.size w w' := by
  have H := St.start_lay w []
  go_enter Try.func37, Try.ntmps37
  go_wp2_with fail
  refine (ledger_new H 0 rfl).mono ?_
  rintro e w1 ⟨l, rfl, H1⟩
  replace H1 := H1.push_mk rfl
  have hs := h.below H1.below
  clear H h
  go_wp2_with fail
  refine (kmSum_none l n true s hs).mono ?_
  rintro e w2 ⟨rfl, rfl⟩
  go_wp2_with fail
  refine (kmClone_none s hs).mono ?_
  rintro e w2 ⟨rfl, rfl⟩
  go_wp2_with fail
  refine (kmWrite_none l v s hs).mono ?_
  rintro e w2 ⟨rfl, rfl⟩
  go_wp2_with fail
  refine (kmWipe_none l s hs).mono ?_
  rintro e w2 ⟨rfl, rfl⟩
  go_wp2_with fail
  refine (kmForm_none s hs).mono ?_
  rintro e w2 ⟨rfl, rfl⟩
  go_wp2_with fail
  refine (kmStrength_none s hs).mono ?_
  rintro e w2 ⟨rfl, rfl⟩
  go_wp2_with fail
  refine (ledger_len_w H1 0 rfl).mono ?_
  rintro e w2 ⟨rfl, rfl⟩
  rw [show total [] = 0 from rfl]
  go_wp2
  go_ret
  exact ⟨rfl, H1.below⟩

set_option maxHeartbeats 1000000 in
theorem kmBegins_s (A : Option Addr) (n c : Nat) (xs : List UInt8) (b0 b1 b2 b3 : UInt8) (hA : ∀ w', Below w.heap.size w w' → Rd w' 1 A n (xs.map vb)) (h4 : 4 ≤ n) (hc : n ≤ c) (hn : n ≤ 1000000000000000000) (hv : xs.take 4 = [b0, b1, b2, b3]) :
    Calls Try.prog 23 #[.slice A n c, .int .i64 0, .int .i64 (n : Int), .agg #[vb b0, vb b1, vb b2, vb b3]] w fun e w' => e = .returned (.bool true) ∧ Below w.heap.size w w' := by
  have H0 := St.start_lay w []
  have h1 : (4 : Int) ≤ n := by omega
  have h2 : (4 : Int) ≤ c := by omega
  have HA : Hid (∀ w', Below w.heap.size w w' → Rd w' 1 A n (xs.map vb)) := hA
  have HV := Lib.hid hv
  clear hA hv
  go_enter Try.func23, Try.ntmps23
  go_wp2_with fail
  have H := (H0.allocAt 0 rfl w.heap.size rfl #[vb b0, vb b1, vb b2, vb b3] 50).push_mk rfl
  clear H0
  generalize hg : w.heap.size = g1 at H ⊢
  generalize w.alloc (.cells #[vb b0, vb b1, vb b2, vb b3] 50) = w1 at H ⊢
  subst hg
  generalize hg : w.heap.size = g1 at H ⊢
  replace H := H.drew
  refine wp_region_held_drew (S := fun w' : World => St w [] w' (lay [.blk g1 50 [vb b0, vb b1, vb b2, vb b3]])) (by kernel_rfl) ?_ (fun hHeld => ?_)
  · exact H
  refine takeV 0 rfl (by intro w h; clear h; go_simp; try with_reducible rfl) (by kernel_rfl) (by kernel_rfl) (by kernel_rfl) (by exact fun _ _ _ h => h) (by rfl) (by assumption) ?_
  try simp only [Act.put, List.setIfInBounds_toArray, List.set_cons_zero, List.set_cons_succ]
  refine takeV 1 rfl (by intro w h; clear h; go_simp; try with_reducible rfl) (by kernel_rfl) (by kernel_rfl) (by kernel_rfl) (by exact fun _ _ _ h => h) (by rfl) (by assumption) ?_
  try simp only [Act.put, List.setIfInBounds_toArray, List.set_cons_zero, List.set_cons_succ]
  refine takeV 2 rfl (by intro w h; clear h; go_simp; try with_reducible rfl) (by kernel_rfl) (by kernel_rfl) (by kernel_rfl) (by exact fun _ _ _ h => h) (by rfl) (by assumption) ?_
  try simp only [Act.put, List.setIfInBounds_toArray, List.set_cons_zero, List.set_cons_succ]
  refine takeV 3 rfl (by intro w h; clear h; go_simp; try with_reducible rfl) (by kernel_rfl) (by kernel_rfl) (by kernel_rfl) (by exact fun _ _ _ h => h) (by rfl) (by assumption) ?_
  try simp only [Act.put, List.setIfInBounds_toArray, List.set_cons_zero, List.set_cons_succ]
  refine takeV 4 rfl (by intro w h; clear h; go_simp; try with_reducible rfl) (by kernel_rfl) (by kernel_rfl) (by kernel_rfl) (by exact fun _ _ _ h => h) (by rfl) (by assumption) ?_
  try simp only [Act.put, List.setIfInBounds_toArray, List.set_cons_zero, List.set_cons_succ]
  refine takeV 5 rfl (by intro w h; clear h; go_simp; try with_reducible rfl) (by kernel_rfl) (by kernel_rfl) (by kernel_rfl) (by exact fun _ _ _ h => h) (by rfl) (by assumption) ?_
  try simp only [Act.put, List.setIfInBounds_toArray, List.set_cons_zero, List.set_cons_succ]
  refine takeV 6 rfl (by intro w h; clear h; go_simp; try with_reducible rfl) (by kernel_rfl) (by kernel_rfl) (by kernel_rfl) (by exact fun _ _ _ h => h) (by rfl) (by assumption) ?_
  try simp only [Act.put, List.setIfInBounds_toArray, List.set_cons_zero, List.set_cons_succ]
  refine takeV 7 rfl (by intro w h; clear h; go_simp; try with_reducible rfl) (by kernel_rfl) (by kernel_rfl) (by kernel_rfl) (by exact fun _ _ _ h => h) (by rfl) (by assumption) ?_
  try simp only [Act.put, List.setIfInBounds_toArray, List.set_cons_zero, List.set_cons_succ]
  refine takeV 8 rfl (by intro w h; clear h; go_simp; try with_reducible rfl) (by kernel_rfl) (by kernel_rfl) (by kernel_rfl) (by exact fun _ _ _ h => h) (by rfl) (by assumption) ?_
  try simp only [Act.put, List.setIfInBounds_toArray, List.set_cons_zero, List.set_cons_succ]
  refine takeV 9 rfl (by intro w h; clear h; go_simp; try with_reducible rfl) (by kernel_rfl) (by kernel_rfl) (by kernel_rfl) (by exact fun _ _ _ h => h) (by rfl) (by assumption) ?_
  try simp only [Act.put, List.setIfInBounds_toArray, List.set_cons_zero, List.set_cons_succ]
  refine takeV 10 rfl (by intro w h; clear h; go_simp; try with_reducible rfl) (by kernel_rfl) (by kernel_rfl) (by kernel_rfl) (by exact fun _ _ _ h => h) (by rfl) (by assumption) ?_
  try simp only [Act.put, List.setIfInBounds_toArray, List.set_cons_zero, List.set_cons_succ]
  refine takeV 11 rfl (by intro w h; have hc := h; clear h; go_simp; try with_reducible rfl) (by kernel_rfl) (by kernel_rfl) (by kernel_rfl) (by exact fun _ _ _ h => h) (by rfl) (by assumption) ?_
  try simp only [Act.put, List.setIfInBounds_toArray, List.set_cons_zero, List.set_cons_succ]
  refine take_call 12 rfl (by kernel_rfl) (fun K hK => ?_)
  try go_simp
  clear H
  have H := hHeld
  refine (sameBytes_yes A _ 4 4 c 4 (xs.take 4) [b0, b1, b2, b3] _ ((HA.out _ H.below).take h4) (H.rdBlk 0 rfl 1 4 rfl) (by omega) (by omega) HV.out).mono ?_
  rintro e wx ⟨rfl, hb⟩
  replace H := H.call hb
  refine hK.out _ _ ?_ (fun hHeld => ?_)
  · exact H
  clear hK K
  try simp only [Act.put, List.setIfInBounds_toArray, List.set_cons_zero, List.set_cons_succ]
  refine takeV 13 rfl (by intro w h; clear h; go_simp; try with_reducible rfl) (by kernel_rfl) (by kernel_rfl) (by kernel_rfl) (by exact fun _ _ _ h => h) (by rfl) (by assumption) ?_
  try simp only [Act.put, List.setIfInBounds_toArray, List.set_cons_zero, List.set_cons_succ]
  refine takeV 14 rfl (by intro w h; clear h; go_simp; try with_reducible rfl) (by kernel_rfl) (by kernel_rfl) (by kernel_rfl) (by exact fun _ _ _ h => h) (by rfl) (by assumption) ?_
  try simp only [Act.put, List.setIfInBounds_toArray, List.set_cons_zero, List.set_cons_succ]
  refine wpAnyH_done (by kernel_rfl) ?_ _
  go_wp2
  go_ret
  exact ⟨rfl, hHeld.below⟩
end
end Go.Proofs.Ythoopaknldkclaa

namespace Go.Proofs.Ythoopaknldkclaa
open Go.RowKit
set_option linter.unusedVariables false
set_option maxRecDepth 100000

attribute [local irreducible] permB kBytes kPerm kFrom

def keyTo (k : Nat) : List UInt8 := (List.range k).map fun i => UInt8.ofNat (64 + i)

theorem keyTo_succ (k : Nat) : keyTo (k + 1) = keyTo k ++ [UInt8.ofNat (64 + k)] := by
  unfold keyTo
  rw [List.range_succ, List.map_append]
  rfl

section
variable {w : World}

set_option maxHeartbeats 1000000 in
theorem key_s : Calls Try.prog 21 #[] w fun e w' => ∃ A c, e = .returned (.slice A 32 c) ∧ St w [] w' (lay [.row 5 1 (.slice A 32 c) 32 (kmKey.map vb)]) := by
  obtain ⟨i0, hi0, hz0, hz1, hz2⟩ := info_parts u8_info
  have HI := Lib.hid (⟨hi0, hz0, hz1, hz2⟩ : _ ∧ _ ∧ _ ∧ _)
  clear hi0 hz0 hz1 hz2
  have H0 := (St.start_lay w []).nilRow 0 rfl 5 1 |>.push_mk rfl
  go_enter Try.func21, Try.ntmps21
  go_wp2
  go_loopw [1, 2] (fun v i wr => ∃ k : Nat, k ≤ 32 ∧ i = .int .i64 (k : Int) ∧ St w [] wr (lay [.row 5 1 v k ((keyTo k).map vb)])) (fun _ i _ => 32 - (intOf i).toNat)
  case atStart => exact ⟨0, Nat.zero_le _, rfl, H0⟩
  case round =>
    clear H0
    obtain ⟨k, hk, rfl, H⟩ := hrel
    obtain ⟨AV, cV, rfl, -, -⟩ := row_form (H.row 0 rfl)
    by_cases hlt : k < 32
    · have hlti : (k : Int) < 32 := by omega
      have HX := Lib.hid (keyTo_succ k)
      have HB : Hid ((((UInt8.ofNat (64 + k)).toNat : Nat) : Int) = 64 + (k : Int)) := by
        unfold Hid
        rw [UInt8.toNat_ofNat']
        omega
      go_wp2_with (at_builtin; refine hold_here' ?_)
      refine Lib.hid ?_
      refine absorb_list (H.allocAt 1 rfl wr.heap.size rfl #[.int .u8 (64 + (k : Int))] 5 |>.push_mk rfl) ?_
      clear H
      intro w5 H
      generalize wr.heap.size = gN at H ⊢
      obtain ⟨hi0, hz0, hz1, hz2⟩ := HI.out
      refine wpList_append_any _ rfl (.tmp 7) (.tmp 11) _ rfl 0 5 i0 _ 1 1 Try.underlying22 hi0 hz0 hz1 hz2 rfl (by omega) (.slice AV k cV) k ((keyTo k).map vb) rfl (H.row 0 rfl) (some ⟨gN, 0, none⟩) 1 1 [.int .u8 (64 + (k : Int))] rfl (H.rdBlk 1 rfl 1 1 rfl) (by intro u hu; simp at hu; subst hu; rfl) (by simp only [maxLen]; omega) (by omega) (by omega) ?_
      intro v6 w6 hown6 hg6 hat6
      replace H := ((H.grow 0 rfl hown6 hg6 hat6).upd_mk (by simp)).front 1
      clear hown6 hg6 hat6 hi0 hz0 hz1 hz2
      have H7 : St w [] w6 (lay [.row 5 1 v6 (k + 1) ((keyTo (k + 1)).map vb)]) := by rw [HX.out, List.map_append]; unfold vb; rw [List.map_cons, HB.out]; exact H
      clear H
      go_wp2
      go_roundw
      case rel => exact ⟨k + 1, by omega, by go_num, H7⟩
      case measure => simp [intOf]; omega
    · obtain rfl : k = 32 := by omega
      rw [show ((32 : Nat) : Int) = 32 from rfl]
      go_wp2
      go_ret
      exact ⟨_, _, rfl, H⟩

set_option maxHeartbeats 1000000 in
theorem kmSum_arg (l : Value) (gm g : Nat) (S : Int) (hS : (S == 0) = false) (N : Int) (hN : N < 0 ∨ N > 65536) (xof : Bool) {w0 w : World} {F0 : List Nat} {E : Env} (H : St w0 F0 w E) (j : Nat) (hj : E j = some (.blk gm 79 (macV g S))) :
    Calls Try.prog 25 #[lptr gm, l, .int .i64 N, .bool xof] w fun e w' => e = .returned (.tuple #[.slice none 0 0, .int .i64 2]) ∧ w = w' := by
  have c1 := H.cell j hj (o := 1) rfl
  clear H hj
  by_cases h0 : N < 0
  · have hN0 : decide (N < 0) = true := by simpa using h0
    clear hN h0
    go_enter Try.func25, Try.ntmps25
    go_wp2_with fail
    refine (kmNone_no gm S w c1 hS).mono ?_
    rintro e w1 ⟨rfl, rfl⟩
    go_wp2
    go_ret2
    exact ⟨rfl, rfl⟩
  · have hN0 : decide (N < 0) = false := by simpa using h0
    have hN1 : decide (N > 65536) = true := by simp; omega
    clear hN h0
    go_enter Try.func25, Try.ntmps25
    go_wp2_with fail
    refine (kmNone_no gm S w c1 hS).mono ?_
    rintro e w1 ⟨rfl, rfl⟩
    go_wp2
    go_ret2
    exact ⟨rfl, rfl⟩

theorem noteN_none' (k s : Int) (n : Nat) : noteN none k s n = none := by unfold noteN; split <;> rfl

set_option maxHeartbeats 1000000 in
theorem kmLives_s (w : World) : Calls Try.prog 8 #[] w fun e w' => e = .returned (.bool true) ∧ Below w.heap.size w w' := by
  have H0 := (St.start_lay w []).ledNil 0 rfl |>.push_mk rfl
  have HL := Lib.hid kmLives_val
  go_enter Try.func8, Try.ntmps8
  go_wp2_with fail
  refine key_s.mono ?_
  rintro e w1 ⟨A1, c1, rfl, HN⟩
  have H := H0.also HN
  clear H0 HN
  replace H : St w [] w1 (lay [led (.pointer none) none, .row 5 1 (.slice A1 32 c1) 32 (kmKey.map vb)]) := H
  go_wp2_with fail
  refine message_s.mono ?_
  rintro e w2 ⟨A2, c2, rfl, HN⟩
  replace H := H.also HN
  clear HN
  replace H : St w [] w2 (lay [led (.pointer none) none, .row 5 1 (.slice A1 32 c1) 32 (kmKey.map vb), .row 5 1 (.slice A2 4 c2) 4 (kmMsg.map vb)]) := H
  go_wp2_with fail
  refine (kmTag_s (.pointer none) none 0 0 128 168 (.inl ⟨rfl, rfl⟩) A1 none A2 32 0 4 c1 0 c2 kmKey [] kmMsg 32 false H 0 3 rfl rfl (LW.none _ _) (by omega) (by omega) (fun w' X h => h.rd 1 rfl) (fun w' X h => Rd.none_) (fun w' X h => h.rd 2 rfl) (by omega) (by omega) (by omega) (by omega)).mono ?_
  rintro e w3 ⟨v, rfl, H1⟩
  rw [noteN_none', upd_laid (by simp)] at H1
  generalize kmTagB 168 kmKey [] kmMsg 32 false = T at H1 HL
  replace H : St w [] w3 (lay [led (.pointer none) none, .row 5 1 (.slice A1 32 c1) 32 (kmKey.map vb), .row 5 1 (.slice A2 4 c2) 4 (kmMsg.map vb), .row 5 1 v 32 (T.map vb)]) := H1.push_mk rfl
  clear H1
  obtain ⟨A3, c3, rfl, hc3, -⟩ := row_form (H.row 3 rfl)
  go_wp2_with fail
  refine (kmBegins_s A3 32 c3 T 229 120 11 13 (fun w' hb => (H.call hb).rd 3 rfl) (by omega) hc3 (by omega) HL.out).mono ?_
  rintro e w4 ⟨rfl, hb⟩
  replace H := H.call hb
  go_wp2
  go_ret
  exact ⟨rfl, H.below⟩
end
end Go.Proofs.Ythoopaknldkclaa

namespace Go.Proofs.Ythoopaknldkclaa
open Go.RowKit
set_option linter.unusedVariables false
set_option maxRecDepth 100000

def caseN (s : CaseR) : Nat := s.n1 + s.n2
def costZ (z : Int) : Nat := if 0 < z ∧ z ≤ 65536 then z.toNat else 0
def kactN (s : KactR) : Nat := s.n3 + costZ s.z4
def sumTo {α : Type} (f : α → Nat) (l : List α) (k : Nat) : Nat := ((l.take k).map f).sum

theorem sumTo_succ {α : Type} (f : α → Nat) {l : List α} {k : Nat} {x : α} (h : l[k]? = some x) : sumTo f l (k + 1) = sumTo f l k + f x := by
  unfold sumTo; rw [List.take_add_one, h]; simp
theorem sumTo_le {α : Type} (f : α → Nat) (l : List α) (k b : Nat) (h : ∀ x ∈ l, f x ≤ b) : sumTo f l k ≤ b * k := by
  induction k with
  | zero => simp [sumTo]
  | succ k ih =>
    rcases Nat.lt_or_ge k l.length with hk | hk
    · rw [sumTo_succ f (List.getElem?_eq_getElem hk)]
      have := h _ (List.getElem_mem hk)
      rw [Nat.mul_succ]
      omega
    · have : sumTo f l (k + 1) = sumTo f l k := by unfold sumTo; rw [List.take_of_length_le (by omega), List.take_of_length_le hk]
      rw [this, Nat.mul_succ]; omega
theorem sumTo_mem {α : Type} (f : α → Nat) {l : List α} {k i : Nat} {x : α} (h : l[i]? = some x) (hi : i < k) : f x ≤ sumTo f l k := by
  induction k with
  | zero => omega
  | succ k ih =>
    rcases Nat.lt_or_ge k l.length with hk | hk
    · rw [sumTo_succ f (List.getElem?_eq_getElem hk)]
      by_cases e : i = k
      · subst e
        rw [List.getElem?_eq_getElem hk] at h
        injection h with h
        rw [h]; omega
      · have := ih (by omega); omega
    · have hl : i < l.length := (List.getElem?_eq_some_iff.1 h).1
      have e : sumTo f l (k + 1) = sumTo f l k := by unfold sumTo; rw [List.take_of_length_le (by omega), List.take_of_length_le hk]
      rw [e]
      exact ih (by omega)

set_option maxHeartbeats 4000000 in
theorem kmSmall_s (A B : Option Addr) (n m c d : Nat) (ks : List KactR) (cs : List CaseR) (w : World) (hA : Rd w 6 A n (kactsV ks)) (hB : Rd w 3 B m (casesV cs)) (hn : n ≤ 1048576) (hm : m ≤ 1000)
    (ha : ∀ s ∈ ks, s.n3 ≤ 1048576) (hc : ∀ s ∈ cs, s.n1 ≤ 1048576 ∧ s.n2 ≤ 1048576) :
    Calls Try.prog 9 #[.slice A n c, .slice B m d] w fun e w' => ∃ b : Bool, e = .returned (.bool b) ∧ (b = true → n ≤ 40 ∧ sumTo caseN cs m + sumTo kactN ks n ≤ 4000) ∧ Below w.heap.size w w' := by
  have hla : ks.length = n := by have := hA.1; rw [kactsV_length] at this; omega
  have hlc : cs.length = m := by have := hB.1; rw [casesV_length] at this; omega
  have hcb := sumTo_le caseN cs m 2097152 (fun x hx => by have := hc x hx; unfold caseN; omega)
  have HLA := Lib.hid hla
  have HLC := Lib.hid hlc
  have HA := Lib.hid ha
  have HC := Lib.hid hc
  have HCB := Lib.hid hcb
  clear hla hlc ha hc hcb
  have H0 := St.start_lay w []
  go_enter Try.func9, Try.ntmps9
  go_wp2
  go_loopw [5, 6] (fun v i wr => ∃ k : Nat, k ≤ m ∧ i = .int .i64 (k : Int) ∧ v = .int .i64 ((sumTo caseN cs k : Nat) : Int) ∧ St w [] wr (lay [])) (fun _ i _ => m - (intOf i).toNat)
  case atStart => exact ⟨0, Nat.zero_le _, rfl, rfl, H0⟩
  case round =>
    clear H0
    obtain ⟨k, hk, rfl, rfl, H⟩ := hrel
    by_cases hlt : k < m
    · obtain ⟨x, hx⟩ : ∃ r, cs[k]? = some r := ⟨_, List.getElem?_eq_getElem (by rw [HLC.out]; exact hlt)⟩
      obtain ⟨p, o, rfl, a0, a1, a2, hlt2⟩ := case_cells (H.arg0 hB) hx
      have hb := HC.out x (List.mem_of_getElem? hx)
      have hs := sumTo_succ caseN hx
      have hsl := sumTo_le caseN cs k 2097152 (fun x hx => by have := HC.out x hx; unfold caseN; omega)
      have hs3 : sumTo caseN cs k ≤ 2097152000 := by omega
      obtain ⟨hb1, hb2⟩ := hb
      rw [show caseN x = x.n1 + x.n2 from rfl] at hs
      have HS := Lib.hid hs
      clear hx hs hsl
      generalize sumTo caseN cs k = s at HS hs3
      have hki : (k : Int) < m := by omega
      go_wp2
      go_quiet (fail)
      go_wp2
      go_roundw
      case rel => exact ⟨k + 1, by omega, by go_num, by rw [HS.out]; go_num, H.drewN _⟩
      case measure => simp [intOf]; omega
    · obtain rfl : k = m := by omega
      have hki : ¬ (k : Int) < k := by omega
      have hs3 : sumTo caseN cs k ≤ 2097152000 := by have := HCB.out; omega
      clear HCB
      obtain ⟨S, hS⟩ : ∃ S, Hid (sumTo caseN cs k = S) := ⟨_, rfl⟩
      rw [hS.out] at hs3
      go_wp2
      go_loopw [5, 7] (fun v i wr => ∃ j : Nat, j ≤ n ∧ i = .int .i64 (j : Int) ∧ v = .int .i64 ((S + sumTo kactN ks j : Nat) : Int) ∧ (0 < j → S + sumTo kactN ks j ≤ 4000) ∧ St w [] wr (lay [])) (fun _ i _ => n - (intOf i).toNat)
      case atStart => exact ⟨0, Nat.zero_le _, rfl, by rw [hS.out]; rfl, by omega, H⟩
      case round =>
        clear H
        obtain ⟨j, hj, rfl, rfl, h4, H⟩ := hrel
        by_cases hlt : j < n
        · obtain ⟨x, hx⟩ : ∃ r, ks[j]? = some r := ⟨_, List.getElem?_eq_getElem (by rw [HLA.out]; exact hlt)⟩
          obtain ⟨p, o, rfl, a0, a1, a2, a3, a4, a5, hlt2⟩ := kact_cells (H.arg0 hA) hx
          have hb := HA.out x (List.mem_of_getElem? hx)
          have hs := sumTo_succ kactN hx
          rw [show kactN x = x.n3 + costZ x.z4 from rfl] at hs
          have hs3 : S + sumTo kactN ks j ≤ 2097152000 := by
            by_cases h0 : j = 0
            · subst h0; exact hs3
            · have := h4 (by omega); omega
          have HS : Hid (S + sumTo kactN ks (j + 1) = S + sumTo kactN ks j + x.n3 + costZ x.z4) := by unfold Hid; omega
          clear hx hs h4 a0 a1 a2 a5
          generalize S + sumTo kactN ks j = s at HS hs3
          have hki : (j : Int) < n := by omega
          generalize x.z4 = z at a4 HS
          generalize x.n3 = q at a3 HS hb
          by_cases hc0 : z ≤ 0
          · have hz1 : decide (z > 0) = false := by simp; omega
            have hcz : ((costZ z : Nat) : Int) = 0 := by unfold costZ; rw [if_neg (by omega)]; rfl
            have HSI : Hid (((S + sumTo kactN ks (j + 1) : Nat) : Int) = (s : Int) + (q : Int)) := by unfold Hid; rw [HS.out]; push_cast; omega
            clear HS hcz
            by_cases hw : (s : Int) + (q : Int) ≤ 4000
            · have hq : decide ((s : Int) + (q : Int) > 4000) = false := by simp; omega
              have hw4 : S + sumTo kactN ks (j + 1) ≤ 4000 := by have := HSI.out; omega
              clear hw
              go_wp2
              go_roundw
              case rel => exact ⟨j + 1, by omega, by go_num, by first | (rw [HSI.out]; done) | (rw [HSI.out]; go_num), fun _ => hw4, H⟩
              case measure => simp [intOf]; omega
            · have hq : decide ((s : Int) + (q : Int) > 4000) = true := by simp; omega
              clear hw
              go_wp2
              go_ret
              first | exact ⟨false, rfl, (fun h => by cases h), H.below⟩ | exact .inl ⟨rfl, H.below⟩ | exact ⟨rfl, H.below⟩
          · skip
            by_cases hc1 : ¬ z ≤ 65536
            · have hz1 : decide (z > 0) = true := by simp; omega
              have hz2 : decide (z ≤ 65536) = false := by simp; omega
              have hcz : ((costZ z : Nat) : Int) = 0 := by unfold costZ; rw [if_neg (by omega)]; rfl
              have HSI : Hid (((S + sumTo kactN ks (j + 1) : Nat) : Int) = (s : Int) + (q : Int)) := by unfold Hid; rw [HS.out]; push_cast; omega
              clear HS hcz
              by_cases hw : (s : Int) + (q : Int) ≤ 4000
              · have hq : decide ((s : Int) + (q : Int) > 4000) = false := by simp; omega
                have hw4 : S + sumTo kactN ks (j + 1) ≤ 4000 := by have := HSI.out; omega
                clear hw
                go_wp2
                go_roundw
                case rel => exact ⟨j + 1, by omega, by go_num, by first | (rw [HSI.out]; done) | (rw [HSI.out]; go_num), fun _ => hw4, H⟩
                case measure => simp [intOf]; omega
              · have hq : decide ((s : Int) + (q : Int) > 4000) = true := by simp; omega
                clear hw
                go_wp2
                go_ret
                first | exact ⟨false, rfl, (fun h => by cases h), H.below⟩ | exact .inl ⟨rfl, H.below⟩ | exact ⟨rfl, H.below⟩
            · skip
              have hz1 : decide (z > 0) = true := by simp; omega
              have hz2 : decide (z ≤ 65536) = true := by simp; omega
              have hcz : ((costZ z : Nat) : Int) = z := by unfold costZ; rw [if_pos (by omega)]; omega
              have HSI : Hid (((S + sumTo kactN ks (j + 1) : Nat) : Int) = (s : Int) + (q : Int) + z) := by unfold Hid; rw [HS.out]; push_cast; omega
              clear HS hcz
              by_cases hw : (s : Int) + (q : Int) + z ≤ 4000
              · have hq : decide ((s : Int) + (q : Int) + z > 4000) = false := by simp; omega
                have hw4 : S + sumTo kactN ks (j + 1) ≤ 4000 := by have := HSI.out; omega
                clear hw
                go_wp2
                go_roundw
                case rel => exact ⟨j + 1, by omega, by go_num, by first | (rw [HSI.out]; done) | (rw [HSI.out]; go_num), fun _ => hw4, H⟩
                case measure => simp [intOf]; omega
              · have hq : decide ((s : Int) + (q : Int) + z > 4000) = true := by simp; omega
                clear hw
                go_wp2
                go_ret
                first | exact ⟨false, rfl, (fun h => by cases h), H.below⟩ | exact .inl ⟨rfl, H.below⟩ | exact ⟨rfl, H.below⟩
        · obtain rfl : j = n := by omega
          have hki : ¬ (j : Int) < j := by omega
          have HK := Lib.hid hlt
          have hs3 : S + sumTo kactN ks j ≤ 2097152000 := by
            by_cases h0 : j = 0
            · subst h0; exact hs3
            · have := h4 (by omega); omega
          clear h4 hlt
          obtain ⟨s, hs⟩ : ∃ s, Hid (S + sumTo kactN ks j = s) := ⟨_, rfl⟩
          rw [hs.out] at hs3
          have hsi : ((S + sumTo kactN ks j : Nat) : Int) = (s : Int) := by rw [hs.out]
          by_cases h1 : j ≤ 40
          · have q1 : decide ((j : Int) ≤ 40) = true := by simp; omega
            by_cases h2 : s ≤ 4000
            · have q2 : decide ((s : Int) ≤ 4000) = true := by simp; omega
              go_wp2
              go_ret
              have hh : sumTo caseN cs k + sumTo kactN ks j ≤ 4000 := by rw [hS.out, hs.out]; exact h2
              first | exact ⟨true, rfl, (fun _ => ⟨h1, hh⟩), H.below⟩ | exact .inr ⟨rfl, ⟨h1, hh⟩, H.below⟩ | exact .inr ⟨rfl, hh, H.below⟩ | exact .inr ⟨rfl, ⟨h1, h2⟩, H.below⟩ | exact .inr ⟨rfl, h2, H.below⟩ | exact .inr ⟨rfl, h1, H.below⟩ | exact .inr ⟨rfl, ⟨h1, hs ▸ h2⟩, H.below⟩
            · have q2 : decide ((s : Int) ≤ 4000) = false := by simp; omega
              go_wp2
              go_ret
              first | exact ⟨false, rfl, (fun h => by cases h), H.below⟩ | exact .inl ⟨rfl, H.below⟩ | exact ⟨rfl, H.below⟩
          · have q1 : decide ((j : Int) ≤ 40) = false := by simp; omega
            go_wp2
            go_ret
            first | exact ⟨false, rfl, (fun h => by cases h), H.below⟩ | exact .inl ⟨rfl, H.below⟩ | exact ⟨rfl, H.below⟩
end Go.Proofs.Ythoopaknldkclaa

namespace Go.Proofs.Ythoopaknldkclaa
open Go.RowKit
set_option linter.unusedVariables false
set_option maxRecDepth 100000

attribute [local irreducible] permB kBytes kPerm kFrom kmTagB kmTagN

def kmOk (S N : Int) : Prop := (S = 128 ∨ S = 256) ∧ 0 ≤ N ∧ N ≤ 65536
instance (S N : Int) : Decidable (kmOk S N) := by unfold kmOk; infer_instance
def kmR (S : Int) : Nat := if S = 128 then 168 else 136
def kmEr (S N : Int) : Int := if kmOk S N then 0 else 2
def kmTagT (S : Int) (key cus p : List UInt8) (N : Int) (xof : Bool) : List UInt8 := if kmOk S N then kmTagB (kmR S) key cus p N.toNat xof else []
def kmTagC (S : Int) (key cus p : List UInt8) (N : Int) (xof : Bool) : Nat := if kmOk S N then kmTagN (kmR S) key cus p N.toNat xof else 0

theorem kmR_side {S : Int} (h : S = 128 ∨ S = 256) : (S = 128 ∧ kmR S = 168) ∨ (S = 256 ∧ kmR S = 136) := by
  unfold kmR
  rcases h with rfl | rfl
  · exact .inl ⟨rfl, rfl⟩
  · exact .inr ⟨rfl, rfl⟩

theorem Rd.frontB {w : World} {A : Option Addr} {n m : Nat} {l k : List UInt8} (h : Rd w 1 A m ((l ++ k).map vb)) (hn : l.length = n) (hm : n ≤ m) : Rd w 1 A n (l.map vb) := by
  have := h.take hm
  rw [List.take_left' hn] at this
  exact this

/-- a piece known less well -/
theorem St.blur {w0 w : World} {F0 : List Nat} {L : List Own} {α : Type} {A : α → Own} (H : St w0 F0 w (lay L)) (a : α) (i : Nat) (hi : L[i]? = some (A a)) : St w0 F0 w (lay (L.set i (.ex A))) :=
  (St.shutEx a H i hi).upd_mk (List.getElem?_eq_some_iff.1 hi).1

section
variable {w0 w : World} {F0 : List Nat} {E : Env}

theorem kmTag_any (l : Value) (r : Option (List RunT)) (m : Nat) (b : Int) (S N : Int) (A B C : Option Addr) (n nc np c d cp : Nat) (key cus p : List UInt8) (xof : Bool) (H : St w0 F0 w E) (i k : Nat) (hi : E i = some (led l r)) (hk : E k = none) (hg : LW r m b) (hm : m ≤ 9999999) (hb : b ≤ 10000000000000000)
    (hA : ∀ w' X, St w0 F0 w' (upd E i X) → Rd w' 1 A n (key.map vb)) (hB : ∀ w' X, St w0 F0 w' (upd E i X) → Rd w' 1 B nc (cus.map vb)) (hC : ∀ w' X, St w0 F0 w' (upd E i X) → Rd w' 1 C np (p.map vb)) (hn : n ≤ 1900000) (hnc : nc ≤ 1900000) (hnp : np ≤ 100000000) :
    Calls Try.prog 13 #[l, .int .i64 S, .slice A n c, .slice B nc d, .slice C np cp, .int .i64 N, .bool xof] w fun e w' => ∃ v, e = .returned (.tuple #[v, .int .i64 (kmEr S N)]) ∧ St w0 F0 w' (upd (upd E i (led l (noteN r 3 200 (kmTagC S key cus p N xof)))) k (.row 5 1 v (kmTagT S key cus p N xof).length ((kmTagT S key cus p N xof).map vb))) := by
  have hik : i ≠ k := fun e => by rw [e, hk] at hi; cases hi
  by_cases hok : kmOk S N
  · unfold kmEr kmTagC kmTagT
    rw [if_pos hok, if_pos hok, if_pos hok]
    obtain ⟨hS, hN1, hN2⟩ := hok
    obtain ⟨N, rfl⟩ : ∃ q : Nat, N = q := ⟨N.toNat, by omega⟩
    rw [Int.toNat_natCast]
    refine (kmTag_s l r m b S (kmR S) (kmR_side hS) A B C n nc np c d cp key cus p N xof H i k hi hk hg hm hb hA hB hC hn hnc hnp (by omega)).mono ?_
    rintro e w' ⟨v, rfl, H1⟩
    have hl := (H1.row k upd_same).1
    rw [List.length_map, Nat.mul_one] at hl
    rw [hl]
    exact ⟨v, rfl, H1⟩
  · unfold kmEr kmTagC kmTagT
    rw [if_neg hok, if_neg hok, if_neg hok]
    by_cases hN : 0 ≤ N ∧ N ≤ 65536
    · refine (kmTag_no l _ _ _ S N (by unfold kmOk at hok; constructor <;> intro e <;> exact hok ⟨by omega, hN⟩) hN xof w).mono ?_
      rintro e w' ⟨rfl, hb'⟩
      refine ⟨_, rfl, ?_⟩
      rw [noteN_zero, upd_id hi]
      exact (H.call hb').nilRow k hk _ _
    · refine (kmTag_len l _ _ _ S N (by omega) xof w).mono ?_
      rintro e w' ⟨rfl, rfl⟩
      refine ⟨_, rfl, ?_⟩
      rw [noteN_zero, upd_id hi]
      exact H.nilRow k hk _ _

theorem rkTag_any (l : Value) (r : Option (List RunT)) (m : Nat) (b : Int) (S N : Int) (A B C : Option Addr) (n nc np c d cp : Nat) (key cus p : List UInt8) (xof : Bool) (H : St w0 F0 w E) (i k : Nat) (hi : E i = some (ledR l r)) (hk : E k = none) (hg : LW r m b) (hm : m ≤ 9999999) (hb : b ≤ 10000000000000000)
    (hA : ∀ w' X, St w0 F0 w' (upd E i X) → Rd w' 1 A n (key.map vb)) (hB : ∀ w' X, St w0 F0 w' (upd E i X) → Rd w' 1 B nc (cus.map vb)) (hC : ∀ w' X, St w0 F0 w' (upd E i X) → Rd w' 1 C np (p.map vb)) (hn : n ≤ 1900000) (hnc : nc ≤ 1900000) (hnp : np ≤ 100000000) :
    Calls Try.prog 14 #[l, .int .i64 S, .slice A n c, .slice B nc d, .slice C np cp, .int .i64 N, .bool xof] w fun e w' => ∃ v, e = .returned (.tuple #[v, .int .i64 (kmEr S N)]) ∧ St w0 F0 w' (upd (upd E i (ledR l (noteN r 3 200 (kmTagC S key cus p N xof)))) k (.row 5 1 v (kmTagT S key cus p N xof).length ((kmTagT S key cus p N xof).map vb))) := by
  have hik : i ≠ k := fun e => by rw [e, hk] at hi; cases hi
  by_cases hok : kmOk S N
  · unfold kmEr kmTagC kmTagT
    rw [if_pos hok, if_pos hok, if_pos hok]
    obtain ⟨hS, hN1, hN2⟩ := hok
    obtain ⟨N, rfl⟩ : ∃ q : Nat, N = q := ⟨N.toNat, by omega⟩
    rw [Int.toNat_natCast]
    refine (rkTag_s l r m b S (kmR S) (kmR_side hS) A B C n nc np c d cp key cus p N xof H i k hi hk hg hm hb hA hB hC hn hnc hnp (by omega)).mono ?_
    rintro e w' ⟨v, rfl, H1⟩
    have hl := (H1.row k upd_same).1
    rw [List.length_map, Nat.mul_one] at hl
    rw [hl]
    exact ⟨v, rfl, H1⟩
  · unfold kmEr kmTagC kmTagT
    rw [if_neg hok, if_neg hok, if_neg hok]
    refine (rkTag_no l _ _ _ S N (by unfold kmOk at hok; omega) xof w).mono ?_
    rintro e w' ⟨rfl, hb'⟩
    refine ⟨_, rfl, ?_⟩
    rw [noteN_zero, upd_id hi]
    first | exact (H.call hb').nilRow k hk _ _ | (subst hb'; exact H.nilRow k hk _ _)

theorem lent_st {L : List Own} (A : Option Addr) (n c : Nat) (l : List UInt8) (H : St w0 F0 w (lay L)) (hR : Rd w 1 A n (l.map vb)) (hn : n ≤ 140737488355320) :
    Calls Try.prog 10 #[.slice A n c] w fun e w' => ∃ g cF, n + 6 ≤ cF ∧ e = .returned (.slice (some ⟨g, 0, none⟩) (n + 6) cF) ∧ St w0 F0 w' (lay (L ++ [.row 5 1 (.slice (some ⟨g, 0, none⟩) (n + 6) cF) (n + 6) ((l ++ marksB 7 0 6).map vb)])) := by
  have hl : l.length = n := by simpa using hR.1
  refine (lentBytes_any A n c l w hR hn).mono ?_
  rintro e w' ⟨v, rfl, ho, hb⟩
  obtain ⟨g, cF, rfl, hcF, -, -⟩ := ho.lent hl
  refine ⟨g, cF, hcF, rfl, ?_⟩
  unfold OwnB at ho
  rw [List.length_append, marksB_length, hl] at ho
  exact (H.pushRow L.length (by simp [lay]) hb ho).push_mk rfl
end
end Go.Proofs.Ythoopaknldkclaa

namespace Go.Proofs.Ythoopaknldkclaa
open Go.RowKit
set_option linter.unusedVariables false
set_option maxRecDepth 100000

attribute [local irreducible] permB kBytes kPerm kFrom

theorem upd_push {L : List Own} {k : Nat} {A : Own} (h : k = L.length) : upd (lay L) k A = lay (L ++ [A]) := by
  funext i
  subst h
  simp only [lay, upd]
  by_cases hi : i = L.length
  · subst hi; simp
  · rw [if_neg hi]
    rcases Nat.lt_or_ge i L.length with h1 | h1
    · rw [List.getElem?_append_left h1]
    · rw [List.getElem?_eq_none h1, List.getElem?_eq_none (by rw [List.length_append, List.length_singleton]; omega)]

set_option maxHeartbeats 4000000 in
theorem kmacNone_walk (A : Option Addr) (n c : Nat) (p : List UInt8) (N : Int) (w : World) (hA : Rd w 1 A n (p.map vb)) (hn0 : n ≤ 140737488351232) (hN1 : -9223372036854775808 ≤ N) (hN2 : N ≤ 9223372036854775807) :
    Calls Try.prog 7 #[.slice A n c, .int .i64 N] w fun e w' => e = .returned (.bool true) ∧ Below w.heap.size w w' := by
  by_cases hbig : 4000 < n
  · have hb : decide ((n : Int) > 4000) = true := by simp; omega
    clear hbig
    go_enter Try.func7, Try.ntmps7
    go_wp2
    go_ret
    exact ⟨rfl, Below.refl _ _⟩
  · have hb : decide ((n : Int) > 4000) = false := by simp; omega
    have hn : n ≤ 4000 := by omega
    clear hbig hn0
    have H := (St.start_lay w []).ledNil 0 rfl |>.push_mk rfl
    have hz0 := zero_mac
    go_enter Try.func7, Try.ntmps7
    go_wp2_with fail
    refine (kmNew_s (.pointer none) none 0 0 256 136 (.inr ⟨rfl, rfl⟩) A none n 0 c 0 p [] H 0 2 1 rfl rfl rfl (by omega) (LW.none _ _) (by omega) (by omega) (fun w' X h => h.arg0 hA) (fun w' X h => Rd.none_) (by omega) (by omega)).mono ?_
    rintro e w1 ⟨gm, g, rfl, H1⟩
    obtain ⟨hxo, hxs, hxr, -⟩ := kmSp_ok (R := 136) p [] (by omega) (by omega)
    generalize kmSp 136 p [] = x at H1 hxo hxs hxr
    rw [noteN_none', upd_laid (by simp), upd_push (by simp), upd_push (by simp)] at H1
    replace H : St w [] w1 (lay [led (.pointer none) none, .blk g 111 x.vs, .blk gm 79 (macV g 256)]) := H1
    clear H1
    unfold lptr
    go_wp2_with fail
    refine (ledger_new H 3 rfl).mono ?_
    rintro e w2 ⟨l, rfl, H1⟩
    replace H := H1.push_mk rfl
    clear H1
    replace H : St w [] w2 (lay [led (.pointer none) none, .blk g 111 x.vs, .blk gm 79 (macV g 256), led l (some [])]) := H
    go_wp2_with fail
    refine (kmWipe_s l (some []) 0 0 gm g 256 rfl x H 3 2 1 (by omega) (by omega) (by omega) rfl rfl rfl LW.nil (by omega) (by omega) hxo).mono ?_
    rintro e w4 ⟨rfl, H1⟩
    rw [upd_laid (by simp), upd_laid (by simp), upd_laid (by simp)] at H1
    replace H : St w [] w4 (lay [led (.pointer none) none, .blk g 111 spZero, .blk gm 79 [.pointer none, .int .i64 0], led l (some [((8, 203, 1) : RunT)])]) := H1
    clear H1
    go_wp2_with fail
    refine (ledger_runs_w 1 1 H 3 rfl (fun rs h => by injection h with h; subst h; exact ⟨by simp, by simp, by decide⟩) (by omega) 4 rfl).mono ?_
    rintro e w5 ⟨v5, rfl, H1⟩
    replace H := H1.push_mk rfl
    clear H1
    obtain ⟨A5, c5, rfl, -, -⟩ := row_shape (H.row 4 rfl)
    go_wp2_with fail
    refine absorb_calls (H.allocAt 5 rfl w5.heap.size rfl #[.int .u8 8, .int .i64 203, .int .i64 1] 58 |>.push_mk rfl) ?_
    clear H
    intro w6 H
    generalize w5.heap.size = gR at H ⊢
    refine (sameRuns_any A5 (some ⟨gR, 0, none⟩) c5 1 [(8, 203, 1)] [(8, 203, 1)] (H.rd 4 rfl) (H.rdBlk 5 rfl 3 1 rfl) (by simp) (by simp)).mono ?_
    rintro e w7 ⟨rfl, kd, rfl⟩
    replace H := H.drewN kd
    rw [decide_eq_true rfl]
    generalize w6.drewN kd = w7 at H ⊢
    go_wp2_with fail
    refine (kmLives_s w7).mono ?_
    rintro e w8 ⟨rfl, hb2⟩
    replace H := H.call hb2
    clear hb2
    go_wp2_with fail
    refine (kmEmpty_s (.pointer none) (.slice A n c) N (.inl rfl)).mono ?_
    rintro e w9 ⟨rfl, hb2⟩
    replace H := H.call hb2
    clear hb2
    go_wp2_with fail
    refine absorb_calls (H.allocAt 6 rfl w9.heap.size rfl #[.pointer none, .int .i64 0] 79 |>.push_mk rfl) ?_
    clear H
    intro wa H
    generalize w9.heap.size = gz at H ⊢
    refine (kmEmpty_s (lptr gz) (.slice A n c) N (H.kmNo 6 rfl)).mono ?_
    rintro e wb ⟨rfl, hb2⟩
    replace H := H.call hb2
    clear hb2
    go_wp2_with fail
    refine (kmEmpty_s (lptr gm) (.slice A n c) N (H.kmNo 2 rfl)).mono ?_
    rintro e wc ⟨rfl, hb2⟩
    replace H := H.call hb2
    clear hb2
    go_wp2
    go_ret
    exact ⟨rfl, H.below⟩
end Go.Proofs.Ythoopaknldkclaa

namespace Go.Proofs.Ythoopaknldkclaa
open Go.RowKit
set_option linter.unusedVariables false

def bigO {α : Type} (f : α → Own) : List α → Own
  | [] => .emp
  | x :: t => .sep (f x) (bigO f t)

theorem bigO_snoc {α : Type} (f : α → Own) (x : α) : ∀ (L : List α) (w : World) (F : List Nat), (Own.sep (bigO f L) (f x)).holds w F → (bigO f (L ++ [x])).holds w F := by
  intro L
  induction L with
  | nil =>
    rintro w F ⟨G, H, rfl, hG, hH, d⟩
    have e : G = [] := hG
    subst e
    exact ⟨H, [], by simp, hH, rfl, by simp⟩
  | cons y L ih =>
    rintro w F ⟨G, H, rfl, ⟨G1, G2, rfl, h1, h2, d1⟩, hH, d⟩
    refine ⟨G1, G2 ++ H, by simp, h1, ih w (G2 ++ H) ⟨G2, H, rfl, h2, hH, fun g hg => d g (by simp [hg])⟩, fun g hg => ?_⟩
    rw [List.mem_append]
    rintro (h | h)
    · exact d1 g hg h
    · exact d g (by simp [hg]) h

section
variable {w0 w : World} {F0 : List Nat} {E : Env}

theorem St.recast {A A' : Own} (H : St w0 F0 w E) (k : Nat) (hk : E k = some A) (h : ∀ w F, A.holds w F → A'.holds w F) : St w0 F0 w (upd E k A') := by
  obtain ⟨F, hA, -, -, hc⟩ := H.change k hk
  exact hc w A' F (h w F hA) (Low.refl _ _) fun g hg => .inl hg

theorem St.part_mk {L : List Own} {A B : Own} (H : St w0 F0 w (lay L)) (i : Nat) (hi : L[i]? = some (.sep A B)) : St w0 F0 w (lay (L.set i A ++ [B])) := by
  have hl : i < L.length := (List.getElem?_eq_some_iff.1 hi).1
  refine (H.part i L.length (by omega) hi (by simp [lay])).env fun k => ?_
  simp only [lay, upd]
  by_cases hk : k = L.length
  · subst hk; simp
  · rw [if_neg hk]
    by_cases hki : k = i
    · subst hki; rw [if_pos rfl, List.getElem?_append_left (by simpa using hl), List.getElem?_set_self hl]
    · rw [if_neg hki]
      rcases Nat.lt_or_ge k L.length with h | h
      · rw [List.getElem?_append_left (by simpa using h), List.getElem?_set_ne (fun e => hki e.symm)]
      · rw [List.getElem?_eq_none (by simp; omega), List.getElem?_eq_none h]

/-- one more element -/
theorem St.fam_push {α : Type} {f : α → Own} {L : List α} {x : α} {A B X Y : Own} {rest : List Own} (H : St w0 F0 w (lay (A :: B :: bigO f L :: X :: Y :: rest))) (hf : f x = .sep X Y) : St w0 F0 w (lay [A, B, bigO f (L ++ [x])]) := by
  have H1 := (H.join 3 4 (by omega) (A := X) (B := Y) rfl rfl)
  have H2 := H1.join 2 3 (by omega) (A := bigO f L) (B := .sep X Y) (by simp [upd, del, lay]) (by simp [upd])
  have H3 := H2.recast (A := .sep (bigO f L) (.sep X Y)) (A' := bigO f (L ++ [x])) 2 (by simp [upd]) (fun w F h => bigO_snoc f x L w F (by rw [hf]; exact h))
  refine H3.sub fun k C hC => ?_
  match k, hC with
  | 0, hC => simpa [upd, del, lay] using hC
  | 1, hC => simpa [upd, del, lay] using hC
  | 2, hC => simpa [upd, del, lay] using hC
  | k + 3, hC => simp [lay] at hC

end

/-- a piece of the family, to be read -/
theorem bigO_row {α : Type} {f : α → Own} {w : World} : ∀ {L : List α} {F : List Nat} {i : Nat} {x : α}, (bigO f L).holds w F → L[i]? = some x → ∃ G, (f x).holds w G := by
  intro L
  induction L with
  | nil => intro F i x h hx; simp at hx
  | cons y L ih =>
    rintro F i x ⟨G, H, rfl, hG, hH, d⟩ hx
    cases i with
    | zero => simp at hx; subst hx; exact ⟨G, hG⟩
    | succ i => exact ih hH (by simpa using hx)

theorem St.bigRow {α : Type} {f : α → Own} {L : List α} {w0 w : World} {F0 : List Nat} {E : Env} (H : St w0 F0 w E) (k : Nat) (hk : E k = some (bigO f L)) {i : Nat} {x : α} (hx : L[i]? = some x) : ∃ G, (f x).holds w G := by
  obtain ⟨F, hA, -, -, -⟩ := H.change k hk
  exact bigO_row hA hx

/-- one more element, a piece of its own -/
theorem St.bigPush {α : Type} {f : α → Own} {L : List α} {x : α} {w0 w : World} {F0 : List Nat} {A : Own} (H : St w0 F0 w (lay [A, bigO f L, f x])) : St w0 F0 w (lay [A, bigO f (L ++ [x])]) := by
  have H1 := H.join 1 2 (by omega) (A := bigO f L) (B := f x) rfl rfl
  have H2 := H1.recast (A := .sep (bigO f L) (f x)) (A' := bigO f (L ++ [x])) 1 (by simp [upd]) (fun w F h => bigO_snoc f x L w F h)
  refine H2.sub fun k C hC => ?_
  match k, hC with
  | 0, hC => simpa [upd, del, lay] using hC
  | 1, hC => simpa [upd, del, lay] using hC
  | k + 2, hC => simp [lay] at hC

end Go.Proofs.Ythoopaknldkclaa
