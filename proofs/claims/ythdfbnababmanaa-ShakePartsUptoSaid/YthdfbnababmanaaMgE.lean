/- Texts of this claim, merged: RhT, ShAny, ShAw, Lit, ShAwk, Pick, LawShPa. -/
import Derived.Lib.SlBytesConst
import Derived.Test.YthdfbnababmanaaRows
import Derived.Test.YthdfbnababmanaaMgD
set_option linter.unusedVariables false

namespace Go.Proofs.Ythdfbnababmanaa
open Go.RowKit
set_option linter.unusedVariables false
set_option maxRecDepth 100000

attribute [local irreducible] permB kBytes kPerm kFrom

section
variable {w0 w : World} {F0 : List Nat} {E : Env}

set_option maxHeartbeats 2000000 in
theorem rhTold_s (l : Value) (r : Option (List RunT)) (m : Nat) (b : Int) (S : Int) (R : Nat) (hS : (S = 128 ∧ R = 168) ∨ (S = 256 ∧ R = 136)) (A B C : Option Addr) (n nc np c d cp : Nat) (xs ys q : List UInt8) (N : Nat) (Z : Int) (hZ : Z = N) (hN : N ≤ 65536) (H : St w0 F0 w E) (i k : Nat) (hi : E i = some (ledR l r)) (hk : E k = none) (hg : LW r m b) (hm : m ≤ 999999990) (hb : b ≤ 100000000000000000)
    (hA : ∀ w' X, St w0 F0 w' (upd E i X) → Rd w' 1 A n (xs.map vb)) (hB : ∀ w' X, St w0 F0 w' (upd E i X) → Rd w' 1 B nc (ys.map vb)) (hC : ∀ w' X, St w0 F0 w' (upd E i X) → Rd w' 1 C np (q.map vb)) (hn : n ≤ 2000000) (hnc : nc ≤ 2000000) (hnp : np ≤ 281474976710656) :
    Calls Try.prog 65 #[l, .int .i64 S, .slice A n c, .slice B nc d, .slice C np cp, .int .i64 Z] w fun e w' => ∃ v, e = .returned (.tuple #[v, .int .i64 0]) ∧ St w0 F0 w' (upd (upd E i (ledR l (noteN r 3 200 (toldN R xs ys q N)))) k (.row 5 1 v N ((toldB R xs ys q N).map vb))) := by
  subst hZ
  obtain ⟨F, HF, -, -, hback⟩ := H.frame1 i hi
  have HB := Lib.hid hback
  have HAA : Hid (∀ w' X, St w F w' (one X) → Rd w' 1 A n (xs.map vb)) := fun w' X h => hA w' X (hback w' X h)
  have HBB : Hid (∀ w' X, St w F w' (one X) → Rd w' 1 B nc (ys.map vb)) := fun w' X h => hB w' X (hback w' X h)
  have HCC : Hid (∀ w' X, St w F w' (one X) → Rd w' 1 C np (q.map vb)) := fun w' X h => hC w' X (hback w' X h)
  replace HF := HF.as1
  have HI := Lib.hid hi
  have HK := Lib.hid hk
  have hlx : xs.length = n := by have h := (HAA.out w _ (HF.to1 rfl)).1; simpa using h
  have hly : ys.length = nc := by have h := (HBB.out w _ (HF.to1 rfl)).1; simpa using h
  have hlq : q.length = np := by have h := (HCC.out w _ (HF.to1 rfl)).1; simpa using h
  have HX := Lib.hid hlx
  have HY := Lib.hid hly
  have HQ := Lib.hid hlq
  have HG := Lib.hid hg
  have HS := Lib.hid hS
  clear hback hA hB hC hi hk H hlx hly hlq hg
  have hR1 : R ≤ 168 := by omega
  have hR2 : 136 ≤ R := by omega
  clear hS
  have hd1 : decide ((N : Int) < 0) = false := by simp
  have hd2 : decide ((N : Int) > 65536) = false := by simp; omega
  have hsp := beginSp_ok (r := R) xs ys (by omega) (by omega)
  have hbn := beginN_le (R := R) (x := xs) (y := ys) (by omega) (by omega) (by rw [HX.out]; exact hn) (by rw [HY.out]; exact hnc)
  have HTN : Hid (toldN R xs ys q N = beginN R xs ys + (((beginSp R xs ys).p + q.length) / R + (1 + (0 + N - 1) / R))) := rfl
  have HTB : Hid (toldB R xs ys q N = ((beginSp R xs ys).write q).close.read N) := rfl
  go_enter Try.func65, Try.ntmps65
  go_wp2_with fail
  refine (rhBegin_s l r m b S R HS.out A B n nc c d xs ys HF 0 1 rfl rfl HG.out (by omega) (by omega) (fun w' X h => HAA.out w' X (h.sub fun n' C' hC' => one_upd hC')) (fun w' X h => HBB.out w' X (h.sub fun n' C' hC' => one_upd hC')) hn hnc).mono ?_
  rintro e w1 ⟨g, rfl, H1⟩
  rw [upd_laid (by simp)] at H1
  replace H1 := H1.push_mk rfl
  generalize beginSp R xs ys = x at H1 hsp HTN HTB
  generalize beginN R xs ys = a0 at H1 hbn HTN
  have HSP := Lib.hid hsp
  have hxr : x.p < R := hsp.2.2.2
  clear hsp HF
  replace H1 : St w F w1 (lay [ledR l (noteN r 3 200 a0), .blk g 87 x.vsR]) := H1
  unfold lptr
  go_wp2_with fail
  refine (rsWrite_s l (noteN r 3 200 a0) (m + 1) (b + a0) g x C np cp q H1 0 1 (by omega) rfl rfl (HG.out.noteN 3 200 a0) (by omega) (by omega) HSP.out.1 HSP.out.2.1 (fun w' X Y h => HCC.out w' X (h.sub fun n' C' hC' => one_upd2 hC')) hnp).mono ?_
  rintro e w2 ⟨rfl, H2⟩
  rw [upd_laid (by simp), upd_laid (by simp), noteN_noteN, HSP.out.2.2.1, ← HQ.out] at H2
  have hy1 := (Sp.write_ok q HSP.out.1 (by rw [HSP.out.2.2.1]; exact hxr)).1
  have hy2 := Sp.write_r q x
  have HY2 : Hid ((x.write q).Ok ∧ (x.write q).s = false ∧ (x.write q).r = R) := ⟨hy1, by rw [hy2.2.2]; exact HSP.out.2.1, by rw [hy2.1]; exact HSP.out.2.2.1⟩
  have hc1 : (x.p + q.length) / R ≤ 281474976711656 := Nat.le_trans (Nat.div_le_self _ _) (by rw [HQ.out]; omega)
  generalize (x.p + q.length) / R = a1 at H2 hc1 HTN
  generalize x.write q = y at H2 HY2 HTB
  clear hy1 hy2 H1
  replace H2 : St w F w2 (lay [ledR l (noteN r 3 200 (a0 + a1)), .blk g 87 y.vsR]) := H2
  go_wp2_with fail
  refine (rsRead_s l (noteN r 3 200 (a0 + a1)) (m + 1) (b + ((a0 + a1 : Nat) : Int)) g y N N rfl H2 0 1 2 (by omega) rfl rfl rfl (HG.out.noteN 3 200 (a0 + a1)) (by omega) (by omega) HY2.out.1 hN).mono ?_
  rintro e w3 ⟨v, rfl, H3⟩
  have hsh : y.shut = y.close ∧ y.shutN = 1 := ⟨by unfold Sp.shut; rw [if_neg (by rw [HY2.out.2.1]; decide)], by unfold Sp.shutN; rw [if_neg (by rw [HY2.out.2.1]; decide)]⟩
  rw [upd_laid (by simp), upd_laid (by simp), noteN_noteN, hsh.1, hsh.2, HY2.out.2.2, show y.close.p = 0 from rfl, Nat.add_assoc a0 a1, ← HTN.out, ← HTB.out] at H3
  replace H3 := H3.push_mk rfl
  clear H2 hsh
  replace H3 : St w F w3 (lay [ledR l (noteN r 3 200 (toldN R xs ys q N)), .row 5 1 v N ((toldB R xs ys q N).map vb)]) := H3.pick (fun i => if i = 0 then 0 else i + 1) (fun i j h => by split at h <;> split at h <;> omega) (fun k A h => by rcases k with _ | _ | k <;> first | exact h | simp [lay] at h)
  go_wp2
  go_ret2
  exact ⟨v, rfl, St.one_more HI.out HK.out HB.out H3⟩

theorem rhTold_bad (l : Value) (S : Int) (v1 v2 v3 : Value) (Z : Int) (hZ : Z < 0 ∨ 65536 < Z) :
    Calls Try.prog 65 #[l, .int .i64 S, v1, v2, v3, .int .i64 Z] w fun e w' => e = .returned (.tuple #[.slice none 0 0, .int .i64 2]) ∧ w = w' := by
  by_cases h1 : Z < 0
  · have d1 : decide (Z < 0) = true := by simp; omega
    clear hZ h1
    go_enter Try.func65, Try.ntmps65
    go_wp2
    go_ret2
    exact ⟨rfl, rfl⟩
  · have d1 : decide (Z < 0) = false := by simp; omega
    have d2 : decide (Z > 65536) = true := by simp; omega
    clear hZ h1
    go_enter Try.func65, Try.ntmps65
    go_wp2
    go_ret2
    exact ⟨rfl, rfl⟩

set_option maxHeartbeats 1000000 in
theorem rhC128_s (l : Value) (r : Option (List RunT)) (m : Nat) (b : Int) (A B C : Option Addr) (n nc np c d cp : Nat) (xs ys q : List UInt8) (N : Nat) (Z : Int) (hZ : Z = N) (hN : N ≤ 65536) (H : St w0 F0 w E) (i k : Nat) (hi : E i = some (ledR l r)) (hk : E k = none) (hg : LW r m b) (hm : m ≤ 999999990) (hb : b ≤ 100000000000000000)
    (hA : ∀ w' X, St w0 F0 w' (upd E i X) → Rd w' 1 A n (xs.map vb)) (hB : ∀ w' X, St w0 F0 w' (upd E i X) → Rd w' 1 B nc (ys.map vb)) (hC : ∀ w' X, St w0 F0 w' (upd E i X) → Rd w' 1 C np (q.map vb)) (hn : n ≤ 2000000) (hnc : nc ≤ 2000000) (hnp : np ≤ 281474976710656) :
    Calls Try.prog 47 #[l, .slice A n c, .slice B nc d, .slice C np cp, .int .i64 Z] w fun e w' => ∃ v, e = .returned (.tuple #[v, .int .i64 0]) ∧ St w0 F0 w' (upd (upd E i (ledR l (noteN r 3 200 (toldN 168 xs ys q N)))) k (.row 5 1 v N ((toldB 168 xs ys q N).map vb))) := by
  have hc := rhTold_s l r m b 128 168 (.inl ⟨rfl, rfl⟩) A B C n nc np c d cp xs ys q N Z hZ hN H i k hi hk hg hm hb hA hB hC hn hnc hnp
  have HC := Lib.hid hc
  clear hc hA hB hC H hi hk hg hZ
  go_enter Try.func47, Try.ntmps47
  go_wp2_with fail
  refine HC.out.mono ?_
  rintro e w1 ⟨v, rfl, H1⟩
  go_wp2
  go_ret2
  exact ⟨v, rfl, H1⟩

theorem rhC128_bad (l v1 v2 v3 : Value) (Z : Int) (hZ : Z < 0 ∨ 65536 < Z) :
    Calls Try.prog 47 #[l, v1, v2, v3, .int .i64 Z] w fun e w' => e = .returned (.tuple #[.slice none 0 0, .int .i64 2]) ∧ w = w' := by
  have hc := rhTold_bad (w := w) l 128 v1 v2 v3 Z hZ
  have HC := Lib.hid hc
  clear hc hZ
  go_enter Try.func47, Try.ntmps47
  go_wp2_with fail
  refine HC.out.mono ?_
  rintro e w1 ⟨rfl, rfl⟩
  go_wp2
  go_ret2
  exact ⟨rfl, rfl⟩

set_option maxHeartbeats 1000000 in
theorem rhC256_s (l : Value) (r : Option (List RunT)) (m : Nat) (b : Int) (A B C : Option Addr) (n nc np c d cp : Nat) (xs ys q : List UInt8) (N : Nat) (Z : Int) (hZ : Z = N) (hN : N ≤ 65536) (H : St w0 F0 w E) (i k : Nat) (hi : E i = some (ledR l r)) (hk : E k = none) (hg : LW r m b) (hm : m ≤ 999999990) (hb : b ≤ 100000000000000000)
    (hA : ∀ w' X, St w0 F0 w' (upd E i X) → Rd w' 1 A n (xs.map vb)) (hB : ∀ w' X, St w0 F0 w' (upd E i X) → Rd w' 1 B nc (ys.map vb)) (hC : ∀ w' X, St w0 F0 w' (upd E i X) → Rd w' 1 C np (q.map vb)) (hn : n ≤ 2000000) (hnc : nc ≤ 2000000) (hnp : np ≤ 281474976710656) :
    Calls Try.prog 48 #[l, .slice A n c, .slice B nc d, .slice C np cp, .int .i64 Z] w fun e w' => ∃ v, e = .returned (.tuple #[v, .int .i64 0]) ∧ St w0 F0 w' (upd (upd E i (ledR l (noteN r 3 200 (toldN 136 xs ys q N)))) k (.row 5 1 v N ((toldB 136 xs ys q N).map vb))) := by
  have hc := rhTold_s l r m b 256 136 (.inr ⟨rfl, rfl⟩) A B C n nc np c d cp xs ys q N Z hZ hN H i k hi hk hg hm hb hA hB hC hn hnc hnp
  have HC := Lib.hid hc
  clear hc hA hB hC H hi hk hg hZ
  go_enter Try.func48, Try.ntmps48
  go_wp2_with fail
  refine HC.out.mono ?_
  rintro e w1 ⟨v, rfl, H1⟩
  go_wp2
  go_ret2
  exact ⟨v, rfl, H1⟩

theorem rhC256_bad (l v1 v2 v3 : Value) (Z : Int) (hZ : Z < 0 ∨ 65536 < Z) :
    Calls Try.prog 48 #[l, v1, v2, v3, .int .i64 Z] w fun e w' => e = .returned (.tuple #[.slice none 0 0, .int .i64 2]) ∧ w = w' := by
  have hc := rhTold_bad (w := w) l 256 v1 v2 v3 Z hZ
  have HC := Lib.hid hc
  clear hc hZ
  go_enter Try.func48, Try.ntmps48
  go_wp2_with fail
  refine HC.out.mono ?_
  rintro e w1 ⟨rfl, rfl⟩
  go_wp2
  go_ret2
  exact ⟨rfl, rfl⟩

set_option maxHeartbeats 1000000 in
theorem rhShake128_s (l : Value) (r : Option (List RunT)) (m : Nat) (b : Int) (C : Option Addr) (np cp : Nat) (q : List UInt8) (N : Nat) (Z : Int) (hZ : Z = N) (hN : N ≤ 65536) (H : St w0 F0 w E) (i k : Nat) (hi : E i = some (ledR l r)) (hk : E k = none) (hg : LW r m b) (hm : m ≤ 999999990) (hb : b ≤ 100000000000000000)
    (hC : ∀ w' X, St w0 F0 w' (upd E i X) → Rd w' 1 C np (q.map vb)) (hnp : np ≤ 281474976710656) :
    Calls Try.prog 49 #[l, .slice C np cp, .int .i64 Z] w fun e w' => ∃ v, e = .returned (.tuple #[v, .int .i64 0]) ∧ St w0 F0 w' (upd (upd E i (ledR l (noteN r 3 200 (toldN 168 [] [] q N)))) k (.row 5 1 v N ((toldB 168 [] [] q N).map vb))) := by
  have hc := rhTold_s l r m b 128 168 (.inl ⟨rfl, rfl⟩) none none C 0 0 np 0 0 cp [] [] q N Z hZ hN H i k hi hk hg hm hb (fun _ _ _ => Rd.none_) (fun _ _ _ => Rd.none_) hC (by omega) (by omega) hnp
  have HC := Lib.hid hc
  clear hc hC H hi hk hg hZ
  go_enter Try.func49, Try.ntmps49
  go_wp2_with fail
  refine HC.out.mono ?_
  rintro e w1 ⟨v, rfl, H1⟩
  go_wp2
  go_ret2
  exact ⟨v, rfl, H1⟩

theorem rhShake128_bad (l v3 : Value) (Z : Int) (hZ : Z < 0 ∨ 65536 < Z) :
    Calls Try.prog 49 #[l, v3, .int .i64 Z] w fun e w' => e = .returned (.tuple #[.slice none 0 0, .int .i64 2]) ∧ w = w' := by
  have hc := rhTold_bad (w := w) l 128 (.slice none 0 0) (.slice none 0 0) v3 Z hZ
  have HC := Lib.hid hc
  clear hc hZ
  go_enter Try.func49, Try.ntmps49
  go_wp2_with fail
  refine HC.out.mono ?_
  rintro e w1 ⟨rfl, rfl⟩
  go_wp2
  go_ret2
  exact ⟨rfl, rfl⟩

set_option maxHeartbeats 1000000 in
theorem rhShake256_s (l : Value) (r : Option (List RunT)) (m : Nat) (b : Int) (C : Option Addr) (np cp : Nat) (q : List UInt8) (N : Nat) (Z : Int) (hZ : Z = N) (hN : N ≤ 65536) (H : St w0 F0 w E) (i k : Nat) (hi : E i = some (ledR l r)) (hk : E k = none) (hg : LW r m b) (hm : m ≤ 999999990) (hb : b ≤ 100000000000000000)
    (hC : ∀ w' X, St w0 F0 w' (upd E i X) → Rd w' 1 C np (q.map vb)) (hnp : np ≤ 281474976710656) :
    Calls Try.prog 50 #[l, .slice C np cp, .int .i64 Z] w fun e w' => ∃ v, e = .returned (.tuple #[v, .int .i64 0]) ∧ St w0 F0 w' (upd (upd E i (ledR l (noteN r 3 200 (toldN 136 [] [] q N)))) k (.row 5 1 v N ((toldB 136 [] [] q N).map vb))) := by
  have hc := rhTold_s l r m b 256 136 (.inr ⟨rfl, rfl⟩) none none C 0 0 np 0 0 cp [] [] q N Z hZ hN H i k hi hk hg hm hb (fun _ _ _ => Rd.none_) (fun _ _ _ => Rd.none_) hC (by omega) (by omega) hnp
  have HC := Lib.hid hc
  clear hc hC H hi hk hg hZ
  go_enter Try.func50, Try.ntmps50
  go_wp2_with fail
  refine HC.out.mono ?_
  rintro e w1 ⟨v, rfl, H1⟩
  go_wp2
  go_ret2
  exact ⟨v, rfl, H1⟩

theorem rhShake256_bad (l v3 : Value) (Z : Int) (hZ : Z < 0 ∨ 65536 < Z) :
    Calls Try.prog 50 #[l, v3, .int .i64 Z] w fun e w' => e = .returned (.tuple #[.slice none 0 0, .int .i64 2]) ∧ w = w' := by
  have hc := rhTold_bad (w := w) l 256 (.slice none 0 0) (.slice none 0 0) v3 Z hZ
  have HC := Lib.hid hc
  clear hc hZ
  go_enter Try.func50, Try.ntmps50
  go_wp2_with fail
  refine HC.out.mono ?_
  rintro e w1 ⟨rfl, rfl⟩
  go_wp2
  go_ret2
  exact ⟨rfl, rfl⟩

end

end Go.Proofs.Ythdfbnababmanaa

namespace Go.Proofs.Ythdfbnababmanaa
open Go.RowKit
set_option linter.unusedVariables false
set_option maxRecDepth 100000

attribute [local irreducible] permB kBytes kPerm kFrom

def okN (Z : Int) : Prop := 0 ≤ Z ∧ Z ≤ 65536

instance (Z : Int) : Decidable (okN Z) := inferInstanceAs (Decidable (_ ∧ _))

def outB (R : Nat) (x y q : List UInt8) (Z : Int) : List UInt8 := if okN Z then toldB R x y q Z.toNat else []

def outN (R : Nat) (x y q : List UInt8) (Z : Int) : Nat := if okN Z then toldN R x y q Z.toNat else 0

def outE (Z : Int) : Int := if okN Z then 0 else 2

theorem outB_le (R : Nat) (x y q : List UInt8) (Z : Int) : (outB R x y q Z).length ≤ 65536 := by
  unfold outB
  split
  · rename_i h; rw [toldB_length]; have := h.2; omega
  · simp

theorem outN_le {R : Nat} {x y q : List UInt8} (Z : Int) (h1 : 8 ≤ R) (h2 : R ≤ 192) (hx : x.length ≤ 2000000) (hy : y.length ≤ 2000000) (hq : q.length ≤ 281474976710656) : outN R x y q Z ≤ 300000000000000 := by
  unfold outN
  split
  · rename_i h
    unfold toldN
    have a := beginN_le (R := R) (x := x) (y := y) h1 (by omega) hx hy
    have b := (beginSp_ok (r := R) x y h1 h2).2.2.2
    have c : ((beginSp R x y).p + q.length) / R ≤ (beginSp R x y).p + q.length := Nat.div_le_self _ _
    have d : (0 + Z.toNat - 1) / R ≤ 0 + Z.toNat - 1 := Nat.div_le_self _ _
    have := h.2
    omega
  · omega

section
variable {w0 w : World} {F0 : List Nat} {E : Env}

theorem shC128_any (l : Value) (r : Option (List RunT)) (m : Nat) (b : Int) (A B C : Option Addr) (n nc np c d cp : Nat) (xs ys q : List UInt8) (Z : Int) (H : St w0 F0 w E) (i k : Nat) (hi : E i = some (led l r)) (hk : E k = none) (hg : LW r m b) (hm : m ≤ 999999990) (hb : b ≤ 100000000000000000)
    (hA : ∀ w' X, St w0 F0 w' (upd E i X) → Rd w' 1 A n (xs.map vb)) (hB : ∀ w' X, St w0 F0 w' (upd E i X) → Rd w' 1 B nc (ys.map vb)) (hC : ∀ w' X, St w0 F0 w' (upd E i X) → Rd w' 1 C np (q.map vb)) (hn : n ≤ 2000000) (hnc : nc ≤ 2000000) (hnp : np ≤ 281474976710656) :
    Calls Try.prog 41 #[l, .slice A n c, .slice B nc d, .slice C np cp, .int .i64 Z] w fun e w' => ∃ v, e = .returned (.tuple #[v, .int .i64 (outE Z)]) ∧ St w0 F0 w' (upd (upd E i (led l (noteN r 3 200 (outN 168 xs ys q Z)))) k (.row 5 1 v (outB 168 xs ys q Z).length ((outB 168 xs ys q Z).map vb))) := by
  by_cases hz : okN Z
  · have e1 : outB 168 xs ys q Z = toldB 168 xs ys q Z.toNat := if_pos hz
    have e2 : outN 168 xs ys q Z = toldN 168 xs ys q Z.toNat := if_pos hz
    have e3 : outE Z = 0 := if_pos hz
    rw [e1, e2, e3, toldB_length]
    exact shC128_s l r m b A B C n nc np c d cp xs ys q Z.toNat Z (by have := hz.1; omega) (by have := hz.2; omega) H i k hi hk hg hm hb hA hB hC hn hnc hnp
  · have e1 : outB 168 xs ys q Z = [] := if_neg hz
    have e2 : outN 168 xs ys q Z = 0 := if_neg hz
    have e3 : outE Z = 2 := if_neg hz
    rw [e1, e2, e3, noteN_zero]
    refine (shC128_bad _ _ _ _ Z (by unfold okN at hz; omega)).mono ?_
    rintro e w1 ⟨rfl, rfl⟩
    refine ⟨_, rfl, ?_⟩
    rw [upd_id hi]
    exact H.nilRow k hk _ _

theorem shC256_any (l : Value) (r : Option (List RunT)) (m : Nat) (b : Int) (A B C : Option Addr) (n nc np c d cp : Nat) (xs ys q : List UInt8) (Z : Int) (H : St w0 F0 w E) (i k : Nat) (hi : E i = some (led l r)) (hk : E k = none) (hg : LW r m b) (hm : m ≤ 999999990) (hb : b ≤ 100000000000000000)
    (hA : ∀ w' X, St w0 F0 w' (upd E i X) → Rd w' 1 A n (xs.map vb)) (hB : ∀ w' X, St w0 F0 w' (upd E i X) → Rd w' 1 B nc (ys.map vb)) (hC : ∀ w' X, St w0 F0 w' (upd E i X) → Rd w' 1 C np (q.map vb)) (hn : n ≤ 2000000) (hnc : nc ≤ 2000000) (hnp : np ≤ 281474976710656) :
    Calls Try.prog 42 #[l, .slice A n c, .slice B nc d, .slice C np cp, .int .i64 Z] w fun e w' => ∃ v, e = .returned (.tuple #[v, .int .i64 (outE Z)]) ∧ St w0 F0 w' (upd (upd E i (led l (noteN r 3 200 (outN 136 xs ys q Z)))) k (.row 5 1 v (outB 136 xs ys q Z).length ((outB 136 xs ys q Z).map vb))) := by
  by_cases hz : okN Z
  · have e1 : outB 136 xs ys q Z = toldB 136 xs ys q Z.toNat := if_pos hz
    have e2 : outN 136 xs ys q Z = toldN 136 xs ys q Z.toNat := if_pos hz
    have e3 : outE Z = 0 := if_pos hz
    rw [e1, e2, e3, toldB_length]
    exact shC256_s l r m b A B C n nc np c d cp xs ys q Z.toNat Z (by have := hz.1; omega) (by have := hz.2; omega) H i k hi hk hg hm hb hA hB hC hn hnc hnp
  · have e1 : outB 136 xs ys q Z = [] := if_neg hz
    have e2 : outN 136 xs ys q Z = 0 := if_neg hz
    have e3 : outE Z = 2 := if_neg hz
    rw [e1, e2, e3, noteN_zero]
    refine (shC256_bad _ _ _ _ Z (by unfold okN at hz; omega)).mono ?_
    rintro e w1 ⟨rfl, rfl⟩
    refine ⟨_, rfl, ?_⟩
    rw [upd_id hi]
    exact H.nilRow k hk _ _

theorem shShake128_any (l : Value) (r : Option (List RunT)) (m : Nat) (b : Int) (C : Option Addr) (np cp : Nat) (q : List UInt8) (Z : Int) (H : St w0 F0 w E) (i k : Nat) (hi : E i = some (led l r)) (hk : E k = none) (hg : LW r m b) (hm : m ≤ 999999990) (hb : b ≤ 100000000000000000)
    (hC : ∀ w' X, St w0 F0 w' (upd E i X) → Rd w' 1 C np (q.map vb)) (hnp : np ≤ 281474976710656) :
    Calls Try.prog 45 #[l, .slice C np cp, .int .i64 Z] w fun e w' => ∃ v, e = .returned (.tuple #[v, .int .i64 (outE Z)]) ∧ St w0 F0 w' (upd (upd E i (led l (noteN r 3 200 (outN 168 [] [] q Z)))) k (.row 5 1 v (outB 168 [] [] q Z).length ((outB 168 [] [] q Z).map vb))) := by
  by_cases hz : okN Z
  · have e1 : outB 168 [] [] q Z = toldB 168 [] [] q Z.toNat := if_pos hz
    have e2 : outN 168 [] [] q Z = toldN 168 [] [] q Z.toNat := if_pos hz
    have e3 : outE Z = 0 := if_pos hz
    rw [e1, e2, e3, toldB_length]
    exact shShake128_s l r m b C np cp q Z.toNat Z (by have := hz.1; omega) (by have := hz.2; omega) H i k hi hk hg hm hb hC hnp
  · have e1 : outB 168 [] [] q Z = [] := if_neg hz
    have e2 : outN 168 [] [] q Z = 0 := if_neg hz
    have e3 : outE Z = 2 := if_neg hz
    rw [e1, e2, e3, noteN_zero]
    refine (shShake128_bad _ _ Z (by unfold okN at hz; omega)).mono ?_
    rintro e w1 ⟨rfl, rfl⟩
    refine ⟨_, rfl, ?_⟩
    rw [upd_id hi]
    exact H.nilRow k hk _ _

theorem shShake256_any (l : Value) (r : Option (List RunT)) (m : Nat) (b : Int) (C : Option Addr) (np cp : Nat) (q : List UInt8) (Z : Int) (H : St w0 F0 w E) (i k : Nat) (hi : E i = some (led l r)) (hk : E k = none) (hg : LW r m b) (hm : m ≤ 999999990) (hb : b ≤ 100000000000000000)
    (hC : ∀ w' X, St w0 F0 w' (upd E i X) → Rd w' 1 C np (q.map vb)) (hnp : np ≤ 281474976710656) :
    Calls Try.prog 46 #[l, .slice C np cp, .int .i64 Z] w fun e w' => ∃ v, e = .returned (.tuple #[v, .int .i64 (outE Z)]) ∧ St w0 F0 w' (upd (upd E i (led l (noteN r 3 200 (outN 136 [] [] q Z)))) k (.row 5 1 v (outB 136 [] [] q Z).length ((outB 136 [] [] q Z).map vb))) := by
  by_cases hz : okN Z
  · have e1 : outB 136 [] [] q Z = toldB 136 [] [] q Z.toNat := if_pos hz
    have e2 : outN 136 [] [] q Z = toldN 136 [] [] q Z.toNat := if_pos hz
    have e3 : outE Z = 0 := if_pos hz
    rw [e1, e2, e3, toldB_length]
    exact shShake256_s l r m b C np cp q Z.toNat Z (by have := hz.1; omega) (by have := hz.2; omega) H i k hi hk hg hm hb hC hnp
  · have e1 : outB 136 [] [] q Z = [] := if_neg hz
    have e2 : outN 136 [] [] q Z = 0 := if_neg hz
    have e3 : outE Z = 2 := if_neg hz
    rw [e1, e2, e3, noteN_zero]
    refine (shShake256_bad _ _ Z (by unfold okN at hz; omega)).mono ?_
    rintro e w1 ⟨rfl, rfl⟩
    refine ⟨_, rfl, ?_⟩
    rw [upd_id hi]
    exact H.nilRow k hk _ _

end

section
variable {w0 w : World} {F0 : List Nat} {E : Env}

theorem rhC128_any (l : Value) (r : Option (List RunT)) (m : Nat) (b : Int) (A B C : Option Addr) (n nc np c d cp : Nat) (xs ys q : List UInt8) (Z : Int) (H : St w0 F0 w E) (i k : Nat) (hi : E i = some (ledR l r)) (hk : E k = none) (hg : LW r m b) (hm : m ≤ 999999990) (hb : b ≤ 100000000000000000)
    (hA : ∀ w' X, St w0 F0 w' (upd E i X) → Rd w' 1 A n (xs.map vb)) (hB : ∀ w' X, St w0 F0 w' (upd E i X) → Rd w' 1 B nc (ys.map vb)) (hC : ∀ w' X, St w0 F0 w' (upd E i X) → Rd w' 1 C np (q.map vb)) (hn : n ≤ 2000000) (hnc : nc ≤ 2000000) (hnp : np ≤ 281474976710656) :
    Calls Try.prog 47 #[l, .slice A n c, .slice B nc d, .slice C np cp, .int .i64 Z] w fun e w' => ∃ v, e = .returned (.tuple #[v, .int .i64 (outE Z)]) ∧ St w0 F0 w' (upd (upd E i (ledR l (noteN r 3 200 (outN 168 xs ys q Z)))) k (.row 5 1 v (outB 168 xs ys q Z).length ((outB 168 xs ys q Z).map vb))) := by
  by_cases hz : okN Z
  · have e1 : outB 168 xs ys q Z = toldB 168 xs ys q Z.toNat := if_pos hz
    have e2 : outN 168 xs ys q Z = toldN 168 xs ys q Z.toNat := if_pos hz
    have e3 : outE Z = 0 := if_pos hz
    rw [e1, e2, e3, toldB_length]
    exact rhC128_s l r m b A B C n nc np c d cp xs ys q Z.toNat Z (by have := hz.1; omega) (by have := hz.2; omega) H i k hi hk hg hm hb hA hB hC hn hnc hnp
  · have e1 : outB 168 xs ys q Z = [] := if_neg hz
    have e2 : outN 168 xs ys q Z = 0 := if_neg hz
    have e3 : outE Z = 2 := if_neg hz
    rw [e1, e2, e3, noteN_zero]
    refine (rhC128_bad _ _ _ _ Z (by unfold okN at hz; omega)).mono ?_
    rintro e w1 ⟨rfl, rfl⟩
    refine ⟨_, rfl, ?_⟩
    rw [upd_id hi]
    exact H.nilRow k hk _ _

theorem rhC256_any (l : Value) (r : Option (List RunT)) (m : Nat) (b : Int) (A B C : Option Addr) (n nc np c d cp : Nat) (xs ys q : List UInt8) (Z : Int) (H : St w0 F0 w E) (i k : Nat) (hi : E i = some (ledR l r)) (hk : E k = none) (hg : LW r m b) (hm : m ≤ 999999990) (hb : b ≤ 100000000000000000)
    (hA : ∀ w' X, St w0 F0 w' (upd E i X) → Rd w' 1 A n (xs.map vb)) (hB : ∀ w' X, St w0 F0 w' (upd E i X) → Rd w' 1 B nc (ys.map vb)) (hC : ∀ w' X, St w0 F0 w' (upd E i X) → Rd w' 1 C np (q.map vb)) (hn : n ≤ 2000000) (hnc : nc ≤ 2000000) (hnp : np ≤ 281474976710656) :
    Calls Try.prog 48 #[l, .slice A n c, .slice B nc d, .slice C np cp, .int .i64 Z] w fun e w' => ∃ v, e = .returned (.tuple #[v, .int .i64 (outE Z)]) ∧ St w0 F0 w' (upd (upd E i (ledR l (noteN r 3 200 (outN 136 xs ys q Z)))) k (.row 5 1 v (outB 136 xs ys q Z).length ((outB 136 xs ys q Z).map vb))) := by
  by_cases hz : okN Z
  · have e1 : outB 136 xs ys q Z = toldB 136 xs ys q Z.toNat := if_pos hz
    have e2 : outN 136 xs ys q Z = toldN 136 xs ys q Z.toNat := if_pos hz
    have e3 : outE Z = 0 := if_pos hz
    rw [e1, e2, e3, toldB_length]
    exact rhC256_s l r m b A B C n nc np c d cp xs ys q Z.toNat Z (by have := hz.1; omega) (by have := hz.2; omega) H i k hi hk hg hm hb hA hB hC hn hnc hnp
  · have e1 : outB 136 xs ys q Z = [] := if_neg hz
    have e2 : outN 136 xs ys q Z = 0 := if_neg hz
    have e3 : outE Z = 2 := if_neg hz
    rw [e1, e2, e3, noteN_zero]
    refine (rhC256_bad _ _ _ _ Z (by unfold okN at hz; omega)).mono ?_
    rintro e w1 ⟨rfl, rfl⟩
    refine ⟨_, rfl, ?_⟩
    rw [upd_id hi]
    exact H.nilRow k hk _ _

theorem rhShake128_any (l : Value) (r : Option (List RunT)) (m : Nat) (b : Int) (C : Option Addr) (np cp : Nat) (q : List UInt8) (Z : Int) (H : St w0 F0 w E) (i k : Nat) (hi : E i = some (ledR l r)) (hk : E k = none) (hg : LW r m b) (hm : m ≤ 999999990) (hb : b ≤ 100000000000000000)
    (hC : ∀ w' X, St w0 F0 w' (upd E i X) → Rd w' 1 C np (q.map vb)) (hnp : np ≤ 281474976710656) :
    Calls Try.prog 49 #[l, .slice C np cp, .int .i64 Z] w fun e w' => ∃ v, e = .returned (.tuple #[v, .int .i64 (outE Z)]) ∧ St w0 F0 w' (upd (upd E i (ledR l (noteN r 3 200 (outN 168 [] [] q Z)))) k (.row 5 1 v (outB 168 [] [] q Z).length ((outB 168 [] [] q Z).map vb))) := by
  by_cases hz : okN Z
  · have e1 : outB 168 [] [] q Z = toldB 168 [] [] q Z.toNat := if_pos hz
    have e2 : outN 168 [] [] q Z = toldN 168 [] [] q Z.toNat := if_pos hz
    have e3 : outE Z = 0 := if_pos hz
    rw [e1, e2, e3, toldB_length]
    exact rhShake128_s l r m b C np cp q Z.toNat Z (by have := hz.1; omega) (by have := hz.2; omega) H i k hi hk hg hm hb hC hnp
  · have e1 : outB 168 [] [] q Z = [] := if_neg hz
    have e2 : outN 168 [] [] q Z = 0 := if_neg hz
    have e3 : outE Z = 2 := if_neg hz
    rw [e1, e2, e3, noteN_zero]
    refine (rhShake128_bad _ _ Z (by unfold okN at hz; omega)).mono ?_
    rintro e w1 ⟨rfl, rfl⟩
    refine ⟨_, rfl, ?_⟩
    rw [upd_id hi]
    exact H.nilRow k hk _ _

theorem rhShake256_any (l : Value) (r : Option (List RunT)) (m : Nat) (b : Int) (C : Option Addr) (np cp : Nat) (q : List UInt8) (Z : Int) (H : St w0 F0 w E) (i k : Nat) (hi : E i = some (ledR l r)) (hk : E k = none) (hg : LW r m b) (hm : m ≤ 999999990) (hb : b ≤ 100000000000000000)
    (hC : ∀ w' X, St w0 F0 w' (upd E i X) → Rd w' 1 C np (q.map vb)) (hnp : np ≤ 281474976710656) :
    Calls Try.prog 50 #[l, .slice C np cp, .int .i64 Z] w fun e w' => ∃ v, e = .returned (.tuple #[v, .int .i64 (outE Z)]) ∧ St w0 F0 w' (upd (upd E i (ledR l (noteN r 3 200 (outN 136 [] [] q Z)))) k (.row 5 1 v (outB 136 [] [] q Z).length ((outB 136 [] [] q Z).map vb))) := by
  by_cases hz : okN Z
  · have e1 : outB 136 [] [] q Z = toldB 136 [] [] q Z.toNat := if_pos hz
    have e2 : outN 136 [] [] q Z = toldN 136 [] [] q Z.toNat := if_pos hz
    have e3 : outE Z = 0 := if_pos hz
    rw [e1, e2, e3, toldB_length]
    exact rhShake256_s l r m b C np cp q Z.toNat Z (by have := hz.1; omega) (by have := hz.2; omega) H i k hi hk hg hm hb hC hnp
  · have e1 : outB 136 [] [] q Z = [] := if_neg hz
    have e2 : outN 136 [] [] q Z = 0 := if_neg hz
    have e3 : outE Z = 2 := if_neg hz
    rw [e1, e2, e3, noteN_zero]
    refine (rhShake256_bad _ _ Z (by unfold okN at hz; omega)).mono ?_
    rintro e w1 ⟨rfl, rfl⟩
    refine ⟨_, rfl, ?_⟩
    rw [upd_id hi]
    exact H.nilRow k hk _ _

end

end Go.Proofs.Ythdfbnababmanaa

namespace Go.Proofs.Ythdfbnababmanaa
open Go.RowKit
set_option linter.unusedVariables false
set_option maxRecDepth 100000

def hv (c : UInt8) : Int := if 97 ≤ c.toNat then (c.toNat : Int) - 87 else (c.toNat : Int) - 48

theorem hv_b (c : UInt8) : -48 ≤ hv c ∧ hv c ≤ 168 := by
  have := c.toNat_lt
  unfold hv
  split <;> omega

def hexB (a b : UInt8) : UInt8 := UInt8.ofNat ((16 * hv a + hv b) % 256).toNat

theorem hexB_toNat (a b : UInt8) : ((hexB a b).toNat : Int) = (16 * hv a + hv b) % 256 := by
  unfold hexB
  rw [UInt8.toNat_ofNat']
  omega

def hexTo (s : List UInt8) : Nat → List UInt8
  | 0 => []
  | k + 1 => hexTo s k ++ [hexB (s.getD (2 * k) 0) (s.getD (2 * k + 1) 0)]

theorem hexTo_length (s : List UInt8) (k : Nat) : (hexTo s k).length = k := by
  induction k with
  | zero => rfl
  | succ k ih => show (hexTo s k ++ [_]).length = _; rw [List.length_append, ih]; rfl

theorem str_index (s : ByteArray) (i : Int) (k : Nat) (hi : i = (k : Int)) (hk : k < s.size) (w : World) : (Instr.index 9 (.string s) (.int .i64 i)).run Try.prog w = .ok (.int .u8 ((s.data.toList.getD k 0).toNat : Int)) w := by
  subst hi
  rw [run_index_string w 9 s .i64 _ Try.underlying9, dif_pos (by omega)]
  obtain ⟨⟨l⟩⟩ := s
  have hl : k < l.length := hk
  have e : (ByteArray.mk ⟨l⟩)[k]'hl = l.getD k 0 := by
    simp only [List.getD, List.getElem?_eq_getElem hl, Option.getD_some]
    rfl
  simp [e]

theorem St.newRow {w w' : World} {E : Env} {e : TypeId} {size n : Nat} {v : Value} {xs : List Value} (H : St w [] w' E) (k : Nat) (hk : E k = some (.row e size v n xs)) : w'.ownsRow w.heap.size e size v n xs := by
  obtain ⟨F, ⟨h, eF⟩, hF, -⟩ := H.change k hk
  exact ownsRow_base h fun g hg => by have := hF g (by rw [eF]; exact hg); simpa using this

set_option maxHeartbeats 2000000 in
theorem unhex_s (s : ByteArray) (m : Nat) (hs : s.size = 2 * m) (hm : m ≤ 1000) (w : World) :
    Calls Try.prog 51 #[.string s] w fun e w' => ∃ v, e = .returned v ∧ OwnB w' w.heap.size v (hexTo s.data.toList m) ∧ Below w.heap.size w w' := by
  obtain ⟨i0, hi0, hz0, hz1, hz2⟩ := info_parts u8_info
  have HI := Lib.hid (⟨hi0, hz0, hz1, hz2⟩ : _ ∧ _ ∧ _ ∧ _)
  clear hi0 hz0 hz1 hz2
  have H0 := (St.start_lay w []).nilRow 0 rfl 5 1 |>.push_mk rfl
  have hlen := fun w' => run_len_string (P := Try.prog) w' 9 3 s Try.underlying9
  rw [hs] at hlen
  have HS := Lib.hid hs
  clear hs
  have HIX := Lib.hid (str_index s)
  obtain ⟨L, hL⟩ : ∃ L, s.data.toList = L := ⟨_, rfl⟩
  rw [hL] at HIX ⊢
  clear hL
  go_enter Try.func51, Try.ntmps51
  go_wp2
  go_loopw [3, 4] (fun v i wr => ∃ k : Nat, k ≤ m ∧ i = .int .i64 (2 * k : Int) ∧ St w [] wr (lay [.row 5 1 v k ((hexTo L k).map vb)])) (fun _ i _ => 2 * m - (intOf i).toNat)
  case atStart => exact ⟨0, Nat.zero_le _, rfl, H0⟩
  case round =>
    clear H0
    obtain ⟨k, hk, rfl, H⟩ := hrel
    obtain ⟨AV, cV, rfl, -, -⟩ := row_form (H.row 0 rfl)
    by_cases hlt : k < m
    · have e1 := fun w' => HIX.out (2 * k : Int) (2 * k) (by omega) (by rw [HS.out]; omega) w'
      have e2 := fun w' => HIX.out (2 * k + 1 : Int) (2 * k + 1) (by omega) (by rw [HS.out]; omega) w'
      have HX : Hid (hexTo L (k + 1) = hexTo L k ++ [hexB (L.getD (2 * k) 0) (L.getD (2 * k + 1) 0)]) := rfl
      generalize L.getD (2 * k) 0 = a at e1 HX
      generalize L.getD (2 * k + 1) 0 = b at e2 HX
      go_wp2_with fail
      go_loopw [5, 6] (fun n q wr2 => (q = .int .i64 (2 * k : Int) ∧ n = .int .i64 0 ∨ q = .int .i64 (2 * k + 1 : Int) ∧ n = .int .i64 (hv a) ∨ q = .int .i64 (2 * k + 2 : Int) ∧ n = .int .i64 (16 * hv a + hv b)) ∧ wr2 = wr) (fun _ q _ => 2 * k + 2 - (intOf q).toNat)
      case atStart => exact ⟨.inl ⟨rfl, rfl⟩, rfl⟩
      case round =>
        obtain ⟨h, e⟩ := hrel
        subst e
        rcases h with ⟨rfl, rfl⟩ | ⟨rfl, rfl⟩ | ⟨rfl, rfl⟩
        · by_cases hc : (97 : Int) ≤ (a.toNat : Int)
          · have hvx : hv a = (a.toNat : Int) - 87 := by unfold hv; rw [if_pos (by omega)]
            have hlt := a.toNat_lt
            have hx0 : (a.toNat : Int) ≤ 255 := by omega
            clear hlt
            go_wp2
            go_roundw
            case rel => exact ⟨.inr (.inl ⟨by go_num, by first | (rw [hvx]; done) | (rw [hvx]; go_num)⟩), trivial⟩
            case measure => simp [intOf]; omega
          · have hvx : hv a = (a.toNat : Int) - 48 := by unfold hv; rw [if_neg (by omega)]
            have hlt := a.toNat_lt
            have hx0 : (a.toNat : Int) ≤ 255 := by omega
            clear hlt
            have hc2 : (a.toNat : Int) < 97 := by omega
            go_wp2
            go_roundw
            case rel => exact ⟨.inr (.inl ⟨by go_num, by first | (rw [hvx]; done) | (rw [hvx]; go_num)⟩), trivial⟩
            case measure => simp [intOf]; omega
        · by_cases hc : (97 : Int) ≤ (b.toNat : Int)
          · have hvx : hv b = (b.toNat : Int) - 87 := by unfold hv; rw [if_pos (by omega)]
            have hlt := b.toNat_lt
            have hx0 : (b.toNat : Int) ≤ 255 := by omega
            clear hlt
            have hva := hv_b a
            generalize hv a = va at *
            go_wp2
            go_roundw
            case rel => exact ⟨.inr (.inr ⟨by go_num, by first | (rw [hvx]; done) | (rw [hvx]; go_num)⟩), trivial⟩
            case measure => simp [intOf]; omega
          · have hvx : hv b = (b.toNat : Int) - 48 := by unfold hv; rw [if_neg (by omega)]
            have hlt := b.toNat_lt
            have hx0 : (b.toNat : Int) ≤ 255 := by omega
            clear hlt
            have hc2 : (b.toNat : Int) < 97 := by omega
            have hva := hv_b a
            generalize hv a = va at *
            go_wp2
            go_roundw
            case rel => exact ⟨.inr (.inr ⟨by go_num, by first | (rw [hvx]; done) | (rw [hvx]; go_num)⟩), trivial⟩
            case measure => simp [intOf]; omega
        · have hva := hv_b a
          have hvb := hv_b b
          have HB := Lib.hid (hexB_toNat a b)
          generalize hv a = va at *
          generalize hv b = vb' at *
          go_wp2_with (at_builtin; refine hold_here' ?_)
          refine Lib.hid ?_
          refine absorb_list (H.allocAt 1 rfl wr.heap.size rfl #[.int .u8 ((16 * va + vb') % 256)] 5 |>.push_mk rfl) ?_
          clear H
          intro w5 H
          generalize wr.heap.size = gN at H ⊢
          obtain ⟨hi0, hz0, hz1, hz2⟩ := HI.out
          refine wpList_append_any _ rfl (.tmp 41) (.tmp 44) _ rfl 0 5 i0 _ 1 1 Try.underlying22 hi0 hz0 hz1 hz2 rfl (by omega) (.slice AV k cV) k ((hexTo L k).map vb) rfl (H.row 0 rfl) (some ⟨gN, 0, none⟩) 1 1 [.int .u8 ((16 * va + vb') % 256)] rfl (H.rdBlk 1 rfl 1 1 rfl) (by intro u hu; simp at hu; subst hu; rfl) (by simp only [maxLen]; omega) (by omega) (by omega) ?_
          intro v6 w6 hown6 hg6 hat6
          replace H := ((H.grow 0 rfl hown6 hg6 hat6).upd_mk (by simp)).front 1
          clear hown6 hg6 hat6 hi0 hz0 hz1 hz2
          have H7 : St w [] w6 (lay [.row 5 1 v6 (k + 1) ((hexTo L (k + 1)).map vb)]) := by rw [HX.out, List.map_append]; unfold vb; rw [List.map_cons, HB.out]; exact H
          clear H
          go_wp2
          go_roundw
          case rel => exact ⟨k + 1, by omega, by go_num, H7⟩
          case measure => simp [intOf]; omega
    · obtain rfl : k = m := by omega
      go_wp2
      go_ret
      exact ⟨_, rfl, (by unfold OwnB; rw [hexTo_length]; exact H.newRow 0 rfl), H.below⟩
end Go.Proofs.Ythdfbnababmanaa

namespace Go.Proofs.Ythdfbnababmanaa
open Go.RowKit
set_option linter.unusedVariables false

def Own.lit (g : Nat) (T : TypeId) (cs : List Value) (m : Nat × Nat) : Own where
  holds w F := w.heap[g]? = some (.cells cs.toArray T m) ∧ F = [g]
  loc := fun ⟨h, e⟩ k => ⟨by rw [k g (by simp [e])]; exact h, e⟩
  old := fun ⟨h, e⟩ k hk => by rw [e] at hk; simp at hk; subst hk; exact lt_of_heap h

section
variable {w0 w w' : World} {F0 : List Nat} {E : Env}

theorem St.litAt (H : St w0 F0 w E) (k : Nat) (hk : E k = none) (b : Nat) (hb : b = w.heap.size) (cs : Array Value) (T : TypeId) (m : Nat × Nat) : St w0 F0 (w.alloc (.cells cs T m)) (upd E k (.lit b T cs.toList m)) := by
  subst hb
  exact H.push k hk ((Below.refl _ _).alloc (Nat.le_refl _) _) (F := [w.heap.size]) ⟨by rw [heap_alloc_new], rfl⟩ (by simp)

theorem St.rdLit {g : Nat} {T : TypeId} {cs : List Value} {m : Nat × Nat} (H : St w0 F0 w E) (k : Nat) (hk : E k = some (.lit g T cs m)) (size n : Nat) (hl : cs.length = n * size) : Rd w size (some ⟨g, 0, none⟩) n cs := by
  obtain ⟨F, ⟨h, -⟩, -⟩ := H.change k hk
  refine ⟨hl, fun _ => ⟨_, rfl, lt_of_heap h, fun j u hu => ?_⟩⟩
  rw [Addr.add_mid, Nat.zero_add, cell_of_row w g j _ _ _ h]
  simpa using hu
end
end Go.Proofs.Ythdfbnababmanaa

namespace Go.Proofs.Ythdfbnababmanaa
open Go.RowKit
set_option linter.unusedVariables false
set_option maxRecDepth 100000

def vA : List UInt8 := [0x7f, 0x9c, 0x2b, 0xa4, 0xe8, 0x8f, 0x82, 0x7d, 0x61, 0x60, 0x45, 0x50, 0x76, 0x05, 0x85, 0x3e, 0xd7, 0x3b, 0x80, 0x93, 0xf6, 0xef, 0xbc, 0x88, 0xeb, 0x1a, 0x6e, 0xac, 0xfa, 0x66, 0xef, 0x26]
def vB : List UInt8 := [0xc1, 0xc3, 0x69, 0x25, 0xb6, 0x40, 0x9a, 0x04, 0xf1, 0xb5, 0x04, 0xfc, 0xbc, 0xa9, 0xd8, 0x2b, 0x40, 0x17, 0x27, 0x7c, 0xb5, 0xed, 0x2b, 0x20, 0x65, 0xfc, 0x1d, 0x38, 0x14, 0xd5, 0xaa, 0xf5]
def emB : List UInt8 := [69, 109, 97, 105, 108, 32, 83, 105, 103, 110, 97, 116, 117, 114, 101]

theorem awk_A : toldB 168 [] [] [] 32 = vA := by decide +kernel
theorem hex_A : hexTo (ByteArray.mk #[55, 102, 57, 99, 50, 98, 97, 52, 101, 56, 56, 102, 56, 50, 55, 100, 54, 49, 54, 48, 52, 53, 53, 48, 55, 54, 48, 53, 56, 53, 51, 101, 100, 55, 51, 98, 56, 48, 57, 51, 102, 54, 101, 102, 98, 99, 56, 56, 101, 98, 49, 97, 54, 101, 97, 99, 102, 97, 54, 54, 101, 102, 50, 54] : ByteArray).data.toList 32 = vA := by decide +kernel
theorem hex_B : hexTo (ByteArray.mk #[99, 49, 99, 51, 54, 57, 50, 53, 98, 54, 52, 48, 57, 97, 48, 52, 102, 49, 98, 53, 48, 52, 102, 99, 98, 99, 97, 57, 100, 56, 50, 98, 52, 48, 49, 55, 50, 55, 55, 99, 98, 53, 101, 100, 50, 98, 50, 48, 54, 53, 102, 99, 49, 100, 51, 56, 49, 52, 100, 53, 97, 97, 102, 53] : ByteArray).data.toList 32 = vB := by decide +kernel
theorem left_0 : leftB 0 = [1, 0] := by unfold leftB; rw [numB_small (by decide)]; rfl
theorem left_120 : leftB 120 = [1, 120] := by unfold leftB; rw [numB_small (by decide)]; rfl
theorem left_168 : leftB 168 = [1, 168] := by unfold leftB; rw [numB_small (by decide)]; rfl
theorem left_256 : leftB 256 = [2, 1, 0] := by unfold leftB; rw [numB_big (by decide), show (256 : Nat) / 256 = 1 from rfl, numB_small (by decide)]; rfl
theorem prefix_B : prefixB 168 [] emB = [1, 168, 1, 0, 1, 120] ++ emB ++ List.replicate 147 0 := by
  unfold prefixB padI
  rw [if_pos (by decide)]
  unfold padB padN strB
  rw [show 8 * ([] : List UInt8).length = 0 from rfl, show 8 * emB.length = 120 from rfl, show ((168 : Nat) : Int).toNat = 168 from rfl, left_0, left_120, left_168]
  rfl
theorem awk_B : toldB 168 [] emB [0, 1, 2, 3] 32 = vB := by
  unfold toldB beginSp
  rw [if_neg (by decide), prefix_B]
  decide +kernel
attribute [local irreducible] permB kBytes kPerm kFrom
theorem noteN_none (k : Int) (s : Int) (n : Nat) : noteN none k s n = none := by unfold noteN; split <;> rfl

theorem em_n : emB.length = 15 := rfl

set_option maxHeartbeats 4000000 in
theorem awake_s (w : World) : Calls Try.prog 37 #[] w fun e w' => e = .returned (.bool true) ∧ Below w.heap.size w w' := by
  have H := (St.start_lay w []).ledNil 0 rfl |>.push_mk rfl
  have HA := Lib.hid hex_A
  have HB := Lib.hid hex_B
  have hcv := fun (w : World) (C : Array Value) (n c : Nat) => Lib.run_convert_bytes_const (P := Try.prog) w 22 5 C n c Try.underlying22 Try.underlying5
  go_enter Try.func37, Try.ntmps37
  go_wp2_with fail
  refine (shShake128_s (.pointer none) none 0 0 none 0 0 [] 32 32 rfl (by omega) H 0 1 rfl rfl (LW.none _ _) (by omega) (by omega) (fun _ _ _ => Rd.none_) (by omega)).mono ?_
  rintro e w1 ⟨v1, rfl, H1⟩
  rw [noteN_none, upd_laid (by simp), awk_A] at H1
  replace H : St w [] w1 (lay [led (.pointer none) none, .row 5 1 v1 32 (vA.map vb)]) := H1.push_mk rfl
  clear H1
  obtain ⟨A1, c1, rfl, -, -⟩ := row_form (H.row 1 rfl)
  go_wp2_with fail
  refine absorb_calls (H.litAt 2 rfl w1.heap.size rfl _ _ _ |>.push_mk rfl |>.allocAt 3 rfl (w1.heap.size + 1) (by simp) _ _ |>.push_mk rfl) ?_
  clear H
  intro w2 H
  generalize w1.heap.size = g2 at H ⊢
  replace H : St w [] w2 (lay [led (.pointer none) none, .row 5 1 (.slice A1 32 c1) 32 (vA.map vb), .lit g2 5 (emB.map vb) (15, 16), .blk (g2 + 1) 5 (([0, 1, 2, 3] : List UInt8).map vb)]) := H
  refine (shC128_s (.pointer none) none 0 0 none (some ⟨g2, 0, none⟩) (some ⟨g2 + 1, 0, none⟩) 0 15 4 0 15 4 [] emB [0, 1, 2, 3] 32 32 rfl (by omega) H 0 4 rfl rfl (LW.none _ _) (by omega) (by omega) (fun _ _ _ => Rd.none_) (fun w' X h => h.rdLit 2 rfl 1 15 rfl) (fun w' X h => h.rdBlk 3 rfl 1 4 rfl) (by omega) (by omega) (by omega)).mono ?_
  rintro e w3 ⟨v3, rfl, H1⟩
  rw [noteN_none, upd_laid (by simp), awk_B] at H1
  replace H : St w [] w3 (lay [led (.pointer none) none, .row 5 1 (.slice A1 32 c1) 32 (vA.map vb), .lit g2 5 (emB.map vb) (15, 16), .blk (g2 + 1) 5 (([0, 1, 2, 3] : List UInt8).map vb), .row 5 1 v3 32 (vB.map vb)]) := H1.push_mk rfl
  clear H1
  obtain ⟨A3, c3, rfl, -, -⟩ := row_form (H.row 4 rfl)
  go_wp2_with fail
  refine (left_s 256 w3 (by omega)).mono ?_
  rintro e w4 ⟨v4, rfl, ho, hb⟩
  have e1 : leftI 256 = [2, 1, 0] := left_256
  rw [e1] at ho
  replace H := (H.pushRow 5 rfl hb ho).push_mk rfl
  replace H : St w [] w4 (lay [led (.pointer none) none, .row 5 1 (.slice A1 32 c1) 32 (vA.map vb), .lit g2 5 (emB.map vb) (15, 16), .blk (g2 + 1) 5 (([0, 1, 2, 3] : List UInt8).map vb), .row 5 1 (.slice A3 32 c3) 32 (vB.map vb), .row 5 1 v4 3 (([2, 1, 0] : List UInt8).map vb)]) := H
  clear ho hb e1
  obtain ⟨A4, c4, rfl, -, -⟩ := row_form (H.row 5 rfl)
  rw [show errI 256 = 0 from rfl]
  go_wp2_with fail
  refine (unhex_s _ 32 rfl (by omega) w4).mono ?_
  rintro e w5 ⟨v5, rfl, ho, hb⟩
  rw [HA.out] at ho
  replace H := (H.pushRow 6 rfl hb ho).push_mk rfl
  clear ho hb
  obtain ⟨A5, c5, rfl, -, -⟩ := row_form (H.row 6 rfl)
  go_wp2_with fail
  refine (sameBytes_yes A1 A5 32 32 c1 c5 vA vA _ (H.rd 1 rfl) (H.rd 6 rfl) (by omega) (by omega) rfl).mono ?_
  rintro e w6 ⟨rfl, hb⟩
  replace H := H.call hb
  clear hb
  go_wp2_with fail
  refine (unhex_s _ 32 rfl (by omega) w6).mono ?_
  rintro e w7 ⟨v7, rfl, ho, hb⟩
  rw [HB.out] at ho
  replace H := (H.pushRow 7 rfl hb ho).push_mk rfl
  clear ho hb
  obtain ⟨A7, c7, rfl, -, -⟩ := row_form (H.row 7 rfl)
  go_wp2_with fail
  refine (sameBytes_yes A3 A7 32 32 c3 c7 vB vB _ (H.rd 4 rfl) (H.rd 7 rfl) (by omega) (by omega) rfl).mono ?_
  rintro e w8 ⟨rfl, hb⟩
  replace H := H.call hb
  clear hb
  go_wp2_with fail
  refine absorb_calls (H.allocAt 8 rfl w8.heap.size rfl _ _ |>.push_mk rfl) ?_
  clear H
  intro w9 H
  generalize w8.heap.size = g9 at H ⊢
  refine (sameBytes_yes A4 (some ⟨g9, 0, none⟩) 3 3 c4 3 [2, 1, 0] [2, 1, 0] _ (H.rd 5 rfl) (H.rdBlk 8 rfl 1 3 rfl) (by omega) (by omega) rfl).mono ?_
  rintro e wa ⟨rfl, hb⟩
  replace H := H.call hb
  clear hb
  go_wp2
  go_ret
  exact ⟨rfl, H.below⟩
end Go.Proofs.Ythdfbnababmanaa

namespace Go.Proofs.Ythdfbnababmanaa
open Go.RowKit
set_option linter.unusedVariables false

theorem pick_any (x : Int) (N : Nat) (w : World) (h1 : -9223372036854775808 ≤ x) (h2 : x ≤ 9223372036854775807) (hN1 : 1 ≤ N) (hN : N ≤ 1099511627776) {b : Int} (hb : b = (N : Int)) :
    Calls Try.prog 39 #[.int .i64 x, .int .i64 b] w fun e w' => (∃ n : Nat, n < N ∧ (n : Int) = x % (N : Int) ∧ e = .returned (.int .i64 (n : Int))) ∧ w = w' := by
  subst hb
  have h4 := Int.emod_nonneg x (show (N : Int) ≠ 0 by omega)
  have h5 := Int.emod_lt_of_pos x (show (0 : Int) < N by omega)
  have hr : x.tmod N = x % N ∨ x.tmod N = x % N - N := by
    rw [Int.tmod_eq_emod (a := x) (b := (N : Int))]
    split
    · left; simp
    · right; simp
  generalize x % (N : Int) = y at *
  obtain ⟨r, hr'⟩ : ∃ r, x.tmod N = r := ⟨_, rfl⟩
  rw [hr'] at hr
  have HM : Hid (y = if r < 0 then r + N else r) := by unfold Hid; split <;> omega
  have hlt : r < N := by omega
  have hgt : -(N : Int) ≤ r := by omega
  clear hr h4 h5
  by_cases hneg : r < 0
  · have HY : Hid (y = r + N) := by have h := HM.out; rw [if_pos hneg] at h; exact h
    clear HM
    go_enter Try.func39, Try.ntmps39
    go_wp2
    go_ret
    exact ⟨⟨(r + N).toNat, by omega, by rw [HY.out]; omega, by go_num⟩, rfl⟩
  · have HY : Hid (y = r) := by have h := HM.out; rw [if_neg hneg] at h; exact h
    clear HM
    go_enter Try.func39, Try.ntmps39
    go_wp2
    go_ret
    exact ⟨⟨r.toNat, by omega, by rw [HY.out]; omega, by go_num⟩, rfl⟩
end Go.Proofs.Ythdfbnababmanaa

namespace Go.Proofs.Ythdfbnababmanaa
open Go.RowKit
set_option linter.unusedVariables false
set_option maxRecDepth 100000

attribute [local irreducible] permB kBytes kPerm kFrom

theorem strB_le2 {l : List UInt8} (hl : l.length ≤ 2000000) : (strB l).length ≤ 2000009 := strB_le hl

theorem neg_dec {n : Int} (h : n < 0) : decide (n ≥ 0) = false := by simp; omega
theorem pos_dec {n : Int} (h : ¬ n < 0) : decide (n ≥ 0) = true := by simp; omega

set_option maxHeartbeats 16000000 in
theorem shakeParts_walk (n m : Int) (A : Option Addr) (na ca : Nat) (xa : List UInt8) (B : Option Addr) (nb cb : Nat) (xb : List UInt8) (C : Option Addr) (nc cc : Nat) (xc : List UInt8) (D : Option Addr) (nd cd : Nat) (xd : List UInt8) (Z : Int) (w : World)
    (hn1 : -9223372036854775808 ≤ n) (hn2 : n ≤ 9223372036854775807) (hm1 : -9223372036854775808 ≤ m) (hm2 : m ≤ 9223372036854775807)
    (hA : Rd w 1 A na (xa.map vb)) (hna : na ≤ 1048576) (hB : Rd w 1 B nb (xb.map vb)) (hnb : nb ≤ 1048576) (hC : Rd w 1 C nc (xc.map vb)) (hnc : nc ≤ 1048576) (hD : Rd w 1 D nd (xd.map vb)) (hnd : nd ≤ 1048576)
    (hZ1 : -9223372036854775808 ≤ Z) (hZ2 : Z ≤ 9223372036854775807) :
    Calls Try.prog 5 #[.int .i64 n, .int .i64 m, .slice A na ca, .slice B nb cb, .slice C nc cc, .slice D nd cd, .int .i64 Z] w fun e w' => e = .returned (.bool true) ∧ Below w.heap.size w w' := by
  have hla : xa.length = na := by simpa using hA.1
  have hlb : xb.length = nb := by simpa using hB.1
  have hlc : xc.length = nc := by simpa using hC.1
  have hld : xd.length = nd := by simpa using hD.1
  have HL := Lib.hid (⟨hla, hlb, hlc, hld⟩ : _ ∧ _ ∧ _ ∧ _)
  clear hla hlb hlc hld
  have H := St.start_lay w []
  go_enter Try.func5, Try.ntmps5
  go_wp2_with fail
  refine (awake_s w).mono ?_
  rintro e w1 ⟨rfl, hb⟩
  replace H := H.call hb
  clear hb
  go_wp2_with fail
  refine (left_s n _ (by omega)).mono ?_
  rintro e wa ⟨v0, rfl, ho, hb⟩
  replace H := (H.pushRow 0 rfl hb ho).push_mk rfl
  clear ho hb
  obtain ⟨A0, c0, rfl, hc0, hs0⟩ := row_form (H.row 0 rfl)
  go_wp2_with fail
  refine (left_s m _ (by omega)).mono ?_
  rintro e wa ⟨v1, rfl, ho, hb⟩
  replace H := (H.pushRow 1 rfl hb ho).push_mk rfl
  clear ho hb
  obtain ⟨A1, c1, rfl, hc1, hs1⟩ := row_form (H.row 1 rfl)
  go_wp2_with fail
  refine (right_s n _ (by omega)).mono ?_
  rintro e wa ⟨v2, rfl, ho, hb⟩
  replace H := (H.pushRow 2 rfl hb ho).push_mk rfl
  clear ho hb
  obtain ⟨A2, c2, rfl, hc2, hs2⟩ := row_form (H.row 2 rfl)
  go_wp2_with fail
  refine (right_s m _ (by omega)).mono ?_
  rintro e wa ⟨v3, rfl, ho, hb⟩
  replace H := (H.pushRow 3 rfl hb ho).push_mk rfl
  clear ho hb
  obtain ⟨A3, c3, rfl, hc3, hs3⟩ := row_form (H.row 3 rfl)
  replace H : St w [] wa (lay [.row 5 1 (.slice A0 (leftI n).length c0) (leftI n).length ((leftI n).map vb), .row 5 1 (.slice A1 (leftI m).length c1) (leftI m).length ((leftI m).map vb), .row 5 1 (.slice A2 (rightI n).length c2) (rightI n).length ((rightI n).map vb), .row 5 1 (.slice A3 (rightI m).length c3) (rightI m).length ((rightI m).map vb)]) := H
  go_upto_region 7 with fail
  go_cut [72] from 51 (fun v wr => v = .bool false ∧ St w [] wr (lay [.row 5 1 (.slice A0 (leftI n).length c0) (leftI n).length ((leftI n).map vb), .row 5 1 (.slice A1 (leftI m).length c1) (leftI m).length ((leftI m).map vb), .row 5 1 (.slice A2 (rightI n).length c2) (rightI n).length ((rightI n).map vb), .row 5 1 (.slice A3 (rightI m).length c3) (rightI m).length ((rightI m).map vb)]))
  case first =>
    by_cases hn : n < 0
    · have d1 := neg_dec hn
      have e1 : (errI n == 0) = false := by rw [show errI n = 2 from if_pos hn]; rfl
      by_cases hm : m < 0
      · have d2 := neg_dec hm
        have e2 : (errI m == 0) = false := by rw [show errI m = 2 from if_pos hm]; rfl
        go_wp2_with fail
        go_meet
        case rel => exact ⟨rfl, H⟩
      · have d2 := pos_dec hm
        have e2 : (errI m == 0) = true := by rw [show errI m = 0 from if_neg hm]; rfl
        go_wp2_with fail
        go_meet
        case rel => exact ⟨rfl, H⟩
    · have d1 := pos_dec hn
      have e1 : (errI n == 0) = true := by rw [show errI n = 0 from if_neg hn]; rfl
      by_cases hm : m < 0
      · have d2 := neg_dec hm
        have e2 : (errI m == 0) = false := by rw [show errI m = 2 from if_pos hm]; rfl
        go_wp2_with fail
        go_meet
        case rel => exact ⟨rfl, H⟩
      · have d2 := pos_dec hm
        have e2 : (errI m == 0) = true := by rw [show errI m = 0 from if_neg hm]; rfl
        go_wp2_with fail
        go_meet
        case rel => exact ⟨rfl, H⟩
  case rest =>
  clear H
  obtain ⟨rfl, H⟩ := hcut
  go_upto_region 9 with fail
  obtain ⟨bb, hbb⟩ : ∃ bb, decide (0 ≤ n ∧ 0 ≤ m ∧ n ≠ m) = bb := ⟨_, rfl⟩
  have HBB := Lib.hid hbb
  clear hbb
  go_cut [83] from 73 (fun v wr => v = .bool bb ∧ St w [] wr (lay [.row 5 1 (.slice A0 (leftI n).length c0) (leftI n).length ((leftI n).map vb), .row 5 1 (.slice A1 (leftI m).length c1) (leftI m).length ((leftI m).map vb), .row 5 1 (.slice A2 (rightI n).length c2) (rightI n).length ((rightI n).map vb), .row 5 1 (.slice A3 (rightI m).length c3) (rightI m).length ((rightI m).map vb)]))
  case first =>
    by_cases hn : n < 0
    · have d1 := neg_dec hn
      have e1 : decide (0 ≤ n ∧ 0 ≤ m ∧ n ≠ m) = false := decide_eq_false (by omega)
      have HE := Lib.hid e1
      clear e1
      go_wp2_with fail
      go_meet
      case rel => exact ⟨by rw [← HBB.out, HE.out], H⟩
    · have d1 := pos_dec hn
      by_cases hm : m < 0
      · have d2 := neg_dec hm
        have e1 : decide (0 ≤ n ∧ 0 ≤ m ∧ n ≠ m) = false := decide_eq_false (by omega)
        have HE := Lib.hid e1
        clear e1
        go_wp2_with fail
        go_meet
        case rel => exact ⟨by rw [← HBB.out, HE.out], H⟩
      · have d2 := pos_dec hm
        by_cases hnm : n = m
        · have e1 : decide (0 ≤ n ∧ 0 ≤ m ∧ n ≠ m) = false := decide_eq_false (by omega)
          have HE := Lib.hid e1
          clear e1
          have d3 : (n != m) = false := by simpa using hnm
          clear hnm
          go_wp2_with fail
          go_meet
          case rel => exact ⟨by rw [← HBB.out, HE.out], H⟩
        · have e1 : decide (0 ≤ n ∧ 0 ≤ m ∧ n ≠ m) = true := decide_eq_true (by omega)
          have HE := Lib.hid e1
          clear e1
          have d3 : (n != m) = true := by simpa using hnm
          clear hnm
          go_wp2_with fail
          go_meet
          case rel => exact ⟨by rw [← HBB.out, HE.out], H⟩
  case rest =>
  clear H
  obtain ⟨rfl, H⟩ := hcut
  go_upto_if 83 with fail
  go_cut [23] from 84 (fun v wr => St w [] wr (lay [.row 5 1 (.slice A0 (leftI n).length c0) (leftI n).length ((leftI n).map vb), .row 5 1 (.slice A1 (leftI m).length c1) (leftI m).length ((leftI m).map vb), .row 5 1 (.slice A2 (rightI n).length c2) (rightI n).length ((rightI n).map vb), .row 5 1 (.slice A3 (rightI m).length c3) (rightI m).length ((rightI m).map vb)]))
  case first =>
    cases bb
    case false =>
      go_wp2_with fail
      go_meet
      case rel => exact H
    case true =>
      have hnm' : 0 ≤ n ∧ 0 ≤ m ∧ n ≠ m := of_decide_eq_true HBB.out
      have hn : ¬ n < 0 := by omega
      have hm : ¬ m < 0 := by omega
      have hnm := hnm'.2.2
      obtain ⟨N, rfl⟩ : ∃ N : Nat, n = (N : Int) := ⟨n.toNat, by omega⟩
      obtain ⟨M, rfl⟩ : ∃ M : Nat, m = (M : Int) := ⟨m.toNat, by omega⟩
      have HNM : Hid (N ≠ M) := by unfold Hid; omega
      have i0 : leftI (N : Int) = leftB N := by unfold leftI; rw [if_neg hn]; rfl
      have i1 : leftI (M : Int) = leftB M := by unfold leftI; rw [if_neg hm]; rfl
      have i2 : rightI (N : Int) = rightB N := by unfold rightI; rw [if_neg hn]; rfl
      have i3 : rightI (M : Int) = rightB M := by unfold rightI; rw [if_neg hm]; rfl
      have HP1 : Hid (decide (leftI (M : Int) <+: leftI (N : Int)) = false) := by rw [i0, i1]; exact decide_eq_false fun h => HNM.out (left_prefix (by omega) (by omega) h)
      have HP2 : Hid (decide (leftI (N : Int) <+: leftI (M : Int)) = false) := by rw [i0, i1]; exact decide_eq_false fun h => HNM.out (left_prefix (by omega) (by omega) h).symm
      have HP3 : Hid (∀ k, decide ((rightI (N : Int)).drop k = rightI (M : Int)) = false) := fun k => by rw [i2, i3]; exact decide_eq_false fun h => HNM.out (right_suffix (by omega) (by omega) h)
      have HP4 : Hid (∀ k, decide ((rightI (M : Int)).drop k = rightI (N : Int)) = false) := fun k => by rw [i2, i3]; exact decide_eq_false fun h => HNM.out (right_suffix (by omega) (by omega) h).symm
      have q0 : (rightI (N : Int)).length ≤ 9 ∧ 1 ≤ (rightI (N : Int)).length := by rw [i2]; unfold rightB; rw [List.length_append, List.length_singleton]; have := numB_le (n := N) (by omega); omega
      have q1 : (rightI (M : Int)).length ≤ 9 ∧ 1 ≤ (rightI (M : Int)).length := by rw [i3]; unfold rightB; rw [List.length_append, List.length_singleton]; have := numB_le (n := M) (by omega); omega
      have q2 : (leftI (N : Int)).length ≤ 9 := by rw [i0]; exact leftB_le (by omega)
      have q3 : (leftI (M : Int)).length ≤ 9 := by rw [i1]; exact leftB_le (by omega)
      obtain ⟨g2, rfl, -⟩ := hs2 (by omega)
      obtain ⟨g3, rfl, -⟩ := hs3 (by omega)
      clear i0 i1 i2 i3 hs0 hs1 hs2 hs3
      generalize leftI (N : Int) = X0 at *
      generalize leftI (M : Int) = X1 at *
      generalize rightI (N : Int) = X2 at *
      generalize rightI (M : Int) = X3 at *
      rcases Nat.lt_trichotomy X2.length X3.length with hl | hl | hl
      · have k1 : ¬ (X2.length : Int) ≥ X3.length := by omega
        have k2 : (X3.length : Int) ≥ X2.length := by omega
        have k3 : ¬ c3 = X3.length - X2.length := by omega
        have k4 : ((X3.length : Int) - X2.length) = ((X3.length - X2.length : Nat) : Int) := by omega
        go_wp2_with fail
        refine (sameBytes_any (some ⟨g3, X3.length - X2.length, none⟩) (some ⟨g2, 0, none⟩) _ _ _ _ (X3.drop (X3.length - X2.length)) X2 _ (Rd.dropAt (H.rd 3 rfl) (by omega)) (H.rd 2 rfl) (by omega) (by omega)).mono ?_
        rintro e wx ⟨rfl, kd, rfl⟩
        rw [HP4.out]
        replace H := H.drewN kd
        go_wp2_with fail
        refine (begins_any A0 A1 _ _ c0 c1 X0 X1 _ (H.rd 0 rfl) (H.rd 1 rfl) hc0 (by omega) (by omega)).mono ?_
        rintro e wx ⟨rfl, hb⟩
        rw [HP1.out]
        replace H := H.call hb
        clear hb
        go_wp2_with fail
        refine (begins_any A1 A0 _ _ c1 c0 X1 X0 _ (H.rd 1 rfl) (H.rd 0 rfl) hc1 (by omega) (by omega)).mono ?_
        rintro e wx ⟨rfl, hb⟩
        rw [HP2.out]
        replace H := H.call hb
        clear hb
        go_wp2_with fail
        go_meet
        case rel => exact H
      · have k1 : (X2.length : Int) ≥ X3.length := by omega
        have k2 : (X3.length : Int) ≥ X2.length := by omega
        have k4 : ((X3.length : Int) - X2.length) = 0 := by omega
        have k5 : ((X2.length : Int) - X3.length) = 0 := by omega
        have HLX := Lib.hid hl
        clear hl
        go_wp2_with fail
        refine (sameBytes_any (some ⟨g2, 0, none⟩) (some ⟨g3, 0, none⟩) _ _ _ _ X2 X3 _ (H.rd 2 rfl) (H.rd 3 rfl) (by omega) (by omega)).mono ?_
        rintro e wx ⟨rfl, kd, rfl⟩
        rw [show decide (X2 = X3) = false from by simpa using HP3.out 0]
        replace H := H.drewN kd
        go_wp2_with fail
        refine (sameBytes_any (some ⟨g3, 0, none⟩) (some ⟨g2, 0, none⟩) _ _ _ _ X3 X2 _ (H.rd 3 rfl) (H.rd 2 rfl) (by omega) (by omega)).mono ?_
        rintro e wx ⟨rfl, kd2, rfl⟩
        rw [show decide (X3 = X2) = false from by simpa using HP4.out 0]
        replace H := H.drewN kd2
        rw [World.drewN_drewN] at H
        go_wp2_with fail
        refine (begins_any A0 A1 _ _ c0 c1 X0 X1 _ (H.rd 0 rfl) (H.rd 1 rfl) hc0 (by omega) (by omega)).mono ?_
        rintro e wx ⟨rfl, hb⟩
        rw [HP1.out]
        replace H := H.call hb
        clear hb
        go_wp2_with fail
        refine (begins_any A1 A0 _ _ c1 c0 X1 X0 _ (H.rd 1 rfl) (H.rd 0 rfl) hc1 (by omega) (by omega)).mono ?_
        rintro e wx ⟨rfl, hb⟩
        rw [HP2.out]
        replace H := H.call hb
        clear hb
        go_wp2_with fail
        go_meet
        case rel => exact H
      · have k1 : (X2.length : Int) ≥ X3.length := by omega
        have k2 : ¬ (X3.length : Int) ≥ X2.length := by omega
        have k3 : ¬ c2 = X2.length - X3.length := by omega
        have k4 : ((X2.length : Int) - X3.length) = ((X2.length - X3.length : Nat) : Int) := by omega
        go_wp2_with fail
        refine (sameBytes_any (some ⟨g2, X2.length - X3.length, none⟩) (some ⟨g3, 0, none⟩) _ _ _ _ (X2.drop (X2.length - X3.length)) X3 _ (Rd.dropAt (H.rd 2 rfl) (by omega)) (H.rd 3 rfl) (by omega) (by omega)).mono ?_
        rintro e wx ⟨rfl, kd, rfl⟩
        rw [HP3.out]
        replace H := H.drewN kd
        go_wp2_with fail
        refine (begins_any A0 A1 _ _ c0 c1 X0 X1 _ (H.rd 0 rfl) (H.rd 1 rfl) hc0 (by omega) (by omega)).mono ?_
        rintro e wx ⟨rfl, hb⟩
        rw [HP1.out]
        replace H := H.call hb
        clear hb
        go_wp2_with fail
        refine (begins_any A1 A0 _ _ c1 c0 X1 X0 _ (H.rd 1 rfl) (H.rd 0 rfl) hc1 (by omega) (by omega)).mono ?_
        rintro e wx ⟨rfl, hb⟩
        rw [HP2.out]
        replace H := H.call hb
        clear hb
        go_wp2_with fail
        go_meet
        case rel => exact H
  case rest =>
  clear H
  rename_i v23
  have H := hcut
  clear hcut HBB
  have hLa := strB_le (l := xa) (by rw [HL.out.1]; omega)
  have hLb := strB_le (l := xb) (by rw [HL.out.2.1]; omega)
  have hLc := strB_le (l := xc) (by rw [HL.out.2.2.1]; omega)
  have hLd := strB_le (l := xd) (by rw [HL.out.2.2.2]; omega)
  replace H := H.front 0
  replace H : St w [] _ (lay []) := H
  go_wp2_with fail
  refine (string_s A na ca xa _ (H.arg0 hA) (by omega)).mono ?_
  rintro e wa ⟨vs, rfl, ho, hb⟩
  replace H := (H.pushRow 0 rfl hb ho).push_mk rfl
  clear ho hb
  obtain ⟨AS, cS, rfl, hcS, -⟩ := row_form (H.row 0 rfl)
  go_wp2_with fail
  refine (string_s B nb cb xb _ (H.arg0 hB) (by omega)).mono ?_
  rintro e wa ⟨vt, rfl, ho, hb⟩
  replace H := (H.pushRow 1 rfl hb ho).push_mk rfl
  clear ho hb
  obtain ⟨AT, cT, rfl, hcT, -⟩ := row_form (H.row 1 rfl)
  replace H : St w [] wa (lay [.row 5 1 (.slice AS (strB xa).length cS) (strB xa).length ((strB xa).map vb), .row 5 1 (.slice AT (strB xb).length cT) (strB xb).length ((strB xb).map vb)]) := H
  obtain ⟨bs, hbs⟩ : ∃ bs, decide (xa = xb) = bs := ⟨_, rfl⟩
  have HBS := Lib.hid hbs
  clear hbs
  have hba : decide (strB xb <+: strB xa) = bs := (string_prefix (by rw [HL.out.1]; omega) (by rw [HL.out.2.1]; omega)).trans HBS.out
  have hbb : decide (strB xa <+: strB xb) = bs := (string_prefix (by rw [HL.out.2.1]; omega) (by rw [HL.out.1]; omega)).trans ((decide_eq_decide.2 ⟨fun h => h.symm, fun h => h.symm⟩).trans HBS.out)
  have HBA := Lib.hid hba
  have HBC := Lib.hid hbb
  clear hba hbb
  go_wp2_with fail
  refine (sameBytes_any A B na nb ca cb xa xb _ (H.arg0 hA) (H.arg0 hB) (by omega) (by omega)).mono ?_
  rintro e wx ⟨rfl, kd, rfl⟩
  rw [HBS.out]
  replace H := H.drewN kd
  go_wp2_with fail
  refine (begins_any AS AT _ _ cS cT _ _ _ (H.rd 0 rfl) (H.rd 1 rfl) hcS (by omega) (by omega)).mono ?_
  rintro e wx ⟨rfl, hb⟩
  rw [HBA.out]
  replace H := H.call hb
  clear hb
  go_wp2_with fail
  refine (begins_any AT AS _ _ cT cS _ _ _ (H.rd 1 rfl) (H.rd 0 rfl) hcT (by omega) (by omega)).mono ?_
  rintro e wx ⟨rfl, hb⟩
  rw [HBC.out]
  replace H := H.call hb
  clear hb
  go_wp2_with fail
  refine (pick_any Z 256 _ hZ1 hZ2 (by omega) (by omega) rfl).mono ?_
  rintro e w3 ⟨⟨N, hN, -, rfl⟩, rfl⟩
  have hW : Hid (padOk (1 + (N : Int))) := by unfold Hid padOk; omega
  have hE : Hid (padE (1 + (N : Int)) = 0) := if_pos hW.out
  obtain ⟨i0, hi0, hz0, hz1, hz2⟩ := info_parts u8_info
  have HI := Lib.hid (⟨hi0, hz0, hz1, hz2⟩ : _ ∧ _ ∧ _ ∧ _)
  clear hi0 hz0 hz1 hz2
  go_wp2_with fail
  refine (copyBytes_any AS (strB xa).length cS (strB xa) _ (H.rd 0 rfl) (by omega)).mono ?_
  rintro e wa ⟨v2, rfl, ho, hb⟩
  replace H := (H.pushRow 2 rfl hb ho).push_mk rfl
  clear ho hb
  obtain ⟨A2, c2, rfl, -, -⟩ := row_form (H.row 2 rfl)
  go_wp2_with fail
  refine (string_s C nc cc xc _ (H.arg0 hC) (by omega)).mono ?_
  rintro e wa ⟨v3, rfl, ho, hb⟩
  replace H := (H.pushRow 3 rfl hb ho).push_mk rfl
  clear ho hb
  obtain ⟨A3, c3, rfl, -, -⟩ := row_form (H.row 3 rfl)
  go_wp2_with (at_builtin; refine hold_here' ?_)
  refine Lib.hid ?_
  obtain ⟨hi0, hz0, hz1, hz2⟩ := HI.out
  refine wpList_append_any _ rfl (.tmp 153) (.tmp 155) _ rfl 0 5 i0 _ 1 1 Try.underlying22 hi0 hz0 hz1 hz2 rfl (by omega) (.slice A2 (strB xa).length c2) (strB xa).length ((strB xa).map vb) rfl (H.row 2 rfl) A3 (strB xc).length c3 ((strB xc).map vb) rfl (H.rd 3 rfl) (vb_one _) (by simp only [maxLen]; omega) (by omega) (by omega) ?_
  intro v6 w6 hown6 hg6 hat6
  replace H := (H.grow 2 rfl hown6 hg6 hat6).upd_mk (by simp)
  rw [← List.map_append] at H
  clear hown6 hg6 hat6 hi0 hz0 hz1 hz2
  obtain ⟨A2, c2, rfl, -, -⟩ := row_form (H.row 2 rfl)
  go_wp2_with fail
  refine (pad_s A2 ((strB xa).length + (strB xc).length) c2 (strB xa ++ strB xc) (1 + (N : Int)) _ (H.rd 2 rfl) (by omega)).mono ?_
  rintro e wa ⟨v4, rfl, ho, hb⟩
  rw [hE.out]
  replace H := (H.pushRow 4 rfl hb ho).push_mk rfl
  clear ho hb
  obtain ⟨A4, c4, rfl, -, -⟩ := row_form (H.row 4 rfl)
  go_wp2_with fail
  refine (copyBytes_any AT (strB xb).length cT (strB xb) _ (H.rd 1 rfl) (by omega)).mono ?_
  rintro e wa ⟨v5, rfl, ho, hb⟩
  replace H := (H.pushRow 5 rfl hb ho).push_mk rfl
  clear ho hb
  obtain ⟨A5, c5, rfl, -, -⟩ := row_form (H.row 5 rfl)
  go_wp2_with fail
  refine (string_s D nd cd xd _ (H.arg0 hD) (by omega)).mono ?_
  rintro e wa ⟨v6, rfl, ho, hb⟩
  replace H := (H.pushRow 6 rfl hb ho).push_mk rfl
  clear ho hb
  obtain ⟨A6, c6, rfl, -, -⟩ := row_form (H.row 6 rfl)
  go_wp2_with (at_builtin; refine hold_here' ?_)
  refine Lib.hid ?_
  obtain ⟨hi0, hz0, hz1, hz2⟩ := HI.out
  refine wpList_append_any _ rfl (.tmp 163) (.tmp 165) _ rfl 0 5 i0 _ 1 1 Try.underlying22 hi0 hz0 hz1 hz2 rfl (by omega) (.slice A5 (strB xb).length c5) (strB xb).length ((strB xb).map vb) rfl (H.row 5 rfl) A6 (strB xd).length c6 ((strB xd).map vb) rfl (H.rd 6 rfl) (vb_one _) (by simp only [maxLen]; omega) (by omega) (by omega) ?_
  intro v6 w6 hown6 hg6 hat6
  replace H := (H.grow 5 rfl hown6 hg6 hat6).upd_mk (by simp)
  rw [← List.map_append] at H
  clear hown6 hg6 hat6 hi0 hz0 hz1 hz2
  obtain ⟨A5, c5, rfl, -, -⟩ := row_form (H.row 5 rfl)
  go_wp2_with fail
  refine (pad_s A5 ((strB xb).length + (strB xd).length) c5 (strB xb ++ strB xd) (1 + (N : Int)) _ (H.rd 5 rfl) (by omega)).mono ?_
  rintro e wa ⟨v7, rfl, ho, hb⟩
  rw [hE.out]
  replace H := (H.pushRow 7 rfl hb ho).push_mk rfl
  clear ho hb
  obtain ⟨A7, c7, rfl, -, -⟩ := row_form (H.row 7 rfl)
  have hM : Int.tmod ((padI (strB xa ++ strB xc) (1 + (N : Int))).length : Int) (1 + (N : Int)) = 0 := by
    have h := pad_whole (x := strB xa ++ strB xc) hW.out
    generalize (padI (strB xa ++ strB xc) (1 + (N : Int))).length = L at h ⊢
    rw [show (1 + (N : Int)).toNat = 1 + N by omega] at h
    rw [show (1 + (N : Int)) = ((1 + N : Nat) : Int) by omega, tmodN, h]
    rfl
  have hM2 : ((padI (strB xa ++ strB xc) (1 + (N : Int))).length : Int) % (1 + (N : Int)) = 0 := by
    rw [← Int.tmod_eq_emod_of_nonneg (by omega)]; exact hM
  have hp1 : (padI (strB xa ++ strB xc) (1 + (N : Int))).length ≤ 10001000 := padI_le hW.out.1 hW.out.2 (by rw [List.length_append]; omega)
  have hp2 : (padI (strB xb ++ strB xd) (1 + (N : Int))).length ≤ 10001000 := padI_le hW.out.1 hW.out.2 (by rw [List.length_append]; omega)
  have hps := pad_same (a := xa) (b := xb) (c := xc) (d := xd) hW.out (by rw [HL.out.1]; omega) (by rw [HL.out.2.1]; omega) (by rw [HL.out.2.2.1]; omega) (by rw [HL.out.2.2.2]; omega)
  obtain ⟨bp, hbp⟩ : ∃ bp, decide (padI (strB xa ++ strB xc) (1 + (N : Int)) = padI (strB xb ++ strB xd) (1 + (N : Int))) = bp := ⟨_, rfl⟩
  obtain ⟨bc, hbc⟩ : ∃ bc, decide (xc = xd) = bc := ⟨_, rfl⟩
  have hall : bp = (bs && bc) := by
    rw [← hbp, ← HBS.out, ← hbc, ← Bool.decide_and]
    exact decide_eq_decide.2 hps
  have HBP := Lib.hid hbp
  have HBD := Lib.hid hbc
  clear hbp hbc hps
  subst hall
  cases bs
  case false =>
    go_wp2_with fail
    refine (sameBytes_any A4 A7 _ _ c4 c7 _ _ _ (H.rd 4 rfl) (H.rd 7 rfl) (by omega) (by omega)).mono ?_
    rintro e wx ⟨rfl, kd, rfl⟩
    rw [HBP.out]
    replace H := H.drewN kd
    go_wp2
    go_ret
    exact ⟨rfl, H.below⟩
  case true =>
    go_wp2_with fail
    refine (sameBytes_any A4 A7 _ _ c4 c7 _ _ _ (H.rd 4 rfl) (H.rd 7 rfl) (by omega) (by omega)).mono ?_
    rintro e wx ⟨rfl, kd, rfl⟩
    rw [HBP.out]
    replace H := H.drewN kd
    go_wp2_with fail
    refine (sameBytes_any C D _ _ cc cd _ _ _ (H.arg0 hC) (H.arg0 hD) (by omega) (by omega)).mono ?_
    rintro e wx ⟨rfl, kd2, rfl⟩
    rw [HBD.out]
    replace H := H.drewN kd2
    rw [World.drewN_drewN] at H
    go_wp2
    cases bc
    all_goals
      go_ret
      exact ⟨rfl, H.below⟩

end Go.Proofs.Ythdfbnababmanaa
