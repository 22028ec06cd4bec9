/- Texts of this claim, merged: ShAny, LawShR, ShBN, SpRd, SpPl, BigO, Cut, LawShBg. -/

import Derived.Test.YthdfbnababmanaaMgD
set_option linter.unusedVariables false

namespace Go.Proofs.Ythdfbnababmanaa
open Go.RowKit
set_option linter.unusedVariables false
set_option maxRecDepth 100000

attribute [local irreducible] permB kBytes kPerm kFrom

def okN (Z : Int) : Prop := 0 ≤ Z ∧ Z ≤ 65536

instance (Z : Int) : Decidable (okN Z) := inferInstanceAs (Decidable (_ ∧ _))

def outB (R : Nat) (x y q : List UInt8) (Z : Int) : List UInt8 := if okN Z then toldB R x y q Z.toNat else []

def outN (R : Nat) (x y q : List UInt8) (Z : Int) : Nat := if okN Z then toldN R x y q Z.toNat else 0

def outE (Z : Int) : Int := if okN Z then 0 else 2

theorem outB_le (R : Nat) (x y q : List UInt8) (Z : Int) : (outB R x y q Z).length ≤ 65536 := by
  unfold outB
  split
  · rename_i h; rw [toldB_length]; have := h.2; omega
  · simp

theorem outN_le {R : Nat} {x y q : List UInt8} (Z : Int) (h1 : 8 ≤ R) (h2 : R ≤ 192) (hx : x.length ≤ 2000000) (hy : y.length ≤ 2000000) (hq : q.length ≤ 281474976710656) : outN R x y q Z ≤ 300000000000000 := by
  unfold outN
  split
  · rename_i h
    unfold toldN
    have a := beginN_le (R := R) (x := x) (y := y) h1 (by omega) hx hy
    have b := (beginSp_ok (r := R) x y h1 h2).2.2.2
    have c : ((beginSp R x y).p + q.length) / R ≤ (beginSp R x y).p + q.length := Nat.div_le_self _ _
    have d : (0 + Z.toNat - 1) / R ≤ 0 + Z.toNat - 1 := Nat.div_le_self _ _
    have := h.2
    omega
  · omega

section
variable {w0 w : World} {F0 : List Nat} {E : Env}

theorem shC128_any (l : Value) (r : Option (List RunT)) (m : Nat) (b : Int) (A B C : Option Addr) (n nc np c d cp : Nat) (xs ys q : List UInt8) (Z : Int) (H : St w0 F0 w E) (i k : Nat) (hi : E i = some (led l r)) (hk : E k = none) (hg : LW r m b) (hm : m ≤ 999999990) (hb : b ≤ 100000000000000000)
    (hA : ∀ w' X, St w0 F0 w' (upd E i X) → Rd w' 1 A n (xs.map vb)) (hB : ∀ w' X, St w0 F0 w' (upd E i X) → Rd w' 1 B nc (ys.map vb)) (hC : ∀ w' X, St w0 F0 w' (upd E i X) → Rd w' 1 C np (q.map vb)) (hn : n ≤ 2000000) (hnc : nc ≤ 2000000) (hnp : np ≤ 281474976710656) :
    Calls Try.prog 41 #[l, .slice A n c, .slice B nc d, .slice C np cp, .int .i64 Z] w fun e w' => ∃ v, e = .returned (.tuple #[v, .int .i64 (outE Z)]) ∧ St w0 F0 w' (upd (upd E i (led l (noteN r 3 200 (outN 168 xs ys q Z)))) k (.row 5 1 v (outB 168 xs ys q Z).length ((outB 168 xs ys q Z).map vb))) := by
  by_cases hz : okN Z
  · have e1 : outB 168 xs ys q Z = toldB 168 xs ys q Z.toNat := if_pos hz
    have e2 : outN 168 xs ys q Z = toldN 168 xs ys q Z.toNat := if_pos hz
    have e3 : outE Z = 0 := if_pos hz
    rw [e1, e2, e3, toldB_length]
    exact shC128_s l r m b A B C n nc np c d cp xs ys q Z.toNat Z (by have := hz.1; omega) (by have := hz.2; omega) H i k hi hk hg hm hb hA hB hC hn hnc hnp
  · have e1 : outB 168 xs ys q Z = [] := if_neg hz
    have e2 : outN 168 xs ys q Z = 0 := if_neg hz
    have e3 : outE Z = 2 := if_neg hz
    rw [e1, e2, e3, noteN_zero]
    refine (shC128_bad _ _ _ _ Z (by unfold okN at hz; omega)).mono ?_
    rintro e w1 ⟨rfl, rfl⟩
    refine ⟨_, rfl, ?_⟩
    rw [upd_id hi]
    exact H.nilRow k hk _ _

theorem shC256_any (l : Value) (r : Option (List RunT)) (m : Nat) (b : Int) (A B C : Option Addr) (n nc np c d cp : Nat) (xs ys q : List UInt8) (Z : Int) (H : St w0 F0 w E) (i k : Nat) (hi : E i = some (led l r)) (hk : E k = none) (hg : LW r m b) (hm : m ≤ 999999990) (hb : b ≤ 100000000000000000)
    (hA : ∀ w' X, St w0 F0 w' (upd E i X) → Rd w' 1 A n (xs.map vb)) (hB : ∀ w' X, St w0 F0 w' (upd E i X) → Rd w' 1 B nc (ys.map vb)) (hC : ∀ w' X, St w0 F0 w' (upd E i X) → Rd w' 1 C np (q.map vb)) (hn : n ≤ 2000000) (hnc : nc ≤ 2000000) (hnp : np ≤ 281474976710656) :
    Calls Try.prog 42 #[l, .slice A n c, .slice B nc d, .slice C np cp, .int .i64 Z] w fun e w' => ∃ v, e = .returned (.tuple #[v, .int .i64 (outE Z)]) ∧ St w0 F0 w' (upd (upd E i (led l (noteN r 3 200 (outN 136 xs ys q Z)))) k (.row 5 1 v (outB 136 xs ys q Z).length ((outB 136 xs ys q Z).map vb))) := by
  by_cases hz : okN Z
  · have e1 : outB 136 xs ys q Z = toldB 136 xs ys q Z.toNat := if_pos hz
    have e2 : outN 136 xs ys q Z = toldN 136 xs ys q Z.toNat := if_pos hz
    have e3 : outE Z = 0 := if_pos hz
    rw [e1, e2, e3, toldB_length]
    exact shC256_s l r m b A B C n nc np c d cp xs ys q Z.toNat Z (by have := hz.1; omega) (by have := hz.2; omega) H i k hi hk hg hm hb hA hB hC hn hnc hnp
  · have e1 : outB 136 xs ys q Z = [] := if_neg hz
    have e2 : outN 136 xs ys q Z = 0 := if_neg hz
    have e3 : outE Z = 2 := if_neg hz
    rw [e1, e2, e3, noteN_zero]
    refine (shC256_bad _ _ _ _ Z (by unfold okN at hz; omega)).mono ?_
    rintro e w1 ⟨rfl, rfl⟩
    refine ⟨_, rfl, ?_⟩
    rw [upd_id hi]
    exact H.nilRow k hk _ _

theorem shShake128_any (l : Value) (r : Option (List RunT)) (m : Nat) (b : Int) (C : Option Addr) (np cp : Nat) (q : List UInt8) (Z : Int) (H : St w0 F0 w E) (i k : Nat) (hi : E i = some (led l r)) (hk : E k = none) (hg : LW r m b) (hm : m ≤ 999999990) (hb : b ≤ 100000000000000000)
    (hC : ∀ w' X, St w0 F0 w' (upd E i X) → Rd w' 1 C np (q.map vb)) (hnp : np ≤ 281474976710656) :
    Calls Try.prog 45 #[l, .slice C np cp, .int .i64 Z] w fun e w' => ∃ v, e = .returned (.tuple #[v, .int .i64 (outE Z)]) ∧ St w0 F0 w' (upd (upd E i (led l (noteN r 3 200 (outN 168 [] [] q Z)))) k (.row 5 1 v (outB 168 [] [] q Z).length ((outB 168 [] [] q Z).map vb))) := by
  by_cases hz : okN Z
  · have e1 : outB 168 [] [] q Z = toldB 168 [] [] q Z.toNat := if_pos hz
    have e2 : outN 168 [] [] q Z = toldN 168 [] [] q Z.toNat := if_pos hz
    have e3 : outE Z = 0 := if_pos hz
    rw [e1, e2, e3, toldB_length]
    exact shShake128_s l r m b C np cp q Z.toNat Z (by have := hz.1; omega) (by have := hz.2; omega) H i k hi hk hg hm hb hC hnp
  · have e1 : outB 168 [] [] q Z = [] := if_neg hz
    have e2 : outN 168 [] [] q Z = 0 := if_neg hz
    have e3 : outE Z = 2 := if_neg hz
    rw [e1, e2, e3, noteN_zero]
    refine (shShake128_bad _ _ Z (by unfold okN at hz; omega)).mono ?_
    rintro e w1 ⟨rfl, rfl⟩
    refine ⟨_, rfl, ?_⟩
    rw [upd_id hi]
    exact H.nilRow k hk _ _

theorem shShake256_any (l : Value) (r : Option (List RunT)) (m : Nat) (b : Int) (C : Option Addr) (np cp : Nat) (q : List UInt8) (Z : Int) (H : St w0 F0 w E) (i k : Nat) (hi : E i = some (led l r)) (hk : E k = none) (hg : LW r m b) (hm : m ≤ 999999990) (hb : b ≤ 100000000000000000)
    (hC : ∀ w' X, St w0 F0 w' (upd E i X) → Rd w' 1 C np (q.map vb)) (hnp : np ≤ 281474976710656) :
    Calls Try.prog 46 #[l, .slice C np cp, .int .i64 Z] w fun e w' => ∃ v, e = .returned (.tuple #[v, .int .i64 (outE Z)]) ∧ St w0 F0 w' (upd (upd E i (led l (noteN r 3 200 (outN 136 [] [] q Z)))) k (.row 5 1 v (outB 136 [] [] q Z).length ((outB 136 [] [] q Z).map vb))) := by
  by_cases hz : okN Z
  · have e1 : outB 136 [] [] q Z = toldB 136 [] [] q Z.toNat := if_pos hz
    have e2 : outN 136 [] [] q Z = toldN 136 [] [] q Z.toNat := if_pos hz
    have e3 : outE Z = 0 := if_pos hz
    rw [e1, e2, e3, toldB_length]
    exact shShake256_s l r m b C np cp q Z.toNat Z (by have := hz.1; omega) (by have := hz.2; omega) H i k hi hk hg hm hb hC hnp
  · have e1 : outB 136 [] [] q Z = [] := if_neg hz
    have e2 : outN 136 [] [] q Z = 0 := if_neg hz
    have e3 : outE Z = 2 := if_neg hz
    rw [e1, e2, e3, noteN_zero]
    refine (shShake256_bad _ _ Z (by unfold okN at hz; omega)).mono ?_
    rintro e w1 ⟨rfl, rfl⟩
    refine ⟨_, rfl, ?_⟩
    rw [upd_id hi]
    exact H.nilRow k hk _ _

end

section
variable {w0 w : World} {F0 : List Nat} {E : Env}

theorem rhC128_any (l : Value) (r : Option (List RunT)) (m : Nat) (b : Int) (A B C : Option Addr) (n nc np c d cp : Nat) (xs ys q : List UInt8) (Z : Int) (H : St w0 F0 w E) (i k : Nat) (hi : E i = some (ledR l r)) (hk : E k = none) (hg : LW r m b) (hm : m ≤ 999999990) (hb : b ≤ 100000000000000000)
    (hA : ∀ w' X, St w0 F0 w' (upd E i X) → Rd w' 1 A n (xs.map vb)) (hB : ∀ w' X, St w0 F0 w' (upd E i X) → Rd w' 1 B nc (ys.map vb)) (hC : ∀ w' X, St w0 F0 w' (upd E i X) → Rd w' 1 C np (q.map vb)) (hn : n ≤ 2000000) (hnc : nc ≤ 2000000) (hnp : np ≤ 281474976710656) :
    Calls Try.prog 47 #[l, .slice A n c, .slice B nc d, .slice C np cp, .int .i64 Z] w fun e w' => ∃ v, e = .returned (.tuple #[v, .int .i64 (outE Z)]) ∧ St w0 F0 w' (upd (upd E i (ledR l (noteN r 3 200 (outN 168 xs ys q Z)))) k (.row 5 1 v (outB 168 xs ys q Z).length ((outB 168 xs ys q Z).map vb))) := by
  by_cases hz : okN Z
  · have e1 : outB 168 xs ys q Z = toldB 168 xs ys q Z.toNat := if_pos hz
    have e2 : outN 168 xs ys q Z = toldN 168 xs ys q Z.toNat := if_pos hz
    have e3 : outE Z = 0 := if_pos hz
    rw [e1, e2, e3, toldB_length]
    exact rhC128_s l r m b A B C n nc np c d cp xs ys q Z.toNat Z (by have := hz.1; omega) (by have := hz.2; omega) H i k hi hk hg hm hb hA hB hC hn hnc hnp
  · have e1 : outB 168 xs ys q Z = [] := if_neg hz
    have e2 : outN 168 xs ys q Z = 0 := if_neg hz
    have e3 : outE Z = 2 := if_neg hz
    rw [e1, e2, e3, noteN_zero]
    refine (rhC128_bad _ _ _ _ Z (by unfold okN at hz; omega)).mono ?_
    rintro e w1 ⟨rfl, rfl⟩
    refine ⟨_, rfl, ?_⟩
    rw [upd_id hi]
    exact H.nilRow k hk _ _

theorem rhC256_any (l : Value) (r : Option (List RunT)) (m : Nat) (b : Int) (A B C : Option Addr) (n nc np c d cp : Nat) (xs ys q : List UInt8) (Z : Int) (H : St w0 F0 w E) (i k : Nat) (hi : E i = some (ledR l r)) (hk : E k = none) (hg : LW r m b) (hm : m ≤ 999999990) (hb : b ≤ 100000000000000000)
    (hA : ∀ w' X, St w0 F0 w' (upd E i X) → Rd w' 1 A n (xs.map vb)) (hB : ∀ w' X, St w0 F0 w' (upd E i X) → Rd w' 1 B nc (ys.map vb)) (hC : ∀ w' X, St w0 F0 w' (upd E i X) → Rd w' 1 C np (q.map vb)) (hn : n ≤ 2000000) (hnc : nc ≤ 2000000) (hnp : np ≤ 281474976710656) :
    Calls Try.prog 48 #[l, .slice A n c, .slice B nc d, .slice C np cp, .int .i64 Z] w fun e w' => ∃ v, e = .returned (.tuple #[v, .int .i64 (outE Z)]) ∧ St w0 F0 w' (upd (upd E i (ledR l (noteN r 3 200 (outN 136 xs ys q Z)))) k (.row 5 1 v (outB 136 xs ys q Z).length ((outB 136 xs ys q Z).map vb))) := by
  by_cases hz : okN Z
  · have e1 : outB 136 xs ys q Z = toldB 136 xs ys q Z.toNat := if_pos hz
    have e2 : outN 136 xs ys q Z = toldN 136 xs ys q Z.toNat := if_pos hz
    have e3 : outE Z = 0 := if_pos hz
    rw [e1, e2, e3, toldB_length]
    exact rhC256_s l r m b A B C n nc np c d cp xs ys q Z.toNat Z (by have := hz.1; omega) (by have := hz.2; omega) H i k hi hk hg hm hb hA hB hC hn hnc hnp
  · have e1 : outB 136 xs ys q Z = [] := if_neg hz
    have e2 : outN 136 xs ys q Z = 0 := if_neg hz
    have e3 : outE Z = 2 := if_neg hz
    rw [e1, e2, e3, noteN_zero]
    refine (rhC256_bad _ _ _ _ Z (by unfold okN at hz; omega)).mono ?_
    rintro e w1 ⟨rfl, rfl⟩
    refine ⟨_, rfl, ?_⟩
    rw [upd_id hi]
    exact H.nilRow k hk _ _

theorem rhShake128_any (l : Value) (r : Option (List RunT)) (m : Nat) (b : Int) (C : Option Addr) (np cp : Nat) (q : List UInt8) (Z : Int) (H : St w0 F0 w E) (i k : Nat) (hi : E i = some (ledR l r)) (hk : E k = none) (hg : LW r m b) (hm : m ≤ 999999990) (hb : b ≤ 100000000000000000)
    (hC : ∀ w' X, St w0 F0 w' (upd E i X) → Rd w' 1 C np (q.map vb)) (hnp : np ≤ 281474976710656) :
    Calls Try.prog 49 #[l, .slice C np cp, .int .i64 Z] w fun e w' => ∃ v, e = .returned (.tuple #[v, .int .i64 (outE Z)]) ∧ St w0 F0 w' (upd (upd E i (ledR l (noteN r 3 200 (outN 168 [] [] q Z)))) k (.row 5 1 v (outB 168 [] [] q Z).length ((outB 168 [] [] q Z).map vb))) := by
  by_cases hz : okN Z
  · have e1 : outB 168 [] [] q Z = toldB 168 [] [] q Z.toNat := if_pos hz
    have e2 : outN 168 [] [] q Z = toldN 168 [] [] q Z.toNat := if_pos hz
    have e3 : outE Z = 0 := if_pos hz
    rw [e1, e2, e3, toldB_length]
    exact rhShake128_s l r m b C np cp q Z.toNat Z (by have := hz.1; omega) (by have := hz.2; omega) H i k hi hk hg hm hb hC hnp
  · have e1 : outB 168 [] [] q Z = [] := if_neg hz
    have e2 : outN 168 [] [] q Z = 0 := if_neg hz
    have e3 : outE Z = 2 := if_neg hz
    rw [e1, e2, e3, noteN_zero]
    refine (rhShake128_bad _ _ Z (by unfold okN at hz; omega)).mono ?_
    rintro e w1 ⟨rfl, rfl⟩
    refine ⟨_, rfl, ?_⟩
    rw [upd_id hi]
    exact H.nilRow k hk _ _

theorem rhShake256_any (l : Value) (r : Option (List RunT)) (m : Nat) (b : Int) (C : Option Addr) (np cp : Nat) (q : List UInt8) (Z : Int) (H : St w0 F0 w E) (i k : Nat) (hi : E i = some (ledR l r)) (hk : E k = none) (hg : LW r m b) (hm : m ≤ 999999990) (hb : b ≤ 100000000000000000)
    (hC : ∀ w' X, St w0 F0 w' (upd E i X) → Rd w' 1 C np (q.map vb)) (hnp : np ≤ 281474976710656) :
    Calls Try.prog 50 #[l, .slice C np cp, .int .i64 Z] w fun e w' => ∃ v, e = .returned (.tuple #[v, .int .i64 (outE Z)]) ∧ St w0 F0 w' (upd (upd E i (ledR l (noteN r 3 200 (outN 136 [] [] q Z)))) k (.row 5 1 v (outB 136 [] [] q Z).length ((outB 136 [] [] q Z).map vb))) := by
  by_cases hz : okN Z
  · have e1 : outB 136 [] [] q Z = toldB 136 [] [] q Z.toNat := if_pos hz
    have e2 : outN 136 [] [] q Z = toldN 136 [] [] q Z.toNat := if_pos hz
    have e3 : outE Z = 0 := if_pos hz
    rw [e1, e2, e3, toldB_length]
    exact rhShake256_s l r m b C np cp q Z.toNat Z (by have := hz.1; omega) (by have := hz.2; omega) H i k hi hk hg hm hb hC hnp
  · have e1 : outB 136 [] [] q Z = [] := if_neg hz
    have e2 : outN 136 [] [] q Z = 0 := if_neg hz
    have e3 : outE Z = 2 := if_neg hz
    rw [e1, e2, e3, noteN_zero]
    refine (rhShake256_bad _ _ Z (by unfold okN at hz; omega)).mono ?_
    rintro e w1 ⟨rfl, rfl⟩
    refine ⟨_, rfl, ?_⟩
    rw [upd_id hi]
    exact H.nilRow k hk _ _

end

end Go.Proofs.Ythdfbnababmanaa

namespace Go.Proofs.Ythdfbnababmanaa
open Go.RowKit
set_option linter.unusedVariables false
set_option maxRecDepth 100000

attribute [local irreducible] permB kBytes kPerm kFrom

theorem Rd.frontB {w : World} {A : Option Addr} {n m : Nat} {l k : List UInt8} (h : Rd w 1 A m ((l ++ k).map vb)) (hn : l.length = n) (hm : n ≤ m) : Rd w 1 A n (l.map vb) := by
  have := h.take hm
  rw [List.take_left' hn] at this
  exact this

set_option maxHeartbeats 1000000 in
theorem cut_s (A : Option Addr) (n c : Nat) (l : List UInt8) (w : World) (hR : Rd w 1 A n (l.map vb)) (hn : n ≤ 140737488351232) :
    Calls Try.prog 24 #[.slice A n c] w fun e w' => ∃ g cF, e = .returned (.tuple #[.slice (some ⟨g, 0, none⟩) (n + 6) cF, .slice (some ⟨g, 0, none⟩) n cF]) ∧ w'.ownsRow w.heap.size 5 1 (.slice (some ⟨g, 0, none⟩) (n + 6) cF) (n + 6) ((l ++ marksB 7 0 6).map vb) ∧ Below w.heap.size w w' := by
  have hl : l.length = n := by simpa using hR.1
  have HL := Lib.hid hl
  clear hl
  go_enter Try.func24, Try.ntmps24
  go_wp2_with fail
  refine (lentBytes_any A n c l w hR (by omega)).mono ?_
  rintro e w2 ⟨v0, rfl, ho, hb2⟩
  obtain ⟨gF, cF, rfl, hcF, -, -⟩ := ho.lent HL.out
  have hcF2 : (n : Int) ≤ cF := by omega
  have hcF3 : n ≤ cF := by omega
  go_wp2
  go_quiet (fail)
  go_wp2
  go_ret2
  refine ⟨gF, cF, rfl, ?_, bdrewN hb2 _⟩
  unfold OwnB at ho
  rw [List.length_append, HL.out, marksB_length] at ho
  exact ho

set_option maxHeartbeats 8000000 in
theorem shakeReads_w (A B C : Option Addr) (n nc np c d cp : Nat) (xs ys q : List UInt8) (Z : Int) (w : World) (hA : Rd w 1 A n (xs.map vb)) (hn : n ≤ 1048576) (hB : Rd w 1 B nc (ys.map vb)) (hnc : nc ≤ 1048576) (hC : Rd w 1 C np (q.map vb)) (hnp : np ≤ 1048576) (hZ1 : -9223372036854775808 ≤ Z) (hZ2 : Z ≤ 9223372036854775807) :
    Calls Try.prog 7 #[.slice A n c, .slice B nc d, .slice C np cp, .int .i64 Z] w fun e w' => e = .returned (.bool true) ∧ Below w.heap.size w w' := by
  have hlx : xs.length = n := by simpa using hA.1
  have hly : ys.length = nc := by simpa using hB.1
  have hlq : q.length = np := by simpa using hC.1
  have HX := Lib.hid hlx
  have HY := Lib.hid hly
  have HQ := Lib.hid hlq
  clear hlx hly hlq
  have H0 := St.start_lay w []
  go_enter Try.func7, Try.ntmps7
  go_wp2_with fail
  refine (ledger_new H0 0 rfl).mono ?_
  rintro e w1 ⟨l, rfl, H1⟩
  replace H1 := H1.push_mk rfl
  go_wp2_with fail
  refine (refLedger_new H1 1 rfl).mono ?_
  rintro e w2 ⟨lr, rfl, H2⟩
  have H := (H2.push_mk rfl).ledNil 2 rfl |>.push_mk rfl
  clear H0 H1 H2
  replace H : St w [] w2 (lay [led l (some []), ledR lr (some []), led (.pointer none) none]) := H
  go_wp2_with fail
  refine (cut_s A n c xs _ (H.arg0 hA) (by omega)).mono ?_
  rintro e wa ⟨f0, t0, rfl, ho, hb⟩
  replace H := (H.pushRow 3 rfl hb (ownsRow_base ho (by intro q hq; have := (World.ownsRow.lt ho _ (by simpa using hq)).1; exact this))).push_mk rfl
  clear ho hb
  replace H : St w [] wa (lay [led l (some []), ledR lr (some []), led (.pointer none) none, .row 5 1 (.slice (some ⟨f0, 0, none⟩) (n + 6) t0) (n + 6) ((xs ++ marksB 7 0 6).map vb)]) := H
  go_wp2_with fail
  refine (cut_s B nc d ys _ (H.arg0 hB) (by omega)).mono ?_
  rintro e wa ⟨f1, t1, rfl, ho, hb⟩
  replace H := (H.pushRow 4 rfl hb (ownsRow_base ho (by intro q hq; have := (World.ownsRow.lt ho _ (by simpa using hq)).1; exact this))).push_mk rfl
  clear ho hb
  replace H : St w [] wa (lay [led l (some []), ledR lr (some []), led (.pointer none) none, .row 5 1 (.slice (some ⟨f0, 0, none⟩) (n + 6) t0) (n + 6) ((xs ++ marksB 7 0 6).map vb), .row 5 1 (.slice (some ⟨f1, 0, none⟩) (nc + 6) t1) (nc + 6) ((ys ++ marksB 7 0 6).map vb)]) := H
  go_wp2_with fail
  refine (cut_s C np cp q _ (H.arg0 hC) (by omega)).mono ?_
  rintro e wa ⟨f2, t2, rfl, ho, hb⟩
  replace H := (H.pushRow 5 rfl hb (ownsRow_base ho (by intro q hq; have := (World.ownsRow.lt ho _ (by simpa using hq)).1; exact this))).push_mk rfl
  clear ho hb
  replace H : St w [] wa (lay [led l (some []), ledR lr (some []), led (.pointer none) none, .row 5 1 (.slice (some ⟨f0, 0, none⟩) (n + 6) t0) (n + 6) ((xs ++ marksB 7 0 6).map vb), .row 5 1 (.slice (some ⟨f1, 0, none⟩) (nc + 6) t1) (nc + 6) ((ys ++ marksB 7 0 6).map vb), .row 5 1 (.slice (some ⟨f2, 0, none⟩) (np + 6) t2) (np + 6) ((q ++ marksB 7 0 6).map vb)]) := H
  have hb1 := outN_le (R := 168) (x := xs) (y := ys) (q := q) Z (by omega) (by omega) (by rw [HX.out]; omega) (by rw [HY.out]; omega) (by rw [HQ.out]; omega)
  have hb2 := outN_le (R := 136) (x := xs) (y := ys) (q := q) Z (by omega) (by omega) (by rw [HX.out]; omega) (by rw [HY.out]; omega) (by rw [HQ.out]; omega)
  have hb3 := outN_le (R := 168) (x := []) (y := []) (q := q) Z (by omega) (by omega) (by simp) (by simp) (by rw [HQ.out]; omega)
  have hb4 := outN_le (R := 136) (x := []) (y := []) (q := q) Z (by omega) (by omega) (by simp) (by simp) (by rw [HQ.out]; omega)
  have hL1 := outB_le 168 xs ys q Z
  have hL2 := outB_le 136 xs ys q Z
  have hL3 := outB_le 168 [] [] q Z
  have hL4 := outB_le 136 [] [] q Z
  obtain ⟨N1, HN1⟩ : ∃ N, Hid (outN 168 xs ys q Z = N) := ⟨_, rfl⟩
  obtain ⟨L1, HL1⟩ : ∃ L, Hid (outB 168 xs ys q Z = L) := ⟨_, rfl⟩
  rw [HN1.out] at hb1
  rw [HL1.out] at hL1
  obtain ⟨N2, HN2⟩ : ∃ N, Hid (outN 136 xs ys q Z = N) := ⟨_, rfl⟩
  obtain ⟨L2, HL2⟩ : ∃ L, Hid (outB 136 xs ys q Z = L) := ⟨_, rfl⟩
  rw [HN2.out] at hb2
  rw [HL2.out] at hL2
  obtain ⟨N3, HN3⟩ : ∃ N, Hid (outN 168 [] [] q Z = N) := ⟨_, rfl⟩
  obtain ⟨L3, HL3⟩ : ∃ L, Hid (outB 168 [] [] q Z = L) := ⟨_, rfl⟩
  rw [HN3.out] at hb3
  rw [HL3.out] at hL3
  obtain ⟨N4, HN4⟩ : ∃ N, Hid (outN 136 [] [] q Z = N) := ⟨_, rfl⟩
  obtain ⟨L4, HL4⟩ : ∃ L, Hid (outB 136 [] [] q Z = L) := ⟨_, rfl⟩
  rw [HN4.out] at hb4
  rw [HL4.out] at hL4
  obtain ⟨er, Her⟩ : ∃ x, Hid (outE Z = x) := ⟨_, rfl⟩
  go_wp2_with fail
  refine (shC128_any l (some []) 0 0 (some ⟨f0, 0, none⟩) (some ⟨f1, 0, none⟩) (some ⟨f2, 0, none⟩) n nc np t0 t1 t2 xs ys q Z H 0 6 rfl rfl (LW.nil) (by omega) (by omega) (fun w' X h => Rd.frontB (h.rd 3 rfl) HX.out (by omega)) (fun w' X h => Rd.frontB (h.rd 4 rfl) HY.out (by omega)) (fun w' X h => Rd.frontB (h.rd 5 rfl) HQ.out (by omega)) (by omega) (by omega) (by omega)).mono ?_
  rintro e wb ⟨vone, rfl, H1⟩
  rw [HN1.out, HL1.out, upd_laid (by simp)] at H1
  rw [Her.out]
  replace H := H1.push_mk rfl
  clear H1
  obtain ⟨Aone, cone, rfl, -⟩ := row_form (H.row 6 rfl)
  replace H : St w [] wb (lay [led l (noteN (some []) 3 200 (N1)), ledR lr (some []), led (.pointer none) none, .row 5 1 (.slice (some ⟨f0, 0, none⟩) (n + 6) t0) (n + 6) ((xs ++ marksB 7 0 6).map vb), .row 5 1 (.slice (some ⟨f1, 0, none⟩) (nc + 6) t1) (nc + 6) ((ys ++ marksB 7 0 6).map vb), .row 5 1 (.slice (some ⟨f2, 0, none⟩) (np + 6) t2) (np + 6) ((q ++ marksB 7 0 6).map vb), .row 5 1 (.slice Aone L1.length cone) L1.length (L1.map vb)]) := H
  go_wp2_with fail
  refine (shC256_any l (noteN (some []) 3 200 (N1)) 1 (((N1 : Nat) : Int)) (some ⟨f0, 0, none⟩) (some ⟨f1, 0, none⟩) (some ⟨f2, 0, none⟩) n nc np t0 t1 t2 xs ys q Z H 0 7 rfl rfl (((LW.nil.noteN 3 200 (N1)).more (m' := 1) (b' := (((N1 : Nat) : Int))) (by omega) (by omega))) (by omega) (by omega) (fun w' X h => Rd.frontB (h.rd 3 rfl) HX.out (by omega)) (fun w' X h => Rd.frontB (h.rd 4 rfl) HY.out (by omega)) (fun w' X h => Rd.frontB (h.rd 5 rfl) HQ.out (by omega)) (by omega) (by omega) (by omega)).mono ?_
  rintro e wb ⟨vtwo, rfl, H1⟩
  rw [HN2.out, HL2.out, upd_laid (by simp), noteN_noteN] at H1
  rw [Her.out]
  replace H := H1.push_mk rfl
  clear H1
  obtain ⟨Atwo, ctwo, rfl, -⟩ := row_form (H.row 7 rfl)
  replace H : St w [] wb (lay [led l (noteN (some []) 3 200 (N1 + N2)), ledR lr (some []), led (.pointer none) none, .row 5 1 (.slice (some ⟨f0, 0, none⟩) (n + 6) t0) (n + 6) ((xs ++ marksB 7 0 6).map vb), .row 5 1 (.slice (some ⟨f1, 0, none⟩) (nc + 6) t1) (nc + 6) ((ys ++ marksB 7 0 6).map vb), .row 5 1 (.slice (some ⟨f2, 0, none⟩) (np + 6) t2) (np + 6) ((q ++ marksB 7 0 6).map vb), .row 5 1 (.slice Aone L1.length cone) L1.length (L1.map vb), .row 5 1 (.slice Atwo L2.length ctwo) L2.length (L2.map vb)]) := H
  go_wp2_with fail
  refine (shShake128_any l (noteN (some []) 3 200 (N1 + N2)) 1 (((N1 + N2 : Nat) : Int)) (some ⟨f2, 0, none⟩) np t2 q Z H 0 8 rfl rfl (((LW.nil.noteN 3 200 (N1 + N2)).more (m' := 1) (b' := (((N1 + N2 : Nat) : Int))) (by omega) (by omega))) (by omega) (by omega) (fun w' X h => Rd.frontB (h.rd 5 rfl) HQ.out (by omega)) (by omega)).mono ?_
  rintro e wb ⟨vthree, rfl, H1⟩
  rw [HN3.out, HL3.out, upd_laid (by simp), noteN_noteN] at H1
  rw [Her.out]
  replace H := H1.push_mk rfl
  clear H1
  obtain ⟨Athree, cthree, rfl, -⟩ := row_form (H.row 8 rfl)
  replace H : St w [] wb (lay [led l (noteN (some []) 3 200 (N1 + N2 + N3)), ledR lr (some []), led (.pointer none) none, .row 5 1 (.slice (some ⟨f0, 0, none⟩) (n + 6) t0) (n + 6) ((xs ++ marksB 7 0 6).map vb), .row 5 1 (.slice (some ⟨f1, 0, none⟩) (nc + 6) t1) (nc + 6) ((ys ++ marksB 7 0 6).map vb), .row 5 1 (.slice (some ⟨f2, 0, none⟩) (np + 6) t2) (np + 6) ((q ++ marksB 7 0 6).map vb), .row 5 1 (.slice Aone L1.length cone) L1.length (L1.map vb), .row 5 1 (.slice Atwo L2.length ctwo) L2.length (L2.map vb), .row 5 1 (.slice Athree L3.length cthree) L3.length (L3.map vb)]) := H
  go_wp2_with fail
  refine (shShake256_any l (noteN (some []) 3 200 (N1 + N2 + N3)) 1 (((N1 + N2 + N3 : Nat) : Int)) (some ⟨f2, 0, none⟩) np t2 q Z H 0 9 rfl rfl (((LW.nil.noteN 3 200 (N1 + N2 + N3)).more (m' := 1) (b' := (((N1 + N2 + N3 : Nat) : Int))) (by omega) (by omega))) (by omega) (by omega) (fun w' X h => Rd.frontB (h.rd 5 rfl) HQ.out (by omega)) (by omega)).mono ?_
  rintro e wb ⟨vfour, rfl, H1⟩
  rw [HN4.out, HL4.out, upd_laid (by simp), noteN_noteN] at H1
  rw [Her.out]
  replace H := H1.push_mk rfl
  clear H1
  obtain ⟨Afour, cfour, rfl, -⟩ := row_form (H.row 9 rfl)
  replace H : St w [] wb (lay [led l (noteN (some []) 3 200 (N1 + N2 + N3 + N4)), ledR lr (some []), led (.pointer none) none, .row 5 1 (.slice (some ⟨f0, 0, none⟩) (n + 6) t0) (n + 6) ((xs ++ marksB 7 0 6).map vb), .row 5 1 (.slice (some ⟨f1, 0, none⟩) (nc + 6) t1) (nc + 6) ((ys ++ marksB 7 0 6).map vb), .row 5 1 (.slice (some ⟨f2, 0, none⟩) (np + 6) t2) (np + 6) ((q ++ marksB 7 0 6).map vb), .row 5 1 (.slice Aone L1.length cone) L1.length (L1.map vb), .row 5 1 (.slice Atwo L2.length ctwo) L2.length (L2.map vb), .row 5 1 (.slice Athree L3.length cthree) L3.length (L3.map vb), .row 5 1 (.slice Afour L4.length cfour) L4.length (L4.map vb)]) := H
  go_wp2_with fail
  refine (shC128_any (.pointer none) none 0 0 (some ⟨f0, 0, none⟩) (some ⟨f1, 0, none⟩) (some ⟨f2, 0, none⟩) n nc np t0 t1 t2 xs ys q Z H 2 10 rfl rfl (LW.none 0 0) (by omega) (by omega) (fun w' X h => Rd.frontB (h.rd 3 rfl) HX.out (by omega)) (fun w' X h => Rd.frontB (h.rd 4 rfl) HY.out (by omega)) (fun w' X h => Rd.frontB (h.rd 5 rfl) HQ.out (by omega)) (by omega) (by omega) (by omega)).mono ?_
  rintro e wb ⟨vfive, rfl, H1⟩
  rw [HN1.out, HL1.out, upd_laid (by simp)] at H1
  rw [Her.out]
  replace H := H1.push_mk rfl
  clear H1
  obtain ⟨Afive, cfive, rfl, -⟩ := row_form (H.row 10 rfl)
  replace H : St w [] wb (lay [led l (noteN (some []) 3 200 (N1 + N2 + N3 + N4)), ledR lr (some []), led (.pointer none) none, .row 5 1 (.slice (some ⟨f0, 0, none⟩) (n + 6) t0) (n + 6) ((xs ++ marksB 7 0 6).map vb), .row 5 1 (.slice (some ⟨f1, 0, none⟩) (nc + 6) t1) (nc + 6) ((ys ++ marksB 7 0 6).map vb), .row 5 1 (.slice (some ⟨f2, 0, none⟩) (np + 6) t2) (np + 6) ((q ++ marksB 7 0 6).map vb), .row 5 1 (.slice Aone L1.length cone) L1.length (L1.map vb), .row 5 1 (.slice Atwo L2.length ctwo) L2.length (L2.map vb), .row 5 1 (.slice Athree L3.length cthree) L3.length (L3.map vb), .row 5 1 (.slice Afour L4.length cfour) L4.length (L4.map vb), .row 5 1 (.slice Afive L1.length cfive) L1.length (L1.map vb)]) := by have e : noteN none 3 200 N1 = none := (by unfold noteN; split <;> rfl); rw [e] at H; exact H
  go_wp2_with fail
  refine (rhC128_any lr (some []) 0 0 A B C n nc np c d cp xs ys q Z H 1 11 rfl rfl (LW.nil) (by omega) (by omega) (fun w' X h => h.arg0 hA) (fun w' X h => h.arg0 hB) (fun w' X h => h.arg0 hC) (by omega) (by omega) (by omega)).mono ?_
  rintro e wb ⟨vw1, rfl, H1⟩
  rw [HN1.out, HL1.out, upd_laid (by simp)] at H1
  rw [Her.out]
  replace H := H1.push_mk rfl
  clear H1
  obtain ⟨Aw1, cw1, rfl, -⟩ := row_form (H.row 11 rfl)
  replace H : St w [] wb (lay [led l (noteN (some []) 3 200 (N1 + N2 + N3 + N4)), ledR lr (noteN (some []) 3 200 (N1)), led (.pointer none) none, .row 5 1 (.slice (some ⟨f0, 0, none⟩) (n + 6) t0) (n + 6) ((xs ++ marksB 7 0 6).map vb), .row 5 1 (.slice (some ⟨f1, 0, none⟩) (nc + 6) t1) (nc + 6) ((ys ++ marksB 7 0 6).map vb), .row 5 1 (.slice (some ⟨f2, 0, none⟩) (np + 6) t2) (np + 6) ((q ++ marksB 7 0 6).map vb), .row 5 1 (.slice Aone L1.length cone) L1.length (L1.map vb), .row 5 1 (.slice Atwo L2.length ctwo) L2.length (L2.map vb), .row 5 1 (.slice Athree L3.length cthree) L3.length (L3.map vb), .row 5 1 (.slice Afour L4.length cfour) L4.length (L4.map vb), .row 5 1 (.slice Afive L1.length cfive) L1.length (L1.map vb), .row 5 1 (.slice Aw1 L1.length cw1) L1.length (L1.map vb)]) := H
  go_wp2_with fail
  refine (rhC256_any lr (noteN (some []) 3 200 (N1)) 1 (((N1 : Nat) : Int)) A B C n nc np c d cp xs ys q Z H 1 12 rfl rfl (((LW.nil.noteN 3 200 (N1)).more (m' := 1) (b' := (((N1 : Nat) : Int))) (by omega) (by omega))) (by omega) (by omega) (fun w' X h => h.arg0 hA) (fun w' X h => h.arg0 hB) (fun w' X h => h.arg0 hC) (by omega) (by omega) (by omega)).mono ?_
  rintro e wb ⟨vw2, rfl, H1⟩
  rw [HN2.out, HL2.out, upd_laid (by simp), noteN_noteN] at H1
  rw [Her.out]
  replace H := H1.push_mk rfl
  clear H1
  obtain ⟨Aw2, cw2, rfl, -⟩ := row_form (H.row 12 rfl)
  replace H : St w [] wb (lay [led l (noteN (some []) 3 200 (N1 + N2 + N3 + N4)), ledR lr (noteN (some []) 3 200 (N1 + N2)), led (.pointer none) none, .row 5 1 (.slice (some ⟨f0, 0, none⟩) (n + 6) t0) (n + 6) ((xs ++ marksB 7 0 6).map vb), .row 5 1 (.slice (some ⟨f1, 0, none⟩) (nc + 6) t1) (nc + 6) ((ys ++ marksB 7 0 6).map vb), .row 5 1 (.slice (some ⟨f2, 0, none⟩) (np + 6) t2) (np + 6) ((q ++ marksB 7 0 6).map vb), .row 5 1 (.slice Aone L1.length cone) L1.length (L1.map vb), .row 5 1 (.slice Atwo L2.length ctwo) L2.length (L2.map vb), .row 5 1 (.slice Athree L3.length cthree) L3.length (L3.map vb), .row 5 1 (.slice Afour L4.length cfour) L4.length (L4.map vb), .row 5 1 (.slice Afive L1.length cfive) L1.length (L1.map vb), .row 5 1 (.slice Aw1 L1.length cw1) L1.length (L1.map vb), .row 5 1 (.slice Aw2 L2.length cw2) L2.length (L2.map vb)]) := H
  go_wp2_with fail
  refine (rhShake128_any lr (noteN (some []) 3 200 (N1 + N2)) 1 (((N1 + N2 : Nat) : Int)) C np cp q Z H 1 13 rfl rfl (((LW.nil.noteN 3 200 (N1 + N2)).more (m' := 1) (b' := (((N1 + N2 : Nat) : Int))) (by omega) (by omega))) (by omega) (by omega) (fun w' X h => h.arg0 hC) (by omega)).mono ?_
  rintro e wb ⟨vw3, rfl, H1⟩
  rw [HN3.out, HL3.out, upd_laid (by simp), noteN_noteN] at H1
  rw [Her.out]
  replace H := H1.push_mk rfl
  clear H1
  obtain ⟨Aw3, cw3, rfl, -⟩ := row_form (H.row 13 rfl)
  replace H : St w [] wb (lay [led l (noteN (some []) 3 200 (N1 + N2 + N3 + N4)), ledR lr (noteN (some []) 3 200 (N1 + N2 + N3)), led (.pointer none) none, .row 5 1 (.slice (some ⟨f0, 0, none⟩) (n + 6) t0) (n + 6) ((xs ++ marksB 7 0 6).map vb), .row 5 1 (.slice (some ⟨f1, 0, none⟩) (nc + 6) t1) (nc + 6) ((ys ++ marksB 7 0 6).map vb), .row 5 1 (.slice (some ⟨f2, 0, none⟩) (np + 6) t2) (np + 6) ((q ++ marksB 7 0 6).map vb), .row 5 1 (.slice Aone L1.length cone) L1.length (L1.map vb), .row 5 1 (.slice Atwo L2.length ctwo) L2.length (L2.map vb), .row 5 1 (.slice Athree L3.length cthree) L3.length (L3.map vb), .row 5 1 (.slice Afour L4.length cfour) L4.length (L4.map vb), .row 5 1 (.slice Afive L1.length cfive) L1.length (L1.map vb), .row 5 1 (.slice Aw1 L1.length cw1) L1.length (L1.map vb), .row 5 1 (.slice Aw2 L2.length cw2) L2.length (L2.map vb), .row 5 1 (.slice Aw3 L3.length cw3) L3.length (L3.map vb)]) := H
  go_wp2_with fail
  refine (rhShake256_any lr (noteN (some []) 3 200 (N1 + N2 + N3)) 1 (((N1 + N2 + N3 : Nat) : Int)) C np cp q Z H 1 14 rfl rfl (((LW.nil.noteN 3 200 (N1 + N2 + N3)).more (m' := 1) (b' := (((N1 + N2 + N3 : Nat) : Int))) (by omega) (by omega))) (by omega) (by omega) (fun w' X h => h.arg0 hC) (by omega)).mono ?_
  rintro e wb ⟨vw4, rfl, H1⟩
  rw [HN4.out, HL4.out, upd_laid (by simp), noteN_noteN] at H1
  rw [Her.out]
  replace H := H1.push_mk rfl
  clear H1
  obtain ⟨Aw4, cw4, rfl, -⟩ := row_form (H.row 14 rfl)
  replace H : St w [] wb (lay [led l (noteN (some []) 3 200 (N1 + N2 + N3 + N4)), ledR lr (noteN (some []) 3 200 (N1 + N2 + N3 + N4)), led (.pointer none) none, .row 5 1 (.slice (some ⟨f0, 0, none⟩) (n + 6) t0) (n + 6) ((xs ++ marksB 7 0 6).map vb), .row 5 1 (.slice (some ⟨f1, 0, none⟩) (nc + 6) t1) (nc + 6) ((ys ++ marksB 7 0 6).map vb), .row 5 1 (.slice (some ⟨f2, 0, none⟩) (np + 6) t2) (np + 6) ((q ++ marksB 7 0 6).map vb), .row 5 1 (.slice Aone L1.length cone) L1.length (L1.map vb), .row 5 1 (.slice Atwo L2.length ctwo) L2.length (L2.map vb), .row 5 1 (.slice Athree L3.length cthree) L3.length (L3.map vb), .row 5 1 (.slice Afour L4.length cfour) L4.length (L4.map vb), .row 5 1 (.slice Afive L1.length cfive) L1.length (L1.map vb), .row 5 1 (.slice Aw1 L1.length cw1) L1.length (L1.map vb), .row 5 1 (.slice Aw2 L2.length cw2) L2.length (L2.map vb), .row 5 1 (.slice Aw3 L3.length cw3) L3.length (L3.map vb), .row 5 1 (.slice Aw4 L4.length cw4) L4.length (L4.map vb)]) := H
  go_wp2_with fail
  refine (keptBytes_yes (some ⟨f0, 0, none⟩) A (n + 6) n t0 c (xs ++ marksB 7 0 6) xs _ (H.rd 3 rfl) (H.arg0 hA) (by omega) (by omega) rfl).mono ?_
  rintro e wc ⟨rfl, hb⟩
  replace H := H.call hb
  clear hb
  go_wp2_with fail
  refine (keptBytes_yes (some ⟨f1, 0, none⟩) B (nc + 6) nc t1 d (ys ++ marksB 7 0 6) ys _ (H.rd 4 rfl) (H.arg0 hB) (by omega) (by omega) rfl).mono ?_
  rintro e wc ⟨rfl, hb⟩
  replace H := H.call hb
  clear hb
  go_wp2_with fail
  refine (keptBytes_yes (some ⟨f2, 0, none⟩) C (np + 6) np t2 cp (q ++ marksB 7 0 6) q _ (H.rd 5 rfl) (H.arg0 hC) (by omega) (by omega) rfl).mono ?_
  rintro e wc ⟨rfl, hb⟩
  replace H := H.call hb
  clear hb
  go_wp2_with fail
  refine (over_st H 3 rfl (by omega)).mono ?_
  rintro e wd ⟨rfl, H1⟩
  rw [upd_laid (by simp)] at H1
  have HM0 : Hid ((marksB 9 0 (n + 6)).length = n + 6) := marksB_length _ _ _
  generalize marksB 9 0 (n + 6) = M0 at H1 HM0
  replace H := H1
  clear H1
  replace H : St w [] wd (lay [led l (noteN (some []) 3 200 (N1 + N2 + N3 + N4)), ledR lr (noteN (some []) 3 200 (N1 + N2 + N3 + N4)), led (.pointer none) none, .row 5 1 (.slice (some ⟨f0, 0, none⟩) (n + 6) t0) (n + 6) (M0.map vb), .row 5 1 (.slice (some ⟨f1, 0, none⟩) (nc + 6) t1) (nc + 6) ((ys ++ marksB 7 0 6).map vb), .row 5 1 (.slice (some ⟨f2, 0, none⟩) (np + 6) t2) (np + 6) ((q ++ marksB 7 0 6).map vb), .row 5 1 (.slice Aone L1.length cone) L1.length (L1.map vb), .row 5 1 (.slice Atwo L2.length ctwo) L2.length (L2.map vb), .row 5 1 (.slice Athree L3.length cthree) L3.length (L3.map vb), .row 5 1 (.slice Afour L4.length cfour) L4.length (L4.map vb), .row 5 1 (.slice Afive L1.length cfive) L1.length (L1.map vb), .row 5 1 (.slice Aw1 L1.length cw1) L1.length (L1.map vb), .row 5 1 (.slice Aw2 L2.length cw2) L2.length (L2.map vb), .row 5 1 (.slice Aw3 L3.length cw3) L3.length (L3.map vb), .row 5 1 (.slice Aw4 L4.length cw4) L4.length (L4.map vb)]) := H
  go_wp2_with fail
  refine (over_st H 4 rfl (by omega)).mono ?_
  rintro e wd ⟨rfl, H1⟩
  rw [upd_laid (by simp)] at H1
  have HM1 : Hid ((marksB 9 0 (nc + 6)).length = nc + 6) := marksB_length _ _ _
  generalize marksB 9 0 (nc + 6) = M1 at H1 HM1
  replace H := H1
  clear H1
  replace H : St w [] wd (lay [led l (noteN (some []) 3 200 (N1 + N2 + N3 + N4)), ledR lr (noteN (some []) 3 200 (N1 + N2 + N3 + N4)), led (.pointer none) none, .row 5 1 (.slice (some ⟨f0, 0, none⟩) (n + 6) t0) (n + 6) (M0.map vb), .row 5 1 (.slice (some ⟨f1, 0, none⟩) (nc + 6) t1) (nc + 6) (M1.map vb), .row 5 1 (.slice (some ⟨f2, 0, none⟩) (np + 6) t2) (np + 6) ((q ++ marksB 7 0 6).map vb), .row 5 1 (.slice Aone L1.length cone) L1.length (L1.map vb), .row 5 1 (.slice Atwo L2.length ctwo) L2.length (L2.map vb), .row 5 1 (.slice Athree L3.length cthree) L3.length (L3.map vb), .row 5 1 (.slice Afour L4.length cfour) L4.length (L4.map vb), .row 5 1 (.slice Afive L1.length cfive) L1.length (L1.map vb), .row 5 1 (.slice Aw1 L1.length cw1) L1.length (L1.map vb), .row 5 1 (.slice Aw2 L2.length cw2) L2.length (L2.map vb), .row 5 1 (.slice Aw3 L3.length cw3) L3.length (L3.map vb), .row 5 1 (.slice Aw4 L4.length cw4) L4.length (L4.map vb)]) := H
  go_wp2_with fail
  refine (over_st H 5 rfl (by omega)).mono ?_
  rintro e wd ⟨rfl, H1⟩
  rw [upd_laid (by simp)] at H1
  have HM2 : Hid ((marksB 9 0 (np + 6)).length = np + 6) := marksB_length _ _ _
  generalize marksB 9 0 (np + 6) = M2 at H1 HM2
  replace H := H1
  clear H1
  replace H : St w [] wd (lay [led l (noteN (some []) 3 200 (N1 + N2 + N3 + N4)), ledR lr (noteN (some []) 3 200 (N1 + N2 + N3 + N4)), led (.pointer none) none, .row 5 1 (.slice (some ⟨f0, 0, none⟩) (n + 6) t0) (n + 6) (M0.map vb), .row 5 1 (.slice (some ⟨f1, 0, none⟩) (nc + 6) t1) (nc + 6) (M1.map vb), .row 5 1 (.slice (some ⟨f2, 0, none⟩) (np + 6) t2) (np + 6) (M2.map vb), .row 5 1 (.slice Aone L1.length cone) L1.length (L1.map vb), .row 5 1 (.slice Atwo L2.length ctwo) L2.length (L2.map vb), .row 5 1 (.slice Athree L3.length cthree) L3.length (L3.map vb), .row 5 1 (.slice Afour L4.length cfour) L4.length (L4.map vb), .row 5 1 (.slice Afive L1.length cfive) L1.length (L1.map vb), .row 5 1 (.slice Aw1 L1.length cw1) L1.length (L1.map vb), .row 5 1 (.slice Aw2 L2.length cw2) L2.length (L2.map vb), .row 5 1 (.slice Aw3 L3.length cw3) L3.length (L3.map vb), .row 5 1 (.slice Aw4 L4.length cw4) L4.length (L4.map vb)]) := H
  go_wp2_with fail
  refine (sameBytes_yes Aone Aw1 L1.length L1.length cone cw1 L1 L1 _ (H.rd 6 rfl) (H.rd 11 rfl) (by omega) (by omega) rfl).mono ?_
  rintro e we ⟨rfl, hb⟩
  replace H := H.call hb
  clear hb
  go_wp2_with fail
  refine (sameBytes_yes Atwo Aw2 L2.length L2.length ctwo cw2 L2 L2 _ (H.rd 7 rfl) (H.rd 12 rfl) (by omega) (by omega) rfl).mono ?_
  rintro e we ⟨rfl, hb⟩
  replace H := H.call hb
  clear hb
  go_wp2_with fail
  refine (sameBytes_yes Athree Aw3 L3.length L3.length cthree cw3 L3 L3 _ (H.rd 8 rfl) (H.rd 13 rfl) (by omega) (by omega) rfl).mono ?_
  rintro e we ⟨rfl, hb⟩
  replace H := H.call hb
  clear hb
  go_wp2_with fail
  refine (sameBytes_yes Afour Aw4 L4.length L4.length cfour cw4 L4 L4 _ (H.rd 9 rfl) (H.rd 14 rfl) (by omega) (by omega) rfl).mono ?_
  rintro e we ⟨rfl, hb⟩
  replace H := H.call hb
  clear hb
  go_wp2_with fail
  refine (sameBytes_yes Afive Aw1 L1.length L1.length cfive cw1 L1 L1 _ (H.rd 10 rfl) (H.rd 11 rfl) (by omega) (by omega) rfl).mono ?_
  rintro e we ⟨rfl, hb⟩
  replace H := H.call hb
  clear hb
  have hrl : Hid (∃ rs, noteN (some []) 3 200 (N1 + N2 + N3 + N4) = some rs ∧ rs.length ≤ 1) := by
    unfold Hid noteN
    split
    · exact ⟨[], rfl, by simp⟩
    · exact ⟨_, rfl, by simp [noted]⟩
  obtain ⟨rs, hrs, hrl1⟩ := hrl.out
  have hlw : LW (some rs) 1 ((((N1 + N2 + N3 + N4) : Nat) : Int)) := by rw [← hrs]; exact (LW.nil.noteN 3 200 (N1 + N2 + N3 + N4)).more (by omega) (by omega)
  rw [hrs] at H
  have HLW := Lib.hid hlw
  clear hrs hrl hlw
  go_wp2_with fail
  refine (ledger_runs_w 1 _ H 0 rfl HLW.out (by omega) 15 rfl).mono ?_
  rintro e wf ⟨va, rfl, H1⟩
  replace H := H1.push_mk rfl
  clear H1
  obtain ⟨Aa, ca, rfl, -, -⟩ := row_shape (H.row 15 rfl)
  go_wp2_with fail
  refine (refRuns_w 1 _ H 1 rfl HLW.out (by omega) 16 rfl).mono ?_
  rintro e wg ⟨vd, rfl, H1⟩
  replace H := H1.push_mk rfl
  clear H1
  obtain ⟨Ad, cd, rfl, -, -⟩ := row_shape (H.row 16 rfl)
  go_wp2_with fail
  refine (sameRuns_any Aa Ad ca cd rs rs (H.rd 15 rfl) (H.rd 16 rfl) (by omega) (by omega)).mono ?_
  rintro e wh ⟨rfl, kd, rfl⟩
  replace H := (H.drewN kd).front 15
  rw [decide_eq_true rfl]
  generalize wg.drewN kd = wh at H ⊢
  replace H : St w [] wh (lay [led l (some rs), ledR lr (some rs), led (.pointer none) none, .row 5 1 (.slice (some ⟨f0, 0, none⟩) (n + 6) t0) (n + 6) (M0.map vb), .row 5 1 (.slice (some ⟨f1, 0, none⟩) (nc + 6) t1) (nc + 6) (M1.map vb), .row 5 1 (.slice (some ⟨f2, 0, none⟩) (np + 6) t2) (np + 6) (M2.map vb), .row 5 1 (.slice Aone L1.length cone) L1.length (L1.map vb), .row 5 1 (.slice Atwo L2.length ctwo) L2.length (L2.map vb), .row 5 1 (.slice Athree L3.length cthree) L3.length (L3.map vb), .row 5 1 (.slice Afour L4.length cfour) L4.length (L4.map vb), .row 5 1 (.slice Afive L1.length cfive) L1.length (L1.map vb), .row 5 1 (.slice Aw1 L1.length cw1) L1.length (L1.map vb), .row 5 1 (.slice Aw2 L2.length cw2) L2.length (L2.map vb), .row 5 1 (.slice Aw3 L3.length cw3) L3.length (L3.map vb), .row 5 1 (.slice Aw4 L4.length cw4) L4.length (L4.map vb)]) := H
  replace H := H.shape_row 3 rfl HM0.out.symm rfl
  replace H := H.shape_row 4 rfl HM1.out.symm rfl
  replace H := H.shape_row 5 rfl HM2.out.symm rfl
  replace H : St w [] wh (lay [led l (some rs), ledR lr (some rs), led (.pointer none) none, .row 5 1 (.slice (some ⟨f0, 0, none⟩) (n + 6) t0) M0.length (M0.map vb), .row 5 1 (.slice (some ⟨f1, 0, none⟩) (nc + 6) t1) M1.length (M1.map vb), .row 5 1 (.slice (some ⟨f2, 0, none⟩) (np + 6) t2) M2.length (M2.map vb), .row 5 1 (.slice Aone L1.length cone) L1.length (L1.map vb), .row 5 1 (.slice Atwo L2.length ctwo) L2.length (L2.map vb), .row 5 1 (.slice Athree L3.length cthree) L3.length (L3.map vb), .row 5 1 (.slice Afour L4.length cfour) L4.length (L4.map vb), .row 5 1 (.slice Afive L1.length cfive) L1.length (L1.map vb), .row 5 1 (.slice Aw1 L1.length cw1) L1.length (L1.map vb), .row 5 1 (.slice Aw2 L2.length cw2) L2.length (L2.map vb), .row 5 1 (.slice Aw3 L3.length cw3) L3.length (L3.map vb), .row 5 1 (.slice Aw4 L4.length cw4) L4.length (L4.map vb)]) := H
  go_wp2_with fail
  refine (apart_st H [(.slice (some ⟨f0, 0, none⟩) (n + 6) t0, M0), (.slice (some ⟨f1, 0, none⟩) (nc + 6) t1, M1), (.slice (some ⟨f2, 0, none⟩) (np + 6) t2, M2), (.slice Aone L1.length cone, L1), (.slice Atwo L2.length ctwo, L2), (.slice Athree L3.length cthree, L3), (.slice Afour L4.length cfour, L4), (.slice Afive L1.length cfive, L1)] (fun i => [3, 4, 5, 6, 7, 8, 9, 10].getD i 99) (fun i j hi hj => (by decide : ∀ i < 8, ∀ j < 8, [3, 4, 5, 6, 7, 8, 9, 10].getD i 99 = [3, 4, 5, 6, 7, 8, 9, 10].getD j 99 → i = j) i hi j hj) ?_ 8 rfl (by omega) ?_ _ rfl).mono ?_
  · intro i p hp
    match i, hp with
    | 0, hp => cases hp; rfl
    | 1, hp => cases hp; rfl
    | 2, hp => cases hp; rfl
    | 3, hp => cases hp; rfl
    | 4, hp => cases hp; rfl
    | 5, hp => cases hp; rfl
    | 6, hp => cases hp; rfl
    | 7, hp => cases hp; rfl
    | i + 8, hp => simp at hp
  · intro p hp
    have h1 := HM0.out
    have h2 := HM1.out
    have h3 := HM2.out
    simp only [List.mem_cons, List.not_mem_nil, or_false] at hp
    rcases hp with rfl | rfl | rfl | rfl | rfl | rfl | rfl | rfl <;> simp only <;> omega
  rintro e wz ⟨rfl, hbz⟩
  go_wp2_with fail
  go_ret
  exact ⟨rfl, hbz⟩

theorem shakeReads_walk (A : Option Addr) (n c : Nat) (xs : List UInt8) (B : Option Addr) (nc d : Nat) (ys : List UInt8) (C : Option Addr) (np cp : Nat) (q : List UInt8) (Z : Int) (w : World) (hA : Rd w 1 A n (xs.map vb)) (hn : n ≤ 1048576) (hB : Rd w 1 B nc (ys.map vb)) (hnc : nc ≤ 1048576) (hC : Rd w 1 C np (q.map vb)) (hnp : np ≤ 1048576) (hZ1 : -9223372036854775808 ≤ Z) (hZ2 : Z ≤ 9223372036854775807) :
    Calls Try.prog 7 #[.slice A n c, .slice B nc d, .slice C np cp, .int .i64 Z] w fun e w' => e = .returned (.bool true) ∧ Below w.heap.size w w' :=
  shakeReads_w A B C n nc np c d cp xs ys q Z w hA hn hB hnc hC hnp hZ1 hZ2

end Go.Proofs.Ythdfbnababmanaa

namespace Go.Proofs.Ythdfbnababmanaa
open Go.RowKit
set_option linter.unusedVariables false
set_option maxRecDepth 100000

theorem shBegin_no (l : Value) (S : Int) (v1 v2 : Value) (hS : S ≠ 128 ∧ S ≠ 256) (w : World) :
    Calls Try.prog 25 #[l, .int .i64 S, v1, v2] w fun e w' => e = .returned (.tuple #[.pointer none, .int .i64 2]) ∧ w = w' := by
  have e1 : (S == 128) = false := by simp; omega
  have e2 : (S == 256) = false := by simp; omega
  have hr : Calls Try.prog 55 #[.int .i64 S] w fun e w' => e = .returned (.int .i64 0) ∧ w = w' := by
    clear hS
    go_enter Try.func55, Try.ntmps55
    go_wp2
    go_ret
    exact ⟨rfl, rfl⟩
  have HR := Lib.hid hr
  clear hr hS
  go_enter Try.func25, Try.ntmps25
  go_wp2_with fail
  refine HR.out.mono ?_
  rintro e w1 ⟨rfl, rfl⟩
  go_wp2
  go_ret2
  exact ⟨rfl, rfl⟩

theorem rhBegin_no (l : Value) (S : Int) (v1 v2 : Value) (hS : S ≠ 128 ∧ S ≠ 256) (w : World) :
    Calls Try.prog 26 #[l, .int .i64 S, v1, v2] w fun e w' => e = .returned (.tuple #[.pointer none, .int .i64 2]) ∧ w = w' := by
  have e1 : (S != 128) = true := by simp; omega
  have e2 : (S != 256) = true := by simp; omega
  clear hS
  go_enter Try.func26, Try.ntmps26
  go_wp2
  go_ret2
  exact ⟨rfl, rfl⟩
end Go.Proofs.Ythdfbnababmanaa

namespace Go.Proofs.Ythdfbnababmanaa
open Go.RowKit
set_option linter.unusedVariables false
set_option maxRecDepth 100000

attribute [local irreducible] permB kBytes kPerm kFrom

def okR (Z : Int) : Prop := 0 ≤ Z ∧ Z ≤ 65536

instance (Z : Int) : Decidable (okR Z) := inferInstanceAs (Decidable (_ ∧ _))

def Sp.rdB (x : Sp) (Z : Int) : List UInt8 := if okR Z then x.shut.read Z.toNat else []
def Sp.rdS (x : Sp) (Z : Int) : Sp := if okR Z then x.shut.after Z.toNat else x
def Sp.rdN (x : Sp) (Z : Int) : Nat := if okR Z then x.shutN + (x.shut.p + Z.toNat - 1) / x.r else 0
def rdE (Z : Int) : Int := if okR Z then 0 else 2

theorem Sp.rdB_le (x : Sp) (Z : Int) : (x.rdB Z).length ≤ 65536 := by
  unfold Sp.rdB
  split
  · rename_i h; rw [Sp.read_length]; have := h.2; omega
  · simp

theorem Sp.rdN_le {x : Sp} (h : x.Ok) (Z : Int) : x.rdN Z ≤ 70000 := by
  unfold Sp.rdN
  split
  · rename_i hz
    have h1 : x.shutN ≤ 1 := by unfold Sp.shutN; split <;> omega
    have h2 := (Sp.shut_ok h).1
    have h3 := h2.pr
    have h4 := h2.r192
    have h5 : (x.shut.p + Z.toNat - 1) / x.r ≤ x.shut.p + Z.toNat - 1 := Nat.div_le_self _ _
    have := hz.2
    omega
  · omega

theorem Sp.rdS_ok {x : Sp} (h : x.Ok) (Z : Int) : (x.rdS Z).Ok := by
  unfold Sp.rdS
  split
  · have h2 := Sp.shut_ok h
    exact (Sp.after_ok h2.1 h2.2.1 _).1
  · exact h

section
variable {w0 w : World} {F0 : List Nat} {E : Env}

theorem spRead_no (l : Value) (g : Nat) (x : Sp) (n : Int) (H : St w0 F0 w E) (j : Nat) (hj : E j = some (.blk g 84 x.vs)) (hx : x.Ok) (hn : n < 0 ∨ 65536 < n) :
    Calls Try.prog 33 #[lptr g, l, .int .i64 n] w fun e w' => e = .returned (.tuple #[.slice none 0 0, .int .i64 2]) ∧ w = w' := by
  obtain ⟨k1, k2, k3, k4⟩ := Sp.cells hx.hb
  have h8 := hx.r8
  have c0 := H.cell j hj k1
  clear k1 k2 k3 k4 hx hj H
  by_cases h1 : n < 0
  · have d1 : decide (n < 0) = true := by simp; omega
    clear hn h1
    go_enter Try.func33, Try.ntmps33
    go_wp2_with fail
    refine (spNone_no g x.r w c0 (by omega)).mono ?_
    rintro e w1 ⟨rfl, rfl⟩
    unfold lptr
    go_wp2
    go_ret2
    exact ⟨rfl, rfl⟩
  · have d1 : decide (n < 0) = false := by simp; omega
    have d2 : decide (n > 65536) = true := by simp; omega
    clear hn h1
    go_enter Try.func33, Try.ntmps33
    go_wp2_with fail
    refine (spNone_no g x.r w c0 (by omega)).mono ?_
    rintro e w1 ⟨rfl, rfl⟩
    unfold lptr
    go_wp2
    go_ret2
    exact ⟨rfl, rfl⟩

theorem spRead_any (l : Value) (r : Option (List RunT)) (m : Nat) (b : Int) (g : Nat) (x : Sp) (Z : Int) (H : St w0 F0 w E) (i j k : Nat) (hij : i ≠ j) (hi : E i = some (led l r)) (hj : E j = some (.blk g 84 x.vs)) (hk : E k = none) (hg : LW r m b) (hm : m ≤ 999999999999) (hb : b ≤ 4000000000000000000) (hx : x.Ok) :
    Calls Try.prog 33 #[lptr g, l, .int .i64 Z] w fun e w' => ∃ v, e = .returned (.tuple #[v, .int .i64 (rdE Z)]) ∧ St w0 F0 w' (upd (upd (upd E i (led l (noteN r 3 200 (x.rdN Z)))) j (.blk g 84 (x.rdS Z).vs)) k (.row 5 1 v (x.rdB Z).length ((x.rdB Z).map vb))) := by
  by_cases hz : okR Z
  · have e1 : x.rdB Z = x.shut.read Z.toNat := if_pos hz
    have e2 : x.rdS Z = x.shut.after Z.toNat := if_pos hz
    have e3 : x.rdN Z = x.shutN + (x.shut.p + Z.toNat - 1) / x.r := if_pos hz
    have e4 : rdE Z = 0 := if_pos hz
    rw [e1, e2, e3, e4, Sp.read_length]
    exact spRead_s l r m b g x Z.toNat Z (by have := hz.1; omega) H i j k hij hi hj hk hg hm hb hx (by have := hz.2; omega)
  · have e1 : x.rdB Z = [] := if_neg hz
    have e2 : x.rdS Z = x := if_neg hz
    have e3 : x.rdN Z = 0 := if_neg hz
    have e4 : rdE Z = 2 := if_neg hz
    rw [e1, e2, e3, e4, noteN_zero]
    refine (spRead_no l g x Z H j hj hx (by unfold okR at hz; omega)).mono ?_
    rintro e w1 ⟨rfl, rfl⟩
    refine ⟨_, rfl, ?_⟩
    rw [upd_id hi, upd_id hj]
    exact H.nilRow k hk _ _

theorem rsRead_no (l : Value) (g : Nat) (x : Sp) (n : Int) (H : St w0 F0 w E) (j : Nat) (hj : E j = some (.blk g 87 x.vsR)) (hx : x.Ok) (hn : n < 0 ∨ 65536 < n) :
    Calls Try.prog 34 #[lptr g, l, .int .i64 n] w fun e w' => e = .returned (.tuple #[.slice none 0 0, .int .i64 2]) ∧ w = w' := by
  obtain ⟨k1, k2, k3, k4, k5⟩ := Sp.cellsR hx.hb
  have h8 := hx.r8
  have c0 := H.cell j hj k5
  clear k1 k2 k3 k4 k5 hx hj H
  by_cases h1 : n < 0
  · have d1 : decide (n < 0) = true := by simp; omega
    clear hn h1
    go_enter Try.func34, Try.ntmps34
    go_wp2_with fail
    refine (rsNone_no g w c0).mono ?_
    rintro e w1 ⟨rfl, rfl⟩
    unfold lptr
    go_wp2
    go_ret2
    exact ⟨rfl, rfl⟩
  · have d1 : decide (n < 0) = false := by simp; omega
    have d2 : decide (n > 65536) = true := by simp; omega
    clear hn h1
    go_enter Try.func34, Try.ntmps34
    go_wp2_with fail
    refine (rsNone_no g w c0).mono ?_
    rintro e w1 ⟨rfl, rfl⟩
    unfold lptr
    go_wp2
    go_ret2
    exact ⟨rfl, rfl⟩

theorem rsRead_any (l : Value) (r : Option (List RunT)) (m : Nat) (b : Int) (g : Nat) (x : Sp) (Z : Int) (H : St w0 F0 w E) (i j k : Nat) (hij : i ≠ j) (hi : E i = some (ledR l r)) (hj : E j = some (.blk g 87 x.vsR)) (hk : E k = none) (hg : LW r m b) (hm : m ≤ 999999999999) (hb : b ≤ 4000000000000000000) (hx : x.Ok) :
    Calls Try.prog 34 #[lptr g, l, .int .i64 Z] w fun e w' => ∃ v, e = .returned (.tuple #[v, .int .i64 (rdE Z)]) ∧ St w0 F0 w' (upd (upd (upd E i (ledR l (noteN r 3 200 (x.rdN Z)))) j (.blk g 87 (x.rdS Z).vsR)) k (.row 5 1 v (x.rdB Z).length ((x.rdB Z).map vb))) := by
  by_cases hz : okR Z
  · have e1 : x.rdB Z = x.shut.read Z.toNat := if_pos hz
    have e2 : x.rdS Z = x.shut.after Z.toNat := if_pos hz
    have e3 : x.rdN Z = x.shutN + (x.shut.p + Z.toNat - 1) / x.r := if_pos hz
    have e4 : rdE Z = 0 := if_pos hz
    rw [e1, e2, e3, e4, Sp.read_length]
    exact rsRead_s l r m b g x Z.toNat Z (by have := hz.1; omega) H i j k hij hi hj hk hg hm hb hx (by have := hz.2; omega)
  · have e1 : x.rdB Z = [] := if_neg hz
    have e2 : x.rdS Z = x := if_neg hz
    have e3 : x.rdN Z = 0 := if_neg hz
    have e4 : rdE Z = 2 := if_neg hz
    rw [e1, e2, e3, e4, noteN_zero]
    refine (rsRead_no l g x Z H j hj hx (by unfold okR at hz; omega)).mono ?_
    rintro e w1 ⟨rfl, rfl⟩
    refine ⟨_, rfl, ?_⟩
    rw [upd_id hi, upd_id hj]
    exact H.nilRow k hk _ _
end
end Go.Proofs.Ythdfbnababmanaa

namespace Go.Proofs.Ythdfbnababmanaa
open Go.RowKit
set_option linter.unusedVariables false
set_option maxRecDepth 100000

attribute [local irreducible] permB kBytes kPerm kFrom

theorem count_add (a n r : Nat) (hr : 0 < r) : a / r + (a % r + n) / r = (a + n) / r := by
  have h := Nat.div_add_mod a r
  have e : a + n = (a % r + n) + r * (a / r) := by omega
  rw [e, Nat.add_mul_div_left _ _ hr, Nat.add_comm]

theorem Sp.after_add (x : Sp) (m n : Nat) : x.after (m + n) = (x.after m).after n := by
  induction n with
  | zero => rfl
  | succ n ih => rw [← Nat.add_assoc, Sp.after_succ, ih]; rfl

theorem Sp.read_add (x : Sp) (m n : Nat) : x.read (m + n) = x.read m ++ (x.after m).read n := by
  unfold Sp.read
  rw [List.range_add, List.map_append, List.map_map]
  congr 1
  apply List.map_congr_left
  intro i _
  show (x.after (m + i)).get = _
  rw [Sp.after_add]

/-- where a sponge that is shut stands behind some bytes, and how often it was permuted -/
theorem Sp.after_count {x : Sp} (h : x.Ok) (hs : x.s = true) : ∀ m, ((x.p + m - 1) / x.r) * x.r + (x.after m).p = x.p + m ∧ (0 < m → 1 ≤ (x.after m).p) := by
  have h8 := h.r8
  have hpr := h.pr
  have key : ∀ m, ∃ c, c * x.r + (x.after m).p = x.p + m ∧ (m = 0 → c = 0) ∧ (0 < m → 1 ≤ (x.after m).p) := by
    intro m
    induction m with
    | zero => exact ⟨0, by rw [Sp.after_zero]; omega, fun _ => rfl, fun h => absurd h (by omega)⟩
    | succ m ih =>
      obtain ⟨c, h1, h2, h3⟩ := ih
      obtain ⟨ok, hr, hs', hf⟩ := Sp.after_ok h hs m
      by_cases he : (x.after m).p = (x.after m).r
      · refine ⟨c + 1, ?_, fun e => absurd e (by omega), fun _ => ?_⟩
        · rw [Sp.after_succ, Sp.turn_yes he]
          show (c + 1) * x.r + (0 + 1) = x.p + (m + 1)
          rw [Nat.add_mul, Nat.one_mul]
          rw [he, hr] at h1
          omega
        · rw [Sp.after_succ, Sp.turn_yes he]
          show 1 ≤ 0 + 1
          omega
      · refine ⟨c, ?_, fun e => absurd e (by omega), fun _ => ?_⟩
        · rw [Sp.after_succ, Sp.turn_no he]
          show c * x.r + ((x.after m).p + 1) = x.p + (m + 1)
          omega
        · rw [Sp.after_succ, Sp.turn_no he]
          show 1 ≤ (x.after m).p + 1
          omega
  intro m
  obtain ⟨c, h1, h2, h3⟩ := key m
  obtain ⟨ok, hr, -, -⟩ := Sp.after_ok h hs m
  have hc : c = (x.p + m - 1) / x.r := count_end h1 (by rw [← hr]; exact ok.pr) h2 h3 (by omega) hpr
  rw [← hc]
  exact ⟨h1, h3⟩

/-- counted piece by piece -/
theorem Sp.count_more {x : Sp} (h : x.Ok) (hs : x.s = true) (m n : Nat) : (x.p + m - 1) / x.r + ((x.after m).p + n - 1) / x.r = (x.p + (m + n) - 1) / x.r := by
  obtain ⟨h1, h2⟩ := Sp.after_count h hs m
  have h8 := h.r8
  have hpr := h.pr
  obtain ⟨ok, hr, -, -⟩ := Sp.after_ok h hs m
  have hp := ok.pr
  rw [hr] at hp
  generalize (x.p + m - 1) / x.r = c at h1
  rcases Nat.eq_zero_or_pos n with rfl | hn
  · have e1 : ((x.after m).p + 0 - 1) / x.r = 0 := Nat.div_eq_of_lt (by omega)
    rw [e1, Nat.add_zero, Nat.add_zero]
    rcases Nat.eq_zero_or_pos m with rfl | hm
    · rw [Sp.after_zero] at h1
      have hc0 : c = 0 := by
        rcases Nat.eq_zero_or_pos c with h | h
        · exact h
        · have : 1 * x.r ≤ c * x.r := Nat.mul_le_mul_right _ h
          omega
      rw [hc0, Nat.div_eq_of_lt (by omega)]
    · have := h2 hm
      have e : x.p + m - 1 = ((x.after m).p - 1) + x.r * c := by rw [Nat.mul_comm]; omega
      rw [e, Nat.add_mul_div_left _ _ (by omega), Nat.div_eq_of_lt (by omega), Nat.zero_add]
  · have e : x.p + (m + n) - 1 = ((x.after m).p + n - 1) + x.r * c := by rw [Nat.mul_comm]; omega
    rw [e, Nat.add_mul_div_left _ _ (by omega), Nat.add_comm]

end Go.Proofs.Ythdfbnababmanaa

namespace Go.Proofs.Ythdfbnababmanaa
open Go.RowKit
set_option linter.unusedVariables false

def bigO {α : Type} (f : α → Own) : List α → Own
  | [] => .emp
  | x :: t => .sep (f x) (bigO f t)

theorem bigO_snoc {α : Type} (f : α → Own) (x : α) : ∀ (L : List α) (w : World) (F : List Nat), (Own.sep (bigO f L) (f x)).holds w F → (bigO f (L ++ [x])).holds w F := by
  intro L
  induction L with
  | nil =>
    rintro w F ⟨G, H, rfl, hG, hH, d⟩
    have e : G = [] := hG
    subst e
    exact ⟨H, [], by simp, hH, rfl, by simp⟩
  | cons y L ih =>
    rintro w F ⟨G, H, rfl, ⟨G1, G2, rfl, h1, h2, d1⟩, hH, d⟩
    refine ⟨G1, G2 ++ H, by simp, h1, ih w (G2 ++ H) ⟨G2, H, rfl, h2, hH, fun g hg => d g (by simp [hg])⟩, fun g hg => ?_⟩
    rw [List.mem_append]
    rintro (h | h)
    · exact d1 g hg h
    · exact d g (by simp [hg]) h

section
variable {w0 w : World} {F0 : List Nat} {E : Env}

theorem St.recast {A A' : Own} (H : St w0 F0 w E) (k : Nat) (hk : E k = some A) (h : ∀ w F, A.holds w F → A'.holds w F) : St w0 F0 w (upd E k A') := by
  obtain ⟨F, hA, -, -, hc⟩ := H.change k hk
  exact hc w A' F (h w F hA) (Low.refl _ _) fun g hg => .inl hg

theorem St.part_mk {L : List Own} {A B : Own} (H : St w0 F0 w (lay L)) (i : Nat) (hi : L[i]? = some (.sep A B)) : St w0 F0 w (lay (L.set i A ++ [B])) := by
  have hl : i < L.length := (List.getElem?_eq_some_iff.1 hi).1
  refine (H.part i L.length (by omega) hi (by simp [lay])).env fun k => ?_
  simp only [lay, upd]
  by_cases hk : k = L.length
  · subst hk; simp
  · rw [if_neg hk]
    by_cases hki : k = i
    · subst hki; rw [if_pos rfl, List.getElem?_append_left (by simpa using hl), List.getElem?_set_self hl]
    · rw [if_neg hki]
      rcases Nat.lt_or_ge k L.length with h | h
      · rw [List.getElem?_append_left (by simpa using h), List.getElem?_set_ne (fun e => hki e.symm)]
      · rw [List.getElem?_eq_none (by simp; omega), List.getElem?_eq_none h]

/-- one more element -/
theorem St.fam_push {α : Type} {f : α → Own} {L : List α} {x : α} {A B X Y : Own} {rest : List Own} (H : St w0 F0 w (lay (A :: B :: bigO f L :: X :: Y :: rest))) (hf : f x = .sep X Y) : St w0 F0 w (lay [A, B, bigO f (L ++ [x])]) := by
  have H1 := (H.join 3 4 (by omega) (A := X) (B := Y) rfl rfl)
  have H2 := H1.join 2 3 (by omega) (A := bigO f L) (B := .sep X Y) (by simp [upd, del, lay]) (by simp [upd])
  have H3 := H2.recast (A := .sep (bigO f L) (.sep X Y)) (A' := bigO f (L ++ [x])) 2 (by simp [upd]) (fun w F h => bigO_snoc f x L w F (by rw [hf]; exact h))
  refine H3.sub fun k C hC => ?_
  match k, hC with
  | 0, hC => simpa [upd, del, lay] using hC
  | 1, hC => simpa [upd, del, lay] using hC
  | 2, hC => simpa [upd, del, lay] using hC
  | k + 3, hC => simp [lay] at hC

end

/-- a piece of the family, to be read -/
theorem bigO_row {α : Type} {f : α → Own} {w : World} : ∀ {L : List α} {F : List Nat} {i : Nat} {x : α}, (bigO f L).holds w F → L[i]? = some x → ∃ G, (f x).holds w G := by
  intro L
  induction L with
  | nil => intro F i x h hx; simp at hx
  | cons y L ih =>
    rintro F i x ⟨G, H, rfl, hG, hH, d⟩ hx
    cases i with
    | zero => simp at hx; subst hx; exact ⟨G, hG⟩
    | succ i => exact ih hH (by simpa using hx)

theorem St.bigRow {α : Type} {f : α → Own} {L : List α} {w0 w : World} {F0 : List Nat} {E : Env} (H : St w0 F0 w E) (k : Nat) (hk : E k = some (bigO f L)) {i : Nat} {x : α} (hx : L[i]? = some x) : ∃ G, (f x).holds w G := by
  obtain ⟨F, hA, -, -, -⟩ := H.change k hk
  exact bigO_row hA hx

/-- one more element, a piece of its own -/
theorem St.bigPush {α : Type} {f : α → Own} {L : List α} {x : α} {w0 w : World} {F0 : List Nat} {A : Own} (H : St w0 F0 w (lay [A, bigO f L, f x])) : St w0 F0 w (lay [A, bigO f (L ++ [x])]) := by
  have H1 := H.join 1 2 (by omega) (A := bigO f L) (B := f x) rfl rfl
  have H2 := H1.recast (A := .sep (bigO f L) (f x)) (A' := bigO f (L ++ [x])) 1 (by simp [upd]) (fun w F h => bigO_snoc f x L w F h)
  refine H2.sub fun k C hC => ?_
  match k, hC with
  | 0, hC => simpa [upd, del, lay] using hC
  | 1, hC => simpa [upd, del, lay] using hC
  | k + 2, hC => simp [lay] at hC

end Go.Proofs.Ythdfbnababmanaa

namespace Go.Proofs.Ythdfbnababmanaa
open Go.RowKit
set_option linter.unusedVariables false
set_option maxRecDepth 100000

structure Pc where
  A : Option Addr
  n : Nat
  c : Nat
  l : List UInt8

def Pc.v (p : Pc) : Value := .slice p.A p.n p.c

def Pc.own (p : Pc) : Own := .row 5 1 (.slice p.A p.n p.c) p.n (p.l.map vb)

/-- bytes as pieces, each as long as the next number says -/
def cutB (p : List UInt8) : List UInt8 → List (List UInt8)
  | [] => [p]
  | c :: cs => if p = [] then [p] else p.take (c.toNat % 200) :: cutB (p.drop (c.toNat % 200)) cs

theorem cutB_nil (cs : List UInt8) : cutB [] cs = [[]] := by cases cs <;> rfl

theorem cutB_flat : ∀ (cs p : List UInt8), (cutB p cs).flatten = p := by
  intro cs
  induction cs with
  | nil => intro p; simp [cutB]
  | cons c cs ih =>
    intro p
    unfold cutB
    split
    · rename_i h; subst h; rfl
    · rw [List.flatten_cons, ih, List.take_append_drop]

theorem cutB_len : ∀ (cs p : List UInt8), (cutB p cs).length ≤ cs.length + 1 := by
  intro cs
  induction cs with
  | nil => intro p; simp [cutB]
  | cons c cs ih =>
    intro p
    unfold cutB
    split
    · simp
    · rw [List.length_cons, List.length_cons]
      have := ih (p.drop (c.toNat % 200))
      omega

theorem cutB_step {p cs : List UInt8} {k : Nat} {c : UInt8} (h : cs[k]? = some c) (hp : p ≠ []) : cutB p (cs.drop k) = p.take (c.toNat % 200) :: cutB (p.drop (c.toNat % 200)) (cs.drop (k + 1)) := by
  have hk : k < cs.length := (List.getElem?_eq_some_iff.1 h).1
  have e : cs.drop k = c :: cs.drop (k + 1) := by rw [List.drop_eq_getElem_cons hk, (List.getElem?_eq_some_iff.1 h).2]
  rw [e]
  show (if p = [] then [p] else _) = _
  rw [if_neg hp]

theorem cutB_end {p cs : List UInt8} {k : Nat} (h : k = cs.length ∨ p = []) : cutB p (cs.drop k) = [p] := by
  rcases h with rfl | rfl
  · rw [List.drop_length]; rfl
  · exact cutB_nil _

theorem Rd.drop_if {w : World} {b o n c x : Nat} {l : List UInt8} (h : Rd w 1 (some ⟨b, o, none⟩) n (l.map vb)) (hx : x ≤ n) (hc : n ≤ c) : Rd w 1 (if c = x then some ⟨b, o, none⟩ else some ⟨b, o + x, none⟩) (n - x) ((l.drop x).map vb) := by
  have hl : l.length = n := by have := h.1; simpa using this
  refine ⟨by simp [hl], fun hp => ?_⟩
  obtain ⟨ad, e, h1, h2⟩ := h.2 (by omega)
  injection e with e
  subst e
  refine ⟨⟨b, o + x, none⟩, if_neg (by omega), h1, fun j u hu => ?_⟩
  rw [List.map_drop, List.getElem?_drop] at hu
  have := h2 (x + j) u hu
  rw [Addr.add_mid] at this ⊢
  rw [Nat.add_assoc]
  exact this

set_option maxHeartbeats 4000000 in
theorem cutInto_s (A : Option Addr) (n c : Nat) (p : List UInt8) (B : Option Addr) (m d : Nat) (cs : List UInt8) (w : World) (hA : Rd w 1 A n (p.map vb)) (hB : Rd w 1 B m (cs.map vb)) (hn : n ≤ 100000000000) (hm : m ≤ 1000000000) (hc : n ≤ c) :
    Calls Try.prog 30 #[.slice A n c, .slice B m d] w fun e w' => ∃ V ps, e = .returned V ∧ ps.map Pc.l = cutB p cs ∧ St w [] w' (lay [.row 22 1 V ps.length (ps.map Pc.v), bigO Pc.own ps]) := by
  obtain ⟨i0, hi0, hz0, hz1', hz2'⟩ := info_parts lb_info
  have HM : Hid (cs.length = m) := by unfold Hid; have := hB.1; simpa using this
  have HBB := Lib.hid hB
  have H0 := (St.start_lay w []).nilRow 0 rfl 22 1 |>.push_mk rfl |>.nothing 1 rfl |>.push_mk rfl
  clear hB
  go_enter Try.func30, Try.ntmps30
  go_wp2
  go_loopw [0, 5, 6] (fun s V i wr => ∃ (k : Nat) (A' : Option Addr) (n' c' : Nat) (rest : List UInt8) (ps : List Pc), k ≤ m ∧ i = .int .i64 k ∧ s = .slice A' n' c' ∧ n' ≤ n ∧ n' ≤ c' ∧ Hid (ps.length = k) ∧ Hid (ps.map Pc.l ++ cutB rest (cs.drop k) = cutB p cs) ∧ Hid (Rd w 1 A' n' (rest.map vb)) ∧ St w [] wr (lay [.row 22 1 V k (ps.map Pc.v), bigO Pc.own ps])) (fun _ _ i _ => m - (intOf i).toNat)
  case atStart => exact ⟨0, A, n, c, p, [], Nat.zero_le _, rfl, rfl, Nat.le_refl _, hc, rfl, rfl, hA, H0⟩
  case round =>
    clear H0 hA hc
    obtain ⟨k, A', n', c', rest, ps, hk, rfl, rfl, hn', hc', HK, HP, HR, H⟩ := hrel
    have hl : rest.length = n' := by have := HR.out.1; simpa using this
    have HL := Lib.hid hl
    by_cases hgo : k < m ∧ 0 < n'
    · obtain ⟨hk1, hk2⟩ := hgo
      obtain ⟨b, o, rfl, -, -⟩ := HR.out.flat (by omega) (by omega)
      obtain ⟨cb, hcb⟩ : ∃ v, cs[k]? = some v := ⟨_, List.getElem?_eq_getElem (by rw [HM.out]; exact hk1)⟩
      obtain ⟨pb, ob, rfl, -, hcx⟩ := HBB.out.flat (by omega) (by omega)
      have a0 := (H.below).cell (p := ⟨pb, ob + k, none⟩) (World.block_lt_of_cell? w _ (hcx k (vb cb) (by rw [List.getElem?_map, hcb]; rfl)))
      rw [hcx k (vb cb) (by rw [List.getElem?_map, hcb]; rfl)] at a0
      have hne : rest ≠ [] := fun e => by rw [e] at hl; simp at hl; omega
      have HS := Lib.hid (cutB_step hcb hne)
      clear hcx hcb hne hl
      obtain ⟨q, hq⟩ : ∃ q, cb.toNat % 200 = q := ⟨_, rfl⟩
      rw [hq] at HS
      have HQV : Hid ((cb.toNat : Int) % 200 = (q : Int)) := by unfold Hid; omega
      have hqb : q ≤ 199 := by omega
      have hk3 : (k : Int) < m := by omega
      have hn3 : (0 : Int) < n' := by omega
      have HQ := Lib.hid hq
      clear hq
      have hcb : (cb.toNat : Int) ≤ 255 := by have := cb.toNat_lt; omega
      go_upto_region 6 with (fail)
      rw [HQV.out]
      clear HQV a0
      have HX1 : Hid (rest.take q = rest.take (min q n') ∧ rest.drop q = rest.drop (min q n')) := by
        unfold Hid
        rcases Nat.le_total q n' with h | h
        · rw [Nat.min_eq_left h]; exact ⟨rfl, rfl⟩
        · rw [Nat.min_eq_right h, List.take_of_length_le (by rw [HL.out]; exact h), List.take_of_length_le (by rw [HL.out]; exact Nat.le_refl _), List.drop_eq_nil_of_le (by rw [HL.out]; exact h), List.drop_eq_nil_of_le (by rw [HL.out]; exact Nat.le_refl _)]; exact ⟨rfl, rfl⟩
      have hx : min q n' ≤ n' := Nat.min_le_right _ _
      by_cases hqn : n' < q
      have hq1 : (q : Int) > n' := by omega
      go_upto_region 8 with (fail)
      rw [show ((n' : Nat) : Int) = ((min q n' : Nat) : Int) by rw [Nat.min_eq_right (by omega)]]
      clear hq1 hqn
      rotate_left
      have hq1 : ¬ (q : Int) > n' := by omega
      go_upto_region 8 with (fail)
      rw [show ((q : Nat) : Int) = ((min q n' : Nat) : Int) by rw [Nat.min_eq_left (by omega)]]
      clear hq1 hqn
      rotate_left
      all_goals
        rw [HX1.out.1, HX1.out.2] at HS
        clear HX1 HQ
        generalize min q n' = x at HS hx ⊢
        clear hqb
        have hxi : (x : Int) ≤ c' := by omega
        have hxn : (x : Int) ≤ n' := by omega
        have hrx := HR.out.take hx
        go_wp2_with fail
        refine (copyBytes_any (some ⟨b, o, none⟩) x c' (rest.take x) wr (H.arg0 hrx) (by omega)).mono ?_
        rintro e w2 ⟨v, rfl, ho, hb⟩
        have HLx : Hid ((rest.take x).length = x) := by unfold Hid; rw [List.length_take, HL.out]; omega
        obtain ⟨AV, cV, hV, -⟩ := row_form (H.row 0 rfl)
        subst hV
        replace H := (H.pushRow 2 rfl hb ho).push_mk rfl
        rw [HLx.out] at H
        clear ho hb hrx
        obtain ⟨A9, c9, rfl, -⟩ := row_form (H.row 2 rfl)
        replace H : St w [] w2 (lay [.row 22 1 (.slice AV k cV) k (ps.map Pc.v), bigO Pc.own ps, .row 5 1 (.slice A9 x c9) x ((rest.take x).map vb)]) := H
        go_wp2_with (at_builtin; refine hold_here' ?_)
        refine Lib.hid ?_
        refine absorb_list (H.allocAt 3 rfl w2.heap.size rfl #[.slice A9 x c9] 22 |>.push_mk rfl) ?_
        clear H
        intro w5 H
        generalize w2.heap.size = gN at H ⊢
        refine wpList_append_any _ rfl (.tmp 31) (.tmp 36) _ rfl 0 22 i0 _ 1 24 Try.underlying31 hi0 hz0 hz1' hz2' rfl (by omega) (.slice AV k cV) k (ps.map Pc.v) rfl (H.row 0 rfl) (some ⟨gN, 0, none⟩) 1 1 [.slice A9 x c9] rfl (H.rdBlk 3 rfl 1 1 rfl) (by intro u hu; simp at hu; subst hu; rfl) (by simp only [maxLen]; omega) (by omega) (by omega) ?_
        intro v6 w6 hown6 hg6 hat6
        replace H := ((H.grow 0 rfl hown6 hg6 hat6).upd_mk (by simp)).front 3
        clear hown6 hg6 hat6
        have H7 : St w [] w6 (lay [.row 22 1 v6 (k + 1) (ps.map Pc.v ++ [.slice A9 x c9]), bigO Pc.own ps, Pc.own ⟨A9, x, c9, rest.take x⟩]) := H
        replace H7 := H7.bigPush
        clear H
        have HD := Rd.drop_if HR.out hx hc'
        have HD2 := Lib.hid HD
        clear HD
        go_wp2
        go_roundw
        case rel => exact ⟨k + 1, _, n' - x, c' - x, rest.drop x, ps ++ [⟨A9, x, c9, rest.take x⟩], by omega, by go_num, rfl, by omega, by omega, by unfold Hid; rw [List.length_append, HK.out]; rfl, by unfold Hid; rw [List.map_append, List.append_assoc, ← HP.out, HS.out]; rfl, HD2.out, by rw [List.map_append]; exact H7⟩
        case measure => simp [intOf]; omega
    · have hend : k = m ∨ n' = 0 := by omega
      have HE : Hid (ps.map Pc.l ++ [rest] = cutB p cs) := by
        unfold Hid
        rw [← HP.out, cutB_end]
        rcases hend with h | h
        · exact .inl (by rw [HM.out]; exact h)
        · exact .inr (List.eq_nil_of_length_eq_zero (by rw [HL.out]; exact h))
      have hz : ((k : Int) < m ∧ (n' : Int) = 0) ∨ ¬ (k : Int) < m := by omega
      clear hend hgo
      rcases hz with ⟨hz1, hz2⟩ | hz1
      have hz4 : ¬ (n' : Int) > 0 := by omega
      clear hz2
      rotate_left
      all_goals
        obtain ⟨AV, cV, hV, -⟩ := row_form (H.row 0 rfl)
        subst hV
        go_wp2_with fail
        refine (copyBytes_any A' n' c' rest wr (H.arg0 HR.out) (by omega)).mono ?_
        rintro e w2 ⟨v, rfl, ho, hb⟩
        replace H := (H.pushRow 2 rfl hb ho).push_mk rfl
        rw [HL.out] at H
        clear ho hb
        obtain ⟨A9, c9, rfl, -⟩ := row_form (H.row 2 rfl)
        replace H : St w [] w2 (lay [.row 22 1 (.slice AV k cV) k (ps.map Pc.v), bigO Pc.own ps, .row 5 1 (.slice A9 n' c9) n' (rest.map vb)]) := H
        go_wp2_with (at_builtin; refine hold_here' ?_)
        refine Lib.hid ?_
        refine absorb_list (H.allocAt 3 rfl w2.heap.size rfl #[.slice A9 n' c9] 22 |>.push_mk rfl) ?_
        clear H
        intro w5 H
        generalize w2.heap.size = gN at H ⊢
        refine wpList_append_any _ rfl (.tmp 41) (.tmp 44) _ rfl 0 22 i0 _ 1 24 Try.underlying31 hi0 hz0 hz1' hz2' rfl (by omega) (.slice AV k cV) k (ps.map Pc.v) rfl (H.row 0 rfl) (some ⟨gN, 0, none⟩) 1 1 [.slice A9 n' c9] rfl (H.rdBlk 3 rfl 1 1 rfl) (by intro u hu; simp at hu; subst hu; rfl) (by simp only [maxLen]; omega) (by omega) (by omega) ?_
        intro v6 w6 hown6 hg6 hat6
        replace H := ((H.grow 0 rfl hown6 hg6 hat6).upd_mk (by simp)).front 3
        clear hown6 hg6 hat6
        have H7 : St w [] w6 (lay [.row 22 1 v6 (k + 1) (ps.map Pc.v ++ [.slice A9 n' c9]), bigO Pc.own ps, Pc.own ⟨A9, n', c9, rest⟩]) := H
        replace H7 := H7.bigPush
        clear H
        go_wp2
        go_ret
        refine ⟨_, ps ++ [⟨A9, n', c9, rest⟩], rfl, by rw [List.map_append]; exact HE.out, ?_⟩
        rw [List.length_append, HK.out, List.map_append]
        exact H7

end Go.Proofs.Ythdfbnababmanaa

namespace Go.Proofs.Ythdfbnababmanaa
open Go.RowKit
set_option linter.unusedVariables false
set_option maxRecDepth 100000

attribute [local irreducible] permB kBytes kPerm kFrom

/-- the first pieces, together -/
def flatTo (L : List (List UInt8)) (i : Nat) : List UInt8 := (L.take i).flatten

theorem flatTo_succ {L : List (List UInt8)} {i : Nat} {x : List UInt8} (h : L[i]? = some x) : flatTo L (i + 1) = flatTo L i ++ x := by
  unfold flatTo; rw [List.take_add_one, h]; simp

theorem flatTo_all (L : List (List UInt8)) : flatTo L L.length = L.flatten := by unfold flatTo; rw [List.take_length]

theorem flatTo_le (L : List (List UInt8)) (i : Nat) : (flatTo L i).length ≤ L.flatten.length := by
  have h : L.flatten = flatTo L i ++ (L.drop i).flatten := by unfold flatTo; rw [← List.flatten_append, List.take_append_drop]
  rw [h, List.length_append]; omega

theorem noteN_only (N : Nat) : ∃ rs, noteN (some []) 3 200 N = some rs ∧ rs.length ≤ 1 := by
  unfold noteN
  split
  · exact ⟨[], rfl, by simp⟩
  · exact ⟨_, rfl, by simp [noted]⟩

set_option maxHeartbeats 8000000 in
theorem shakeBegins_walk (S : Int) (A : Option Addr) (n c : Nat) (xs : List UInt8) (B : Option Addr) (nc d : Nat) (ys : List UInt8) (C : Option Addr) (np cp : Nat) (q : List UInt8) (D : Option Addr) (nd cd : Nat) (cs : List UInt8) (Z Z2 : Int) (w : World)
    (hS1 : -9223372036854775808 ≤ S) (hS2 : S ≤ 9223372036854775807) (hA : Rd w 1 A n (xs.map vb)) (hn : n ≤ 1048576) (hB : Rd w 1 B nc (ys.map vb)) (hnc : nc ≤ 1048576) (hC : Rd w 1 C np (q.map vb)) (hnp : np ≤ 1048576) (hcp : np ≤ cp) (hD : Rd w 1 D nd (cs.map vb)) (hnd : nd ≤ 1048576)
    (hZ1 : -9223372036854775808 ≤ Z) (hZ2 : Z ≤ 9223372036854775807) (hY1 : -9223372036854775808 ≤ Z2) (hY2 : Z2 ≤ 9223372036854775807) :
    Calls Try.prog 4 #[.int .i64 S, .slice A n c, .slice B nc d, .slice C np cp, .slice D nd cd, .int .i64 Z, .int .i64 Z2] w fun e w' => e = .returned (.bool true) ∧ Below w.heap.size w w' := by
  have hlx : xs.length = n := by simpa using hA.1
  have hly : ys.length = nc := by simpa using hB.1
  have hlq : q.length = np := by simpa using hC.1
  have HX := Lib.hid hlx
  have HY := Lib.hid hly
  have HQ := Lib.hid hlq
  clear hlx hly hlq
  have H0 := St.start_lay w []
  go_enter Try.func4, Try.ntmps4
  go_wp2_with fail
  refine (ledger_new H0 0 rfl).mono ?_
  rintro e w1 ⟨l, rfl, H1⟩
  replace H1 := H1.push_mk rfl
  go_wp2_with fail
  refine (refLedger_new H1 1 rfl).mono ?_
  rintro e w2 ⟨lr, rfl, H2⟩
  have H := H2.push_mk rfl
  clear H0 H1 H2
  replace H : St w [] w2 (lay [led l (some []), ledR lr (some [])]) := H
  go_wp2_with fail
  refine (cut_s A n c xs _ (H.arg0 hA) (by omega)).mono ?_
  rintro e wa ⟨f0, t0, rfl, ho, hb⟩
  replace H := (H.pushRow 2 rfl hb (ownsRow_base ho (by intro q hq; have := (World.ownsRow.lt ho _ (by simpa using hq)).1; exact this))).push_mk rfl
  clear ho hb
  replace H : St w [] wa (lay [led l (some []), ledR lr (some []), .row 5 1 (.slice (some ⟨f0, 0, none⟩) (n + 6) t0) (n + 6) ((xs ++ marksB 7 0 6).map vb)]) := H
  go_wp2_with fail
  refine (cut_s B nc d ys _ (H.arg0 hB) (by omega)).mono ?_
  rintro e wa ⟨f1, t1, rfl, ho, hb⟩
  replace H := (H.pushRow 3 rfl hb (ownsRow_base ho (by intro q hq; have := (World.ownsRow.lt ho _ (by simpa using hq)).1; exact this))).push_mk rfl
  clear ho hb
  replace H : St w [] wa (lay [led l (some []), ledR lr (some []), .row 5 1 (.slice (some ⟨f0, 0, none⟩) (n + 6) t0) (n + 6) ((xs ++ marksB 7 0 6).map vb), .row 5 1 (.slice (some ⟨f1, 0, none⟩) (nc + 6) t1) (nc + 6) ((ys ++ marksB 7 0 6).map vb)]) := H
  by_cases hS : (S = 128 ∨ S = 256)
  · obtain ⟨R, hR⟩ : ∃ R : Nat, (S = 128 ∧ R = 168) ∨ (S = 256 ∧ R = 136) := by rcases hS with h | h; exact ⟨168, .inl ⟨h, rfl⟩⟩; exact ⟨136, .inr ⟨h, rfl⟩⟩
    have hR1 : 8 ≤ R := by omega
    have hR2 : R ≤ 192 := by omega
    have HR := Lib.hid hR
    clear hR hS
    have hN0 := beginN_le (R := R) (x := xs) (y := ys) hR1 (by omega) (by rw [HX.out]; omega) (by rw [HY.out]; omega)
    have hbo := beginSp_ok (r := R) xs ys hR1 hR2
    obtain ⟨N0, HN0⟩ : ∃ N, Hid (beginN R xs ys = N) := ⟨_, rfl⟩
    rw [HN0.out] at hN0
    obtain ⟨x, hx⟩ : ∃ x, Hid (beginSp R xs ys = x) := ⟨_, rfl⟩
    rw [hx.out] at hbo
    have HXO := Lib.hid hbo
    clear hbo
    have hxr : x.r = R := HXO.out.2.2.1
    go_wp2_with fail
    refine (shBegin_s l (some []) 0 0 S R HR.out (some ⟨f0, 0, none⟩) (some ⟨f1, 0, none⟩) n nc t0 t1 xs ys H 0 4 rfl rfl LW.nil (by omega) (by omega) (fun w' X h => Rd.frontB (h.rd 2 rfl) HX.out (by omega)) (fun w' X h => Rd.frontB (h.rd 3 rfl) HY.out (by omega)) (by omega) (by omega)).mono ?_
    rintro e wb ⟨ga, rfl, H1⟩
    rw [HN0.out, hx.out, upd_laid (by simp)] at H1
    replace H := H1.push_mk rfl
    clear H1
    unfold lptr
    replace H : St w [] wb (lay [led l (noteN (some []) 3 200 N0), ledR lr (some []), .row 5 1 (.slice (some ⟨f0, 0, none⟩) (n + 6) t0) (n + 6) ((xs ++ marksB 7 0 6).map vb), .row 5 1 (.slice (some ⟨f1, 0, none⟩) (nc + 6) t1) (nc + 6) ((ys ++ marksB 7 0 6).map vb), .blk ga 84 x.vs]) := H
    go_wp2_with fail
    refine (rhBegin_s lr (some []) 0 0 S R HR.out A B n nc c d xs ys H 1 5 rfl rfl LW.nil (by omega) (by omega) (fun w' X h => h.arg0 hA) (fun w' X h => h.arg0 hB) (by omega) (by omega)).mono ?_
    rintro e wb ⟨gb, rfl, H1⟩
    rw [HN0.out, hx.out, upd_laid (by simp)] at H1
    replace H := H1.push_mk rfl
    clear H1
    unfold lptr
    replace H : St w [] wb (lay [led l (noteN (some []) 3 200 N0), ledR lr (noteN (some []) 3 200 N0), .row 5 1 (.slice (some ⟨f0, 0, none⟩) (n + 6) t0) (n + 6) ((xs ++ marksB 7 0 6).map vb), .row 5 1 (.slice (some ⟨f1, 0, none⟩) (nc + 6) t1) (nc + 6) ((ys ++ marksB 7 0 6).map vb), .blk ga 84 x.vs, .blk gb 87 x.vsR]) := H
    go_wp2_with fail
    refine (keptBytes_yes (some ⟨f0, 0, none⟩) A (n + 6) n t0 c (xs ++ marksB 7 0 6) xs _ (H.rd 2 rfl) (H.arg0 hA) (by omega) (by omega) rfl).mono ?_
    rintro e wc ⟨rfl, hb⟩
    replace H := H.call hb
    clear hb
    go_wp2_with fail
    refine (keptBytes_yes (some ⟨f1, 0, none⟩) B (nc + 6) nc t1 d (ys ++ marksB 7 0 6) ys _ (H.rd 3 rfl) (H.arg0 hB) (by omega) (by omega) rfl).mono ?_
    rintro e wc ⟨rfl, hb⟩
    replace H := H.call hb
    clear hb
    have hrs := noteN_only N0
    have hlw : Hid (LW (noteN (some []) 3 200 N0) 1 ((N0 : Nat) : Int)) := (LW.nil.noteN 3 200 N0).more (by omega) (by omega)
    obtain ⟨rs, hrs, hrl⟩ := hrs
    rw [hrs] at hlw
    have HRS := Lib.hid hrs
    clear hrs
    rw [HRS.out] at H
    go_wp2_with fail
    refine (ledger_runs_w 1 _ H 0 rfl hlw.out (by omega) 6 rfl).mono ?_
    rintro e wf ⟨va, rfl, H1⟩
    replace H := H1.push_mk rfl
    clear H1
    obtain ⟨Aa, ca, rfl, -, -⟩ := row_shape (H.row 6 rfl)
    go_wp2_with fail
    refine (refRuns_w 1 _ H 1 rfl hlw.out (by omega) 7 rfl).mono ?_
    rintro e wg ⟨vd, rfl, H1⟩
    replace H := H1.push_mk rfl
    clear H1
    obtain ⟨Ad, cdd, rfl, -, -⟩ := row_shape (H.row 7 rfl)
    go_wp2_with fail
    refine (sameRuns_any Aa Ad ca cdd rs rs (H.rd 6 rfl) (H.rd 7 rfl) (by omega) (by omega)).mono ?_
    rintro e wh ⟨rfl, kd, rfl⟩
    replace H := (H.drewN kd).front 6
    rw [decide_eq_true rfl]
    generalize wg.drewN kd = wh at H ⊢
    rw [← HRS.out] at H
    clear hlw HRS
    replace H : St w [] wh (lay [led l (noteN (some []) 3 200 N0), ledR lr (noteN (some []) 3 200 N0), .row 5 1 (.slice (some ⟨f0, 0, none⟩) (n + 6) t0) (n + 6) ((xs ++ marksB 7 0 6).map vb), .row 5 1 (.slice (some ⟨f1, 0, none⟩) (nc + 6) t1) (nc + 6) ((ys ++ marksB 7 0 6).map vb), .blk ga 84 x.vs, .blk gb 87 x.vsR]) := H
    go_wp2_with fail
    refine (over_st H 2 rfl (by omega)).mono ?_
    rintro e wd ⟨rfl, H1⟩
    rw [upd_laid (by simp)] at H1
    generalize marksB 9 0 (n + 6) = M0 at H1
    replace H := H1
    clear H1
    replace H : St w [] wd (lay [led l (noteN (some []) 3 200 N0), ledR lr (noteN (some []) 3 200 N0), .row 5 1 (.slice (some ⟨f0, 0, none⟩) (n + 6) t0) (n + 6) (M0.map vb), .row 5 1 (.slice (some ⟨f1, 0, none⟩) (nc + 6) t1) (nc + 6) ((ys ++ marksB 7 0 6).map vb), .blk ga 84 x.vs, .blk gb 87 x.vsR]) := H
    go_wp2_with fail
    refine (over_st H 3 rfl (by omega)).mono ?_
    rintro e wd ⟨rfl, H1⟩
    rw [upd_laid (by simp)] at H1
    generalize marksB 9 0 (nc + 6) = M1 at H1
    replace H := H1
    clear H1
    replace H : St w [] wd (lay [led l (noteN (some []) 3 200 N0), ledR lr (noteN (some []) 3 200 N0), .row 5 1 (.slice (some ⟨f0, 0, none⟩) (n + 6) t0) (n + 6) (M0.map vb), .row 5 1 (.slice (some ⟨f1, 0, none⟩) (nc + 6) t1) (nc + 6) (M1.map vb), .blk ga 84 x.vs, .blk gb 87 x.vsR]) := H
    go_wp2_with fail
    refine (cutInto_s C np cp q D nd cd cs _ (H.arg0 hC) (H.arg0 hD) (by omega) (by omega) hcp).mono ?_
    rintro e w5 ⟨V, ps, rfl, hps, HN⟩
    replace H := H.also HN
    clear HN
    have hpsl : ps.length ≤ 1048577 := by
      have h1 := congrArg List.length hps
      have h2 := cutB_len cs q
      have h3 : cs.length = nd := by simpa using hD.1
      rw [List.length_map] at h1
      omega
    have HLP : Hid ((ps.map Pc.l).flatten = q) := by unfold Hid; rw [hps, cutB_flat]
    clear hps
    obtain ⟨AV, cV, rfl, -, hAV⟩ := row_form (H.row 6 rfl)
    replace H : St w [] w5 (lay [led l (noteN (some []) 3 200 N0), ledR lr (noteN (some []) 3 200 N0), .row 5 1 (.slice (some ⟨f0, 0, none⟩) (n + 6) t0) (n + 6) (M0.map vb), .row 5 1 (.slice (some ⟨f1, 0, none⟩) (nc + 6) t1) (nc + 6) (M1.map vb), .blk ga 84 x.vs, .blk gb 87 x.vsR, .row 22 1 (.slice AV ps.length cV) ps.length (ps.map Pc.v), bigO Pc.own ps]) := H
    have h0 : Hid (N0 + (x.p + (flatTo (ps.map Pc.l) 0).length) / x.r = N0) := by
      unfold Hid
      rw [show (flatTo (ps.map Pc.l) 0).length = 0 from rfl, Nat.add_zero, Nat.div_eq_of_lt (by have := HXO.out.2.2.2; omega), Nat.add_zero]
    go_wp2
    go_loopw [26] (fun i wr => ∃ j : Nat, j ≤ ps.length ∧ i = .int .i64 j ∧ St w [] wr (lay [led l (noteN (some []) 3 200 (N0 + (x.p + (flatTo (ps.map Pc.l) j).length) / x.r)), ledR lr (noteN (some []) 3 200 (N0 + (x.p + (flatTo (ps.map Pc.l) j).length) / x.r)), .row 5 1 (.slice (some ⟨f0, 0, none⟩) (n + 6) t0) (n + 6) (M0.map vb), .row 5 1 (.slice (some ⟨f1, 0, none⟩) (nc + 6) t1) (nc + 6) (M1.map vb), .blk ga 84 (x.write (flatTo (ps.map Pc.l) j)).vs, .blk gb 87 (x.write (flatTo (ps.map Pc.l) j)).vsR, .row 22 1 (.slice AV ps.length cV) ps.length (ps.map Pc.v), bigO Pc.own ps])) (fun i _ => ps.length - (intOf i).toNat)
    case atStart => exact ⟨0, Nat.zero_le _, rfl, by rw [h0.out]; exact H⟩
    case round =>
      clear H h0
      obtain ⟨j, hj, rfl, H⟩ := hrel
      by_cases hlt : j < ps.length
      · obtain ⟨pc, hpc⟩ : ∃ v, ps[j]? = some v := ⟨_, List.getElem?_eq_getElem hlt⟩
        obtain ⟨gV, rfl, -⟩ := hAV (by omega)
        have c0 := World.ownsRow.cellAt (H.row 6 rfl) j (by omega)
        rw [List.getElem?_map, hpc] at c0
        simp only [Option.map_some, Pc.v] at c0
        have HC0 := Lib.hid c0
        have HPC := Lib.hid hpc
        have HFS := Lib.hid (flatTo_succ (L := ps.map Pc.l) (i := j) (x := pc.l) (by rw [List.getElem?_map, hpc]; rfl))
        have hle2 := flatTo_le (ps.map Pc.l) (j + 1)
        rw [HLP.out, HQ.out] at hle2
        rw [HFS.out, List.length_append] at hle2
        have hpl : pc.l.length = pc.n := by
          obtain ⟨G, hG⟩ := H.bigRow 7 rfl hpc
          have := hG.1.1
          simpa using this
        rw [hpl] at hle2
        have HFL : Hid ((flatTo (ps.map Pc.l) (j + 1)).length = (flatTo (ps.map Pc.l) j).length + pc.n) := by unfold Hid; rw [HFS.out, List.length_append, hpl]
        have hok := Sp.write_ok (flatTo (ps.map Pc.l) j) HXO.out.1 (by rw [hxr]; exact HXO.out.2.2.2)
        have hr0 := Sp.write_r (flatTo (ps.map Pc.l) j) x
        have hp0 := Sp.write_p (x := x) (flatTo (ps.map Pc.l) j) (by rw [hxr]; exact HXO.out.2.2.2)
        have HW : Hid ((x.write (flatTo (ps.map Pc.l) j)).Ok ∧ (x.write (flatTo (ps.map Pc.l) j)).s = false ∧ (x.write (flatTo (ps.map Pc.l) j)).r = x.r ∧ (x.write (flatTo (ps.map Pc.l) j)).p = (x.p + (flatTo (ps.map Pc.l) j).length) % x.r) := ⟨hok.1, by rw [hr0.2.2]; exact HXO.out.2.1, hr0.1, hp0⟩
        have HWS : Hid (x.write (flatTo (ps.map Pc.l) (j + 1)) = (x.write (flatTo (ps.map Pc.l) j)).write pc.l) := by unfold Hid; rw [HFS.out, Sp.write_append]
        have HCN : Hid (N0 + (x.p + (flatTo (ps.map Pc.l) j).length) / x.r + ((x.p + (flatTo (ps.map Pc.l) j).length) % x.r + pc.n) / x.r = N0 + (x.p + ((flatTo (ps.map Pc.l) j).length + pc.n)) / x.r) := by
          unfold Hid; rw [Nat.add_assoc N0, count_add _ _ _ (by omega), Nat.add_assoc x.p]
        have hpx := HXO.out.2.2.2
        have hcn : (x.p + (flatTo (ps.map Pc.l) j).length) / x.r ≤ x.p + (flatTo (ps.map Pc.l) j).length := Nat.div_le_self _ _
        have hj1 : (j : Int) < ps.length := by omega
        clear hpc hok hr0 hp0 hpl c0
        go_wp2_with fail
        replace H := H.drew
        refine wp_region_held_drew (S := fun w' : World => w'.cell? ⟨gV, j, none⟩ = some (.slice pc.A pc.n pc.c)) (by kernel_rfl) ?_ (fun hHeld => ?_)
        · exact HC0.out
        refine takeV 0 rfl (by intro w h; clear h; go_simp; try with_reducible rfl) (by kernel_rfl) (by kernel_rfl) (by kernel_rfl) (by exact fun _ _ _ h => h) (by rfl) (by assumption) ?_
        try simp only [Act.put, List.setIfInBounds_toArray, List.set_cons_zero, List.set_cons_succ]
        refine takeV 1 rfl (by intro w h; clear h; go_simp; try with_reducible rfl) (by kernel_rfl) (by kernel_rfl) (by kernel_rfl) (by exact fun _ _ _ h => h) (by rfl) (by assumption) ?_
        try simp only [Act.put, List.setIfInBounds_toArray, List.set_cons_zero, List.set_cons_succ]
        refine takeV 2 rfl (by intro w h; clear h; go_simp; try with_reducible rfl) (by kernel_rfl) (by kernel_rfl) (by kernel_rfl) (by exact fun _ _ _ h => h) (by rfl) (by assumption) ?_
        try simp only [Act.put, List.setIfInBounds_toArray, List.set_cons_zero, List.set_cons_succ]
        refine takeV 3 rfl (by intro w h; clear h; go_simp; try with_reducible rfl) (by kernel_rfl) (by kernel_rfl) (by kernel_rfl) (by exact fun _ _ _ h => h) (by rfl) (by assumption) ?_
        try simp only [Act.put, List.setIfInBounds_toArray, List.set_cons_zero, List.set_cons_succ]
        refine takeV 4 rfl (by intro w h; clear h; go_simp; try with_reducible rfl) (by kernel_rfl) (by kernel_rfl) (by kernel_rfl) (by exact fun _ _ _ h => h) (by rfl) (by assumption) ?_
        try simp only [Act.put, List.setIfInBounds_toArray, List.set_cons_zero, List.set_cons_succ]
        refine takeV 5 rfl (by intro w h; have hc := h; clear h; go_simp; try with_reducible rfl) (by kernel_rfl) (by kernel_rfl) (by kernel_rfl) (by exact fun _ _ _ h => h) (by rfl) (by assumption) ?_
        try simp only [Act.put, List.setIfInBounds_toArray, List.set_cons_zero, List.set_cons_succ]
        refine takeV 7 rfl (by intro w h; clear h; go_simp; try with_reducible rfl) (by kernel_rfl) (by kernel_rfl) (by kernel_rfl) (by exact fun _ _ _ h => h) (by rfl) (by assumption) ?_
        try simp only [Act.put, List.setIfInBounds_toArray, List.set_cons_zero, List.set_cons_succ]
        refine takeV 8 rfl (by intro w h; clear h; go_simp; try with_reducible rfl) (by kernel_rfl) (by kernel_rfl) (by kernel_rfl) (by exact fun _ _ _ h => h) (by rfl) (by assumption) ?_
        try simp only [Act.put, List.setIfInBounds_toArray, List.set_cons_zero, List.set_cons_succ]
        refine takeV 9 rfl (by intro w h; clear h; go_simp; try with_reducible rfl) (by kernel_rfl) (by kernel_rfl) (by kernel_rfl) (by exact fun _ _ _ h => h) (by rfl) (by assumption) ?_
        try simp only [Act.put, List.setIfInBounds_toArray, List.set_cons_zero, List.set_cons_succ]
        refine takeV 10 rfl (by intro w h; clear h; go_simp; try with_reducible rfl) (by kernel_rfl) (by kernel_rfl) (by kernel_rfl) (by exact fun _ _ _ h => h) (by rfl) (by assumption) ?_
        try simp only [Act.put, List.setIfInBounds_toArray, List.set_cons_zero, List.set_cons_succ]
        refine takeV 11 rfl (by intro w h; clear h; go_simp; try with_reducible rfl) (by kernel_rfl) (by kernel_rfl) (by kernel_rfl) (by exact fun _ _ _ h => h) (by rfl) (by assumption) ?_
        try simp only [Act.put, List.setIfInBounds_toArray, List.set_cons_zero, List.set_cons_succ]
        refine takeV 12 rfl (by intro w h; have hc := h; clear h; go_simp; try with_reducible rfl) (by kernel_rfl) (by kernel_rfl) (by kernel_rfl) (by exact fun _ _ _ h => h) (by rfl) (by assumption) ?_
        try simp only [Act.put, List.setIfInBounds_toArray, List.set_cons_zero, List.set_cons_succ]
        refine take_call 6 rfl (by kernel_rfl) (fun K hK => ?_)
        try go_simp
        refine (spWrite_s l _ 1 ((N0 + (x.p + (flatTo (ps.map Pc.l) j).length) / x.r : Nat)) ga _ pc.A pc.n pc.c pc.l H 0 4 (by omega) rfl rfl ((LW.nil.noteN 3 200 _).more (by omega) (by omega)) (by omega) (by omega) HW.out.1 HW.out.2.1 (fun w' X Y h => by obtain ⟨G, hG⟩ := h.bigRow 7 rfl HPC.out; exact Rd.of_own hG.1) (by omega)).mono ?_
        rintro e wx ⟨rfl, H6⟩
        rw [upd_laid (by simp), upd_laid (by simp), noteN_noteN, HW.out.2.2.1, HW.out.2.2.2, HCN.out, ← HWS.out, ← HFL.out] at H6
        replace H : St w [] wx (lay [led l (noteN (some []) 3 200 (N0 + (x.p + (flatTo (ps.map Pc.l) (j + 1)).length) / x.r)), ledR lr (noteN (some []) 3 200 (N0 + (x.p + (flatTo (ps.map Pc.l) j).length) / x.r)), .row 5 1 (.slice (some ⟨f0, 0, none⟩) (n + 6) t0) (n + 6) (M0.map vb), .row 5 1 (.slice (some ⟨f1, 0, none⟩) (nc + 6) t1) (nc + 6) (M1.map vb), .blk ga 84 (x.write (flatTo (ps.map Pc.l) (j + 1))).vs, .blk gb 87 (x.write (flatTo (ps.map Pc.l) j)).vsR, .row 22 1 (.slice (some ⟨gV, 0, none⟩) ps.length cV) ps.length (ps.map Pc.v), bigO Pc.own ps]) := H6
        clear H6
        have HC1 : wx.cell? ⟨gV, j, none⟩ = some (.slice pc.A pc.n pc.c) := by have c0 := World.ownsRow.cellAt (H.row 6 rfl) j (by omega); rw [List.getElem?_map, HPC.out] at c0; exact c0
        refine hK.out _ _ ?_ (fun hHeld => ?_)
        · exact HC1
        clear hK K
        try simp only [Act.put, List.setIfInBounds_toArray, List.set_cons_zero, List.set_cons_succ]
        clear HC1
        refine take_call 13 rfl (by kernel_rfl) (fun K hK => ?_)
        try go_simp
        refine (rsWrite_s lr _ 1 ((N0 + (x.p + (flatTo (ps.map Pc.l) j).length) / x.r : Nat)) gb _ pc.A pc.n pc.c pc.l H 1 5 (by omega) rfl rfl ((LW.nil.noteN 3 200 _).more (by omega) (by omega)) (by omega) (by omega) HW.out.1 HW.out.2.1 (fun w' X Y h => by obtain ⟨G, hG⟩ := h.bigRow 7 rfl HPC.out; exact Rd.of_own hG.1) (by omega)).mono ?_
        rintro e wx ⟨rfl, H6⟩
        rw [upd_laid (by simp), upd_laid (by simp), noteN_noteN, HW.out.2.2.1, HW.out.2.2.2, HCN.out, ← HWS.out, ← HFL.out] at H6
        replace H : St w [] wx (lay [led l (noteN (some []) 3 200 (N0 + (x.p + (flatTo (ps.map Pc.l) (j + 1)).length) / x.r)), ledR lr (noteN (some []) 3 200 (N0 + (x.p + (flatTo (ps.map Pc.l) (j + 1)).length) / x.r)), .row 5 1 (.slice (some ⟨f0, 0, none⟩) (n + 6) t0) (n + 6) (M0.map vb), .row 5 1 (.slice (some ⟨f1, 0, none⟩) (nc + 6) t1) (nc + 6) (M1.map vb), .blk ga 84 (x.write (flatTo (ps.map Pc.l) (j + 1))).vs, .blk gb 87 (x.write (flatTo (ps.map Pc.l) (j + 1))).vsR, .row 22 1 (.slice (some ⟨gV, 0, none⟩) ps.length cV) ps.length (ps.map Pc.v), bigO Pc.own ps]) := H6
        clear H6
        have HC1 : wx.cell? ⟨gV, j, none⟩ = some (.slice pc.A pc.n pc.c) := by have c0 := World.ownsRow.cellAt (H.row 6 rfl) j (by omega); rw [List.getElem?_map, HPC.out] at c0; exact c0
        refine hK.out _ _ ?_ (fun hHeld => ?_)
        · exact HC1
        clear hK K
        try simp only [Act.put, List.setIfInBounds_toArray, List.set_cons_zero, List.set_cons_succ]
        clear HC1
        refine takeV 14 rfl (by intro w h; clear h; go_simp; try with_reducible rfl) (by kernel_rfl) (by kernel_rfl) (by kernel_rfl) (by exact fun _ _ _ h => h) (by rfl) (by assumption) ?_
        try simp only [Act.put, List.setIfInBounds_toArray, List.set_cons_zero, List.set_cons_succ]
        refine wpAnyH_done (by kernel_rfl) ?_ _
        go_wp2
        go_roundw
        case rel => exact ⟨j + 1, by omega, by go_num, H⟩
        case measure => simp [intOf]; omega
      · obtain rfl : j = ps.length := by omega
        have HFE : Hid (flatTo (ps.map Pc.l) ps.length = q) := by unfold Hid; rw [← HLP.out, ← flatTo_all, List.length_map]
        rw [HFE.out, HQ.out] at H
        have hok := Sp.write_ok q HXO.out.1 (by rw [hxr]; exact HXO.out.2.2.2)
        have HYO := Lib.hid hok.1
        clear hok hlt hj
        generalize x.write q = y at H HYO
        have hcn : (x.p + np) / x.r ≤ x.p + np := Nat.div_le_self _ _
        have hpx := HXO.out.2.2.2
        obtain ⟨T, hT⟩ : ∃ T, N0 + (x.p + np) / x.r = T := ⟨_, rfl⟩
        rw [hT] at H
        have hTb : T ≤ 20000000 := by omega
        have HT := Lib.hid hT
        clear hT hcn hpx
        have hd1 := Sp.rdN_le HYO.out Z
        have HY1 : Hid (y.rdS Z).Ok := Sp.rdS_ok HYO.out Z
        have hd2 := Sp.rdN_le HY1.out Z2
        have hb1 := Sp.rdB_le y Z
        have hb2 := Sp.rdB_le (y.rdS Z) Z2
        have HY2 : Hid ((y.rdS Z).rdS Z2).Ok := Sp.rdS_ok HY1.out Z2
        go_wp2_with fail
        refine (spRead_any l _ 1 ((T : Nat)) ga y Z H 0 4 8 (by omega) rfl rfl rfl ((LW.nil.noteN 3 200 _).more (by omega) (by omega)) (by omega) (by omega) HYO.out).mono ?_
        rintro e wx ⟨v0, rfl, H6⟩
        rw [upd_laid (by simp), upd_laid (by simp), noteN_noteN] at H6
        replace H := H6.push_mk rfl
        clear H6
        obtain ⟨A0, c0, rfl, -, -⟩ := row_form (H.row 8 rfl)
        go_wp2_with fail
        refine (rsRead_any lr _ 1 ((T : Nat)) gb y Z H 1 5 9 (by omega) rfl rfl rfl ((LW.nil.noteN 3 200 _).more (by omega) (by omega)) (by omega) (by omega) HYO.out).mono ?_
        rintro e wx ⟨v1, rfl, H6⟩
        rw [upd_laid (by simp), upd_laid (by simp), noteN_noteN] at H6
        replace H := H6.push_mk rfl
        clear H6
        obtain ⟨A1, c1, rfl, -, -⟩ := row_form (H.row 9 rfl)
        go_wp2_with fail
        refine (spRead_any l _ 1 (((T + y.rdN Z) : Nat)) ga (y.rdS Z) Z2 H 0 4 10 (by omega) rfl rfl rfl ((LW.nil.noteN 3 200 _).more (by omega) (by omega)) (by omega) (by omega) HY1.out).mono ?_
        rintro e wx ⟨v2, rfl, H6⟩
        rw [upd_laid (by simp), upd_laid (by simp), noteN_noteN] at H6
        replace H := H6.push_mk rfl
        clear H6
        obtain ⟨A2, c2, rfl, -, -⟩ := row_form (H.row 10 rfl)
        go_wp2_with fail
        refine (rsRead_any lr _ 1 (((T + y.rdN Z) : Nat)) gb (y.rdS Z) Z2 H 1 5 11 (by omega) rfl rfl rfl ((LW.nil.noteN 3 200 _).more (by omega) (by omega)) (by omega) (by omega) HY1.out).mono ?_
        rintro e wx ⟨v3, rfl, H6⟩
        rw [upd_laid (by simp), upd_laid (by simp), noteN_noteN] at H6
        replace H := H6.push_mk rfl
        clear H6
        obtain ⟨A3, c3, rfl, -, -⟩ := row_form (H.row 11 rfl)
        go_wp2_with fail
        refine (sameBytes_yes A0 A1 _ _ c0 c1 _ _ _ (H.rd 8 rfl) (H.rd 9 rfl) (by omega) (by omega) rfl).mono ?_
        rintro e wx ⟨rfl, hb⟩
        replace H := H.call hb
        clear hb
        go_wp2_with fail
        refine (sameBytes_yes A2 A3 _ _ c2 c3 _ _ _ (H.rd 10 rfl) (H.rd 11 rfl) (by omega) (by omega) rfl).mono ?_
        rintro e wx ⟨rfl, hb⟩
        replace H := H.call hb
        clear hb
        go_wp2_with fail
        refine (spForm_s ga _ H 4 12 rfl rfl HY2.out).mono ?_
        rintro e wx ⟨v4, rfl, H6⟩
        replace H := H6.push_mk rfl
        clear H6
        obtain ⟨A4, c4, rfl, hc4, -⟩ := row_form (H.row 12 rfl)
        go_wp2_with fail
        refine (rsForm_s gb _ H 5 13 rfl rfl HY2.out).mono ?_
        rintro e wx ⟨v5, rfl, H6⟩
        replace H := H6.push_mk rfl
        clear H6
        obtain ⟨A5, c5, rfl, hc5, -⟩ := row_form (H.row 13 rfl)
        go_wp2_with fail
        refine (sameBytes_yes A4 A5 203 203 c4 c5 _ _ _ (H.rd 12 rfl) (H.rd 13 rfl) (by omega) (by omega) rfl).mono ?_
        rintro e wx ⟨rfl, hb⟩
        replace H := H.call hb
        clear hb
        have hrs := noteN_only (T + y.rdN Z + (y.rdS Z).rdN Z2)
        have hlw : Hid (LW (noteN (some []) 3 200 (T + y.rdN Z + (y.rdS Z).rdN Z2)) 1 (((T + y.rdN Z + (y.rdS Z).rdN Z2) : Nat) : Int)) := (LW.nil.noteN 3 200 (T + y.rdN Z + (y.rdS Z).rdN Z2)).more (by omega) (by omega)
        obtain ⟨rs, hrs, hrl⟩ := hrs
        rw [hrs] at hlw
        have HRS := Lib.hid hrs
        clear hrs
        rw [HRS.out] at H
        go_wp2_with fail
        refine (ledger_runs_w 1 _ H 0 rfl hlw.out (by omega) 14 rfl).mono ?_
        rintro e wf ⟨va, rfl, H1⟩
        replace H := H1.push_mk rfl
        clear H1
        obtain ⟨Aa, ca, rfl, -, -⟩ := row_shape (H.row 14 rfl)
        go_wp2_with fail
        refine (refRuns_w 1 _ H 1 rfl hlw.out (by omega) 15 rfl).mono ?_
        rintro e wg ⟨vd, rfl, H1⟩
        replace H := H1.push_mk rfl
        clear H1
        obtain ⟨Ad, cdd, rfl, -, -⟩ := row_shape (H.row 15 rfl)
        go_wp2_with fail
        refine (sameRuns_any Aa Ad ca cdd rs rs (H.rd 14 rfl) (H.rd 15 rfl) (by omega) (by omega)).mono ?_
        rintro e wh ⟨rfl, kd, rfl⟩
        replace H := (H.drewN kd).front 14
        rw [decide_eq_true rfl]
        generalize wg.drewN kd = wh at H ⊢
        rw [← HRS.out] at H
        clear hlw HRS
        go_wp2_with fail
        go_ret
        exact ⟨rfl, H.below⟩
  · have hS' : S ≠ 128 ∧ S ≠ 256 := by omega
    have HS := Lib.hid hS'
    clear hS hS'
    go_wp2_with fail
    refine (shBegin_no l S _ _ HS.out _).mono ?_
    rintro e wb ⟨rfl, rfl⟩
    go_wp2_with fail
    refine (rhBegin_no lr S _ _ HS.out _).mono ?_
    rintro e wb ⟨rfl, rfl⟩
    go_wp2_with fail
    refine (keptBytes_yes (some ⟨f0, 0, none⟩) A (n + 6) n t0 c (xs ++ marksB 7 0 6) xs _ (H.rd 2 rfl) (H.arg0 hA) (by omega) (by omega) rfl).mono ?_
    rintro e wc ⟨rfl, hb⟩
    replace H := H.call hb
    clear hb
    go_wp2_with fail
    refine (keptBytes_yes (some ⟨f1, 0, none⟩) B (nc + 6) nc t1 d (ys ++ marksB 7 0 6) ys _ (H.rd 3 rfl) (H.arg0 hB) (by omega) (by omega) rfl).mono ?_
    rintro e wc ⟨rfl, hb⟩
    replace H := H.call hb
    clear hb
    have h00 : noteN (some []) 3 200 0 = some [] := rfl
    rw [← h00] at H
    have hrs := noteN_only 0
    have hlw : Hid (LW (noteN (some []) 3 200 0) 1 ((0 : Nat) : Int)) := (LW.nil.noteN 3 200 0).more (by omega) (by omega)
    obtain ⟨rs, hrs, hrl⟩ := hrs
    rw [hrs] at hlw
    have HRS := Lib.hid hrs
    clear hrs
    rw [HRS.out] at H
    go_wp2_with fail
    refine (ledger_runs_w 1 _ H 0 rfl hlw.out (by omega) 4 rfl).mono ?_
    rintro e wf ⟨va, rfl, H1⟩
    replace H := H1.push_mk rfl
    clear H1
    obtain ⟨Aa, ca, rfl, -, -⟩ := row_shape (H.row 4 rfl)
    go_wp2_with fail
    refine (refRuns_w 1 _ H 1 rfl hlw.out (by omega) 5 rfl).mono ?_
    rintro e wg ⟨vd, rfl, H1⟩
    replace H := H1.push_mk rfl
    clear H1
    obtain ⟨Ad, cdd, rfl, -, -⟩ := row_shape (H.row 5 rfl)
    go_wp2_with fail
    refine (sameRuns_any Aa Ad ca cdd rs rs (H.rd 4 rfl) (H.rd 5 rfl) (by omega) (by omega)).mono ?_
    rintro e wh ⟨rfl, kd, rfl⟩
    replace H := (H.drewN kd).front 4
    rw [decide_eq_true rfl]
    generalize wg.drewN kd = wh at H ⊢
    rw [← HRS.out] at H
    clear hlw HRS
    go_wp2_with fail
    go_ret
    exact ⟨rfl, H.below⟩

end Go.Proofs.Ythdfbnababmanaa
