/- Texts of this claim, merged: ShAny, LawShR. -/

import Derived.Test.YthdfbnababmanaaMgD
set_option linter.unusedVariables false

namespace Go.Proofs.Ythdfbnababmanaa
open Go.RowKit
set_option linter.unusedVariables false
set_option maxRecDepth 100000

attribute [local irreducible] permB kBytes kPerm kFrom

def okN (Z : Int) : Prop := 0 ≤ Z ∧ Z ≤ 65536

instance (Z : Int) : Decidable (okN Z) := inferInstanceAs (Decidable (_ ∧ _))

def outB (R : Nat) (x y q : List UInt8) (Z : Int) : List UInt8 := if okN Z then toldB R x y q Z.toNat else []
def outN (R : Nat) (x y q : List UInt8) (Z : Int) : Nat := if okN Z then toldN R x y q Z.toNat else 0
def outE (Z : Int) : Int := if okN Z then 0 else 2

theorem outB_le (R : Nat) (x y q : List UInt8) (Z : Int) : (outB R x y q Z).length ≤ 65536 := by
  unfold outB
  split
  · rename_i h; rw [toldB_length]; have := h.2; omega
  · simp

theorem outN_le {R : Nat} {x y q : List UInt8} (Z : Int) (h1 : 8 ≤ R) (h2 : R ≤ 192) (hx : x.length ≤ 2000000) (hy : y.length ≤ 2000000) (hq : q.length ≤ 281474976710656) : outN R x y q Z ≤ 300000000000000 := by
  unfold outN
  split
  · rename_i h
    unfold toldN
    have a := beginN_le (R := R) (x := x) (y := y) h1 (by omega) hx hy
    have b := (beginSp_ok (r := R) x y h1 h2).2.2.2
    have c : ((beginSp R x y).p + q.length) / R ≤ (beginSp R x y).p + q.length := Nat.div_le_self _ _
    have d : (0 + Z.toNat - 1) / R ≤ 0 + Z.toNat - 1 := Nat.div_le_self _ _
    have := h.2
    omega
  · omega

section
variable {w0 w : World} {F0 : List Nat} {E : Env}

theorem shC128_any (l : Value) (r : Option (List RunT)) (m : Nat) (b : Int) (A B C : Option Addr) (n nc np c d cp : Nat) (xs ys q : List UInt8) (Z : Int) (H : St w0 F0 w E) (i k : Nat) (hi : E i = some (led l r)) (hk : E k = none) (hg : LW r m b) (hm : m ≤ 999999990) (hb : b ≤ 100000000000000000)
    (hA : ∀ w' X, St w0 F0 w' (upd E i X) → Rd w' 1 A n (xs.map vb)) (hB : ∀ w' X, St w0 F0 w' (upd E i X) → Rd w' 1 B nc (ys.map vb)) (hC : ∀ w' X, St w0 F0 w' (upd E i X) → Rd w' 1 C np (q.map vb)) (hn : n ≤ 2000000) (hnc : nc ≤ 2000000) (hnp : np ≤ 281474976710656) :
    Calls Try.prog 41 #[l, .slice A n c, .slice B nc d, .slice C np cp, .int .i64 Z] w fun e w' => ∃ v, e = .returned (.tuple #[v, .int .i64 (outE Z)]) ∧ St w0 F0 w' (upd (upd E i (led l (noteN r 3 200 (outN 168 xs ys q Z)))) k (.row 5 1 v (outB 168 xs ys q Z).length ((outB 168 xs ys q Z).map vb))) := by
  by_cases hz : okN Z
  · have e1 : outB 168 xs ys q Z = toldB 168 xs ys q Z.toNat := if_pos hz
    have e2 : outN 168 xs ys q Z = toldN 168 xs ys q Z.toNat := if_pos hz
    have e3 : outE Z = 0 := if_pos hz
    rw [e1, e2, e3, toldB_length]
    exact shC128_s l r m b A B C n nc np c d cp xs ys q Z.toNat Z (by have := hz.1; omega) (by have := hz.2; omega) H i k hi hk hg hm hb hA hB hC hn hnc hnp
  · have e1 : outB 168 xs ys q Z = [] := if_neg hz
    have e2 : outN 168 xs ys q Z = 0 := if_neg hz
    have e3 : outE Z = 2 := if_neg hz
    rw [e1, e2, e3, noteN_zero]
    refine (shC128_bad _ _ _ _ Z (by unfold okN at hz; omega)).mono ?_
    rintro e w1 ⟨rfl, rfl⟩
    refine ⟨_, rfl, ?_⟩
    rw [upd_id hi]
    exact H.nilRow k hk _ _

theorem shC256_any (l : Value) (r : Option (List RunT)) (m : Nat) (b : Int) (A B C : Option Addr) (n nc np c d cp : Nat) (xs ys q : List UInt8) (Z : Int) (H : St w0 F0 w E) (i k : Nat) (hi : E i = some (led l r)) (hk : E k = none) (hg : LW r m b) (hm : m ≤ 999999990) (hb : b ≤ 100000000000000000)
    (hA : ∀ w' X, St w0 F0 w' (upd E i X) → Rd w' 1 A n (xs.map vb)) (hB : ∀ w' X, St w0 F0 w' (upd E i X) → Rd w' 1 B nc (ys.map vb)) (hC : ∀ w' X, St w0 F0 w' (upd E i X) → Rd w' 1 C np (q.map vb)) (hn : n ≤ 2000000) (hnc : nc ≤ 2000000) (hnp : np ≤ 281474976710656) :
    Calls Try.prog 42 #[l, .slice A n c, .slice B nc d, .slice C np cp, .int .i64 Z] w fun e w' => ∃ v, e = .returned (.tuple #[v, .int .i64 (outE Z)]) ∧ St w0 F0 w' (upd (upd E i (led l (noteN r 3 200 (outN 136 xs ys q Z)))) k (.row 5 1 v (outB 136 xs ys q Z).length ((outB 136 xs ys q Z).map vb))) := by
  by_cases hz : okN Z
  · have e1 : outB 136 xs ys q Z = toldB 136 xs ys q Z.toNat := if_pos hz
    have e2 : outN 136 xs ys q Z = toldN 136 xs ys q Z.toNat := if_pos hz
    have e3 : outE Z = 0 := if_pos hz
    rw [e1, e2, e3, toldB_length]
    exact shC256_s l r m b A B C n nc np c d cp xs ys q Z.toNat Z (by have := hz.1; omega) (by have := hz.2; omega) H i k hi hk hg hm hb hA hB hC hn hnc hnp
  · have e1 : outB 136 xs ys q Z = [] := if_neg hz
    have e2 : outN 136 xs ys q Z = 0 := if_neg hz
    have e3 : outE Z = 2 := if_neg hz
    rw [e1, e2, e3, noteN_zero]
    refine (shC256_bad _ _ _ _ Z (by unfold okN at hz; omega)).mono ?_
    rintro e w1 ⟨rfl, rfl⟩
    refine ⟨_, rfl, ?_⟩
    rw [upd_id hi]
    exact H.nilRow k hk _ _

theorem shShake128_any (l : Value) (r : Option (List RunT)) (m : Nat) (b : Int) (C : Option Addr) (np cp : Nat) (q : List UInt8) (Z : Int) (H : St w0 F0 w E) (i k : Nat) (hi : E i = some (led l r)) (hk : E k = none) (hg : LW r m b) (hm : m ≤ 999999990) (hb : b ≤ 100000000000000000)
    (hC : ∀ w' X, St w0 F0 w' (upd E i X) → Rd w' 1 C np (q.map vb)) (hnp : np ≤ 281474976710656) :
    Calls Try.prog 45 #[l, .slice C np cp, .int .i64 Z] w fun e w' => ∃ v, e = .returned (.tuple #[v, .int .i64 (outE Z)]) ∧ St w0 F0 w' (upd (upd E i (led l (noteN r 3 200 (outN 168 [] [] q Z)))) k (.row 5 1 v (outB 168 [] [] q Z).length ((outB 168 [] [] q Z).map vb))) := by
  by_cases hz : okN Z
  · have e1 : outB 168 [] [] q Z = toldB 168 [] [] q Z.toNat := if_pos hz
    have e2 : outN 168 [] [] q Z = toldN 168 [] [] q Z.toNat := if_pos hz
    have e3 : outE Z = 0 := if_pos hz
    rw [e1, e2, e3, toldB_length]
    exact shShake128_s l r m b C np cp q Z.toNat Z (by have := hz.1; omega) (by have := hz.2; omega) H i k hi hk hg hm hb hC hnp
  · have e1 : outB 168 [] [] q Z = [] := if_neg hz
    have e2 : outN 168 [] [] q Z = 0 := if_neg hz
    have e3 : outE Z = 2 := if_neg hz
    rw [e1, e2, e3, noteN_zero]
    refine (shShake128_bad _ _ Z (by unfold okN at hz; omega)).mono ?_
    rintro e w1 ⟨rfl, rfl⟩
    refine ⟨_, rfl, ?_⟩
    rw [upd_id hi]
    exact H.nilRow k hk _ _

theorem shShake256_any (l : Value) (r : Option (List RunT)) (m : Nat) (b : Int) (C : Option Addr) (np cp : Nat) (q : List UInt8) (Z : Int) (H : St w0 F0 w E) (i k : Nat) (hi : E i = some (led l r)) (hk : E k = none) (hg : LW r m b) (hm : m ≤ 999999990) (hb : b ≤ 100000000000000000)
    (hC : ∀ w' X, St w0 F0 w' (upd E i X) → Rd w' 1 C np (q.map vb)) (hnp : np ≤ 281474976710656) :
    Calls Try.prog 46 #[l, .slice C np cp, .int .i64 Z] w fun e w' => ∃ v, e = .returned (.tuple #[v, .int .i64 (outE Z)]) ∧ St w0 F0 w' (upd (upd E i (led l (noteN r 3 200 (outN 136 [] [] q Z)))) k (.row 5 1 v (outB 136 [] [] q Z).length ((outB 136 [] [] q Z).map vb))) := by
  by_cases hz : okN Z
  · have e1 : outB 136 [] [] q Z = toldB 136 [] [] q Z.toNat := if_pos hz
    have e2 : outN 136 [] [] q Z = toldN 136 [] [] q Z.toNat := if_pos hz
    have e3 : outE Z = 0 := if_pos hz
    rw [e1, e2, e3, toldB_length]
    exact shShake256_s l r m b C np cp q Z.toNat Z (by have := hz.1; omega) (by have := hz.2; omega) H i k hi hk hg hm hb hC hnp
  · have e1 : outB 136 [] [] q Z = [] := if_neg hz
    have e2 : outN 136 [] [] q Z = 0 := if_neg hz
    have e3 : outE Z = 2 := if_neg hz
    rw [e1, e2, e3, noteN_zero]
    refine (shShake256_bad _ _ Z (by unfold okN at hz; omega)).mono ?_
    rintro e w1 ⟨rfl, rfl⟩
    refine ⟨_, rfl, ?_⟩
    rw [upd_id hi]
    exact H.nilRow k hk _ _

end

section
variable {w0 w : World} {F0 : List Nat} {E : Env}

theorem rhC128_any (l : Value) (r : Option (List RunT)) (m : Nat) (b : Int) (A B C : Option Addr) (n nc np c d cp : Nat) (xs ys q : List UInt8) (Z : Int) (H : St w0 F0 w E) (i k : Nat) (hi : E i = some (ledR l r)) (hk : E k = none) (hg : LW r m b) (hm : m ≤ 999999990) (hb : b ≤ 100000000000000000)
    (hA : ∀ w' X, St w0 F0 w' (upd E i X) → Rd w' 1 A n (xs.map vb)) (hB : ∀ w' X, St w0 F0 w' (upd E i X) → Rd w' 1 B nc (ys.map vb)) (hC : ∀ w' X, St w0 F0 w' (upd E i X) → Rd w' 1 C np (q.map vb)) (hn : n ≤ 2000000) (hnc : nc ≤ 2000000) (hnp : np ≤ 281474976710656) :
    Calls Try.prog 47 #[l, .slice A n c, .slice B nc d, .slice C np cp, .int .i64 Z] w fun e w' => ∃ v, e = .returned (.tuple #[v, .int .i64 (outE Z)]) ∧ St w0 F0 w' (upd (upd E i (ledR l (noteN r 3 200 (outN 168 xs ys q Z)))) k (.row 5 1 v (outB 168 xs ys q Z).length ((outB 168 xs ys q Z).map vb))) := by
  by_cases hz : okN Z
  · have e1 : outB 168 xs ys q Z = toldB 168 xs ys q Z.toNat := if_pos hz
    have e2 : outN 168 xs ys q Z = toldN 168 xs ys q Z.toNat := if_pos hz
    have e3 : outE Z = 0 := if_pos hz
    rw [e1, e2, e3, toldB_length]
    exact rhC128_s l r m b A B C n nc np c d cp xs ys q Z.toNat Z (by have := hz.1; omega) (by have := hz.2; omega) H i k hi hk hg hm hb hA hB hC hn hnc hnp
  · have e1 : outB 168 xs ys q Z = [] := if_neg hz
    have e2 : outN 168 xs ys q Z = 0 := if_neg hz
    have e3 : outE Z = 2 := if_neg hz
    rw [e1, e2, e3, noteN_zero]
    refine (rhC128_bad _ _ _ _ Z (by unfold okN at hz; omega)).mono ?_
    rintro e w1 ⟨rfl, rfl⟩
    refine ⟨_, rfl, ?_⟩
    rw [upd_id hi]
    exact H.nilRow k hk _ _

theorem rhC256_any (l : Value) (r : Option (List RunT)) (m : Nat) (b : Int) (A B C : Option Addr) (n nc np c d cp : Nat) (xs ys q : List UInt8) (Z : Int) (H : St w0 F0 w E) (i k : Nat) (hi : E i = some (ledR l r)) (hk : E k = none) (hg : LW r m b) (hm : m ≤ 999999990) (hb : b ≤ 100000000000000000)
    (hA : ∀ w' X, St w0 F0 w' (upd E i X) → Rd w' 1 A n (xs.map vb)) (hB : ∀ w' X, St w0 F0 w' (upd E i X) → Rd w' 1 B nc (ys.map vb)) (hC : ∀ w' X, St w0 F0 w' (upd E i X) → Rd w' 1 C np (q.map vb)) (hn : n ≤ 2000000) (hnc : nc ≤ 2000000) (hnp : np ≤ 281474976710656) :
    Calls Try.prog 48 #[l, .slice A n c, .slice B nc d, .slice C np cp, .int .i64 Z] w fun e w' => ∃ v, e = .returned (.tuple #[v, .int .i64 (outE Z)]) ∧ St w0 F0 w' (upd (upd E i (ledR l (noteN r 3 200 (outN 136 xs ys q Z)))) k (.row 5 1 v (outB 136 xs ys q Z).length ((outB 136 xs ys q Z).map vb))) := by
  by_cases hz : okN Z
  · have e1 : outB 136 xs ys q Z = toldB 136 xs ys q Z.toNat := if_pos hz
    have e2 : outN 136 xs ys q Z = toldN 136 xs ys q Z.toNat := if_pos hz
    have e3 : outE Z = 0 := if_pos hz
    rw [e1, e2, e3, toldB_length]
    exact rhC256_s l r m b A B C n nc np c d cp xs ys q Z.toNat Z (by have := hz.1; omega) (by have := hz.2; omega) H i k hi hk hg hm hb hA hB hC hn hnc hnp
  · have e1 : outB 136 xs ys q Z = [] := if_neg hz
    have e2 : outN 136 xs ys q Z = 0 := if_neg hz
    have e3 : outE Z = 2 := if_neg hz
    rw [e1, e2, e3, noteN_zero]
    refine (rhC256_bad _ _ _ _ Z (by unfold okN at hz; omega)).mono ?_
    rintro e w1 ⟨rfl, rfl⟩
    refine ⟨_, rfl, ?_⟩
    rw [upd_id hi]
    exact H.nilRow k hk _ _

theorem rhShake128_any (l : Value) (r : Option (List RunT)) (m : Nat) (b : Int) (C : Option Addr) (np cp : Nat) (q : List UInt8) (Z : Int) (H : St w0 F0 w E) (i k : Nat) (hi : E i = some (ledR l r)) (hk : E k = none) (hg : LW r m b) (hm : m ≤ 999999990) (hb : b ≤ 100000000000000000)
    (hC : ∀ w' X, St w0 F0 w' (upd E i X) → Rd w' 1 C np (q.map vb)) (hnp : np ≤ 281474976710656) :
    Calls Try.prog 49 #[l, .slice C np cp, .int .i64 Z] w fun e w' => ∃ v, e = .returned (.tuple #[v, .int .i64 (outE Z)]) ∧ St w0 F0 w' (upd (upd E i (ledR l (noteN r 3 200 (outN 168 [] [] q Z)))) k (.row 5 1 v (outB 168 [] [] q Z).length ((outB 168 [] [] q Z).map vb))) := by
  by_cases hz : okN Z
  · have e1 : outB 168 [] [] q Z = toldB 168 [] [] q Z.toNat := if_pos hz
    have e2 : outN 168 [] [] q Z = toldN 168 [] [] q Z.toNat := if_pos hz
    have e3 : outE Z = 0 := if_pos hz
    rw [e1, e2, e3, toldB_length]
    exact rhShake128_s l r m b C np cp q Z.toNat Z (by have := hz.1; omega) (by have := hz.2; omega) H i k hi hk hg hm hb hC hnp
  · have e1 : outB 168 [] [] q Z = [] := if_neg hz
    have e2 : outN 168 [] [] q Z = 0 := if_neg hz
    have e3 : outE Z = 2 := if_neg hz
    rw [e1, e2, e3, noteN_zero]
    refine (rhShake128_bad _ _ Z (by unfold okN at hz; omega)).mono ?_
    rintro e w1 ⟨rfl, rfl⟩
    refine ⟨_, rfl, ?_⟩
    rw [upd_id hi]
    exact H.nilRow k hk _ _

theorem rhShake256_any (l : Value) (r : Option (List RunT)) (m : Nat) (b : Int) (C : Option Addr) (np cp : Nat) (q : List UInt8) (Z : Int) (H : St w0 F0 w E) (i k : Nat) (hi : E i = some (ledR l r)) (hk : E k = none) (hg : LW r m b) (hm : m ≤ 999999990) (hb : b ≤ 100000000000000000)
    (hC : ∀ w' X, St w0 F0 w' (upd E i X) → Rd w' 1 C np (q.map vb)) (hnp : np ≤ 281474976710656) :
    Calls Try.prog 50 #[l, .slice C np cp, .int .i64 Z] w fun e w' => ∃ v, e = .returned (.tuple #[v, .int .i64 (outE Z)]) ∧ St w0 F0 w' (upd (upd E i (ledR l (noteN r 3 200 (outN 136 [] [] q Z)))) k (.row 5 1 v (outB 136 [] [] q Z).length ((outB 136 [] [] q Z).map vb))) := by
  by_cases hz : okN Z
  · have e1 : outB 136 [] [] q Z = toldB 136 [] [] q Z.toNat := if_pos hz
    have e2 : outN 136 [] [] q Z = toldN 136 [] [] q Z.toNat := if_pos hz
    have e3 : outE Z = 0 := if_pos hz
    rw [e1, e2, e3, toldB_length]
    exact rhShake256_s l r m b C np cp q Z.toNat Z (by have := hz.1; omega) (by have := hz.2; omega) H i k hi hk hg hm hb hC hnp
  · have e1 : outB 136 [] [] q Z = [] := if_neg hz
    have e2 : outN 136 [] [] q Z = 0 := if_neg hz
    have e3 : outE Z = 2 := if_neg hz
    rw [e1, e2, e3, noteN_zero]
    refine (rhShake256_bad _ _ Z (by unfold okN at hz; omega)).mono ?_
    rintro e w1 ⟨rfl, rfl⟩
    refine ⟨_, rfl, ?_⟩
    rw [upd_id hi]
    exact H.nilRow k hk _ _

end

end Go.Proofs.Ythdfbnababmanaa

namespace Go.Proofs.Ythdfbnababmanaa
open Go.RowKit
set_option linter.unusedVariables false
set_option maxRecDepth 100000

attribute [local irreducible] permB kBytes kPerm kFrom

theorem Rd.frontB {w : World} {A : Option Addr} {n m : Nat} {l k : List UInt8} (h : Rd w 1 A m ((l ++ k).map vb)) (hn : l.length = n) (hm : n ≤ m) : Rd w 1 A n (l.map vb) := by
  have := h.take hm
  rw [List.take_left' hn] at this
  exact this

set_option maxHeartbeats 1000000 in
theorem cut_s (A : Option Addr) (n c : Nat) (l : List UInt8) (w : World) (hR : Rd w 1 A n (l.map vb)) (hn : n ≤ 140737488351232) :
    Calls Try.prog 24 #[.slice A n c] w fun e w' => ∃ g cF, e = .returned (.tuple #[.slice (some ⟨g, 0, none⟩) (n + 6) cF, .slice (some ⟨g, 0, none⟩) n cF]) ∧ w'.ownsRow w.heap.size 5 1 (.slice (some ⟨g, 0, none⟩) (n + 6) cF) (n + 6) ((l ++ marksB 7 0 6).map vb) ∧ Below w.heap.size w w' := by
  have hl : l.length = n := by simpa using hR.1
  have HL := Lib.hid hl
  clear hl
  go_enter Try.func24, Try.ntmps24
  go_wp2_with fail
  refine (lentBytes_any A n c l w hR (by omega)).mono ?_
  rintro e w2 ⟨v0, rfl, ho, hb2⟩
  obtain ⟨gF, cF, rfl, hcF, -, -⟩ := ho.lent HL.out
  have hcF2 : (n : Int) ≤ cF := by omega
  have hcF3 : n ≤ cF := by omega
  go_wp2
  go_quiet (fail)
  go_wp2
  go_ret2
  refine ⟨gF, cF, rfl, ?_, bdrewN hb2 _⟩
  unfold OwnB at ho
  rw [List.length_append, HL.out, marksB_length] at ho
  exact ho

set_option maxHeartbeats 8000000 in
theorem shakeReads_w (A B C : Option Addr) (n nc np c d cp : Nat) (xs ys q : List UInt8) (Z : Int) (w : World) (hA : Rd w 1 A n (xs.map vb)) (hn : n ≤ 1048576) (hB : Rd w 1 B nc (ys.map vb)) (hnc : nc ≤ 1048576) (hC : Rd w 1 C np (q.map vb)) (hnp : np ≤ 1048576) (hZ1 : -9223372036854775808 ≤ Z) (hZ2 : Z ≤ 9223372036854775807) :
    Calls Try.prog 7 #[.slice A n c, .slice B nc d, .slice C np cp, .int .i64 Z] w fun e w' => e = .returned (.bool true) ∧ Below w.heap.size w w' := by
  have hlx : xs.length = n := by simpa using hA.1
  have hly : ys.length = nc := by simpa using hB.1
  have hlq : q.length = np := by simpa using hC.1
  have HX := Lib.hid hlx
  have HY := Lib.hid hly
  have HQ := Lib.hid hlq
  clear hlx hly hlq
  have H0 := St.start_lay w []
  go_enter Try.func7, Try.ntmps7
  go_wp2_with fail
  refine (ledger_new H0 0 rfl).mono ?_
  rintro e w1 ⟨l, rfl, H1⟩
  replace H1 := H1.push_mk rfl
  go_wp2_with fail
  refine (refLedger_new H1 1 rfl).mono ?_
  rintro e w2 ⟨lr, rfl, H2⟩
  have H := (H2.push_mk rfl).ledNil 2 rfl |>.push_mk rfl
  clear H0 H1 H2
  replace H : St w [] w2 (lay [led l (some []), ledR lr (some []), led (.pointer none) none]) := H
  go_wp2_with fail
  refine (cut_s A n c xs _ (H.arg0 hA) (by omega)).mono ?_
  rintro e wa ⟨f0, t0, rfl, ho, hb⟩
  replace H := (H.pushRow 3 rfl hb (ownsRow_base ho (by intro q hq; have := (World.ownsRow.lt ho _ (by simpa using hq)).1; exact this))).push_mk rfl
  clear ho hb
  replace H : St w [] wa (lay [led l (some []), ledR lr (some []), led (.pointer none) none, .row 5 1 (.slice (some ⟨f0, 0, none⟩) (n + 6) t0) (n + 6) ((xs ++ marksB 7 0 6).map vb)]) := H
  go_wp2_with fail
  refine (cut_s B nc d ys _ (H.arg0 hB) (by omega)).mono ?_
  rintro e wa ⟨f1, t1, rfl, ho, hb⟩
  replace H := (H.pushRow 4 rfl hb (ownsRow_base ho (by intro q hq; have := (World.ownsRow.lt ho _ (by simpa using hq)).1; exact this))).push_mk rfl
  clear ho hb
  replace H : St w [] wa (lay [led l (some []), ledR lr (some []), led (.pointer none) none, .row 5 1 (.slice (some ⟨f0, 0, none⟩) (n + 6) t0) (n + 6) ((xs ++ marksB 7 0 6).map vb), .row 5 1 (.slice (some ⟨f1, 0, none⟩) (nc + 6) t1) (nc + 6) ((ys ++ marksB 7 0 6).map vb)]) := H
  go_wp2_with fail
  refine (cut_s C np cp q _ (H.arg0 hC) (by omega)).mono ?_
  rintro e wa ⟨f2, t2, rfl, ho, hb⟩
  replace H := (H.pushRow 5 rfl hb (ownsRow_base ho (by intro q hq; have := (World.ownsRow.lt ho _ (by simpa using hq)).1; exact this))).push_mk rfl
  clear ho hb
  replace H : St w [] wa (lay [led l (some []), ledR lr (some []), led (.pointer none) none, .row 5 1 (.slice (some ⟨f0, 0, none⟩) (n + 6) t0) (n + 6) ((xs ++ marksB 7 0 6).map vb), .row 5 1 (.slice (some ⟨f1, 0, none⟩) (nc + 6) t1) (nc + 6) ((ys ++ marksB 7 0 6).map vb), .row 5 1 (.slice (some ⟨f2, 0, none⟩) (np + 6) t2) (np + 6) ((q ++ marksB 7 0 6).map vb)]) := H
  have hb1 := outN_le (R := 168) (x := xs) (y := ys) (q := q) Z (by omega) (by omega) (by rw [HX.out]; omega) (by rw [HY.out]; omega) (by rw [HQ.out]; omega)
  have hb2 := outN_le (R := 136) (x := xs) (y := ys) (q := q) Z (by omega) (by omega) (by rw [HX.out]; omega) (by rw [HY.out]; omega) (by rw [HQ.out]; omega)
  have hb3 := outN_le (R := 168) (x := []) (y := []) (q := q) Z (by omega) (by omega) (by simp) (by simp) (by rw [HQ.out]; omega)
  have hb4 := outN_le (R := 136) (x := []) (y := []) (q := q) Z (by omega) (by omega) (by simp) (by simp) (by rw [HQ.out]; omega)
  have hL1 := outB_le 168 xs ys q Z
  have hL2 := outB_le 136 xs ys q Z
  have hL3 := outB_le 168 [] [] q Z
  have hL4 := outB_le 136 [] [] q Z
  obtain ⟨N1, HN1⟩ : ∃ N, Hid (outN 168 xs ys q Z = N) := ⟨_, rfl⟩
  obtain ⟨L1, HL1⟩ : ∃ L, Hid (outB 168 xs ys q Z = L) := ⟨_, rfl⟩
  rw [HN1.out] at hb1
  rw [HL1.out] at hL1
  obtain ⟨N2, HN2⟩ : ∃ N, Hid (outN 136 xs ys q Z = N) := ⟨_, rfl⟩
  obtain ⟨L2, HL2⟩ : ∃ L, Hid (outB 136 xs ys q Z = L) := ⟨_, rfl⟩
  rw [HN2.out] at hb2
  rw [HL2.out] at hL2
  obtain ⟨N3, HN3⟩ : ∃ N, Hid (outN 168 [] [] q Z = N) := ⟨_, rfl⟩
  obtain ⟨L3, HL3⟩ : ∃ L, Hid (outB 168 [] [] q Z = L) := ⟨_, rfl⟩
  rw [HN3.out] at hb3
  rw [HL3.out] at hL3
  obtain ⟨N4, HN4⟩ : ∃ N, Hid (outN 136 [] [] q Z = N) := ⟨_, rfl⟩
  obtain ⟨L4, HL4⟩ : ∃ L, Hid (outB 136 [] [] q Z = L) := ⟨_, rfl⟩
  rw [HN4.out] at hb4
  rw [HL4.out] at hL4
  obtain ⟨er, Her⟩ : ∃ x, Hid (outE Z = x) := ⟨_, rfl⟩
  go_wp2_with fail
  refine (shC128_any l (some []) 0 0 (some ⟨f0, 0, none⟩) (some ⟨f1, 0, none⟩) (some ⟨f2, 0, none⟩) n nc np t0 t1 t2 xs ys q Z H 0 6 rfl rfl (LW.nil) (by omega) (by omega) (fun w' X h => Rd.frontB (h.rd 3 rfl) HX.out (by omega)) (fun w' X h => Rd.frontB (h.rd 4 rfl) HY.out (by omega)) (fun w' X h => Rd.frontB (h.rd 5 rfl) HQ.out (by omega)) (by omega) (by omega) (by omega)).mono ?_
  rintro e wb ⟨vone, rfl, H1⟩
  rw [HN1.out, HL1.out, upd_laid (by simp)] at H1
  rw [Her.out]
  replace H := H1.push_mk rfl
  clear H1
  obtain ⟨Aone, cone, rfl, -⟩ := row_form (H.row 6 rfl)
  replace H : St w [] wb (lay [led l (noteN (some []) 3 200 (N1)), ledR lr (some []), led (.pointer none) none, .row 5 1 (.slice (some ⟨f0, 0, none⟩) (n + 6) t0) (n + 6) ((xs ++ marksB 7 0 6).map vb), .row 5 1 (.slice (some ⟨f1, 0, none⟩) (nc + 6) t1) (nc + 6) ((ys ++ marksB 7 0 6).map vb), .row 5 1 (.slice (some ⟨f2, 0, none⟩) (np + 6) t2) (np + 6) ((q ++ marksB 7 0 6).map vb), .row 5 1 (.slice Aone L1.length cone) L1.length (L1.map vb)]) := H
  go_wp2_with fail
  refine (shC256_any l (noteN (some []) 3 200 (N1)) 1 (((N1 : Nat) : Int)) (some ⟨f0, 0, none⟩) (some ⟨f1, 0, none⟩) (some ⟨f2, 0, none⟩) n nc np t0 t1 t2 xs ys q Z H 0 7 rfl rfl (((LW.nil.noteN 3 200 (N1)).more (m' := 1) (b' := (((N1 : Nat) : Int))) (by omega) (by omega))) (by omega) (by omega) (fun w' X h => Rd.frontB (h.rd 3 rfl) HX.out (by omega)) (fun w' X h => Rd.frontB (h.rd 4 rfl) HY.out (by omega)) (fun w' X h => Rd.frontB (h.rd 5 rfl) HQ.out (by omega)) (by omega) (by omega) (by omega)).mono ?_
  rintro e wb ⟨vtwo, rfl, H1⟩
  rw [HN2.out, HL2.out, upd_laid (by simp), noteN_noteN] at H1
  rw [Her.out]
  replace H := H1.push_mk rfl
  clear H1
  obtain ⟨Atwo, ctwo, rfl, -⟩ := row_form (H.row 7 rfl)
  replace H : St w [] wb (lay [led l (noteN (some []) 3 200 (N1 + N2)), ledR lr (some []), led (.pointer none) none, .row 5 1 (.slice (some ⟨f0, 0, none⟩) (n + 6) t0) (n + 6) ((xs ++ marksB 7 0 6).map vb), .row 5 1 (.slice (some ⟨f1, 0, none⟩) (nc + 6) t1) (nc + 6) ((ys ++ marksB 7 0 6).map vb), .row 5 1 (.slice (some ⟨f2, 0, none⟩) (np + 6) t2) (np + 6) ((q ++ marksB 7 0 6).map vb), .row 5 1 (.slice Aone L1.length cone) L1.length (L1.map vb), .row 5 1 (.slice Atwo L2.length ctwo) L2.length (L2.map vb)]) := H
  go_wp2_with fail
  refine (shShake128_any l (noteN (some []) 3 200 (N1 + N2)) 1 (((N1 + N2 : Nat) : Int)) (some ⟨f2, 0, none⟩) np t2 q Z H 0 8 rfl rfl (((LW.nil.noteN 3 200 (N1 + N2)).more (m' := 1) (b' := (((N1 + N2 : Nat) : Int))) (by omega) (by omega))) (by omega) (by omega) (fun w' X h => Rd.frontB (h.rd 5 rfl) HQ.out (by omega)) (by omega)).mono ?_
  rintro e wb ⟨vthree, rfl, H1⟩
  rw [HN3.out, HL3.out, upd_laid (by simp), noteN_noteN] at H1
  rw [Her.out]
  replace H := H1.push_mk rfl
  clear H1
  obtain ⟨Athree, cthree, rfl, -⟩ := row_form (H.row 8 rfl)
  replace H : St w [] wb (lay [led l (noteN (some []) 3 200 (N1 + N2 + N3)), ledR lr (some []), led (.pointer none) none, .row 5 1 (.slice (some ⟨f0, 0, none⟩) (n + 6) t0) (n + 6) ((xs ++ marksB 7 0 6).map vb), .row 5 1 (.slice (some ⟨f1, 0, none⟩) (nc + 6) t1) (nc + 6) ((ys ++ marksB 7 0 6).map vb), .row 5 1 (.slice (some ⟨f2, 0, none⟩) (np + 6) t2) (np + 6) ((q ++ marksB 7 0 6).map vb), .row 5 1 (.slice Aone L1.length cone) L1.length (L1.map vb), .row 5 1 (.slice Atwo L2.length ctwo) L2.length (L2.map vb), .row 5 1 (.slice Athree L3.length cthree) L3.length (L3.map vb)]) := H
  go_wp2_with fail
  refine (shShake256_any l (noteN (some []) 3 200 (N1 + N2 + N3)) 1 (((N1 + N2 + N3 : Nat) : Int)) (some ⟨f2, 0, none⟩) np t2 q Z H 0 9 rfl rfl (((LW.nil.noteN 3 200 (N1 + N2 + N3)).more (m' := 1) (b' := (((N1 + N2 + N3 : Nat) : Int))) (by omega) (by omega))) (by omega) (by omega) (fun w' X h => Rd.frontB (h.rd 5 rfl) HQ.out (by omega)) (by omega)).mono ?_
  rintro e wb ⟨vfour, rfl, H1⟩
  rw [HN4.out, HL4.out, upd_laid (by simp), noteN_noteN] at H1
  rw [Her.out]
  replace H := H1.push_mk rfl
  clear H1
  obtain ⟨Afour, cfour, rfl, -⟩ := row_form (H.row 9 rfl)
  replace H : St w [] wb (lay [led l (noteN (some []) 3 200 (N1 + N2 + N3 + N4)), ledR lr (some []), led (.pointer none) none, .row 5 1 (.slice (some ⟨f0, 0, none⟩) (n + 6) t0) (n + 6) ((xs ++ marksB 7 0 6).map vb), .row 5 1 (.slice (some ⟨f1, 0, none⟩) (nc + 6) t1) (nc + 6) ((ys ++ marksB 7 0 6).map vb), .row 5 1 (.slice (some ⟨f2, 0, none⟩) (np + 6) t2) (np + 6) ((q ++ marksB 7 0 6).map vb), .row 5 1 (.slice Aone L1.length cone) L1.length (L1.map vb), .row 5 1 (.slice Atwo L2.length ctwo) L2.length (L2.map vb), .row 5 1 (.slice Athree L3.length cthree) L3.length (L3.map vb), .row 5 1 (.slice Afour L4.length cfour) L4.length (L4.map vb)]) := H
  go_wp2_with fail
  refine (shC128_any (.pointer none) none 0 0 (some ⟨f0, 0, none⟩) (some ⟨f1, 0, none⟩) (some ⟨f2, 0, none⟩) n nc np t0 t1 t2 xs ys q Z H 2 10 rfl rfl (LW.none 0 0) (by omega) (by omega) (fun w' X h => Rd.frontB (h.rd 3 rfl) HX.out (by omega)) (fun w' X h => Rd.frontB (h.rd 4 rfl) HY.out (by omega)) (fun w' X h => Rd.frontB (h.rd 5 rfl) HQ.out (by omega)) (by omega) (by omega) (by omega)).mono ?_
  rintro e wb ⟨vfive, rfl, H1⟩
  rw [HN1.out, HL1.out, upd_laid (by simp)] at H1
  rw [Her.out]
  replace H := H1.push_mk rfl
  clear H1
  obtain ⟨Afive, cfive, rfl, -⟩ := row_form (H.row 10 rfl)
  replace H : St w [] wb (lay [led l (noteN (some []) 3 200 (N1 + N2 + N3 + N4)), ledR lr (some []), led (.pointer none) none, .row 5 1 (.slice (some ⟨f0, 0, none⟩) (n + 6) t0) (n + 6) ((xs ++ marksB 7 0 6).map vb), .row 5 1 (.slice (some ⟨f1, 0, none⟩) (nc + 6) t1) (nc + 6) ((ys ++ marksB 7 0 6).map vb), .row 5 1 (.slice (some ⟨f2, 0, none⟩) (np + 6) t2) (np + 6) ((q ++ marksB 7 0 6).map vb), .row 5 1 (.slice Aone L1.length cone) L1.length (L1.map vb), .row 5 1 (.slice Atwo L2.length ctwo) L2.length (L2.map vb), .row 5 1 (.slice Athree L3.length cthree) L3.length (L3.map vb), .row 5 1 (.slice Afour L4.length cfour) L4.length (L4.map vb), .row 5 1 (.slice Afive L1.length cfive) L1.length (L1.map vb)]) := by have e : noteN none 3 200 N1 = none := (by unfold noteN; split <;> rfl); rw [e] at H; exact H
  go_wp2_with fail
  refine (rhC128_any lr (some []) 0 0 A B C n nc np c d cp xs ys q Z H 1 11 rfl rfl (LW.nil) (by omega) (by omega) (fun w' X h => h.arg0 hA) (fun w' X h => h.arg0 hB) (fun w' X h => h.arg0 hC) (by omega) (by omega) (by omega)).mono ?_
  rintro e wb ⟨vw1, rfl, H1⟩
  rw [HN1.out, HL1.out, upd_laid (by simp)] at H1
  rw [Her.out]
  replace H := H1.push_mk rfl
  clear H1
  obtain ⟨Aw1, cw1, rfl, -⟩ := row_form (H.row 11 rfl)
  replace H : St w [] wb (lay [led l (noteN (some []) 3 200 (N1 + N2 + N3 + N4)), ledR lr (noteN (some []) 3 200 (N1)), led (.pointer none) none, .row 5 1 (.slice (some ⟨f0, 0, none⟩) (n + 6) t0) (n + 6) ((xs ++ marksB 7 0 6).map vb), .row 5 1 (.slice (some ⟨f1, 0, none⟩) (nc + 6) t1) (nc + 6) ((ys ++ marksB 7 0 6).map vb), .row 5 1 (.slice (some ⟨f2, 0, none⟩) (np + 6) t2) (np + 6) ((q ++ marksB 7 0 6).map vb), .row 5 1 (.slice Aone L1.length cone) L1.length (L1.map vb), .row 5 1 (.slice Atwo L2.length ctwo) L2.length (L2.map vb), .row 5 1 (.slice Athree L3.length cthree) L3.length (L3.map vb), .row 5 1 (.slice Afour L4.length cfour) L4.length (L4.map vb), .row 5 1 (.slice Afive L1.length cfive) L1.length (L1.map vb), .row 5 1 (.slice Aw1 L1.length cw1) L1.length (L1.map vb)]) := H
  go_wp2_with fail
  refine (rhC256_any lr (noteN (some []) 3 200 (N1)) 1 (((N1 : Nat) : Int)) A B C n nc np c d cp xs ys q Z H 1 12 rfl rfl (((LW.nil.noteN 3 200 (N1)).more (m' := 1) (b' := (((N1 : Nat) : Int))) (by omega) (by omega))) (by omega) (by omega) (fun w' X h => h.arg0 hA) (fun w' X h => h.arg0 hB) (fun w' X h => h.arg0 hC) (by omega) (by omega) (by omega)).mono ?_
  rintro e wb ⟨vw2, rfl, H1⟩
  rw [HN2.out, HL2.out, upd_laid (by simp), noteN_noteN] at H1
  rw [Her.out]
  replace H := H1.push_mk rfl
  clear H1
  obtain ⟨Aw2, cw2, rfl, -⟩ := row_form (H.row 12 rfl)
  replace H : St w [] wb (lay [led l (noteN (some []) 3 200 (N1 + N2 + N3 + N4)), ledR lr (noteN (some []) 3 200 (N1 + N2)), led (.pointer none) none, .row 5 1 (.slice (some ⟨f0, 0, none⟩) (n + 6) t0) (n + 6) ((xs ++ marksB 7 0 6).map vb), .row 5 1 (.slice (some ⟨f1, 0, none⟩) (nc + 6) t1) (nc + 6) ((ys ++ marksB 7 0 6).map vb), .row 5 1 (.slice (some ⟨f2, 0, none⟩) (np + 6) t2) (np + 6) ((q ++ marksB 7 0 6).map vb), .row 5 1 (.slice Aone L1.length cone) L1.length (L1.map vb), .row 5 1 (.slice Atwo L2.length ctwo) L2.length (L2.map vb), .row 5 1 (.slice Athree L3.length cthree) L3.length (L3.map vb), .row 5 1 (.slice Afour L4.length cfour) L4.length (L4.map vb), .row 5 1 (.slice Afive L1.length cfive) L1.length (L1.map vb), .row 5 1 (.slice Aw1 L1.length cw1) L1.length (L1.map vb), .row 5 1 (.slice Aw2 L2.length cw2) L2.length (L2.map vb)]) := H
  go_wp2_with fail
  refine (rhShake128_any lr (noteN (some []) 3 200 (N1 + N2)) 1 (((N1 + N2 : Nat) : Int)) C np cp q Z H 1 13 rfl rfl (((LW.nil.noteN 3 200 (N1 + N2)).more (m' := 1) (b' := (((N1 + N2 : Nat) : Int))) (by omega) (by omega))) (by omega) (by omega) (fun w' X h => h.arg0 hC) (by omega)).mono ?_
  rintro e wb ⟨vw3, rfl, H1⟩
  rw [HN3.out, HL3.out, upd_laid (by simp), noteN_noteN] at H1
  rw [Her.out]
  replace H := H1.push_mk rfl
  clear H1
  obtain ⟨Aw3, cw3, rfl, -⟩ := row_form (H.row 13 rfl)
  replace H : St w [] wb (lay [led l (noteN (some []) 3 200 (N1 + N2 + N3 + N4)), ledR lr (noteN (some []) 3 200 (N1 + N2 + N3)), led (.pointer none) none, .row 5 1 (.slice (some ⟨f0, 0, none⟩) (n + 6) t0) (n + 6) ((xs ++ marksB 7 0 6).map vb), .row 5 1 (.slice (some ⟨f1, 0, none⟩) (nc + 6) t1) (nc + 6) ((ys ++ marksB 7 0 6).map vb), .row 5 1 (.slice (some ⟨f2, 0, none⟩) (np + 6) t2) (np + 6) ((q ++ marksB 7 0 6).map vb), .row 5 1 (.slice Aone L1.length cone) L1.length (L1.map vb), .row 5 1 (.slice Atwo L2.length ctwo) L2.length (L2.map vb), .row 5 1 (.slice Athree L3.length cthree) L3.length (L3.map vb), .row 5 1 (.slice Afour L4.length cfour) L4.length (L4.map vb), .row 5 1 (.slice Afive L1.length cfive) L1.length (L1.map vb), .row 5 1 (.slice Aw1 L1.length cw1) L1.length (L1.map vb), .row 5 1 (.slice Aw2 L2.length cw2) L2.length (L2.map vb), .row 5 1 (.slice Aw3 L3.length cw3) L3.length (L3.map vb)]) := H
  go_wp2_with fail
  refine (rhShake256_any lr (noteN (some []) 3 200 (N1 + N2 + N3)) 1 (((N1 + N2 + N3 : Nat) : Int)) C np cp q Z H 1 14 rfl rfl (((LW.nil.noteN 3 200 (N1 + N2 + N3)).more (m' := 1) (b' := (((N1 + N2 + N3 : Nat) : Int))) (by omega) (by omega))) (by omega) (by omega) (fun w' X h => h.arg0 hC) (by omega)).mono ?_
  rintro e wb ⟨vw4, rfl, H1⟩
  rw [HN4.out, HL4.out, upd_laid (by simp), noteN_noteN] at H1
  rw [Her.out]
  replace H := H1.push_mk rfl
  clear H1
  obtain ⟨Aw4, cw4, rfl, -⟩ := row_form (H.row 14 rfl)
  replace H : St w [] wb (lay [led l (noteN (some []) 3 200 (N1 + N2 + N3 + N4)), ledR lr (noteN (some []) 3 200 (N1 + N2 + N3 + N4)), led (.pointer none) none, .row 5 1 (.slice (some ⟨f0, 0, none⟩) (n + 6) t0) (n + 6) ((xs ++ marksB 7 0 6).map vb), .row 5 1 (.slice (some ⟨f1, 0, none⟩) (nc + 6) t1) (nc + 6) ((ys ++ marksB 7 0 6).map vb), .row 5 1 (.slice (some ⟨f2, 0, none⟩) (np + 6) t2) (np + 6) ((q ++ marksB 7 0 6).map vb), .row 5 1 (.slice Aone L1.length cone) L1.length (L1.map vb), .row 5 1 (.slice Atwo L2.length ctwo) L2.length (L2.map vb), .row 5 1 (.slice Athree L3.length cthree) L3.length (L3.map vb), .row 5 1 (.slice Afour L4.length cfour) L4.length (L4.map vb), .row 5 1 (.slice Afive L1.length cfive) L1.length (L1.map vb), .row 5 1 (.slice Aw1 L1.length cw1) L1.length (L1.map vb), .row 5 1 (.slice Aw2 L2.length cw2) L2.length (L2.map vb), .row 5 1 (.slice Aw3 L3.length cw3) L3.length (L3.map vb), .row 5 1 (.slice Aw4 L4.length cw4) L4.length (L4.map vb)]) := H
  go_wp2_with fail
  refine (keptBytes_yes (some ⟨f0, 0, none⟩) A (n + 6) n t0 c (xs ++ marksB 7 0 6) xs _ (H.rd 3 rfl) (H.arg0 hA) (by omega) (by omega) rfl).mono ?_
  rintro e wc ⟨rfl, hb⟩
  replace H := H.call hb
  clear hb
  go_wp2_with fail
  refine (keptBytes_yes (some ⟨f1, 0, none⟩) B (nc + 6) nc t1 d (ys ++ marksB 7 0 6) ys _ (H.rd 4 rfl) (H.arg0 hB) (by omega) (by omega) rfl).mono ?_
  rintro e wc ⟨rfl, hb⟩
  replace H := H.call hb
  clear hb
  go_wp2_with fail
  refine (keptBytes_yes (some ⟨f2, 0, none⟩) C (np + 6) np t2 cp (q ++ marksB 7 0 6) q _ (H.rd 5 rfl) (H.arg0 hC) (by omega) (by omega) rfl).mono ?_
  rintro e wc ⟨rfl, hb⟩
  replace H := H.call hb
  clear hb
  go_wp2_with fail
  refine (over_st H 3 rfl (by omega)).mono ?_
  rintro e wd ⟨rfl, H1⟩
  rw [upd_laid (by simp)] at H1
  have HM0 : Hid ((marksB 9 0 (n + 6)).length = n + 6) := marksB_length _ _ _
  generalize marksB 9 0 (n + 6) = M0 at H1 HM0
  replace H := H1
  clear H1
  replace H : St w [] wd (lay [led l (noteN (some []) 3 200 (N1 + N2 + N3 + N4)), ledR lr (noteN (some []) 3 200 (N1 + N2 + N3 + N4)), led (.pointer none) none, .row 5 1 (.slice (some ⟨f0, 0, none⟩) (n + 6) t0) (n + 6) (M0.map vb), .row 5 1 (.slice (some ⟨f1, 0, none⟩) (nc + 6) t1) (nc + 6) ((ys ++ marksB 7 0 6).map vb), .row 5 1 (.slice (some ⟨f2, 0, none⟩) (np + 6) t2) (np + 6) ((q ++ marksB 7 0 6).map vb), .row 5 1 (.slice Aone L1.length cone) L1.length (L1.map vb), .row 5 1 (.slice Atwo L2.length ctwo) L2.length (L2.map vb), .row 5 1 (.slice Athree L3.length cthree) L3.length (L3.map vb), .row 5 1 (.slice Afour L4.length cfour) L4.length (L4.map vb), .row 5 1 (.slice Afive L1.length cfive) L1.length (L1.map vb), .row 5 1 (.slice Aw1 L1.length cw1) L1.length (L1.map vb), .row 5 1 (.slice Aw2 L2.length cw2) L2.length (L2.map vb), .row 5 1 (.slice Aw3 L3.length cw3) L3.length (L3.map vb), .row 5 1 (.slice Aw4 L4.length cw4) L4.length (L4.map vb)]) := H
  go_wp2_with fail
  refine (over_st H 4 rfl (by omega)).mono ?_
  rintro e wd ⟨rfl, H1⟩
  rw [upd_laid (by simp)] at H1
  have HM1 : Hid ((marksB 9 0 (nc + 6)).length = nc + 6) := marksB_length _ _ _
  generalize marksB 9 0 (nc + 6) = M1 at H1 HM1
  replace H := H1
  clear H1
  replace H : St w [] wd (lay [led l (noteN (some []) 3 200 (N1 + N2 + N3 + N4)), ledR lr (noteN (some []) 3 200 (N1 + N2 + N3 + N4)), led (.pointer none) none, .row 5 1 (.slice (some ⟨f0, 0, none⟩) (n + 6) t0) (n + 6) (M0.map vb), .row 5 1 (.slice (some ⟨f1, 0, none⟩) (nc + 6) t1) (nc + 6) (M1.map vb), .row 5 1 (.slice (some ⟨f2, 0, none⟩) (np + 6) t2) (np + 6) ((q ++ marksB 7 0 6).map vb), .row 5 1 (.slice Aone L1.length cone) L1.length (L1.map vb), .row 5 1 (.slice Atwo L2.length ctwo) L2.length (L2.map vb), .row 5 1 (.slice Athree L3.length cthree) L3.length (L3.map vb), .row 5 1 (.slice Afour L4.length cfour) L4.length (L4.map vb), .row 5 1 (.slice Afive L1.length cfive) L1.length (L1.map vb), .row 5 1 (.slice Aw1 L1.length cw1) L1.length (L1.map vb), .row 5 1 (.slice Aw2 L2.length cw2) L2.length (L2.map vb), .row 5 1 (.slice Aw3 L3.length cw3) L3.length (L3.map vb), .row 5 1 (.slice Aw4 L4.length cw4) L4.length (L4.map vb)]) := H
  go_wp2_with fail
  refine (over_st H 5 rfl (by omega)).mono ?_
  rintro e wd ⟨rfl, H1⟩
  rw [upd_laid (by simp)] at H1
  have HM2 : Hid ((marksB 9 0 (np + 6)).length = np + 6) := marksB_length _ _ _
  generalize marksB 9 0 (np + 6) = M2 at H1 HM2
  replace H := H1
  clear H1
  replace H : St w [] wd (lay [led l (noteN (some []) 3 200 (N1 + N2 + N3 + N4)), ledR lr (noteN (some []) 3 200 (N1 + N2 + N3 + N4)), led (.pointer none) none, .row 5 1 (.slice (some ⟨f0, 0, none⟩) (n + 6) t0) (n + 6) (M0.map vb), .row 5 1 (.slice (some ⟨f1, 0, none⟩) (nc + 6) t1) (nc + 6) (M1.map vb), .row 5 1 (.slice (some ⟨f2, 0, none⟩) (np + 6) t2) (np + 6) (M2.map vb), .row 5 1 (.slice Aone L1.length cone) L1.length (L1.map vb), .row 5 1 (.slice Atwo L2.length ctwo) L2.length (L2.map vb), .row 5 1 (.slice Athree L3.length cthree) L3.length (L3.map vb), .row 5 1 (.slice Afour L4.length cfour) L4.length (L4.map vb), .row 5 1 (.slice Afive L1.length cfive) L1.length (L1.map vb), .row 5 1 (.slice Aw1 L1.length cw1) L1.length (L1.map vb), .row 5 1 (.slice Aw2 L2.length cw2) L2.length (L2.map vb), .row 5 1 (.slice Aw3 L3.length cw3) L3.length (L3.map vb), .row 5 1 (.slice Aw4 L4.length cw4) L4.length (L4.map vb)]) := H
  go_wp2_with fail
  refine (sameBytes_yes Aone Aw1 L1.length L1.length cone cw1 L1 L1 _ (H.rd 6 rfl) (H.rd 11 rfl) (by omega) (by omega) rfl).mono ?_
  rintro e we ⟨rfl, hb⟩
  replace H := H.call hb
  clear hb
  go_wp2_with fail
  refine (sameBytes_yes Atwo Aw2 L2.length L2.length ctwo cw2 L2 L2 _ (H.rd 7 rfl) (H.rd 12 rfl) (by omega) (by omega) rfl).mono ?_
  rintro e we ⟨rfl, hb⟩
  replace H := H.call hb
  clear hb
  go_wp2_with fail
  refine (sameBytes_yes Athree Aw3 L3.length L3.length cthree cw3 L3 L3 _ (H.rd 8 rfl) (H.rd 13 rfl) (by omega) (by omega) rfl).mono ?_
  rintro e we ⟨rfl, hb⟩
  replace H := H.call hb
  clear hb
  go_wp2_with fail
  refine (sameBytes_yes Afour Aw4 L4.length L4.length cfour cw4 L4 L4 _ (H.rd 9 rfl) (H.rd 14 rfl) (by omega) (by omega) rfl).mono ?_
  rintro e we ⟨rfl, hb⟩
  replace H := H.call hb
  clear hb
  go_wp2_with fail
  refine (sameBytes_yes Afive Aw1 L1.length L1.length cfive cw1 L1 L1 _ (H.rd 10 rfl) (H.rd 11 rfl) (by omega) (by omega) rfl).mono ?_
  rintro e we ⟨rfl, hb⟩
  replace H := H.call hb
  clear hb
  have hrl : Hid (∃ rs, noteN (some []) 3 200 (N1 + N2 + N3 + N4) = some rs ∧ rs.length ≤ 1) := by
    unfold Hid noteN
    split
    · exact ⟨[], rfl, by simp⟩
    · exact ⟨_, rfl, by simp [noted]⟩
  obtain ⟨rs, hrs, hrl1⟩ := hrl.out
  have hlw : LW (some rs) 1 ((((N1 + N2 + N3 + N4) : Nat) : Int)) := by rw [← hrs]; exact (LW.nil.noteN 3 200 (N1 + N2 + N3 + N4)).more (by omega) (by omega)
  rw [hrs] at H
  have HLW := Lib.hid hlw
  clear hrs hrl hlw
  go_wp2_with fail
  refine (ledger_runs_w 1 _ H 0 rfl HLW.out (by omega) 15 rfl).mono ?_
  rintro e wf ⟨va, rfl, H1⟩
  replace H := H1.push_mk rfl
  clear H1
  obtain ⟨Aa, ca, rfl, -, -⟩ := row_shape (H.row 15 rfl)
  go_wp2_with fail
  refine (refRuns_w 1 _ H 1 rfl HLW.out (by omega) 16 rfl).mono ?_
  rintro e wg ⟨vd, rfl, H1⟩
  replace H := H1.push_mk rfl
  clear H1
  obtain ⟨Ad, cd, rfl, -, -⟩ := row_shape (H.row 16 rfl)
  go_wp2_with fail
  refine (sameRuns_any Aa Ad ca cd rs rs (H.rd 15 rfl) (H.rd 16 rfl) (by omega) (by omega)).mono ?_
  rintro e wh ⟨rfl, kd, rfl⟩
  replace H := (H.drewN kd).front 15
  rw [decide_eq_true rfl]
  generalize wg.drewN kd = wh at H ⊢
  replace H : St w [] wh (lay [led l (some rs), ledR lr (some rs), led (.pointer none) none, .row 5 1 (.slice (some ⟨f0, 0, none⟩) (n + 6) t0) (n + 6) (M0.map vb), .row 5 1 (.slice (some ⟨f1, 0, none⟩) (nc + 6) t1) (nc + 6) (M1.map vb), .row 5 1 (.slice (some ⟨f2, 0, none⟩) (np + 6) t2) (np + 6) (M2.map vb), .row 5 1 (.slice Aone L1.length cone) L1.length (L1.map vb), .row 5 1 (.slice Atwo L2.length ctwo) L2.length (L2.map vb), .row 5 1 (.slice Athree L3.length cthree) L3.length (L3.map vb), .row 5 1 (.slice Afour L4.length cfour) L4.length (L4.map vb), .row 5 1 (.slice Afive L1.length cfive) L1.length (L1.map vb), .row 5 1 (.slice Aw1 L1.length cw1) L1.length (L1.map vb), .row 5 1 (.slice Aw2 L2.length cw2) L2.length (L2.map vb), .row 5 1 (.slice Aw3 L3.length cw3) L3.length (L3.map vb), .row 5 1 (.slice Aw4 L4.length cw4) L4.length (L4.map vb)]) := H
  replace H := H.shape_row 3 rfl HM0.out.symm rfl
  replace H := H.shape_row 4 rfl HM1.out.symm rfl
  replace H := H.shape_row 5 rfl HM2.out.symm rfl
  replace H : St w [] wh (lay [led l (some rs), ledR lr (some rs), led (.pointer none) none, .row 5 1 (.slice (some ⟨f0, 0, none⟩) (n + 6) t0) M0.length (M0.map vb), .row 5 1 (.slice (some ⟨f1, 0, none⟩) (nc + 6) t1) M1.length (M1.map vb), .row 5 1 (.slice (some ⟨f2, 0, none⟩) (np + 6) t2) M2.length (M2.map vb), .row 5 1 (.slice Aone L1.length cone) L1.length (L1.map vb), .row 5 1 (.slice Atwo L2.length ctwo) L2.length (L2.map vb), .row 5 1 (.slice Athree L3.length cthree) L3.length (L3.map vb), .row 5 1 (.slice Afour L4.length cfour) L4.length (L4.map vb), .row 5 1 (.slice Afive L1.length cfive) L1.length (L1.map vb), .row 5 1 (.slice Aw1 L1.length cw1) L1.length (L1.map vb), .row 5 1 (.slice Aw2 L2.length cw2) L2.length (L2.map vb), .row 5 1 (.slice Aw3 L3.length cw3) L3.length (L3.map vb), .row 5 1 (.slice Aw4 L4.length cw4) L4.length (L4.map vb)]) := H
  go_wp2_with fail
  refine (apart_st H [(.slice (some ⟨f0, 0, none⟩) (n + 6) t0, M0), (.slice (some ⟨f1, 0, none⟩) (nc + 6) t1, M1), (.slice (some ⟨f2, 0, none⟩) (np + 6) t2, M2), (.slice Aone L1.length cone, L1), (.slice Atwo L2.length ctwo, L2), (.slice Athree L3.length cthree, L3), (.slice Afour L4.length cfour, L4), (.slice Afive L1.length cfive, L1)] (fun i => [3, 4, 5, 6, 7, 8, 9, 10].getD i 99) (fun i j hi hj => (by decide : ∀ i < 8, ∀ j < 8, [3, 4, 5, 6, 7, 8, 9, 10].getD i 99 = [3, 4, 5, 6, 7, 8, 9, 10].getD j 99 → i = j) i hi j hj) ?_ 8 rfl (by omega) ?_ _ rfl).mono ?_
  · intro i p hp
    match i, hp with
    | 0, hp => cases hp; rfl
    | 1, hp => cases hp; rfl
    | 2, hp => cases hp; rfl
    | 3, hp => cases hp; rfl
    | 4, hp => cases hp; rfl
    | 5, hp => cases hp; rfl
    | 6, hp => cases hp; rfl
    | 7, hp => cases hp; rfl
    | i + 8, hp => simp at hp
  · intro p hp
    have h1 := HM0.out
    have h2 := HM1.out
    have h3 := HM2.out
    simp only [List.mem_cons, List.not_mem_nil, or_false] at hp
    rcases hp with rfl | rfl | rfl | rfl | rfl | rfl | rfl | rfl <;> simp only <;> omega
  rintro e wz ⟨rfl, hbz⟩
  go_wp2_with fail
  go_ret
  exact ⟨rfl, hbz⟩

theorem shakeReads_walk (A : Option Addr) (n c : Nat) (xs : List UInt8) (B : Option Addr) (nc d : Nat) (ys : List UInt8) (C : Option Addr) (np cp : Nat) (q : List UInt8) (Z : Int) (w : World) (hA : Rd w 1 A n (xs.map vb)) (hn : n ≤ 1048576) (hB : Rd w 1 B nc (ys.map vb)) (hnc : nc ≤ 1048576) (hC : Rd w 1 C np (q.map vb)) (hnp : np ≤ 1048576) (hZ1 : -9223372036854775808 ≤ Z) (hZ2 : Z ≤ 9223372036854775807) :
    Calls Try.prog 7 #[.slice A n c, .slice B nc d, .slice C np cp, .int .i64 Z] w fun e w' => e = .returned (.bool true) ∧ Below w.heap.size w w' :=
  shakeReads_w A B C n nc np c d cp xs ys q Z w hA hn hB hnc hC hnp hZ1 hZ2

end Go.Proofs.Ythdfbnababmanaa
