/- Texts of this claim, merged: ShAny, ShAw, SpPl, ShFill, Lit, ShAwk, ShBN, LawShNm. -/
import Derived.Lib.SlBytesConst
import Derived.Test.YthdfbnababmanaaMgD
set_option linter.unusedVariables false

namespace Go.Proofs.Ythdfbnababmanaa
open Go.RowKit
set_option linter.unusedVariables false
set_option maxRecDepth 100000

attribute [local irreducible] permB kBytes kPerm kFrom

def okN (Z : Int) : Prop := 0 ≤ Z ∧ Z ≤ 65536

instance (Z : Int) : Decidable (okN Z) := inferInstanceAs (Decidable (_ ∧ _))

def outB (R : Nat) (x y q : List UInt8) (Z : Int) : List UInt8 := if okN Z then toldB R x y q Z.toNat else []

def outN (R : Nat) (x y q : List UInt8) (Z : Int) : Nat := if okN Z then toldN R x y q Z.toNat else 0

def outE (Z : Int) : Int := if okN Z then 0 else 2

theorem outB_le (R : Nat) (x y q : List UInt8) (Z : Int) : (outB R x y q Z).length ≤ 65536 := by
  unfold outB
  split
  · rename_i h; rw [toldB_length]; have := h.2; omega
  · simp

theorem outN_le {R : Nat} {x y q : List UInt8} (Z : Int) (h1 : 8 ≤ R) (h2 : R ≤ 192) (hx : x.length ≤ 2000000) (hy : y.length ≤ 2000000) (hq : q.length ≤ 281474976710656) : outN R x y q Z ≤ 300000000000000 := by
  unfold outN
  split
  · rename_i h
    unfold toldN
    have a := beginN_le (R := R) (x := x) (y := y) h1 (by omega) hx hy
    have b := (beginSp_ok (r := R) x y h1 h2).2.2.2
    have c : ((beginSp R x y).p + q.length) / R ≤ (beginSp R x y).p + q.length := Nat.div_le_self _ _
    have d : (0 + Z.toNat - 1) / R ≤ 0 + Z.toNat - 1 := Nat.div_le_self _ _
    have := h.2
    omega
  · omega

section
variable {w0 w : World} {F0 : List Nat} {E : Env}

theorem shC128_any (l : Value) (r : Option (List RunT)) (m : Nat) (b : Int) (A B C : Option Addr) (n nc np c d cp : Nat) (xs ys q : List UInt8) (Z : Int) (H : St w0 F0 w E) (i k : Nat) (hi : E i = some (led l r)) (hk : E k = none) (hg : LW r m b) (hm : m ≤ 999999990) (hb : b ≤ 100000000000000000)
    (hA : ∀ w' X, St w0 F0 w' (upd E i X) → Rd w' 1 A n (xs.map vb)) (hB : ∀ w' X, St w0 F0 w' (upd E i X) → Rd w' 1 B nc (ys.map vb)) (hC : ∀ w' X, St w0 F0 w' (upd E i X) → Rd w' 1 C np (q.map vb)) (hn : n ≤ 2000000) (hnc : nc ≤ 2000000) (hnp : np ≤ 281474976710656) :
    Calls Try.prog 41 #[l, .slice A n c, .slice B nc d, .slice C np cp, .int .i64 Z] w fun e w' => ∃ v, e = .returned (.tuple #[v, .int .i64 (outE Z)]) ∧ St w0 F0 w' (upd (upd E i (led l (noteN r 3 200 (outN 168 xs ys q Z)))) k (.row 5 1 v (outB 168 xs ys q Z).length ((outB 168 xs ys q Z).map vb))) := by
  by_cases hz : okN Z
  · have e1 : outB 168 xs ys q Z = toldB 168 xs ys q Z.toNat := if_pos hz
    have e2 : outN 168 xs ys q Z = toldN 168 xs ys q Z.toNat := if_pos hz
    have e3 : outE Z = 0 := if_pos hz
    rw [e1, e2, e3, toldB_length]
    exact shC128_s l r m b A B C n nc np c d cp xs ys q Z.toNat Z (by have := hz.1; omega) (by have := hz.2; omega) H i k hi hk hg hm hb hA hB hC hn hnc hnp
  · have e1 : outB 168 xs ys q Z = [] := if_neg hz
    have e2 : outN 168 xs ys q Z = 0 := if_neg hz
    have e3 : outE Z = 2 := if_neg hz
    rw [e1, e2, e3, noteN_zero]
    refine (shC128_bad _ _ _ _ Z (by unfold okN at hz; omega)).mono ?_
    rintro e w1 ⟨rfl, rfl⟩
    refine ⟨_, rfl, ?_⟩
    rw [upd_id hi]
    exact H.nilRow k hk _ _

theorem shC256_any (l : Value) (r : Option (List RunT)) (m : Nat) (b : Int) (A B C : Option Addr) (n nc np c d cp : Nat) (xs ys q : List UInt8) (Z : Int) (H : St w0 F0 w E) (i k : Nat) (hi : E i = some (led l r)) (hk : E k = none) (hg : LW r m b) (hm : m ≤ 999999990) (hb : b ≤ 100000000000000000)
    (hA : ∀ w' X, St w0 F0 w' (upd E i X) → Rd w' 1 A n (xs.map vb)) (hB : ∀ w' X, St w0 F0 w' (upd E i X) → Rd w' 1 B nc (ys.map vb)) (hC : ∀ w' X, St w0 F0 w' (upd E i X) → Rd w' 1 C np (q.map vb)) (hn : n ≤ 2000000) (hnc : nc ≤ 2000000) (hnp : np ≤ 281474976710656) :
    Calls Try.prog 42 #[l, .slice A n c, .slice B nc d, .slice C np cp, .int .i64 Z] w fun e w' => ∃ v, e = .returned (.tuple #[v, .int .i64 (outE Z)]) ∧ St w0 F0 w' (upd (upd E i (led l (noteN r 3 200 (outN 136 xs ys q Z)))) k (.row 5 1 v (outB 136 xs ys q Z).length ((outB 136 xs ys q Z).map vb))) := by
  by_cases hz : okN Z
  · have e1 : outB 136 xs ys q Z = toldB 136 xs ys q Z.toNat := if_pos hz
    have e2 : outN 136 xs ys q Z = toldN 136 xs ys q Z.toNat := if_pos hz
    have e3 : outE Z = 0 := if_pos hz
    rw [e1, e2, e3, toldB_length]
    exact shC256_s l r m b A B C n nc np c d cp xs ys q Z.toNat Z (by have := hz.1; omega) (by have := hz.2; omega) H i k hi hk hg hm hb hA hB hC hn hnc hnp
  · have e1 : outB 136 xs ys q Z = [] := if_neg hz
    have e2 : outN 136 xs ys q Z = 0 := if_neg hz
    have e3 : outE Z = 2 := if_neg hz
    rw [e1, e2, e3, noteN_zero]
    refine (shC256_bad _ _ _ _ Z (by unfold okN at hz; omega)).mono ?_
    rintro e w1 ⟨rfl, rfl⟩
    refine ⟨_, rfl, ?_⟩
    rw [upd_id hi]
    exact H.nilRow k hk _ _

theorem shShake128_any (l : Value) (r : Option (List RunT)) (m : Nat) (b : Int) (C : Option Addr) (np cp : Nat) (q : List UInt8) (Z : Int) (H : St w0 F0 w E) (i k : Nat) (hi : E i = some (led l r)) (hk : E k = none) (hg : LW r m b) (hm : m ≤ 999999990) (hb : b ≤ 100000000000000000)
    (hC : ∀ w' X, St w0 F0 w' (upd E i X) → Rd w' 1 C np (q.map vb)) (hnp : np ≤ 281474976710656) :
    Calls Try.prog 45 #[l, .slice C np cp, .int .i64 Z] w fun e w' => ∃ v, e = .returned (.tuple #[v, .int .i64 (outE Z)]) ∧ St w0 F0 w' (upd (upd E i (led l (noteN r 3 200 (outN 168 [] [] q Z)))) k (.row 5 1 v (outB 168 [] [] q Z).length ((outB 168 [] [] q Z).map vb))) := by
  by_cases hz : okN Z
  · have e1 : outB 168 [] [] q Z = toldB 168 [] [] q Z.toNat := if_pos hz
    have e2 : outN 168 [] [] q Z = toldN 168 [] [] q Z.toNat := if_pos hz
    have e3 : outE Z = 0 := if_pos hz
    rw [e1, e2, e3, toldB_length]
    exact shShake128_s l r m b C np cp q Z.toNat Z (by have := hz.1; omega) (by have := hz.2; omega) H i k hi hk hg hm hb hC hnp
  · have e1 : outB 168 [] [] q Z = [] := if_neg hz
    have e2 : outN 168 [] [] q Z = 0 := if_neg hz
    have e3 : outE Z = 2 := if_neg hz
    rw [e1, e2, e3, noteN_zero]
    refine (shShake128_bad _ _ Z (by unfold okN at hz; omega)).mono ?_
    rintro e w1 ⟨rfl, rfl⟩
    refine ⟨_, rfl, ?_⟩
    rw [upd_id hi]
    exact H.nilRow k hk _ _

theorem shShake256_any (l : Value) (r : Option (List RunT)) (m : Nat) (b : Int) (C : Option Addr) (np cp : Nat) (q : List UInt8) (Z : Int) (H : St w0 F0 w E) (i k : Nat) (hi : E i = some (led l r)) (hk : E k = none) (hg : LW r m b) (hm : m ≤ 999999990) (hb : b ≤ 100000000000000000)
    (hC : ∀ w' X, St w0 F0 w' (upd E i X) → Rd w' 1 C np (q.map vb)) (hnp : np ≤ 281474976710656) :
    Calls Try.prog 46 #[l, .slice C np cp, .int .i64 Z] w fun e w' => ∃ v, e = .returned (.tuple #[v, .int .i64 (outE Z)]) ∧ St w0 F0 w' (upd (upd E i (led l (noteN r 3 200 (outN 136 [] [] q Z)))) k (.row 5 1 v (outB 136 [] [] q Z).length ((outB 136 [] [] q Z).map vb))) := by
  by_cases hz : okN Z
  · have e1 : outB 136 [] [] q Z = toldB 136 [] [] q Z.toNat := if_pos hz
    have e2 : outN 136 [] [] q Z = toldN 136 [] [] q Z.toNat := if_pos hz
    have e3 : outE Z = 0 := if_pos hz
    rw [e1, e2, e3, toldB_length]
    exact shShake256_s l r m b C np cp q Z.toNat Z (by have := hz.1; omega) (by have := hz.2; omega) H i k hi hk hg hm hb hC hnp
  · have e1 : outB 136 [] [] q Z = [] := if_neg hz
    have e2 : outN 136 [] [] q Z = 0 := if_neg hz
    have e3 : outE Z = 2 := if_neg hz
    rw [e1, e2, e3, noteN_zero]
    refine (shShake256_bad _ _ Z (by unfold okN at hz; omega)).mono ?_
    rintro e w1 ⟨rfl, rfl⟩
    refine ⟨_, rfl, ?_⟩
    rw [upd_id hi]
    exact H.nilRow k hk _ _

end

section
variable {w0 w : World} {F0 : List Nat} {E : Env}

theorem rhC128_any (l : Value) (r : Option (List RunT)) (m : Nat) (b : Int) (A B C : Option Addr) (n nc np c d cp : Nat) (xs ys q : List UInt8) (Z : Int) (H : St w0 F0 w E) (i k : Nat) (hi : E i = some (ledR l r)) (hk : E k = none) (hg : LW r m b) (hm : m ≤ 999999990) (hb : b ≤ 100000000000000000)
    (hA : ∀ w' X, St w0 F0 w' (upd E i X) → Rd w' 1 A n (xs.map vb)) (hB : ∀ w' X, St w0 F0 w' (upd E i X) → Rd w' 1 B nc (ys.map vb)) (hC : ∀ w' X, St w0 F0 w' (upd E i X) → Rd w' 1 C np (q.map vb)) (hn : n ≤ 2000000) (hnc : nc ≤ 2000000) (hnp : np ≤ 281474976710656) :
    Calls Try.prog 47 #[l, .slice A n c, .slice B nc d, .slice C np cp, .int .i64 Z] w fun e w' => ∃ v, e = .returned (.tuple #[v, .int .i64 (outE Z)]) ∧ St w0 F0 w' (upd (upd E i (ledR l (noteN r 3 200 (outN 168 xs ys q Z)))) k (.row 5 1 v (outB 168 xs ys q Z).length ((outB 168 xs ys q Z).map vb))) := by
  by_cases hz : okN Z
  · have e1 : outB 168 xs ys q Z = toldB 168 xs ys q Z.toNat := if_pos hz
    have e2 : outN 168 xs ys q Z = toldN 168 xs ys q Z.toNat := if_pos hz
    have e3 : outE Z = 0 := if_pos hz
    rw [e1, e2, e3, toldB_length]
    exact rhC128_s l r m b A B C n nc np c d cp xs ys q Z.toNat Z (by have := hz.1; omega) (by have := hz.2; omega) H i k hi hk hg hm hb hA hB hC hn hnc hnp
  · have e1 : outB 168 xs ys q Z = [] := if_neg hz
    have e2 : outN 168 xs ys q Z = 0 := if_neg hz
    have e3 : outE Z = 2 := if_neg hz
    rw [e1, e2, e3, noteN_zero]
    refine (rhC128_bad _ _ _ _ Z (by unfold okN at hz; omega)).mono ?_
    rintro e w1 ⟨rfl, rfl⟩
    refine ⟨_, rfl, ?_⟩
    rw [upd_id hi]
    exact H.nilRow k hk _ _

theorem rhC256_any (l : Value) (r : Option (List RunT)) (m : Nat) (b : Int) (A B C : Option Addr) (n nc np c d cp : Nat) (xs ys q : List UInt8) (Z : Int) (H : St w0 F0 w E) (i k : Nat) (hi : E i = some (ledR l r)) (hk : E k = none) (hg : LW r m b) (hm : m ≤ 999999990) (hb : b ≤ 100000000000000000)
    (hA : ∀ w' X, St w0 F0 w' (upd E i X) → Rd w' 1 A n (xs.map vb)) (hB : ∀ w' X, St w0 F0 w' (upd E i X) → Rd w' 1 B nc (ys.map vb)) (hC : ∀ w' X, St w0 F0 w' (upd E i X) → Rd w' 1 C np (q.map vb)) (hn : n ≤ 2000000) (hnc : nc ≤ 2000000) (hnp : np ≤ 281474976710656) :
    Calls Try.prog 48 #[l, .slice A n c, .slice B nc d, .slice C np cp, .int .i64 Z] w fun e w' => ∃ v, e = .returned (.tuple #[v, .int .i64 (outE Z)]) ∧ St w0 F0 w' (upd (upd E i (ledR l (noteN r 3 200 (outN 136 xs ys q Z)))) k (.row 5 1 v (outB 136 xs ys q Z).length ((outB 136 xs ys q Z).map vb))) := by
  by_cases hz : okN Z
  · have e1 : outB 136 xs ys q Z = toldB 136 xs ys q Z.toNat := if_pos hz
    have e2 : outN 136 xs ys q Z = toldN 136 xs ys q Z.toNat := if_pos hz
    have e3 : outE Z = 0 := if_pos hz
    rw [e1, e2, e3, toldB_length]
    exact rhC256_s l r m b A B C n nc np c d cp xs ys q Z.toNat Z (by have := hz.1; omega) (by have := hz.2; omega) H i k hi hk hg hm hb hA hB hC hn hnc hnp
  · have e1 : outB 136 xs ys q Z = [] := if_neg hz
    have e2 : outN 136 xs ys q Z = 0 := if_neg hz
    have e3 : outE Z = 2 := if_neg hz
    rw [e1, e2, e3, noteN_zero]
    refine (rhC256_bad _ _ _ _ Z (by unfold okN at hz; omega)).mono ?_
    rintro e w1 ⟨rfl, rfl⟩
    refine ⟨_, rfl, ?_⟩
    rw [upd_id hi]
    exact H.nilRow k hk _ _

theorem rhShake128_any (l : Value) (r : Option (List RunT)) (m : Nat) (b : Int) (C : Option Addr) (np cp : Nat) (q : List UInt8) (Z : Int) (H : St w0 F0 w E) (i k : Nat) (hi : E i = some (ledR l r)) (hk : E k = none) (hg : LW r m b) (hm : m ≤ 999999990) (hb : b ≤ 100000000000000000)
    (hC : ∀ w' X, St w0 F0 w' (upd E i X) → Rd w' 1 C np (q.map vb)) (hnp : np ≤ 281474976710656) :
    Calls Try.prog 49 #[l, .slice C np cp, .int .i64 Z] w fun e w' => ∃ v, e = .returned (.tuple #[v, .int .i64 (outE Z)]) ∧ St w0 F0 w' (upd (upd E i (ledR l (noteN r 3 200 (outN 168 [] [] q Z)))) k (.row 5 1 v (outB 168 [] [] q Z).length ((outB 168 [] [] q Z).map vb))) := by
  by_cases hz : okN Z
  · have e1 : outB 168 [] [] q Z = toldB 168 [] [] q Z.toNat := if_pos hz
    have e2 : outN 168 [] [] q Z = toldN 168 [] [] q Z.toNat := if_pos hz
    have e3 : outE Z = 0 := if_pos hz
    rw [e1, e2, e3, toldB_length]
    exact rhShake128_s l r m b C np cp q Z.toNat Z (by have := hz.1; omega) (by have := hz.2; omega) H i k hi hk hg hm hb hC hnp
  · have e1 : outB 168 [] [] q Z = [] := if_neg hz
    have e2 : outN 168 [] [] q Z = 0 := if_neg hz
    have e3 : outE Z = 2 := if_neg hz
    rw [e1, e2, e3, noteN_zero]
    refine (rhShake128_bad _ _ Z (by unfold okN at hz; omega)).mono ?_
    rintro e w1 ⟨rfl, rfl⟩
    refine ⟨_, rfl, ?_⟩
    rw [upd_id hi]
    exact H.nilRow k hk _ _

theorem rhShake256_any (l : Value) (r : Option (List RunT)) (m : Nat) (b : Int) (C : Option Addr) (np cp : Nat) (q : List UInt8) (Z : Int) (H : St w0 F0 w E) (i k : Nat) (hi : E i = some (ledR l r)) (hk : E k = none) (hg : LW r m b) (hm : m ≤ 999999990) (hb : b ≤ 100000000000000000)
    (hC : ∀ w' X, St w0 F0 w' (upd E i X) → Rd w' 1 C np (q.map vb)) (hnp : np ≤ 281474976710656) :
    Calls Try.prog 50 #[l, .slice C np cp, .int .i64 Z] w fun e w' => ∃ v, e = .returned (.tuple #[v, .int .i64 (outE Z)]) ∧ St w0 F0 w' (upd (upd E i (ledR l (noteN r 3 200 (outN 136 [] [] q Z)))) k (.row 5 1 v (outB 136 [] [] q Z).length ((outB 136 [] [] q Z).map vb))) := by
  by_cases hz : okN Z
  · have e1 : outB 136 [] [] q Z = toldB 136 [] [] q Z.toNat := if_pos hz
    have e2 : outN 136 [] [] q Z = toldN 136 [] [] q Z.toNat := if_pos hz
    have e3 : outE Z = 0 := if_pos hz
    rw [e1, e2, e3, toldB_length]
    exact rhShake256_s l r m b C np cp q Z.toNat Z (by have := hz.1; omega) (by have := hz.2; omega) H i k hi hk hg hm hb hC hnp
  · have e1 : outB 136 [] [] q Z = [] := if_neg hz
    have e2 : outN 136 [] [] q Z = 0 := if_neg hz
    have e3 : outE Z = 2 := if_neg hz
    rw [e1, e2, e3, noteN_zero]
    refine (rhShake256_bad _ _ Z (by unfold okN at hz; omega)).mono ?_
    rintro e w1 ⟨rfl, rfl⟩
    refine ⟨_, rfl, ?_⟩
    rw [upd_id hi]
    exact H.nilRow k hk _ _

end

end Go.Proofs.Ythdfbnababmanaa

namespace Go.Proofs.Ythdfbnababmanaa
open Go.RowKit
set_option linter.unusedVariables false
set_option maxRecDepth 100000

def hv (c : UInt8) : Int := if 97 ≤ c.toNat then (c.toNat : Int) - 87 else (c.toNat : Int) - 48

theorem hv_b (c : UInt8) : -48 ≤ hv c ∧ hv c ≤ 168 := by
  have := c.toNat_lt
  unfold hv
  split <;> omega

def hexB (a b : UInt8) : UInt8 := UInt8.ofNat ((16 * hv a + hv b) % 256).toNat

theorem hexB_toNat (a b : UInt8) : ((hexB a b).toNat : Int) = (16 * hv a + hv b) % 256 := by
  unfold hexB
  rw [UInt8.toNat_ofNat']
  omega

def hexTo (s : List UInt8) : Nat → List UInt8
  | 0 => []
  | k + 1 => hexTo s k ++ [hexB (s.getD (2 * k) 0) (s.getD (2 * k + 1) 0)]

theorem hexTo_length (s : List UInt8) (k : Nat) : (hexTo s k).length = k := by
  induction k with
  | zero => rfl
  | succ k ih => show (hexTo s k ++ [_]).length = _; rw [List.length_append, ih]; rfl

theorem str_index (s : ByteArray) (i : Int) (k : Nat) (hi : i = (k : Int)) (hk : k < s.size) (w : World) : (Instr.index 9 (.string s) (.int .i64 i)).run Try.prog w = .ok (.int .u8 ((s.data.toList.getD k 0).toNat : Int)) w := by
  subst hi
  rw [run_index_string w 9 s .i64 _ Try.underlying9, dif_pos (by omega)]
  obtain ⟨⟨l⟩⟩ := s
  have hl : k < l.length := hk
  have e : (ByteArray.mk ⟨l⟩)[k]'hl = l.getD k 0 := by
    simp only [List.getD, List.getElem?_eq_getElem hl, Option.getD_some]
    rfl
  simp [e]

theorem St.newRow {w w' : World} {E : Env} {e : TypeId} {size n : Nat} {v : Value} {xs : List Value} (H : St w [] w' E) (k : Nat) (hk : E k = some (.row e size v n xs)) : w'.ownsRow w.heap.size e size v n xs := by
  obtain ⟨F, ⟨h, eF⟩, hF, -⟩ := H.change k hk
  exact ownsRow_base h fun g hg => by have := hF g (by rw [eF]; exact hg); simpa using this

set_option maxHeartbeats 2000000 in
theorem unhex_s (s : ByteArray) (m : Nat) (hs : s.size = 2 * m) (hm : m ≤ 1000) (w : World) :
    Calls Try.prog 51 #[.string s] w fun e w' => ∃ v, e = .returned v ∧ OwnB w' w.heap.size v (hexTo s.data.toList m) ∧ Below w.heap.size w w' := by
  obtain ⟨i0, hi0, hz0, hz1, hz2⟩ := info_parts u8_info
  have HI := Lib.hid (⟨hi0, hz0, hz1, hz2⟩ : _ ∧ _ ∧ _ ∧ _)
  clear hi0 hz0 hz1 hz2
  have H0 := (St.start_lay w []).nilRow 0 rfl 5 1 |>.push_mk rfl
  have hlen := fun w' => run_len_string (P := Try.prog) w' 9 3 s Try.underlying9
  rw [hs] at hlen
  have HS := Lib.hid hs
  clear hs
  have HIX := Lib.hid (str_index s)
  obtain ⟨L, hL⟩ : ∃ L, s.data.toList = L := ⟨_, rfl⟩
  rw [hL] at HIX ⊢
  clear hL
  go_enter Try.func51, Try.ntmps51
  go_wp2
  go_loopw [3, 4] (fun v i wr => ∃ k : Nat, k ≤ m ∧ i = .int .i64 (2 * k : Int) ∧ St w [] wr (lay [.row 5 1 v k ((hexTo L k).map vb)])) (fun _ i _ => 2 * m - (intOf i).toNat)
  case atStart => exact ⟨0, Nat.zero_le _, rfl, H0⟩
  case round =>
    clear H0
    obtain ⟨k, hk, rfl, H⟩ := hrel
    obtain ⟨AV, cV, rfl, -, -⟩ := row_form (H.row 0 rfl)
    by_cases hlt : k < m
    · have e1 := fun w' => HIX.out (2 * k : Int) (2 * k) (by omega) (by rw [HS.out]; omega) w'
      have e2 := fun w' => HIX.out (2 * k + 1 : Int) (2 * k + 1) (by omega) (by rw [HS.out]; omega) w'
      have HX : Hid (hexTo L (k + 1) = hexTo L k ++ [hexB (L.getD (2 * k) 0) (L.getD (2 * k + 1) 0)]) := rfl
      generalize L.getD (2 * k) 0 = a at e1 HX
      generalize L.getD (2 * k + 1) 0 = b at e2 HX
      go_wp2_with fail
      go_loopw [5, 6] (fun n q wr2 => (q = .int .i64 (2 * k : Int) ∧ n = .int .i64 0 ∨ q = .int .i64 (2 * k + 1 : Int) ∧ n = .int .i64 (hv a) ∨ q = .int .i64 (2 * k + 2 : Int) ∧ n = .int .i64 (16 * hv a + hv b)) ∧ wr2 = wr) (fun _ q _ => 2 * k + 2 - (intOf q).toNat)
      case atStart => exact ⟨.inl ⟨rfl, rfl⟩, rfl⟩
      case round =>
        obtain ⟨h, e⟩ := hrel
        subst e
        rcases h with ⟨rfl, rfl⟩ | ⟨rfl, rfl⟩ | ⟨rfl, rfl⟩
        · by_cases hc : (97 : Int) ≤ (a.toNat : Int)
          · have hvx : hv a = (a.toNat : Int) - 87 := by unfold hv; rw [if_pos (by omega)]
            have hlt := a.toNat_lt
            have hx0 : (a.toNat : Int) ≤ 255 := by omega
            clear hlt
            go_wp2
            go_roundw
            case rel => exact ⟨.inr (.inl ⟨by go_num, by first | (rw [hvx]; done) | (rw [hvx]; go_num)⟩), trivial⟩
            case measure => simp [intOf]; omega
          · have hvx : hv a = (a.toNat : Int) - 48 := by unfold hv; rw [if_neg (by omega)]
            have hlt := a.toNat_lt
            have hx0 : (a.toNat : Int) ≤ 255 := by omega
            clear hlt
            have hc2 : (a.toNat : Int) < 97 := by omega
            go_wp2
            go_roundw
            case rel => exact ⟨.inr (.inl ⟨by go_num, by first | (rw [hvx]; done) | (rw [hvx]; go_num)⟩), trivial⟩
            case measure => simp [intOf]; omega
        · by_cases hc : (97 : Int) ≤ (b.toNat : Int)
          · have hvx : hv b = (b.toNat : Int) - 87 := by unfold hv; rw [if_pos (by omega)]
            have hlt := b.toNat_lt
            have hx0 : (b.toNat : Int) ≤ 255 := by omega
            clear hlt
            have hva := hv_b a
            generalize hv a = va at *
            go_wp2
            go_roundw
            case rel => exact ⟨.inr (.inr ⟨by go_num, by first | (rw [hvx]; done) | (rw [hvx]; go_num)⟩), trivial⟩
            case measure => simp [intOf]; omega
          · have hvx : hv b = (b.toNat : Int) - 48 := by unfold hv; rw [if_neg (by omega)]
            have hlt := b.toNat_lt
            have hx0 : (b.toNat : Int) ≤ 255 := by omega
            clear hlt
            have hc2 : (b.toNat : Int) < 97 := by omega
            have hva := hv_b a
            generalize hv a = va at *
            go_wp2
            go_roundw
            case rel => exact ⟨.inr (.inr ⟨by go_num, by first | (rw [hvx]; done) | (rw [hvx]; go_num)⟩), trivial⟩
            case measure => simp [intOf]; omega
        · have hva := hv_b a
          have hvb := hv_b b
          have HB := Lib.hid (hexB_toNat a b)
          generalize hv a = va at *
          generalize hv b = vb' at *
          go_wp2_with (at_builtin; refine hold_here' ?_)
          refine Lib.hid ?_
          refine absorb_list (H.allocAt 1 rfl wr.heap.size rfl #[.int .u8 ((16 * va + vb') % 256)] 5 |>.push_mk rfl) ?_
          clear H
          intro w5 H
          generalize wr.heap.size = gN at H ⊢
          obtain ⟨hi0, hz0, hz1, hz2⟩ := HI.out
          refine wpList_append_any _ rfl (.tmp 41) (.tmp 44) _ rfl 0 5 i0 _ 1 1 Try.underlying22 hi0 hz0 hz1 hz2 rfl (by omega) (.slice AV k cV) k ((hexTo L k).map vb) rfl (H.row 0 rfl) (some ⟨gN, 0, none⟩) 1 1 [.int .u8 ((16 * va + vb') % 256)] rfl (H.rdBlk 1 rfl 1 1 rfl) (by intro u hu; simp at hu; subst hu; rfl) (by simp only [maxLen]; omega) (by omega) (by omega) ?_
          intro v6 w6 hown6 hg6 hat6
          replace H := ((H.grow 0 rfl hown6 hg6 hat6).upd_mk (by simp)).front 1
          clear hown6 hg6 hat6 hi0 hz0 hz1 hz2
          have H7 : St w [] w6 (lay [.row 5 1 v6 (k + 1) ((hexTo L (k + 1)).map vb)]) := by rw [HX.out, List.map_append]; unfold vb; rw [List.map_cons, HB.out]; exact H
          clear H
          go_wp2
          go_roundw
          case rel => exact ⟨k + 1, by omega, by go_num, H7⟩
          case measure => simp [intOf]; omega
    · obtain rfl : k = m := by omega
      go_wp2
      go_ret
      exact ⟨_, rfl, (by unfold OwnB; rw [hexTo_length]; exact H.newRow 0 rfl), H.below⟩
end Go.Proofs.Ythdfbnababmanaa

namespace Go.Proofs.Ythdfbnababmanaa
open Go.RowKit
set_option linter.unusedVariables false
set_option maxRecDepth 100000

attribute [local irreducible] permB kBytes kPerm kFrom

theorem count_add (a n r : Nat) (hr : 0 < r) : a / r + (a % r + n) / r = (a + n) / r := by
  have h := Nat.div_add_mod a r
  have e : a + n = (a % r + n) + r * (a / r) := by omega
  rw [e, Nat.add_mul_div_left _ _ hr, Nat.add_comm]

theorem Sp.after_add (x : Sp) (m n : Nat) : x.after (m + n) = (x.after m).after n := by
  induction n with
  | zero => rfl
  | succ n ih => rw [← Nat.add_assoc, Sp.after_succ, ih]; rfl

theorem Sp.read_add (x : Sp) (m n : Nat) : x.read (m + n) = x.read m ++ (x.after m).read n := by
  unfold Sp.read
  rw [List.range_add, List.map_append, List.map_map]
  congr 1
  apply List.map_congr_left
  intro i _
  show (x.after (m + i)).get = _
  rw [Sp.after_add]

/-- where a sponge that is shut stands behind some bytes, and how often it was permuted -/
theorem Sp.after_count {x : Sp} (h : x.Ok) (hs : x.s = true) : ∀ m, ((x.p + m - 1) / x.r) * x.r + (x.after m).p = x.p + m ∧ (0 < m → 1 ≤ (x.after m).p) := by
  have h8 := h.r8
  have hpr := h.pr
  have key : ∀ m, ∃ c, c * x.r + (x.after m).p = x.p + m ∧ (m = 0 → c = 0) ∧ (0 < m → 1 ≤ (x.after m).p) := by
    intro m
    induction m with
    | zero => exact ⟨0, by rw [Sp.after_zero]; omega, fun _ => rfl, fun h => absurd h (by omega)⟩
    | succ m ih =>
      obtain ⟨c, h1, h2, h3⟩ := ih
      obtain ⟨ok, hr, hs', hf⟩ := Sp.after_ok h hs m
      by_cases he : (x.after m).p = (x.after m).r
      · refine ⟨c + 1, ?_, fun e => absurd e (by omega), fun _ => ?_⟩
        · rw [Sp.after_succ, Sp.turn_yes he]
          show (c + 1) * x.r + (0 + 1) = x.p + (m + 1)
          rw [Nat.add_mul, Nat.one_mul]
          rw [he, hr] at h1
          omega
        · rw [Sp.after_succ, Sp.turn_yes he]
          show 1 ≤ 0 + 1
          omega
      · refine ⟨c, ?_, fun e => absurd e (by omega), fun _ => ?_⟩
        · rw [Sp.after_succ, Sp.turn_no he]
          show c * x.r + ((x.after m).p + 1) = x.p + (m + 1)
          omega
        · rw [Sp.after_succ, Sp.turn_no he]
          show 1 ≤ (x.after m).p + 1
          omega
  intro m
  obtain ⟨c, h1, h2, h3⟩ := key m
  obtain ⟨ok, hr, -, -⟩ := Sp.after_ok h hs m
  have hc : c = (x.p + m - 1) / x.r := count_end h1 (by rw [← hr]; exact ok.pr) h2 h3 (by omega) hpr
  rw [← hc]
  exact ⟨h1, h3⟩

/-- counted piece by piece -/
theorem Sp.count_more {x : Sp} (h : x.Ok) (hs : x.s = true) (m n : Nat) : (x.p + m - 1) / x.r + ((x.after m).p + n - 1) / x.r = (x.p + (m + n) - 1) / x.r := by
  obtain ⟨h1, h2⟩ := Sp.after_count h hs m
  have h8 := h.r8
  have hpr := h.pr
  obtain ⟨ok, hr, -, -⟩ := Sp.after_ok h hs m
  have hp := ok.pr
  rw [hr] at hp
  generalize (x.p + m - 1) / x.r = c at h1
  rcases Nat.eq_zero_or_pos n with rfl | hn
  · have e1 : ((x.after m).p + 0 - 1) / x.r = 0 := Nat.div_eq_of_lt (by omega)
    rw [e1, Nat.add_zero, Nat.add_zero]
    rcases Nat.eq_zero_or_pos m with rfl | hm
    · rw [Sp.after_zero] at h1
      have hc0 : c = 0 := by
        rcases Nat.eq_zero_or_pos c with h | h
        · exact h
        · have : 1 * x.r ≤ c * x.r := Nat.mul_le_mul_right _ h
          omega
      rw [hc0, Nat.div_eq_of_lt (by omega)]
    · have := h2 hm
      have e : x.p + m - 1 = ((x.after m).p - 1) + x.r * c := by rw [Nat.mul_comm]; omega
      rw [e, Nat.add_mul_div_left _ _ (by omega), Nat.div_eq_of_lt (by omega), Nat.zero_add]
  · have e : x.p + (m + n) - 1 = ((x.after m).p + n - 1) + x.r * c := by rw [Nat.mul_comm]; omega
    rw [e, Nat.add_mul_div_left _ _ (by omega), Nat.add_comm]

end Go.Proofs.Ythdfbnababmanaa

namespace Go.Proofs.Ythdfbnababmanaa
open Go.RowKit
set_option linter.unusedVariables false
set_option maxRecDepth 100000

attribute [local irreducible] permB kBytes kPerm kFrom

theorem rep_snoc {α : Type} (x : α) (k : Nat) : List.replicate k x ++ [x] = List.replicate (k + 1) x := by
  rw [List.replicate_succ']

set_option maxHeartbeats 1000000 in
theorem fill_s (A : Option Addr) (n c : Nat) (x : UInt8) (w : World) (hn : n ≤ 1048576) :
    Calls Try.prog 43 #[.slice A n c, .int .u8 (x.toNat : Int)] w fun e w' => ∃ v, e = .returned v ∧ OwnB w' w.heap.size v (List.replicate n x) ∧ Below w.heap.size w w' := by
  obtain ⟨i0, hi0, hz0, hz1, hz2⟩ := info_parts u8_info
  have HI := Lib.hid (⟨hi0, hz0, hz1, hz2⟩ : _ ∧ _ ∧ _ ∧ _)
  clear hi0 hz0 hz1 hz2
  have H0 := (St.start_lay w []).nilRow 0 rfl 5 1 |>.push_mk rfl
  go_enter Try.func43, Try.ntmps43
  go_wp2
  go_loopw [5, 6] (fun v i wr => ∃ k : Nat, k ≤ n ∧ i = .int .i64 k ∧ St w [] wr (lay [.row 5 1 v k ((List.replicate k x).map vb)])) (fun _ i _ => n - (intOf i).toNat)
  case atStart => exact ⟨0, Nat.zero_le _, rfl, H0⟩
  case round =>
    clear H0
    obtain ⟨k, hk, rfl, H⟩ := hrel
    obtain ⟨AV, cV, rfl, -, -⟩ := row_form (H.row 0 rfl)
    by_cases hlt : k < n
    · have hk1 : (k : Int) < n := by omega
      go_wp2_with (at_builtin; refine hold_here' ?_)
      refine Lib.hid ?_
      refine absorb_list (H.allocAt 1 rfl wr.heap.size rfl #[.int .u8 (x.toNat : Int)] 5 |>.push_mk rfl) ?_
      clear H
      intro w5 H
      generalize wr.heap.size = gN at H ⊢
      obtain ⟨hi0, hz0, hz1, hz2⟩ := HI.out
      refine wpList_append_any _ rfl (.tmp 13) (.tmp 15) _ rfl 0 5 i0 _ 1 1 Try.underlying22 hi0 hz0 hz1 hz2 rfl (by omega) (.slice AV k cV) k ((List.replicate k x).map vb) rfl (H.row 0 rfl) (some ⟨gN, 0, none⟩) 1 1 [vb x] rfl (H.rdBlk 1 rfl 1 1 rfl) (by intro u hu; simp at hu; subst hu; rfl) (by simp only [maxLen]; omega) (by omega) (by omega) ?_
      intro v6 w6 hown6 hg6 hat6
      replace H := ((H.grow 0 rfl hown6 hg6 hat6).upd_mk (by simp)).front 1
      clear hown6 hg6 hat6 hi0 hz0 hz1 hz2
      have H7 : St w [] w6 (lay [.row 5 1 v6 (k + 1) ((List.replicate (k + 1) x).map vb)]) := by rw [← rep_snoc, List.map_append]; exact H
      clear H
      go_wp2
      go_roundw
      case rel => exact ⟨k + 1, by omega, by go_num, H7⟩
      case measure => simp [intOf]; omega
    · obtain rfl : k = n := by omega
      go_wp2
      go_ret
      exact ⟨_, rfl, (by unfold OwnB; rw [List.length_replicate]; exact H.newRow 0 rfl), H.below⟩

theorem strB_len (x : List UInt8) : (strB x).length = (leftB (8 * x.length)).length + x.length := by unfold strB; rw [List.length_append]

theorem prefix_len {r : Nat} {x y x' y' : List UInt8} (hx : x.length = x'.length) (hy : y.length = y'.length) : (prefixB r x y).length = (prefixB r x' y').length := by
  unfold prefixB padI
  split
  · unfold padB padN
    simp only [List.length_append, strB_len, List.length_replicate, hx, hy]
  · rfl

theorem beginN_len {r : Nat} {x y x' y' : List UInt8} (hx : x.length = x'.length) (hy : y.length = y'.length) : beginN r x y = beginN r x' y' := by
  unfold beginN; rw [prefix_len hx hy, hx, hy]

/-- how many bytes were written into a sponge that has begun -/
def begW (r : Nat) (x y : List UInt8) : Nat := if x.length + y.length = 0 then 0 else (prefixB r x y).length

theorem beginN_W (r : Nat) (x y : List UInt8) : beginN r x y = begW r x y / r := by
  unfold beginN begW
  split
  · rw [Nat.zero_div]
  · rfl

theorem beginSp_W {r : Nat} (x y : List UInt8) (h : 8 ≤ r) : (beginSp r x y).p = begW r x y % r := by
  unfold beginSp begW
  split
  · rw [Nat.zero_mod]; rfl
  · rw [Sp.write_p (x := Sp.new r 4) _ (by show 0 < r; omega)]
    show (0 + _) % r = _
    rw [Nat.zero_add]

theorem begW_len {r : Nat} {x y x' y' : List UInt8} (hx : x.length = x'.length) (hy : y.length = y'.length) : begW r x y = begW r x' y' := by
  unfold begW; rw [prefix_len hx hy, hx, hy]

theorem toldN_W {r : Nat} (x y q : List UInt8) (N : Nat) (h : 8 ≤ r) : toldN r x y q N = (begW r x y + q.length) / r + 1 + (N - 1) / r := by
  unfold toldN
  rw [beginN_W, beginSp_W x y h, Nat.zero_add, ← Nat.add_assoc, count_add _ _ _ (by omega), Nat.add_assoc]

theorem told_take (r : Nat) (x y q : List UInt8) (N M : Nat) (h : M ≤ N) : (toldB r x y q N).take M = toldB r x y q M := by
  unfold toldB Sp.read
  rw [← List.map_take, List.take_range, Nat.min_eq_left h]

theorem noteN_pos (T : Nat) (h : 1 ≤ T) : noteN (some []) 3 200 T = some [((3, 200, (T : Int)) : RunT)] := by
  unfold noteN; rw [if_neg (by omega)]; rfl

end Go.Proofs.Ythdfbnababmanaa

namespace Go.Proofs.Ythdfbnababmanaa
open Go.RowKit
set_option linter.unusedVariables false

def Own.lit (g : Nat) (T : TypeId) (cs : List Value) (m : Nat × Nat) : Own where
  holds w F := w.heap[g]? = some (.cells cs.toArray T m) ∧ F = [g]
  loc := fun ⟨h, e⟩ k => ⟨by rw [k g (by simp [e])]; exact h, e⟩
  old := fun ⟨h, e⟩ k hk => by rw [e] at hk; simp at hk; subst hk; exact lt_of_heap h

section
variable {w0 w w' : World} {F0 : List Nat} {E : Env}

theorem St.litAt (H : St w0 F0 w E) (k : Nat) (hk : E k = none) (b : Nat) (hb : b = w.heap.size) (cs : Array Value) (T : TypeId) (m : Nat × Nat) : St w0 F0 (w.alloc (.cells cs T m)) (upd E k (.lit b T cs.toList m)) := by
  subst hb
  exact H.push k hk ((Below.refl _ _).alloc (Nat.le_refl _) _) (F := [w.heap.size]) ⟨by rw [heap_alloc_new], rfl⟩ (by simp)

theorem St.rdLit {g : Nat} {T : TypeId} {cs : List Value} {m : Nat × Nat} (H : St w0 F0 w E) (k : Nat) (hk : E k = some (.lit g T cs m)) (size n : Nat) (hl : cs.length = n * size) : Rd w size (some ⟨g, 0, none⟩) n cs := by
  obtain ⟨F, ⟨h, -⟩, -⟩ := H.change k hk
  refine ⟨hl, fun _ => ⟨_, rfl, lt_of_heap h, fun j u hu => ?_⟩⟩
  rw [Addr.add_mid, Nat.zero_add, cell_of_row w g j _ _ _ h]
  simpa using hu
end
end Go.Proofs.Ythdfbnababmanaa

namespace Go.Proofs.Ythdfbnababmanaa
open Go.RowKit
set_option linter.unusedVariables false
set_option maxRecDepth 100000

def vA : List UInt8 := [0x7f, 0x9c, 0x2b, 0xa4, 0xe8, 0x8f, 0x82, 0x7d, 0x61, 0x60, 0x45, 0x50, 0x76, 0x05, 0x85, 0x3e, 0xd7, 0x3b, 0x80, 0x93, 0xf6, 0xef, 0xbc, 0x88, 0xeb, 0x1a, 0x6e, 0xac, 0xfa, 0x66, 0xef, 0x26]
def vB : List UInt8 := [0xc1, 0xc3, 0x69, 0x25, 0xb6, 0x40, 0x9a, 0x04, 0xf1, 0xb5, 0x04, 0xfc, 0xbc, 0xa9, 0xd8, 0x2b, 0x40, 0x17, 0x27, 0x7c, 0xb5, 0xed, 0x2b, 0x20, 0x65, 0xfc, 0x1d, 0x38, 0x14, 0xd5, 0xaa, 0xf5]
def emB : List UInt8 := [69, 109, 97, 105, 108, 32, 83, 105, 103, 110, 97, 116, 117, 114, 101]

theorem awk_A : toldB 168 [] [] [] 32 = vA := by decide +kernel
theorem hex_A : hexTo (ByteArray.mk #[55, 102, 57, 99, 50, 98, 97, 52, 101, 56, 56, 102, 56, 50, 55, 100, 54, 49, 54, 48, 52, 53, 53, 48, 55, 54, 48, 53, 56, 53, 51, 101, 100, 55, 51, 98, 56, 48, 57, 51, 102, 54, 101, 102, 98, 99, 56, 56, 101, 98, 49, 97, 54, 101, 97, 99, 102, 97, 54, 54, 101, 102, 50, 54] : ByteArray).data.toList 32 = vA := by decide +kernel
theorem hex_B : hexTo (ByteArray.mk #[99, 49, 99, 51, 54, 57, 50, 53, 98, 54, 52, 48, 57, 97, 48, 52, 102, 49, 98, 53, 48, 52, 102, 99, 98, 99, 97, 57, 100, 56, 50, 98, 52, 48, 49, 55, 50, 55, 55, 99, 98, 53, 101, 100, 50, 98, 50, 48, 54, 53, 102, 99, 49, 100, 51, 56, 49, 52, 100, 53, 97, 97, 102, 53] : ByteArray).data.toList 32 = vB := by decide +kernel
theorem left_0 : leftB 0 = [1, 0] := by unfold leftB; rw [numB_small (by decide)]; rfl
theorem left_120 : leftB 120 = [1, 120] := by unfold leftB; rw [numB_small (by decide)]; rfl
theorem left_168 : leftB 168 = [1, 168] := by unfold leftB; rw [numB_small (by decide)]; rfl
theorem left_256 : leftB 256 = [2, 1, 0] := by unfold leftB; rw [numB_big (by decide), show (256 : Nat) / 256 = 1 from rfl, numB_small (by decide)]; rfl
theorem prefix_B : prefixB 168 [] emB = [1, 168, 1, 0, 1, 120] ++ emB ++ List.replicate 147 0 := by
  unfold prefixB padI
  rw [if_pos (by decide)]
  unfold padB padN strB
  rw [show 8 * ([] : List UInt8).length = 0 from rfl, show 8 * emB.length = 120 from rfl, show ((168 : Nat) : Int).toNat = 168 from rfl, left_0, left_120, left_168]
  rfl
theorem awk_B : toldB 168 [] emB [0, 1, 2, 3] 32 = vB := by
  unfold toldB beginSp
  rw [if_neg (by decide), prefix_B]
  decide +kernel
attribute [local irreducible] permB kBytes kPerm kFrom
theorem noteN_none (k : Int) (s : Int) (n : Nat) : noteN none k s n = none := by unfold noteN; split <;> rfl

theorem em_n : emB.length = 15 := rfl

set_option maxHeartbeats 4000000 in
theorem awake_s (w : World) : Calls Try.prog 37 #[] w fun e w' => e = .returned (.bool true) ∧ Below w.heap.size w w' := by
  have H := (St.start_lay w []).ledNil 0 rfl |>.push_mk rfl
  have HA := Lib.hid hex_A
  have HB := Lib.hid hex_B
  have hcv := fun (w : World) (C : Array Value) (n c : Nat) => Lib.run_convert_bytes_const (P := Try.prog) w 22 5 C n c Try.underlying22 Try.underlying5
  go_enter Try.func37, Try.ntmps37
  go_wp2_with fail
  refine (shShake128_s (.pointer none) none 0 0 none 0 0 [] 32 32 rfl (by omega) H 0 1 rfl rfl (LW.none _ _) (by omega) (by omega) (fun _ _ _ => Rd.none_) (by omega)).mono ?_
  rintro e w1 ⟨v1, rfl, H1⟩
  rw [noteN_none, upd_laid (by simp), awk_A] at H1
  replace H : St w [] w1 (lay [led (.pointer none) none, .row 5 1 v1 32 (vA.map vb)]) := H1.push_mk rfl
  clear H1
  obtain ⟨A1, c1, rfl, -, -⟩ := row_form (H.row 1 rfl)
  go_wp2_with fail
  refine absorb_calls (H.litAt 2 rfl w1.heap.size rfl _ _ _ |>.push_mk rfl |>.allocAt 3 rfl (w1.heap.size + 1) (by simp) _ _ |>.push_mk rfl) ?_
  clear H
  intro w2 H
  generalize w1.heap.size = g2 at H ⊢
  replace H : St w [] w2 (lay [led (.pointer none) none, .row 5 1 (.slice A1 32 c1) 32 (vA.map vb), .lit g2 5 (emB.map vb) (15, 16), .blk (g2 + 1) 5 (([0, 1, 2, 3] : List UInt8).map vb)]) := H
  refine (shC128_s (.pointer none) none 0 0 none (some ⟨g2, 0, none⟩) (some ⟨g2 + 1, 0, none⟩) 0 15 4 0 15 4 [] emB [0, 1, 2, 3] 32 32 rfl (by omega) H 0 4 rfl rfl (LW.none _ _) (by omega) (by omega) (fun _ _ _ => Rd.none_) (fun w' X h => h.rdLit 2 rfl 1 15 rfl) (fun w' X h => h.rdBlk 3 rfl 1 4 rfl) (by omega) (by omega) (by omega)).mono ?_
  rintro e w3 ⟨v3, rfl, H1⟩
  rw [noteN_none, upd_laid (by simp), awk_B] at H1
  replace H : St w [] w3 (lay [led (.pointer none) none, .row 5 1 (.slice A1 32 c1) 32 (vA.map vb), .lit g2 5 (emB.map vb) (15, 16), .blk (g2 + 1) 5 (([0, 1, 2, 3] : List UInt8).map vb), .row 5 1 v3 32 (vB.map vb)]) := H1.push_mk rfl
  clear H1
  obtain ⟨A3, c3, rfl, -, -⟩ := row_form (H.row 4 rfl)
  go_wp2_with fail
  refine (left_s 256 w3 (by omega)).mono ?_
  rintro e w4 ⟨v4, rfl, ho, hb⟩
  have e1 : leftI 256 = [2, 1, 0] := left_256
  rw [e1] at ho
  replace H := (H.pushRow 5 rfl hb ho).push_mk rfl
  replace H : St w [] w4 (lay [led (.pointer none) none, .row 5 1 (.slice A1 32 c1) 32 (vA.map vb), .lit g2 5 (emB.map vb) (15, 16), .blk (g2 + 1) 5 (([0, 1, 2, 3] : List UInt8).map vb), .row 5 1 (.slice A3 32 c3) 32 (vB.map vb), .row 5 1 v4 3 (([2, 1, 0] : List UInt8).map vb)]) := H
  clear ho hb e1
  obtain ⟨A4, c4, rfl, -, -⟩ := row_form (H.row 5 rfl)
  rw [show errI 256 = 0 from rfl]
  go_wp2_with fail
  refine (unhex_s _ 32 rfl (by omega) w4).mono ?_
  rintro e w5 ⟨v5, rfl, ho, hb⟩
  rw [HA.out] at ho
  replace H := (H.pushRow 6 rfl hb ho).push_mk rfl
  clear ho hb
  obtain ⟨A5, c5, rfl, -, -⟩ := row_form (H.row 6 rfl)
  go_wp2_with fail
  refine (sameBytes_yes A1 A5 32 32 c1 c5 vA vA _ (H.rd 1 rfl) (H.rd 6 rfl) (by omega) (by omega) rfl).mono ?_
  rintro e w6 ⟨rfl, hb⟩
  replace H := H.call hb
  clear hb
  go_wp2_with fail
  refine (unhex_s _ 32 rfl (by omega) w6).mono ?_
  rintro e w7 ⟨v7, rfl, ho, hb⟩
  rw [HB.out] at ho
  replace H := (H.pushRow 7 rfl hb ho).push_mk rfl
  clear ho hb
  obtain ⟨A7, c7, rfl, -, -⟩ := row_form (H.row 7 rfl)
  go_wp2_with fail
  refine (sameBytes_yes A3 A7 32 32 c3 c7 vB vB _ (H.rd 4 rfl) (H.rd 7 rfl) (by omega) (by omega) rfl).mono ?_
  rintro e w8 ⟨rfl, hb⟩
  replace H := H.call hb
  clear hb
  go_wp2_with fail
  refine absorb_calls (H.allocAt 8 rfl w8.heap.size rfl _ _ |>.push_mk rfl) ?_
  clear H
  intro w9 H
  generalize w8.heap.size = g9 at H ⊢
  refine (sameBytes_yes A4 (some ⟨g9, 0, none⟩) 3 3 c4 3 [2, 1, 0] [2, 1, 0] _ (H.rd 5 rfl) (H.rdBlk 8 rfl 1 3 rfl) (by omega) (by omega) rfl).mono ?_
  rintro e wa ⟨rfl, hb⟩
  replace H := H.call hb
  clear hb
  go_wp2
  go_ret
  exact ⟨rfl, H.below⟩
end Go.Proofs.Ythdfbnababmanaa

namespace Go.Proofs.Ythdfbnababmanaa
open Go.RowKit
set_option linter.unusedVariables false
set_option maxRecDepth 100000

theorem shBegin_no (l : Value) (S : Int) (v1 v2 : Value) (hS : S ≠ 128 ∧ S ≠ 256) (w : World) :
    Calls Try.prog 25 #[l, .int .i64 S, v1, v2] w fun e w' => e = .returned (.tuple #[.pointer none, .int .i64 2]) ∧ w = w' := by
  have e1 : (S == 128) = false := by simp; omega
  have e2 : (S == 256) = false := by simp; omega
  have hr : Calls Try.prog 55 #[.int .i64 S] w fun e w' => e = .returned (.int .i64 0) ∧ w = w' := by
    clear hS
    go_enter Try.func55, Try.ntmps55
    go_wp2
    go_ret
    exact ⟨rfl, rfl⟩
  have HR := Lib.hid hr
  clear hr hS
  go_enter Try.func25, Try.ntmps25
  go_wp2_with fail
  refine HR.out.mono ?_
  rintro e w1 ⟨rfl, rfl⟩
  go_wp2
  go_ret2
  exact ⟨rfl, rfl⟩

theorem rhBegin_no (l : Value) (S : Int) (v1 v2 : Value) (hS : S ≠ 128 ∧ S ≠ 256) (w : World) :
    Calls Try.prog 26 #[l, .int .i64 S, v1, v2] w fun e w' => e = .returned (.tuple #[.pointer none, .int .i64 2]) ∧ w = w' := by
  have e1 : (S != 128) = true := by simp; omega
  have e2 : (S != 256) = true := by simp; omega
  clear hS
  go_enter Try.func26, Try.ntmps26
  go_wp2
  go_ret2
  exact ⟨rfl, rfl⟩
end Go.Proofs.Ythdfbnababmanaa

namespace Go.Proofs.Ythdfbnababmanaa
open Go.RowKit
set_option linter.unusedVariables false
set_option maxRecDepth 100000

theorem l_255 : leftB 255 = [1, 255] := by unfold leftB; rw [numB_small (by decide)]; rfl
theorem l_s {n : Nat} (h : n < 256) : leftB n = [1, UInt8.ofNat n] := by
  unfold leftB; rw [numB_small (by omega), Nat.mod_eq_of_lt h]; rfl
theorem r_0 : rightI 0 = [0, 1] := by
  show rightB 0 = _
  unfold rightB; rw [numB_small (by decide)]; rfl
theorem r_256 : rightI 256 = [1, 0, 2] := by
  show rightB 256 = _
  unfold rightB; rw [numB_big (by decide), show (256 : Nat) / 256 = 1 from rfl, numB_small (by decide)]; rfl
theorem p_4 : padI [7, 7] 4 = [1, 4, 7, 7] := by
  show padB [7, 7] 4 = _
  unfold padB padN; rw [l_s (by decide)]; rfl
theorem p_5 : padI [7, 7, 7] 5 = [1, 5, 7, 7, 7] := by
  show padB [7, 7, 7] 5 = _
  unfold padB padN; rw [l_s (by decide)]; rfl
theorem p_1 : padI [] 1 = [1, 1] := by
  show padB [] 1 = _
  unfold padB padN; rw [l_s (by decide)]; rfl
theorem p_0 : padI [] 0 = [] := rfl
theorem p_257 : padI [] 257 = [] := rfl
theorem s_0 : strB [] = [1, 0] := by
  unfold strB; rw [show 8 * ([] : List UInt8).length = 0 from rfl, left_0]; rfl
theorem s_a : strB [97] = [1, 8, 97] := by
  unfold strB; rw [show 8 * ([97] : List UInt8).length = 8 from rfl, l_s (by decide)]; rfl
def vS : List UInt8 := [0x46, 0xb9, 0xdd, 0x2b, 0x0b, 0xa8, 0x8d, 0x13]
theorem v_S : toldB 136 [] [] [] 8 = vS := by decide +kernel
theorem hex_S : hexTo (ByteArray.mk #[52, 54, 98, 57, 100, 100, 50, 98, 48, 98, 97, 56, 56, 100, 49, 51] : ByteArray).data.toList 8 = vS := by decide +kernel
theorem begW_0 (r : Nat) : begW r [] [] = 0 := rfl
theorem n_1 : toldN 136 [] [] [] 8 = 1 := by rw [toldN_W _ _ _ _ (by omega)]; rfl
theorem n_2 : toldN 136 [] [] [] 137 = 2 := by rw [toldN_W _ _ _ _ (by omega)]; rfl
theorem n_3 (q : List UInt8) (h : q.length = 168) : toldN 168 [] [] q 0 = 2 := by rw [toldN_W _ _ _ _ (by omega), h]; rfl
theorem n_4 : toldN 168 [] [] [] 168 = 1 := by rw [toldN_W _ _ _ _ (by omega)]; rfl
theorem n_5 : toldN 168 [] [] [] 169 = 2 := by rw [toldN_W _ _ _ _ (by omega)]; rfl

attribute [local irreducible] permB kBytes kPerm kFrom toldB

set_option maxHeartbeats 16000000 in
theorem shakeNames_walk (w : World) : Calls Try.prog 8 #[] w fun e w' => e = .returned (.bool true) ∧ Below w.heap.size w w' := by
  have HS := Lib.hid hex_S
  have hcv := fun (w : World) (C : Array Value) (n c : Nat) => Lib.run_convert_bytes_const (P := Try.prog) w 22 5 C n c Try.underlying22 Try.underlying5
  obtain ⟨i0, hi0, hz0, hz1, hz2⟩ := info_parts u8_info
  have HI := Lib.hid (⟨hi0, hz0, hz1, hz2⟩ : _ ∧ _ ∧ _ ∧ _)
  clear hi0 hz0 hz1 hz2
  go_enter Try.func8, Try.ntmps8
  go_upto_region 4 with fail
  refine absorb_wp (St.start_lay w [] |>.allocAt 0 rfl w.heap.size rfl _ _ |>.push_mk rfl |>.allocAt 1 rfl (w.heap.size + 1) (by simp) _ _ |>.push_mk rfl |>.allocAt 2 rfl (w.heap.size + 2) (by simp) _ _ |>.push_mk rfl |>.allocAt 3 rfl (w.heap.size + 3) (by simp) _ _ |>.push_mk rfl |>.allocAt 4 rfl (w.heap.size + 4) (by simp) _ _ |>.push_mk rfl) ?_
  intro w1 H
  generalize w.heap.size + 4 = g4 at H ⊢
  generalize w.heap.size + 3 = g3 at H ⊢
  generalize w.heap.size + 2 = g2 at H ⊢
  generalize w.heap.size + 1 = g1 at H ⊢
  generalize w.heap.size = g0 at H ⊢
  replace H : St w [] w1 (lay [.blk g0 5 (([1, 0] : List UInt8).map vb), .blk g1 5 (([1, 255] : List UInt8).map vb), .blk g2 5 (([2, 1, 0] : List UInt8).map vb), .blk g3 22 [.slice (some ⟨g0, 0, none⟩) 2 2, .slice (some ⟨g1, 0, none⟩) 2 2, .slice (some ⟨g2, 0, none⟩) 3 3], .blk g4 3 [.int .i64 0, .int .i64 255, .int .i64 256]]) := H
  go_wp2
  go_loopw [4] (fun i wr => ∃ k : Nat, k ≤ 3 ∧ i = .int .i64 k ∧ St w [] wr (lay [.blk g0 5 (([1, 0] : List UInt8).map vb), .blk g1 5 (([1, 255] : List UInt8).map vb), .blk g2 5 (([2, 1, 0] : List UInt8).map vb), .blk g3 22 [.slice (some ⟨g0, 0, none⟩) 2 2, .slice (some ⟨g1, 0, none⟩) 2 2, .slice (some ⟨g2, 0, none⟩) 3 3], .blk g4 3 [.int .i64 0, .int .i64 255, .int .i64 256]])) (fun i _ => 3 - (intOf i).toNat)
  case atStart => exact ⟨0, by omega, rfl, H⟩
  case round =>
    clear H
    obtain ⟨k, hk, rfl, H⟩ := hrel
    have hk4 : k = 0 ∨ k = 1 ∨ k = 2 ∨ k = 3 := by omega
    rcases hk4 with rfl | rfl | rfl | rfl
    · rw [show ((0 : Nat) : Int) = 0 from rfl]
      have c4 := H.cell 4 rfl (o := 0) rfl
      have c3 := H.cell 3 rfl (o := 0) rfl
      go_wp2_with fail
      refine (left_s 0 _ (by omega)).mono ?_
      rintro e wa ⟨va, rfl, ho, hb⟩
      rw [show leftI 0 = [1, 0] from left_0] at ho
      replace H := (H.pushRow 5 rfl hb ho).push_mk rfl
      clear ho hb c3 c4
      rw [show errI 0 = 0 from rfl]
      obtain ⟨Aa, ca, rfl, -, -⟩ := row_form (H.row 5 rfl)
      have c3 := H.cell 3 rfl (o := 0) rfl
      go_wp2_with fail
      refine (sameBytes_yes Aa (some ⟨g0, 0, none⟩) 2 2 ca 2 [1, 0] [1, 0] _ (H.rd 5 rfl) (H.rdBlk 0 rfl 1 2 rfl) (by omega) (by omega) rfl).mono ?_
      rintro e wb ⟨rfl, hb⟩
      replace H := (H.call hb).front 5
      clear hb c3
      replace H : St w [] wb (lay [.blk g0 5 (([1, 0] : List UInt8).map vb), .blk g1 5 (([1, 255] : List UInt8).map vb), .blk g2 5 (([2, 1, 0] : List UInt8).map vb), .blk g3 22 [.slice (some ⟨g0, 0, none⟩) 2 2, .slice (some ⟨g1, 0, none⟩) 2 2, .slice (some ⟨g2, 0, none⟩) 3 3], .blk g4 3 [.int .i64 0, .int .i64 255, .int .i64 256]]) := H
      go_wp2
      go_roundw
      case rel => exact ⟨1, by omega, by first | rfl | go_num, H⟩
      case measure => simp [intOf]
    · rw [show ((1 : Nat) : Int) = 1 from rfl]
      have c4 := H.cell 4 rfl (o := 1) rfl
      have c3 := H.cell 3 rfl (o := 1) rfl
      go_wp2_with fail
      refine (left_s 255 _ (by omega)).mono ?_
      rintro e wa ⟨va, rfl, ho, hb⟩
      rw [show leftI 255 = [1, 255] from l_255] at ho
      replace H := (H.pushRow 5 rfl hb ho).push_mk rfl
      clear ho hb c3 c4
      rw [show errI 255 = 0 from rfl]
      obtain ⟨Aa, ca, rfl, -, -⟩ := row_form (H.row 5 rfl)
      have c3 := H.cell 3 rfl (o := 1) rfl
      go_wp2_with fail
      refine (sameBytes_yes Aa (some ⟨g1, 0, none⟩) 2 2 ca 2 [1, 255] [1, 255] _ (H.rd 5 rfl) (H.rdBlk 1 rfl 1 2 rfl) (by omega) (by omega) rfl).mono ?_
      rintro e wb ⟨rfl, hb⟩
      replace H := (H.call hb).front 5
      clear hb c3
      replace H : St w [] wb (lay [.blk g0 5 (([1, 0] : List UInt8).map vb), .blk g1 5 (([1, 255] : List UInt8).map vb), .blk g2 5 (([2, 1, 0] : List UInt8).map vb), .blk g3 22 [.slice (some ⟨g0, 0, none⟩) 2 2, .slice (some ⟨g1, 0, none⟩) 2 2, .slice (some ⟨g2, 0, none⟩) 3 3], .blk g4 3 [.int .i64 0, .int .i64 255, .int .i64 256]]) := H
      go_wp2
      go_roundw
      case rel => exact ⟨2, by omega, by first | rfl | go_num, H⟩
      case measure => simp [intOf]
    · rw [show ((2 : Nat) : Int) = 2 from rfl]
      have c4 := H.cell 4 rfl (o := 2) rfl
      have c3 := H.cell 3 rfl (o := 2) rfl
      go_wp2_with fail
      refine (left_s 256 _ (by omega)).mono ?_
      rintro e wa ⟨va, rfl, ho, hb⟩
      rw [show leftI 256 = [2, 1, 0] from left_256] at ho
      replace H := (H.pushRow 5 rfl hb ho).push_mk rfl
      clear ho hb c3 c4
      rw [show errI 256 = 0 from rfl]
      obtain ⟨Aa, ca, rfl, -, -⟩ := row_form (H.row 5 rfl)
      have c3 := H.cell 3 rfl (o := 2) rfl
      go_wp2_with fail
      refine (sameBytes_yes Aa (some ⟨g2, 0, none⟩) 3 3 ca 3 [2, 1, 0] [2, 1, 0] _ (H.rd 5 rfl) (H.rdBlk 2 rfl 1 3 rfl) (by omega) (by omega) rfl).mono ?_
      rintro e wb ⟨rfl, hb⟩
      replace H := (H.call hb).front 5
      clear hb c3
      replace H : St w [] wb (lay [.blk g0 5 (([1, 0] : List UInt8).map vb), .blk g1 5 (([1, 255] : List UInt8).map vb), .blk g2 5 (([2, 1, 0] : List UInt8).map vb), .blk g3 22 [.slice (some ⟨g0, 0, none⟩) 2 2, .slice (some ⟨g1, 0, none⟩) 2 2, .slice (some ⟨g2, 0, none⟩) 3 3], .blk g4 3 [.int .i64 0, .int .i64 255, .int .i64 256]]) := H
      go_wp2
      go_roundw
      case rel => exact ⟨3, by omega, by first | rfl | go_num, H⟩
      case measure => simp [intOf]
    · rw [show ((3 : Nat) : Int) = 3 from rfl]
      replace H := H.front 0
      replace H : St w [] wr (lay []) := H
      go_wp2_with fail
      refine (left_s (-1) _ (by omega)).mono ?_
      rintro e wam ⟨vm, rfl, ho, hb⟩
      rw [show leftI (-1) = [] from rfl] at ho
      replace H := (H.pushRow 0 rfl hb ho).push_mk rfl
      clear ho hb
      obtain ⟨Am, cm, rfl, -, -⟩ := row_form (H.row 0 rfl)
      replace H : St w [] wam (lay [.row 5 1 (.slice Am 0 cm) 0 (([] : List UInt8).map vb)]) := H
      rw [show errI (-1) = 2 from rfl]
      go_wp2_with fail
      refine (right_s 0 _ (by omega)).mono ?_
      rintro e waz ⟨vz, rfl, ho, hb⟩
      rw [r_0] at ho
      replace H := (H.pushRow 1 rfl hb ho).push_mk rfl
      clear ho hb
      obtain ⟨Az, cz, rfl, -, -⟩ := row_form (H.row 1 rfl)
      replace H : St w [] waz (lay [.row 5 1 (.slice Am 0 cm) 0 (([] : List UInt8).map vb), .row 5 1 (.slice Az 2 cz) 2 (([0, 1] : List UInt8).map vb)]) := H
      rw [show errI 0 = 0 from rfl]
      go_wp2_with fail
      refine (right_s 256 _ (by omega)).mono ?_
      rintro e wab ⟨vb, rfl, ho, hb⟩
      rw [r_256] at ho
      replace H := (H.pushRow 2 rfl hb ho).push_mk rfl
      clear ho hb
      obtain ⟨Ab, cb, rfl, -, -⟩ := row_form (H.row 2 rfl)
      replace H : St w [] wab (lay [.row 5 1 (.slice Am 0 cm) 0 (([] : List UInt8).map vb), .row 5 1 (.slice Az 2 cz) 2 (([0, 1] : List UInt8).map vb), .row 5 1 (.slice Ab 3 cb) 3 (([1, 0, 2] : List UInt8).map vb)]) := H
      rw [show errI 256 = 0 from rfl]
      go_wp2_with fail
      refine absorb_calls (H.allocAt 3 rfl wab.heap.size rfl _ _ |>.push_mk rfl) ?_
      clear H
      intro wq1 H
      generalize wab.heap.size = gq1 at H ⊢
      replace H : St w [] wq1 (lay [.row 5 1 (.slice Am 0 cm) 0 (([] : List UInt8).map vb), .row 5 1 (.slice Az 2 cz) 2 (([0, 1] : List UInt8).map vb), .row 5 1 (.slice Ab 3 cb) 3 (([1, 0, 2] : List UInt8).map vb), .blk gq1 5 (([7, 7] : List UInt8).map vb)]) := H
      refine (pad_s (some ⟨gq1, 0, none⟩) 2 2 [7, 7] 4 _ (H.rdBlk 3 rfl 1 2 rfl) (by omega)).mono ?_
      rintro e wapa ⟨vpa, rfl, ho, hb⟩
      rw [p_4] at ho
      replace H := (H.pushRow 4 rfl hb ho).push_mk rfl
      clear ho hb
      obtain ⟨Apa, cpa, rfl, -, -⟩ := row_form (H.row 4 rfl)
      replace H : St w [] wapa (lay [.row 5 1 (.slice Am 0 cm) 0 (([] : List UInt8).map vb), .row 5 1 (.slice Az 2 cz) 2 (([0, 1] : List UInt8).map vb), .row 5 1 (.slice Ab 3 cb) 3 (([1, 0, 2] : List UInt8).map vb), .blk gq1 5 (([7, 7] : List UInt8).map vb), .row 5 1 (.slice Apa 4 cpa) 4 (([1, 4, 7, 7] : List UInt8).map vb)]) := H
      rw [show padE 4 = 0 from rfl]
      go_wp2_with fail
      refine absorb_calls (H.allocAt 5 rfl wapa.heap.size rfl _ _ |>.push_mk rfl) ?_
      clear H
      intro wq2 H
      generalize wapa.heap.size = gq2 at H ⊢
      replace H : St w [] wq2 (lay [.row 5 1 (.slice Am 0 cm) 0 (([] : List UInt8).map vb), .row 5 1 (.slice Az 2 cz) 2 (([0, 1] : List UInt8).map vb), .row 5 1 (.slice Ab 3 cb) 3 (([1, 0, 2] : List UInt8).map vb), .blk gq1 5 (([7, 7] : List UInt8).map vb), .row 5 1 (.slice Apa 4 cpa) 4 (([1, 4, 7, 7] : List UInt8).map vb), .blk gq2 5 (([7, 7, 7] : List UInt8).map vb)]) := H
      refine (pad_s (some ⟨gq2, 0, none⟩) 3 3 [7, 7, 7] 5 _ (H.rdBlk 5 rfl 1 3 rfl) (by omega)).mono ?_
      rintro e wapb ⟨vpb, rfl, ho, hb⟩
      rw [p_5] at ho
      replace H := (H.pushRow 6 rfl hb ho).push_mk rfl
      clear ho hb
      obtain ⟨Apb, cpb, rfl, -, -⟩ := row_form (H.row 6 rfl)
      replace H : St w [] wapb (lay [.row 5 1 (.slice Am 0 cm) 0 (([] : List UInt8).map vb), .row 5 1 (.slice Az 2 cz) 2 (([0, 1] : List UInt8).map vb), .row 5 1 (.slice Ab 3 cb) 3 (([1, 0, 2] : List UInt8).map vb), .blk gq1 5 (([7, 7] : List UInt8).map vb), .row 5 1 (.slice Apa 4 cpa) 4 (([1, 4, 7, 7] : List UInt8).map vb), .blk gq2 5 (([7, 7, 7] : List UInt8).map vb), .row 5 1 (.slice Apb 5 cpb) 5 (([1, 5, 7, 7, 7] : List UInt8).map vb)]) := H
      rw [show padE 5 = 0 from rfl]
      go_wp2_with fail
      refine (pad_s none 0 0 [] 1 _ Rd.none_ (by omega)).mono ?_
      rintro e wapc ⟨vpc, rfl, ho, hb⟩
      rw [p_1] at ho
      replace H := (H.pushRow 7 rfl hb ho).push_mk rfl
      clear ho hb
      obtain ⟨Apc, cpc, rfl, -, -⟩ := row_form (H.row 7 rfl)
      replace H : St w [] wapc (lay [.row 5 1 (.slice Am 0 cm) 0 (([] : List UInt8).map vb), .row 5 1 (.slice Az 2 cz) 2 (([0, 1] : List UInt8).map vb), .row 5 1 (.slice Ab 3 cb) 3 (([1, 0, 2] : List UInt8).map vb), .blk gq1 5 (([7, 7] : List UInt8).map vb), .row 5 1 (.slice Apa 4 cpa) 4 (([1, 4, 7, 7] : List UInt8).map vb), .blk gq2 5 (([7, 7, 7] : List UInt8).map vb), .row 5 1 (.slice Apb 5 cpb) 5 (([1, 5, 7, 7, 7] : List UInt8).map vb), .row 5 1 (.slice Apc 2 cpc) 2 (([1, 1] : List UInt8).map vb)]) := H
      rw [show padE 1 = 0 from rfl]
      go_wp2_with fail
      refine (pad_s none 0 0 [] 0 _ Rd.none_ (by omega)).mono ?_
      rintro e wapd ⟨vpd, rfl, ho, hb⟩
      rw [p_0] at ho
      replace H := (H.pushRow 8 rfl hb ho).push_mk rfl
      clear ho hb
      obtain ⟨Apd, cpd, rfl, -, -⟩ := row_form (H.row 8 rfl)
      replace H : St w [] wapd (lay [.row 5 1 (.slice Am 0 cm) 0 (([] : List UInt8).map vb), .row 5 1 (.slice Az 2 cz) 2 (([0, 1] : List UInt8).map vb), .row 5 1 (.slice Ab 3 cb) 3 (([1, 0, 2] : List UInt8).map vb), .blk gq1 5 (([7, 7] : List UInt8).map vb), .row 5 1 (.slice Apa 4 cpa) 4 (([1, 4, 7, 7] : List UInt8).map vb), .blk gq2 5 (([7, 7, 7] : List UInt8).map vb), .row 5 1 (.slice Apb 5 cpb) 5 (([1, 5, 7, 7, 7] : List UInt8).map vb), .row 5 1 (.slice Apc 2 cpc) 2 (([1, 1] : List UInt8).map vb), .row 5 1 (.slice Apd 0 cpd) 0 (([] : List UInt8).map vb)]) := H
      rw [show padE 0 = 2 from rfl]
      go_wp2_with fail
      refine (pad_s none 0 0 [] 257 _ Rd.none_ (by omega)).mono ?_
      rintro e wape ⟨vpe, rfl, ho, hb⟩
      rw [p_257] at ho
      replace H := (H.pushRow 9 rfl hb ho).push_mk rfl
      clear ho hb
      obtain ⟨Ape, cpe, rfl, -, -⟩ := row_form (H.row 9 rfl)
      replace H : St w [] wape (lay [.row 5 1 (.slice Am 0 cm) 0 (([] : List UInt8).map vb), .row 5 1 (.slice Az 2 cz) 2 (([0, 1] : List UInt8).map vb), .row 5 1 (.slice Ab 3 cb) 3 (([1, 0, 2] : List UInt8).map vb), .blk gq1 5 (([7, 7] : List UInt8).map vb), .row 5 1 (.slice Apa 4 cpa) 4 (([1, 4, 7, 7] : List UInt8).map vb), .blk gq2 5 (([7, 7, 7] : List UInt8).map vb), .row 5 1 (.slice Apb 5 cpb) 5 (([1, 5, 7, 7, 7] : List UInt8).map vb), .row 5 1 (.slice Apc 2 cpc) 2 (([1, 1] : List UInt8).map vb), .row 5 1 (.slice Apd 0 cpd) 0 (([] : List UInt8).map vb), .row 5 1 (.slice Ape 0 cpe) 0 (([] : List UInt8).map vb)]) := H
      rw [show padE 257 = 2 from rfl]
      go_wp2_with fail
      refine absorb_calls (H.allocAt 10 rfl wape.heap.size rfl _ _ |>.push_mk rfl) ?_
      clear H
      intro wq3 H
      generalize wape.heap.size = gq3 at H ⊢
      replace H : St w [] wq3 (lay [.row 5 1 (.slice Am 0 cm) 0 (([] : List UInt8).map vb), .row 5 1 (.slice Az 2 cz) 2 (([0, 1] : List UInt8).map vb), .row 5 1 (.slice Ab 3 cb) 3 (([1, 0, 2] : List UInt8).map vb), .blk gq1 5 (([7, 7] : List UInt8).map vb), .row 5 1 (.slice Apa 4 cpa) 4 (([1, 4, 7, 7] : List UInt8).map vb), .blk gq2 5 (([7, 7, 7] : List UInt8).map vb), .row 5 1 (.slice Apb 5 cpb) 5 (([1, 5, 7, 7, 7] : List UInt8).map vb), .row 5 1 (.slice Apc 2 cpc) 2 (([1, 1] : List UInt8).map vb), .row 5 1 (.slice Apd 0 cpd) 0 (([] : List UInt8).map vb), .row 5 1 (.slice Ape 0 cpe) 0 (([] : List UInt8).map vb), .blk gq3 5 (([0, 1] : List UInt8).map vb)]) := H
      refine (sameBytes_yes Az (some ⟨gq3, 0, none⟩) 2 2 cz 2 [0, 1] [0, 1] _ (H.rd 1 rfl) (H.rdBlk 10 rfl 1 2 rfl) (by omega) (by omega) rfl).mono ?_
      rintro e wbgq3 ⟨rfl, hb⟩
      replace H := (H.call hb).front 10
      clear hb
      replace H : St w [] wbgq3 (lay [.row 5 1 (.slice Am 0 cm) 0 (([] : List UInt8).map vb), .row 5 1 (.slice Az 2 cz) 2 (([0, 1] : List UInt8).map vb), .row 5 1 (.slice Ab 3 cb) 3 (([1, 0, 2] : List UInt8).map vb), .blk gq1 5 (([7, 7] : List UInt8).map vb), .row 5 1 (.slice Apa 4 cpa) 4 (([1, 4, 7, 7] : List UInt8).map vb), .blk gq2 5 (([7, 7, 7] : List UInt8).map vb), .row 5 1 (.slice Apb 5 cpb) 5 (([1, 5, 7, 7, 7] : List UInt8).map vb), .row 5 1 (.slice Apc 2 cpc) 2 (([1, 1] : List UInt8).map vb), .row 5 1 (.slice Apd 0 cpd) 0 (([] : List UInt8).map vb), .row 5 1 (.slice Ape 0 cpe) 0 (([] : List UInt8).map vb)]) := H
      go_wp2_with fail
      refine absorb_calls (H.allocAt 10 rfl wbgq3.heap.size rfl _ _ |>.push_mk rfl) ?_
      clear H
      intro wq4 H
      generalize wbgq3.heap.size = gq4 at H ⊢
      replace H : St w [] wq4 (lay [.row 5 1 (.slice Am 0 cm) 0 (([] : List UInt8).map vb), .row 5 1 (.slice Az 2 cz) 2 (([0, 1] : List UInt8).map vb), .row 5 1 (.slice Ab 3 cb) 3 (([1, 0, 2] : List UInt8).map vb), .blk gq1 5 (([7, 7] : List UInt8).map vb), .row 5 1 (.slice Apa 4 cpa) 4 (([1, 4, 7, 7] : List UInt8).map vb), .blk gq2 5 (([7, 7, 7] : List UInt8).map vb), .row 5 1 (.slice Apb 5 cpb) 5 (([1, 5, 7, 7, 7] : List UInt8).map vb), .row 5 1 (.slice Apc 2 cpc) 2 (([1, 1] : List UInt8).map vb), .row 5 1 (.slice Apd 0 cpd) 0 (([] : List UInt8).map vb), .row 5 1 (.slice Ape 0 cpe) 0 (([] : List UInt8).map vb), .blk gq4 5 (([1, 0, 2] : List UInt8).map vb)]) := H
      refine (sameBytes_yes Ab (some ⟨gq4, 0, none⟩) 3 3 cb 3 [1, 0, 2] [1, 0, 2] _ (H.rd 2 rfl) (H.rdBlk 10 rfl 1 3 rfl) (by omega) (by omega) rfl).mono ?_
      rintro e wbgq4 ⟨rfl, hb⟩
      replace H := (H.call hb).front 10
      clear hb
      replace H : St w [] wbgq4 (lay [.row 5 1 (.slice Am 0 cm) 0 (([] : List UInt8).map vb), .row 5 1 (.slice Az 2 cz) 2 (([0, 1] : List UInt8).map vb), .row 5 1 (.slice Ab 3 cb) 3 (([1, 0, 2] : List UInt8).map vb), .blk gq1 5 (([7, 7] : List UInt8).map vb), .row 5 1 (.slice Apa 4 cpa) 4 (([1, 4, 7, 7] : List UInt8).map vb), .blk gq2 5 (([7, 7, 7] : List UInt8).map vb), .row 5 1 (.slice Apb 5 cpb) 5 (([1, 5, 7, 7, 7] : List UInt8).map vb), .row 5 1 (.slice Apc 2 cpc) 2 (([1, 1] : List UInt8).map vb), .row 5 1 (.slice Apd 0 cpd) 0 (([] : List UInt8).map vb), .row 5 1 (.slice Ape 0 cpe) 0 (([] : List UInt8).map vb)]) := H
      go_wp2_with fail
      refine absorb_calls (H.allocAt 10 rfl wbgq4.heap.size rfl _ _ |>.push_mk rfl) ?_
      clear H
      intro wq5 H
      generalize wbgq4.heap.size = gq5 at H ⊢
      replace H : St w [] wq5 (lay [.row 5 1 (.slice Am 0 cm) 0 (([] : List UInt8).map vb), .row 5 1 (.slice Az 2 cz) 2 (([0, 1] : List UInt8).map vb), .row 5 1 (.slice Ab 3 cb) 3 (([1, 0, 2] : List UInt8).map vb), .blk gq1 5 (([7, 7] : List UInt8).map vb), .row 5 1 (.slice Apa 4 cpa) 4 (([1, 4, 7, 7] : List UInt8).map vb), .blk gq2 5 (([7, 7, 7] : List UInt8).map vb), .row 5 1 (.slice Apb 5 cpb) 5 (([1, 5, 7, 7, 7] : List UInt8).map vb), .row 5 1 (.slice Apc 2 cpc) 2 (([1, 1] : List UInt8).map vb), .row 5 1 (.slice Apd 0 cpd) 0 (([] : List UInt8).map vb), .row 5 1 (.slice Ape 0 cpe) 0 (([] : List UInt8).map vb), .blk gq5 5 (([1, 4, 7, 7] : List UInt8).map vb)]) := H
      refine (sameBytes_yes Apa (some ⟨gq5, 0, none⟩) 4 4 cpa 4 [1, 4, 7, 7] [1, 4, 7, 7] _ (H.rd 4 rfl) (H.rdBlk 10 rfl 1 4 rfl) (by omega) (by omega) rfl).mono ?_
      rintro e wbgq5 ⟨rfl, hb⟩
      replace H := (H.call hb).front 10
      clear hb
      replace H : St w [] wbgq5 (lay [.row 5 1 (.slice Am 0 cm) 0 (([] : List UInt8).map vb), .row 5 1 (.slice Az 2 cz) 2 (([0, 1] : List UInt8).map vb), .row 5 1 (.slice Ab 3 cb) 3 (([1, 0, 2] : List UInt8).map vb), .blk gq1 5 (([7, 7] : List UInt8).map vb), .row 5 1 (.slice Apa 4 cpa) 4 (([1, 4, 7, 7] : List UInt8).map vb), .blk gq2 5 (([7, 7, 7] : List UInt8).map vb), .row 5 1 (.slice Apb 5 cpb) 5 (([1, 5, 7, 7, 7] : List UInt8).map vb), .row 5 1 (.slice Apc 2 cpc) 2 (([1, 1] : List UInt8).map vb), .row 5 1 (.slice Apd 0 cpd) 0 (([] : List UInt8).map vb), .row 5 1 (.slice Ape 0 cpe) 0 (([] : List UInt8).map vb)]) := H
      go_wp2_with fail
      refine absorb_calls (H.allocAt 10 rfl wbgq5.heap.size rfl _ _ |>.push_mk rfl) ?_
      clear H
      intro wq6 H
      generalize wbgq5.heap.size = gq6 at H ⊢
      replace H : St w [] wq6 (lay [.row 5 1 (.slice Am 0 cm) 0 (([] : List UInt8).map vb), .row 5 1 (.slice Az 2 cz) 2 (([0, 1] : List UInt8).map vb), .row 5 1 (.slice Ab 3 cb) 3 (([1, 0, 2] : List UInt8).map vb), .blk gq1 5 (([7, 7] : List UInt8).map vb), .row 5 1 (.slice Apa 4 cpa) 4 (([1, 4, 7, 7] : List UInt8).map vb), .blk gq2 5 (([7, 7, 7] : List UInt8).map vb), .row 5 1 (.slice Apb 5 cpb) 5 (([1, 5, 7, 7, 7] : List UInt8).map vb), .row 5 1 (.slice Apc 2 cpc) 2 (([1, 1] : List UInt8).map vb), .row 5 1 (.slice Apd 0 cpd) 0 (([] : List UInt8).map vb), .row 5 1 (.slice Ape 0 cpe) 0 (([] : List UInt8).map vb), .blk gq6 5 (([1, 5, 7, 7, 7] : List UInt8).map vb)]) := H
      refine (sameBytes_yes Apb (some ⟨gq6, 0, none⟩) 5 5 cpb 5 [1, 5, 7, 7, 7] [1, 5, 7, 7, 7] _ (H.rd 6 rfl) (H.rdBlk 10 rfl 1 5 rfl) (by omega) (by omega) rfl).mono ?_
      rintro e wbgq6 ⟨rfl, hb⟩
      replace H := (H.call hb).front 10
      clear hb
      replace H : St w [] wbgq6 (lay [.row 5 1 (.slice Am 0 cm) 0 (([] : List UInt8).map vb), .row 5 1 (.slice Az 2 cz) 2 (([0, 1] : List UInt8).map vb), .row 5 1 (.slice Ab 3 cb) 3 (([1, 0, 2] : List UInt8).map vb), .blk gq1 5 (([7, 7] : List UInt8).map vb), .row 5 1 (.slice Apa 4 cpa) 4 (([1, 4, 7, 7] : List UInt8).map vb), .blk gq2 5 (([7, 7, 7] : List UInt8).map vb), .row 5 1 (.slice Apb 5 cpb) 5 (([1, 5, 7, 7, 7] : List UInt8).map vb), .row 5 1 (.slice Apc 2 cpc) 2 (([1, 1] : List UInt8).map vb), .row 5 1 (.slice Apd 0 cpd) 0 (([] : List UInt8).map vb), .row 5 1 (.slice Ape 0 cpe) 0 (([] : List UInt8).map vb)]) := H
      go_wp2_with fail
      refine absorb_calls (H.allocAt 10 rfl wbgq6.heap.size rfl _ _ |>.push_mk rfl) ?_
      clear H
      intro wq7 H
      generalize wbgq6.heap.size = gq7 at H ⊢
      replace H : St w [] wq7 (lay [.row 5 1 (.slice Am 0 cm) 0 (([] : List UInt8).map vb), .row 5 1 (.slice Az 2 cz) 2 (([0, 1] : List UInt8).map vb), .row 5 1 (.slice Ab 3 cb) 3 (([1, 0, 2] : List UInt8).map vb), .blk gq1 5 (([7, 7] : List UInt8).map vb), .row 5 1 (.slice Apa 4 cpa) 4 (([1, 4, 7, 7] : List UInt8).map vb), .blk gq2 5 (([7, 7, 7] : List UInt8).map vb), .row 5 1 (.slice Apb 5 cpb) 5 (([1, 5, 7, 7, 7] : List UInt8).map vb), .row 5 1 (.slice Apc 2 cpc) 2 (([1, 1] : List UInt8).map vb), .row 5 1 (.slice Apd 0 cpd) 0 (([] : List UInt8).map vb), .row 5 1 (.slice Ape 0 cpe) 0 (([] : List UInt8).map vb), .blk gq7 5 (([1, 1] : List UInt8).map vb)]) := H
      refine (sameBytes_yes Apc (some ⟨gq7, 0, none⟩) 2 2 cpc 2 [1, 1] [1, 1] _ (H.rd 7 rfl) (H.rdBlk 10 rfl 1 2 rfl) (by omega) (by omega) rfl).mono ?_
      rintro e wbgq7 ⟨rfl, hb⟩
      replace H := (H.call hb).front 10
      clear hb
      replace H : St w [] wbgq7 (lay [.row 5 1 (.slice Am 0 cm) 0 (([] : List UInt8).map vb), .row 5 1 (.slice Az 2 cz) 2 (([0, 1] : List UInt8).map vb), .row 5 1 (.slice Ab 3 cb) 3 (([1, 0, 2] : List UInt8).map vb), .blk gq1 5 (([7, 7] : List UInt8).map vb), .row 5 1 (.slice Apa 4 cpa) 4 (([1, 4, 7, 7] : List UInt8).map vb), .blk gq2 5 (([7, 7, 7] : List UInt8).map vb), .row 5 1 (.slice Apb 5 cpb) 5 (([1, 5, 7, 7, 7] : List UInt8).map vb), .row 5 1 (.slice Apc 2 cpc) 2 (([1, 1] : List UInt8).map vb), .row 5 1 (.slice Apd 0 cpd) 0 (([] : List UInt8).map vb), .row 5 1 (.slice Ape 0 cpe) 0 (([] : List UInt8).map vb)]) := H
      go_wp2_with fail
      refine (string_s none 0 0 [] _ Rd.none_ (by omega)).mono ?_
      rintro e was0 ⟨vs0, rfl, ho, hb⟩
      rw [s_0] at ho
      replace H := (H.pushRow 10 rfl hb ho).push_mk rfl
      clear ho hb
      obtain ⟨As0, cs0, rfl, -, -⟩ := row_form (H.row 10 rfl)
      replace H : St w [] was0 (lay [.row 5 1 (.slice Am 0 cm) 0 (([] : List UInt8).map vb), .row 5 1 (.slice Az 2 cz) 2 (([0, 1] : List UInt8).map vb), .row 5 1 (.slice Ab 3 cb) 3 (([1, 0, 2] : List UInt8).map vb), .blk gq1 5 (([7, 7] : List UInt8).map vb), .row 5 1 (.slice Apa 4 cpa) 4 (([1, 4, 7, 7] : List UInt8).map vb), .blk gq2 5 (([7, 7, 7] : List UInt8).map vb), .row 5 1 (.slice Apb 5 cpb) 5 (([1, 5, 7, 7, 7] : List UInt8).map vb), .row 5 1 (.slice Apc 2 cpc) 2 (([1, 1] : List UInt8).map vb), .row 5 1 (.slice Apd 0 cpd) 0 (([] : List UInt8).map vb), .row 5 1 (.slice Ape 0 cpe) 0 (([] : List UInt8).map vb), .row 5 1 (.slice As0 2 cs0) 2 (([1, 0] : List UInt8).map vb)]) := H
      go_wp2_with fail
      refine absorb_calls (H.allocAt 11 rfl was0.heap.size rfl _ _ |>.push_mk rfl) ?_
      clear H
      intro wq8 H
      generalize was0.heap.size = gq8 at H ⊢
      replace H : St w [] wq8 (lay [.row 5 1 (.slice Am 0 cm) 0 (([] : List UInt8).map vb), .row 5 1 (.slice Az 2 cz) 2 (([0, 1] : List UInt8).map vb), .row 5 1 (.slice Ab 3 cb) 3 (([1, 0, 2] : List UInt8).map vb), .blk gq1 5 (([7, 7] : List UInt8).map vb), .row 5 1 (.slice Apa 4 cpa) 4 (([1, 4, 7, 7] : List UInt8).map vb), .blk gq2 5 (([7, 7, 7] : List UInt8).map vb), .row 5 1 (.slice Apb 5 cpb) 5 (([1, 5, 7, 7, 7] : List UInt8).map vb), .row 5 1 (.slice Apc 2 cpc) 2 (([1, 1] : List UInt8).map vb), .row 5 1 (.slice Apd 0 cpd) 0 (([] : List UInt8).map vb), .row 5 1 (.slice Ape 0 cpe) 0 (([] : List UInt8).map vb), .row 5 1 (.slice As0 2 cs0) 2 (([1, 0] : List UInt8).map vb), .blk gq8 5 (([1, 0] : List UInt8).map vb)]) := H
      refine (sameBytes_yes As0 (some ⟨gq8, 0, none⟩) 2 2 cs0 2 [1, 0] [1, 0] _ (H.rd 10 rfl) (H.rdBlk 11 rfl 1 2 rfl) (by omega) (by omega) rfl).mono ?_
      rintro e wbgq8 ⟨rfl, hb⟩
      replace H := (H.call hb).front 11
      clear hb
      replace H : St w [] wbgq8 (lay [.row 5 1 (.slice Am 0 cm) 0 (([] : List UInt8).map vb), .row 5 1 (.slice Az 2 cz) 2 (([0, 1] : List UInt8).map vb), .row 5 1 (.slice Ab 3 cb) 3 (([1, 0, 2] : List UInt8).map vb), .blk gq1 5 (([7, 7] : List UInt8).map vb), .row 5 1 (.slice Apa 4 cpa) 4 (([1, 4, 7, 7] : List UInt8).map vb), .blk gq2 5 (([7, 7, 7] : List UInt8).map vb), .row 5 1 (.slice Apb 5 cpb) 5 (([1, 5, 7, 7, 7] : List UInt8).map vb), .row 5 1 (.slice Apc 2 cpc) 2 (([1, 1] : List UInt8).map vb), .row 5 1 (.slice Apd 0 cpd) 0 (([] : List UInt8).map vb), .row 5 1 (.slice Ape 0 cpe) 0 (([] : List UInt8).map vb), .row 5 1 (.slice As0 2 cs0) 2 (([1, 0] : List UInt8).map vb)]) := H
      go_wp2_with fail
      refine absorb_calls (H.litAt 11 rfl wbgq8.heap.size rfl _ _ _ |>.push_mk rfl) ?_
      clear H
      intro wq9 H
      generalize wbgq8.heap.size = gq9 at H ⊢
      replace H : St w [] wq9 (lay [.row 5 1 (.slice Am 0 cm) 0 (([] : List UInt8).map vb), .row 5 1 (.slice Az 2 cz) 2 (([0, 1] : List UInt8).map vb), .row 5 1 (.slice Ab 3 cb) 3 (([1, 0, 2] : List UInt8).map vb), .blk gq1 5 (([7, 7] : List UInt8).map vb), .row 5 1 (.slice Apa 4 cpa) 4 (([1, 4, 7, 7] : List UInt8).map vb), .blk gq2 5 (([7, 7, 7] : List UInt8).map vb), .row 5 1 (.slice Apb 5 cpb) 5 (([1, 5, 7, 7, 7] : List UInt8).map vb), .row 5 1 (.slice Apc 2 cpc) 2 (([1, 1] : List UInt8).map vb), .row 5 1 (.slice Apd 0 cpd) 0 (([] : List UInt8).map vb), .row 5 1 (.slice Ape 0 cpe) 0 (([] : List UInt8).map vb), .row 5 1 (.slice As0 2 cs0) 2 (([1, 0] : List UInt8).map vb), .lit gq9 5 (([97] : List UInt8).map vb) (1, 2)]) := H
      refine (string_s (some ⟨gq9, 0, none⟩) 1 1 [97] _ (H.rdLit 11 rfl 1 1 rfl) (by omega)).mono ?_
      rintro e was1 ⟨vs1, rfl, ho, hb⟩
      rw [s_a] at ho
      replace H := (H.pushRow 12 rfl hb ho).push_mk rfl
      clear ho hb
      obtain ⟨As1, cs1, rfl, -, -⟩ := row_form (H.row 12 rfl)
      replace H : St w [] was1 (lay [.row 5 1 (.slice Am 0 cm) 0 (([] : List UInt8).map vb), .row 5 1 (.slice Az 2 cz) 2 (([0, 1] : List UInt8).map vb), .row 5 1 (.slice Ab 3 cb) 3 (([1, 0, 2] : List UInt8).map vb), .blk gq1 5 (([7, 7] : List UInt8).map vb), .row 5 1 (.slice Apa 4 cpa) 4 (([1, 4, 7, 7] : List UInt8).map vb), .blk gq2 5 (([7, 7, 7] : List UInt8).map vb), .row 5 1 (.slice Apb 5 cpb) 5 (([1, 5, 7, 7, 7] : List UInt8).map vb), .row 5 1 (.slice Apc 2 cpc) 2 (([1, 1] : List UInt8).map vb), .row 5 1 (.slice Apd 0 cpd) 0 (([] : List UInt8).map vb), .row 5 1 (.slice Ape 0 cpe) 0 (([] : List UInt8).map vb), .row 5 1 (.slice As0 2 cs0) 2 (([1, 0] : List UInt8).map vb), .lit gq9 5 (([97] : List UInt8).map vb) (1, 2), .row 5 1 (.slice As1 3 cs1) 3 (([1, 8, 97] : List UInt8).map vb)]) := H
      go_wp2_with fail
      refine absorb_calls (H.allocAt 13 rfl was1.heap.size rfl _ _ |>.push_mk rfl) ?_
      clear H
      intro wq10 H
      generalize was1.heap.size = gq10 at H ⊢
      replace H : St w [] wq10 (lay [.row 5 1 (.slice Am 0 cm) 0 (([] : List UInt8).map vb), .row 5 1 (.slice Az 2 cz) 2 (([0, 1] : List UInt8).map vb), .row 5 1 (.slice Ab 3 cb) 3 (([1, 0, 2] : List UInt8).map vb), .blk gq1 5 (([7, 7] : List UInt8).map vb), .row 5 1 (.slice Apa 4 cpa) 4 (([1, 4, 7, 7] : List UInt8).map vb), .blk gq2 5 (([7, 7, 7] : List UInt8).map vb), .row 5 1 (.slice Apb 5 cpb) 5 (([1, 5, 7, 7, 7] : List UInt8).map vb), .row 5 1 (.slice Apc 2 cpc) 2 (([1, 1] : List UInt8).map vb), .row 5 1 (.slice Apd 0 cpd) 0 (([] : List UInt8).map vb), .row 5 1 (.slice Ape 0 cpe) 0 (([] : List UInt8).map vb), .row 5 1 (.slice As0 2 cs0) 2 (([1, 0] : List UInt8).map vb), .lit gq9 5 (([97] : List UInt8).map vb) (1, 2), .row 5 1 (.slice As1 3 cs1) 3 (([1, 8, 97] : List UInt8).map vb), .blk gq10 5 (([1, 8, 97] : List UInt8).map vb)]) := H
      refine (sameBytes_yes As1 (some ⟨gq10, 0, none⟩) 3 3 cs1 3 [1, 8, 97] [1, 8, 97] _ (H.rd 12 rfl) (H.rdBlk 13 rfl 1 3 rfl) (by omega) (by omega) rfl).mono ?_
      rintro e wbgq10 ⟨rfl, hb⟩
      replace H := (H.call hb).front 13
      clear hb
      replace H : St w [] wbgq10 (lay [.row 5 1 (.slice Am 0 cm) 0 (([] : List UInt8).map vb), .row 5 1 (.slice Az 2 cz) 2 (([0, 1] : List UInt8).map vb), .row 5 1 (.slice Ab 3 cb) 3 (([1, 0, 2] : List UInt8).map vb), .blk gq1 5 (([7, 7] : List UInt8).map vb), .row 5 1 (.slice Apa 4 cpa) 4 (([1, 4, 7, 7] : List UInt8).map vb), .blk gq2 5 (([7, 7, 7] : List UInt8).map vb), .row 5 1 (.slice Apb 5 cpb) 5 (([1, 5, 7, 7, 7] : List UInt8).map vb), .row 5 1 (.slice Apc 2 cpc) 2 (([1, 1] : List UInt8).map vb), .row 5 1 (.slice Apd 0 cpd) 0 (([] : List UInt8).map vb), .row 5 1 (.slice Ape 0 cpe) 0 (([] : List UInt8).map vb), .row 5 1 (.slice As0 2 cs0) 2 (([1, 0] : List UInt8).map vb), .lit gq9 5 (([97] : List UInt8).map vb) (1, 2), .row 5 1 (.slice As1 3 cs1) 3 (([1, 8, 97] : List UInt8).map vb)]) := H
      replace H := H.front 0
      replace H : St w [] wbgq10 (lay []) := H
      go_upto_region 20 with fail
      go_wp2_with fail
      refine (ledger_new H 0 rfl).mono ?_
      rintro e wl ⟨l, rfl, H1⟩
      replace H := H1.push_mk rfl
      clear H1
      replace H : St w [] wl (lay [led l (some [])]) := H
      go_wp2_with fail
      refine (shShake256_s l (some []) 0 0 none 0 0 [] 8 8 rfl (by omega) H 0 1 rfl rfl LW.nil (by omega) (by omega) (fun _ _ _ => Rd.none_) (by omega)).mono ?_
      rintro e wx ⟨vx, rfl, H1⟩
      rw [n_1, upd_laid (by simp)] at H1
      replace H := H1.push_mk rfl
      clear H1
      obtain ⟨Ax, cx, rfl, -, -⟩ := row_form (H.row 1 rfl)
      rw [v_S] at H
      replace H : St w [] wx (lay [led l (noteN (some []) 3 200 1), .row 5 1 (.slice Ax 8 cx) 8 (vS.map vb)]) := H
      go_wp2_with fail
      refine (shShake256_s l (noteN (some []) 3 200 1) 1 1 none 0 0 [] 137 137 rfl (by omega) H 0 2 rfl rfl ((LW.nil.noteN 3 200 1).more (m' := 1) (b' := 1) (by omega) (by omega)) (by omega) (by omega) (fun _ _ _ => Rd.none_) (by omega)).mono ?_
      rintro e wy ⟨vy, rfl, H1⟩
      rw [n_2, noteN_noteN, upd_laid (by simp)] at H1
      replace H := H1.push_mk rfl
      clear H1
      obtain ⟨Ay, cy, rfl, -, -⟩ := row_form (H.row 2 rfl)
      replace H := H.front 2
      replace H : St w [] wy (lay [led l (noteN (some []) 3 200 3), .row 5 1 (.slice Ax 8 cx) 8 (vS.map vb)]) := H
      have hz8 : (List.replicate 168 (0 : UInt8)).length = 168 := List.length_replicate ..
      obtain ⟨hi0, hz0, hz1, hz2⟩ := HI.out
      go_wp2_with (at_make; refine wpList_make_full _ rfl (.const (.int .i64 168)) (.const (.int .i64 168)) 22 rfl wy.heap.size 5 i0 (.int .u8 0) 1 Try.underlying22 hi0 hz0 hz1 .i64 .i64 _ _ 168 rfl rfl (by omega) (by omega) (by rw [hz2]; omega) (by simp only [maxLen]; omega) (Nat.le_refl _) ?_; intro wm ho1 hg1)
      have ho1' := made_bytes ho1
      have hb1 : Below wy.heap.size wy wm := (Below.refl _ _).grown hg1 (Nat.le_refl _) (fun _ h => by cases h)
      replace H := (H.pushRow 2 rfl hb1 ho1').push_mk rfl
      clear ho1 ho1' hg1 hb1 hi0 hz0 hz1 hz2
      generalize wy.heap.size = gm at H ⊢
      rw [hz8] at H
      replace H : St w [] wm (lay [led l (noteN (some []) 3 200 3), .row 5 1 (.slice Ax 8 cx) 8 (vS.map vb), .row 5 1 (.slice (some ⟨gm, 0, none⟩) 168 168) 168 ((List.replicate 168 (0 : UInt8)).map vb)]) := H
      go_wp2_with fail
      refine (shShake128_s l (noteN (some []) 3 200 3) 1 3 (some ⟨gm, 0, none⟩) 168 168 (List.replicate 168 0) 0 0 rfl (by omega) H 0 3 rfl rfl ((LW.nil.noteN 3 200 3).more (m' := 1) (b' := 3) (by omega) (by omega)) (by omega) (by omega) (fun w' X h => h.rd 2 rfl) (by omega)).mono ?_
      rintro e wu ⟨vu, rfl, H1⟩
      rw [n_3 _ hz8, noteN_noteN, upd_laid (by simp)] at H1
      replace H := H1.push_mk rfl
      clear H1
      obtain ⟨Au, cu, rfl, -, -⟩ := row_form (H.row 3 rfl)
      replace H := H.front 3
      replace H : St w [] wu (lay [led l (noteN (some []) 3 200 5), .row 5 1 (.slice Ax 8 cx) 8 (vS.map vb), .row 5 1 (.slice (some ⟨gm, 0, none⟩) 168 168) 168 ((List.replicate 168 (0 : UInt8)).map vb)]) := H
      replace H := H.front 2
      replace H : St w [] wu (lay [led l (noteN (some []) 3 200 5), .row 5 1 (.slice Ax 8 cx) 8 (vS.map vb)]) := H
      go_wp2_with fail
      refine (shShake128_s l (noteN (some []) 3 200 5) 1 5 none 0 0 [] 168 168 rfl (by omega) H 0 2 rfl rfl ((LW.nil.noteN 3 200 5).more (m' := 1) (b' := 5) (by omega) (by omega)) (by omega) (by omega) (fun _ _ _ => Rd.none_) (by omega)).mono ?_
      rintro e ws ⟨vs, rfl, H1⟩
      rw [n_4, noteN_noteN, upd_laid (by simp)] at H1
      replace H := H1.push_mk rfl
      clear H1
      obtain ⟨As, cs, rfl, -, -⟩ := row_form (H.row 2 rfl)
      replace H := H.front 2
      replace H : St w [] ws (lay [led l (noteN (some []) 3 200 6), .row 5 1 (.slice Ax 8 cx) 8 (vS.map vb)]) := H
      go_wp2_with fail
      refine (shShake128_s l (noteN (some []) 3 200 6) 1 6 none 0 0 [] 169 169 rfl (by omega) H 0 2 rfl rfl ((LW.nil.noteN 3 200 6).more (m' := 1) (b' := 6) (by omega) (by omega)) (by omega) (by omega) (fun _ _ _ => Rd.none_) (by omega)).mono ?_
      rintro e wt ⟨vt, rfl, H1⟩
      rw [n_5, noteN_noteN, upd_laid (by simp)] at H1
      replace H := H1.push_mk rfl
      clear H1
      obtain ⟨At, ct, rfl, -, -⟩ := row_form (H.row 2 rfl)
      replace H := H.front 2
      replace H : St w [] wt (lay [led l (noteN (some []) 3 200 8), .row 5 1 (.slice Ax 8 cx) 8 (vS.map vb)]) := H
      go_wp2_with fail
      refine (shShake128_bad l (.slice none 0 0) (-1) (by omega)).mono ?_
      rintro e wq ⟨rfl, rfl⟩
      go_wp2_with fail
      refine (shShake128_bad l (.slice none 0 0) 65537 (by omega)).mono ?_
      rintro e wq ⟨rfl, rfl⟩
      go_wp2_with fail
      refine (shBegin_no l 127 _ _ ⟨by omega, by omega⟩ _).mono ?_
      rintro e wq ⟨rfl, rfl⟩
      go_wp2_with fail
      refine (unhex_s _ 8 rfl (by omega) wt).mono ?_
      rintro e wh ⟨vh, rfl, ho, hb⟩
      rw [HS.out] at ho
      replace H := (H.pushRow 2 rfl hb ho).push_mk rfl
      clear ho hb
      obtain ⟨Ah, ch, rfl, -, -⟩ := row_form (H.row 2 rfl)
      go_wp2_with fail
      refine (sameBytes_yes Ax Ah 8 8 cx ch vS vS _ (H.rd 1 rfl) (H.rd 2 rfl) (by omega) (by omega) rfl).mono ?_
      rintro e wi ⟨rfl, hb⟩
      replace H := (H.call hb).front 2
      clear hb
      replace H : St w [] wi (lay [led l (noteN (some []) 3 200 8), .row 5 1 (.slice Ax 8 cx) 8 (vS.map vb)]) := H
      rw [noteN_pos 8 (by omega)] at H
      go_wp2_with fail
      refine (ledger_runs_w 1 8 H 0 rfl (fun rs h => by injection h with h; subst h; exact ⟨by simp, by simp, by decide⟩) (by omega) 2 rfl).mono ?_
      rintro e wj ⟨vj, rfl, H1⟩
      replace H := H1.push_mk rfl
      clear H1
      obtain ⟨Aj, cj, rfl, -, -⟩ := row_shape (H.row 2 rfl)
      go_wp2_with fail
      refine absorb_calls (H.allocAt 3 rfl wj.heap.size rfl #[.int .u8 3, .int .i64 200, .int .i64 8] 65 |>.push_mk rfl) ?_
      clear H
      intro wk H
      generalize wj.heap.size = gR at H ⊢
      refine (sameRuns_any Aj (some ⟨gR, 0, none⟩) cj 1 [(3, 200, 8)] [(3, 200, 8)] (H.rd 2 rfl) (H.rdBlk 3 rfl 3 1 rfl) (by simp) (by simp)).mono ?_
      rintro e wn ⟨rfl, kd, rfl⟩
      replace H := H.drewN kd
      rw [decide_eq_true rfl]
      generalize wk.drewN kd = wn at H ⊢
      go_wp2_with fail
      refine (awake_s wn).mono ?_
      rintro e wo ⟨rfl, hb⟩
      replace H := H.call hb
      go_wp2
      go_ret
      exact ⟨rfl, H.below⟩
end Go.Proofs.Ythdfbnababmanaa
