/- Texts of this claim, merged: ShAny, ShAw, SpPl, ShFill, Lit, ShAwk, Pick, LawShCo. -/
import Derived.Lib.SlBytesConst
import Derived.Test.YthdfbnababmanaaRows
import Derived.Test.YthdfbnababmanaaMgD
set_option linter.unusedVariables false

namespace Go.Proofs.Ythdfbnababmanaa
open Go.RowKit
set_option linter.unusedVariables false
set_option maxRecDepth 100000

attribute [local irreducible] permB kBytes kPerm kFrom

def okN (Z : Int) : Prop := 0 ≤ Z ∧ Z ≤ 65536

instance (Z : Int) : Decidable (okN Z) := inferInstanceAs (Decidable (_ ∧ _))

def outB (R : Nat) (x y q : List UInt8) (Z : Int) : List UInt8 := if okN Z then toldB R x y q Z.toNat else []

def outN (R : Nat) (x y q : List UInt8) (Z : Int) : Nat := if okN Z then toldN R x y q Z.toNat else 0

def outE (Z : Int) : Int := if okN Z then 0 else 2

theorem outB_le (R : Nat) (x y q : List UInt8) (Z : Int) : (outB R x y q Z).length ≤ 65536 := by
  unfold outB
  split
  · rename_i h; rw [toldB_length]; have := h.2; omega
  · simp

theorem outN_le {R : Nat} {x y q : List UInt8} (Z : Int) (h1 : 8 ≤ R) (h2 : R ≤ 192) (hx : x.length ≤ 2000000) (hy : y.length ≤ 2000000) (hq : q.length ≤ 281474976710656) : outN R x y q Z ≤ 300000000000000 := by
  unfold outN
  split
  · rename_i h
    unfold toldN
    have a := beginN_le (R := R) (x := x) (y := y) h1 (by omega) hx hy
    have b := (beginSp_ok (r := R) x y h1 h2).2.2.2
    have c : ((beginSp R x y).p + q.length) / R ≤ (beginSp R x y).p + q.length := Nat.div_le_self _ _
    have d : (0 + Z.toNat - 1) / R ≤ 0 + Z.toNat - 1 := Nat.div_le_self _ _
    have := h.2
    omega
  · omega

section
variable {w0 w : World} {F0 : List Nat} {E : Env}

theorem shC128_any (l : Value) (r : Option (List RunT)) (m : Nat) (b : Int) (A B C : Option Addr) (n nc np c d cp : Nat) (xs ys q : List UInt8) (Z : Int) (H : St w0 F0 w E) (i k : Nat) (hi : E i = some (led l r)) (hk : E k = none) (hg : LW r m b) (hm : m ≤ 999999990) (hb : b ≤ 100000000000000000)
    (hA : ∀ w' X, St w0 F0 w' (upd E i X) → Rd w' 1 A n (xs.map vb)) (hB : ∀ w' X, St w0 F0 w' (upd E i X) → Rd w' 1 B nc (ys.map vb)) (hC : ∀ w' X, St w0 F0 w' (upd E i X) → Rd w' 1 C np (q.map vb)) (hn : n ≤ 2000000) (hnc : nc ≤ 2000000) (hnp : np ≤ 281474976710656) :
    Calls Try.prog 41 #[l, .slice A n c, .slice B nc d, .slice C np cp, .int .i64 Z] w fun e w' => ∃ v, e = .returned (.tuple #[v, .int .i64 (outE Z)]) ∧ St w0 F0 w' (upd (upd E i (led l (noteN r 3 200 (outN 168 xs ys q Z)))) k (.row 5 1 v (outB 168 xs ys q Z).length ((outB 168 xs ys q Z).map vb))) := by
  by_cases hz : okN Z
  · have e1 : outB 168 xs ys q Z = toldB 168 xs ys q Z.toNat := if_pos hz
    have e2 : outN 168 xs ys q Z = toldN 168 xs ys q Z.toNat := if_pos hz
    have e3 : outE Z = 0 := if_pos hz
    rw [e1, e2, e3, toldB_length]
    exact shC128_s l r m b A B C n nc np c d cp xs ys q Z.toNat Z (by have := hz.1; omega) (by have := hz.2; omega) H i k hi hk hg hm hb hA hB hC hn hnc hnp
  · have e1 : outB 168 xs ys q Z = [] := if_neg hz
    have e2 : outN 168 xs ys q Z = 0 := if_neg hz
    have e3 : outE Z = 2 := if_neg hz
    rw [e1, e2, e3, noteN_zero]
    refine (shC128_bad _ _ _ _ Z (by unfold okN at hz; omega)).mono ?_
    rintro e w1 ⟨rfl, rfl⟩
    refine ⟨_, rfl, ?_⟩
    rw [upd_id hi]
    exact H.nilRow k hk _ _

theorem shC256_any (l : Value) (r : Option (List RunT)) (m : Nat) (b : Int) (A B C : Option Addr) (n nc np c d cp : Nat) (xs ys q : List UInt8) (Z : Int) (H : St w0 F0 w E) (i k : Nat) (hi : E i = some (led l r)) (hk : E k = none) (hg : LW r m b) (hm : m ≤ 999999990) (hb : b ≤ 100000000000000000)
    (hA : ∀ w' X, St w0 F0 w' (upd E i X) → Rd w' 1 A n (xs.map vb)) (hB : ∀ w' X, St w0 F0 w' (upd E i X) → Rd w' 1 B nc (ys.map vb)) (hC : ∀ w' X, St w0 F0 w' (upd E i X) → Rd w' 1 C np (q.map vb)) (hn : n ≤ 2000000) (hnc : nc ≤ 2000000) (hnp : np ≤ 281474976710656) :
    Calls Try.prog 42 #[l, .slice A n c, .slice B nc d, .slice C np cp, .int .i64 Z] w fun e w' => ∃ v, e = .returned (.tuple #[v, .int .i64 (outE Z)]) ∧ St w0 F0 w' (upd (upd E i (led l (noteN r 3 200 (outN 136 xs ys q Z)))) k (.row 5 1 v (outB 136 xs ys q Z).length ((outB 136 xs ys q Z).map vb))) := by
  by_cases hz : okN Z
  · have e1 : outB 136 xs ys q Z = toldB 136 xs ys q Z.toNat := if_pos hz
    have e2 : outN 136 xs ys q Z = toldN 136 xs ys q Z.toNat := if_pos hz
    have e3 : outE Z = 0 := if_pos hz
    rw [e1, e2, e3, toldB_length]
    exact shC256_s l r m b A B C n nc np c d cp xs ys q Z.toNat Z (by have := hz.1; omega) (by have := hz.2; omega) H i k hi hk hg hm hb hA hB hC hn hnc hnp
  · have e1 : outB 136 xs ys q Z = [] := if_neg hz
    have e2 : outN 136 xs ys q Z = 0 := if_neg hz
    have e3 : outE Z = 2 := if_neg hz
    rw [e1, e2, e3, noteN_zero]
    refine (shC256_bad _ _ _ _ Z (by unfold okN at hz; omega)).mono ?_
    rintro e w1 ⟨rfl, rfl⟩
    refine ⟨_, rfl, ?_⟩
    rw [upd_id hi]
    exact H.nilRow k hk _ _

theorem shShake128_any (l : Value) (r : Option (List RunT)) (m : Nat) (b : Int) (C : Option Addr) (np cp : Nat) (q : List UInt8) (Z : Int) (H : St w0 F0 w E) (i k : Nat) (hi : E i = some (led l r)) (hk : E k = none) (hg : LW r m b) (hm : m ≤ 999999990) (hb : b ≤ 100000000000000000)
    (hC : ∀ w' X, St w0 F0 w' (upd E i X) → Rd w' 1 C np (q.map vb)) (hnp : np ≤ 281474976710656) :
    Calls Try.prog 45 #[l, .slice C np cp, .int .i64 Z] w fun e w' => ∃ v, e = .returned (.tuple #[v, .int .i64 (outE Z)]) ∧ St w0 F0 w' (upd (upd E i (led l (noteN r 3 200 (outN 168 [] [] q Z)))) k (.row 5 1 v (outB 168 [] [] q Z).length ((outB 168 [] [] q Z).map vb))) := by
  by_cases hz : okN Z
  · have e1 : outB 168 [] [] q Z = toldB 168 [] [] q Z.toNat := if_pos hz
    have e2 : outN 168 [] [] q Z = toldN 168 [] [] q Z.toNat := if_pos hz
    have e3 : outE Z = 0 := if_pos hz
    rw [e1, e2, e3, toldB_length]
    exact shShake128_s l r m b C np cp q Z.toNat Z (by have := hz.1; omega) (by have := hz.2; omega) H i k hi hk hg hm hb hC hnp
  · have e1 : outB 168 [] [] q Z = [] := if_neg hz
    have e2 : outN 168 [] [] q Z = 0 := if_neg hz
    have e3 : outE Z = 2 := if_neg hz
    rw [e1, e2, e3, noteN_zero]
    refine (shShake128_bad _ _ Z (by unfold okN at hz; omega)).mono ?_
    rintro e w1 ⟨rfl, rfl⟩
    refine ⟨_, rfl, ?_⟩
    rw [upd_id hi]
    exact H.nilRow k hk _ _

theorem shShake256_any (l : Value) (r : Option (List RunT)) (m : Nat) (b : Int) (C : Option Addr) (np cp : Nat) (q : List UInt8) (Z : Int) (H : St w0 F0 w E) (i k : Nat) (hi : E i = some (led l r)) (hk : E k = none) (hg : LW r m b) (hm : m ≤ 999999990) (hb : b ≤ 100000000000000000)
    (hC : ∀ w' X, St w0 F0 w' (upd E i X) → Rd w' 1 C np (q.map vb)) (hnp : np ≤ 281474976710656) :
    Calls Try.prog 46 #[l, .slice C np cp, .int .i64 Z] w fun e w' => ∃ v, e = .returned (.tuple #[v, .int .i64 (outE Z)]) ∧ St w0 F0 w' (upd (upd E i (led l (noteN r 3 200 (outN 136 [] [] q Z)))) k (.row 5 1 v (outB 136 [] [] q Z).length ((outB 136 [] [] q Z).map vb))) := by
  by_cases hz : okN Z
  · have e1 : outB 136 [] [] q Z = toldB 136 [] [] q Z.toNat := if_pos hz
    have e2 : outN 136 [] [] q Z = toldN 136 [] [] q Z.toNat := if_pos hz
    have e3 : outE Z = 0 := if_pos hz
    rw [e1, e2, e3, toldB_length]
    exact shShake256_s l r m b C np cp q Z.toNat Z (by have := hz.1; omega) (by have := hz.2; omega) H i k hi hk hg hm hb hC hnp
  · have e1 : outB 136 [] [] q Z = [] := if_neg hz
    have e2 : outN 136 [] [] q Z = 0 := if_neg hz
    have e3 : outE Z = 2 := if_neg hz
    rw [e1, e2, e3, noteN_zero]
    refine (shShake256_bad _ _ Z (by unfold okN at hz; omega)).mono ?_
    rintro e w1 ⟨rfl, rfl⟩
    refine ⟨_, rfl, ?_⟩
    rw [upd_id hi]
    exact H.nilRow k hk _ _

end

section
variable {w0 w : World} {F0 : List Nat} {E : Env}

theorem rhC128_any (l : Value) (r : Option (List RunT)) (m : Nat) (b : Int) (A B C : Option Addr) (n nc np c d cp : Nat) (xs ys q : List UInt8) (Z : Int) (H : St w0 F0 w E) (i k : Nat) (hi : E i = some (ledR l r)) (hk : E k = none) (hg : LW r m b) (hm : m ≤ 999999990) (hb : b ≤ 100000000000000000)
    (hA : ∀ w' X, St w0 F0 w' (upd E i X) → Rd w' 1 A n (xs.map vb)) (hB : ∀ w' X, St w0 F0 w' (upd E i X) → Rd w' 1 B nc (ys.map vb)) (hC : ∀ w' X, St w0 F0 w' (upd E i X) → Rd w' 1 C np (q.map vb)) (hn : n ≤ 2000000) (hnc : nc ≤ 2000000) (hnp : np ≤ 281474976710656) :
    Calls Try.prog 47 #[l, .slice A n c, .slice B nc d, .slice C np cp, .int .i64 Z] w fun e w' => ∃ v, e = .returned (.tuple #[v, .int .i64 (outE Z)]) ∧ St w0 F0 w' (upd (upd E i (ledR l (noteN r 3 200 (outN 168 xs ys q Z)))) k (.row 5 1 v (outB 168 xs ys q Z).length ((outB 168 xs ys q Z).map vb))) := by
  by_cases hz : okN Z
  · have e1 : outB 168 xs ys q Z = toldB 168 xs ys q Z.toNat := if_pos hz
    have e2 : outN 168 xs ys q Z = toldN 168 xs ys q Z.toNat := if_pos hz
    have e3 : outE Z = 0 := if_pos hz
    rw [e1, e2, e3, toldB_length]
    exact rhC128_s l r m b A B C n nc np c d cp xs ys q Z.toNat Z (by have := hz.1; omega) (by have := hz.2; omega) H i k hi hk hg hm hb hA hB hC hn hnc hnp
  · have e1 : outB 168 xs ys q Z = [] := if_neg hz
    have e2 : outN 168 xs ys q Z = 0 := if_neg hz
    have e3 : outE Z = 2 := if_neg hz
    rw [e1, e2, e3, noteN_zero]
    refine (rhC128_bad _ _ _ _ Z (by unfold okN at hz; omega)).mono ?_
    rintro e w1 ⟨rfl, rfl⟩
    refine ⟨_, rfl, ?_⟩
    rw [upd_id hi]
    exact H.nilRow k hk _ _

theorem rhC256_any (l : Value) (r : Option (List RunT)) (m : Nat) (b : Int) (A B C : Option Addr) (n nc np c d cp : Nat) (xs ys q : List UInt8) (Z : Int) (H : St w0 F0 w E) (i k : Nat) (hi : E i = some (ledR l r)) (hk : E k = none) (hg : LW r m b) (hm : m ≤ 999999990) (hb : b ≤ 100000000000000000)
    (hA : ∀ w' X, St w0 F0 w' (upd E i X) → Rd w' 1 A n (xs.map vb)) (hB : ∀ w' X, St w0 F0 w' (upd E i X) → Rd w' 1 B nc (ys.map vb)) (hC : ∀ w' X, St w0 F0 w' (upd E i X) → Rd w' 1 C np (q.map vb)) (hn : n ≤ 2000000) (hnc : nc ≤ 2000000) (hnp : np ≤ 281474976710656) :
    Calls Try.prog 48 #[l, .slice A n c, .slice B nc d, .slice C np cp, .int .i64 Z] w fun e w' => ∃ v, e = .returned (.tuple #[v, .int .i64 (outE Z)]) ∧ St w0 F0 w' (upd (upd E i (ledR l (noteN r 3 200 (outN 136 xs ys q Z)))) k (.row 5 1 v (outB 136 xs ys q Z).length ((outB 136 xs ys q Z).map vb))) := by
  by_cases hz : okN Z
  · have e1 : outB 136 xs ys q Z = toldB 136 xs ys q Z.toNat := if_pos hz
    have e2 : outN 136 xs ys q Z = toldN 136 xs ys q Z.toNat := if_pos hz
    have e3 : outE Z = 0 := if_pos hz
    rw [e1, e2, e3, toldB_length]
    exact rhC256_s l r m b A B C n nc np c d cp xs ys q Z.toNat Z (by have := hz.1; omega) (by have := hz.2; omega) H i k hi hk hg hm hb hA hB hC hn hnc hnp
  · have e1 : outB 136 xs ys q Z = [] := if_neg hz
    have e2 : outN 136 xs ys q Z = 0 := if_neg hz
    have e3 : outE Z = 2 := if_neg hz
    rw [e1, e2, e3, noteN_zero]
    refine (rhC256_bad _ _ _ _ Z (by unfold okN at hz; omega)).mono ?_
    rintro e w1 ⟨rfl, rfl⟩
    refine ⟨_, rfl, ?_⟩
    rw [upd_id hi]
    exact H.nilRow k hk _ _

theorem rhShake128_any (l : Value) (r : Option (List RunT)) (m : Nat) (b : Int) (C : Option Addr) (np cp : Nat) (q : List UInt8) (Z : Int) (H : St w0 F0 w E) (i k : Nat) (hi : E i = some (ledR l r)) (hk : E k = none) (hg : LW r m b) (hm : m ≤ 999999990) (hb : b ≤ 100000000000000000)
    (hC : ∀ w' X, St w0 F0 w' (upd E i X) → Rd w' 1 C np (q.map vb)) (hnp : np ≤ 281474976710656) :
    Calls Try.prog 49 #[l, .slice C np cp, .int .i64 Z] w fun e w' => ∃ v, e = .returned (.tuple #[v, .int .i64 (outE Z)]) ∧ St w0 F0 w' (upd (upd E i (ledR l (noteN r 3 200 (outN 168 [] [] q Z)))) k (.row 5 1 v (outB 168 [] [] q Z).length ((outB 168 [] [] q Z).map vb))) := by
  by_cases hz : okN Z
  · have e1 : outB 168 [] [] q Z = toldB 168 [] [] q Z.toNat := if_pos hz
    have e2 : outN 168 [] [] q Z = toldN 168 [] [] q Z.toNat := if_pos hz
    have e3 : outE Z = 0 := if_pos hz
    rw [e1, e2, e3, toldB_length]
    exact rhShake128_s l r m b C np cp q Z.toNat Z (by have := hz.1; omega) (by have := hz.2; omega) H i k hi hk hg hm hb hC hnp
  · have e1 : outB 168 [] [] q Z = [] := if_neg hz
    have e2 : outN 168 [] [] q Z = 0 := if_neg hz
    have e3 : outE Z = 2 := if_neg hz
    rw [e1, e2, e3, noteN_zero]
    refine (rhShake128_bad _ _ Z (by unfold okN at hz; omega)).mono ?_
    rintro e w1 ⟨rfl, rfl⟩
    refine ⟨_, rfl, ?_⟩
    rw [upd_id hi]
    exact H.nilRow k hk _ _

theorem rhShake256_any (l : Value) (r : Option (List RunT)) (m : Nat) (b : Int) (C : Option Addr) (np cp : Nat) (q : List UInt8) (Z : Int) (H : St w0 F0 w E) (i k : Nat) (hi : E i = some (ledR l r)) (hk : E k = none) (hg : LW r m b) (hm : m ≤ 999999990) (hb : b ≤ 100000000000000000)
    (hC : ∀ w' X, St w0 F0 w' (upd E i X) → Rd w' 1 C np (q.map vb)) (hnp : np ≤ 281474976710656) :
    Calls Try.prog 50 #[l, .slice C np cp, .int .i64 Z] w fun e w' => ∃ v, e = .returned (.tuple #[v, .int .i64 (outE Z)]) ∧ St w0 F0 w' (upd (upd E i (ledR l (noteN r 3 200 (outN 136 [] [] q Z)))) k (.row 5 1 v (outB 136 [] [] q Z).length ((outB 136 [] [] q Z).map vb))) := by
  by_cases hz : okN Z
  · have e1 : outB 136 [] [] q Z = toldB 136 [] [] q Z.toNat := if_pos hz
    have e2 : outN 136 [] [] q Z = toldN 136 [] [] q Z.toNat := if_pos hz
    have e3 : outE Z = 0 := if_pos hz
    rw [e1, e2, e3, toldB_length]
    exact rhShake256_s l r m b C np cp q Z.toNat Z (by have := hz.1; omega) (by have := hz.2; omega) H i k hi hk hg hm hb hC hnp
  · have e1 : outB 136 [] [] q Z = [] := if_neg hz
    have e2 : outN 136 [] [] q Z = 0 := if_neg hz
    have e3 : outE Z = 2 := if_neg hz
    rw [e1, e2, e3, noteN_zero]
    refine (rhShake256_bad _ _ Z (by unfold okN at hz; omega)).mono ?_
    rintro e w1 ⟨rfl, rfl⟩
    refine ⟨_, rfl, ?_⟩
    rw [upd_id hi]
    exact H.nilRow k hk _ _

end

end Go.Proofs.Ythdfbnababmanaa

namespace Go.Proofs.Ythdfbnababmanaa
open Go.RowKit
set_option linter.unusedVariables false
set_option maxRecDepth 100000

def hv (c : UInt8) : Int := if 97 ≤ c.toNat then (c.toNat : Int) - 87 else (c.toNat : Int) - 48

theorem hv_b (c : UInt8) : -48 ≤ hv c ∧ hv c ≤ 168 := by
  have := c.toNat_lt
  unfold hv
  split <;> omega

def hexB (a b : UInt8) : UInt8 := UInt8.ofNat ((16 * hv a + hv b) % 256).toNat

theorem hexB_toNat (a b : UInt8) : ((hexB a b).toNat : Int) = (16 * hv a + hv b) % 256 := by
  unfold hexB
  rw [UInt8.toNat_ofNat']
  omega

def hexTo (s : List UInt8) : Nat → List UInt8
  | 0 => []
  | k + 1 => hexTo s k ++ [hexB (s.getD (2 * k) 0) (s.getD (2 * k + 1) 0)]

theorem hexTo_length (s : List UInt8) (k : Nat) : (hexTo s k).length = k := by
  induction k with
  | zero => rfl
  | succ k ih => show (hexTo s k ++ [_]).length = _; rw [List.length_append, ih]; rfl

theorem str_index (s : ByteArray) (i : Int) (k : Nat) (hi : i = (k : Int)) (hk : k < s.size) (w : World) : (Instr.index 9 (.string s) (.int .i64 i)).run Try.prog w = .ok (.int .u8 ((s.data.toList.getD k 0).toNat : Int)) w := by
  subst hi
  rw [run_index_string w 9 s .i64 _ Try.underlying9, dif_pos (by omega)]
  obtain ⟨⟨l⟩⟩ := s
  have hl : k < l.length := hk
  have e : (ByteArray.mk ⟨l⟩)[k]'hl = l.getD k 0 := by
    simp only [List.getD, List.getElem?_eq_getElem hl, Option.getD_some]
    rfl
  simp [e]

theorem St.newRow {w w' : World} {E : Env} {e : TypeId} {size n : Nat} {v : Value} {xs : List Value} (H : St w [] w' E) (k : Nat) (hk : E k = some (.row e size v n xs)) : w'.ownsRow w.heap.size e size v n xs := by
  obtain ⟨F, ⟨h, eF⟩, hF, -⟩ := H.change k hk
  exact ownsRow_base h fun g hg => by have := hF g (by rw [eF]; exact hg); simpa using this

set_option maxHeartbeats 2000000 in
theorem unhex_s (s : ByteArray) (m : Nat) (hs : s.size = 2 * m) (hm : m ≤ 1000) (w : World) :
    Calls Try.prog 51 #[.string s] w fun e w' => ∃ v, e = .returned v ∧ OwnB w' w.heap.size v (hexTo s.data.toList m) ∧ Below w.heap.size w w' := by
  obtain ⟨i0, hi0, hz0, hz1, hz2⟩ := info_parts u8_info
  have HI := Lib.hid (⟨hi0, hz0, hz1, hz2⟩ : _ ∧ _ ∧ _ ∧ _)
  clear hi0 hz0 hz1 hz2
  have H0 := (St.start_lay w []).nilRow 0 rfl 5 1 |>.push_mk rfl
  have hlen := fun w' => run_len_string (P := Try.prog) w' 9 3 s Try.underlying9
  rw [hs] at hlen
  have HS := Lib.hid hs
  clear hs
  have HIX := Lib.hid (str_index s)
  obtain ⟨L, hL⟩ : ∃ L, s.data.toList = L := ⟨_, rfl⟩
  rw [hL] at HIX ⊢
  clear hL
  go_enter Try.func51, Try.ntmps51
  go_wp2
  go_loopw [3, 4] (fun v i wr => ∃ k : Nat, k ≤ m ∧ i = .int .i64 (2 * k : Int) ∧ St w [] wr (lay [.row 5 1 v k ((hexTo L k).map vb)])) (fun _ i _ => 2 * m - (intOf i).toNat)
  case atStart => exact ⟨0, Nat.zero_le _, rfl, H0⟩
  case round =>
    clear H0
    obtain ⟨k, hk, rfl, H⟩ := hrel
    obtain ⟨AV, cV, rfl, -, -⟩ := row_form (H.row 0 rfl)
    by_cases hlt : k < m
    · have e1 := fun w' => HIX.out (2 * k : Int) (2 * k) (by omega) (by rw [HS.out]; omega) w'
      have e2 := fun w' => HIX.out (2 * k + 1 : Int) (2 * k + 1) (by omega) (by rw [HS.out]; omega) w'
      have HX : Hid (hexTo L (k + 1) = hexTo L k ++ [hexB (L.getD (2 * k) 0) (L.getD (2 * k + 1) 0)]) := rfl
      generalize L.getD (2 * k) 0 = a at e1 HX
      generalize L.getD (2 * k + 1) 0 = b at e2 HX
      go_wp2_with fail
      go_loopw [5, 6] (fun n q wr2 => (q = .int .i64 (2 * k : Int) ∧ n = .int .i64 0 ∨ q = .int .i64 (2 * k + 1 : Int) ∧ n = .int .i64 (hv a) ∨ q = .int .i64 (2 * k + 2 : Int) ∧ n = .int .i64 (16 * hv a + hv b)) ∧ wr2 = wr) (fun _ q _ => 2 * k + 2 - (intOf q).toNat)
      case atStart => exact ⟨.inl ⟨rfl, rfl⟩, rfl⟩
      case round =>
        obtain ⟨h, e⟩ := hrel
        subst e
        rcases h with ⟨rfl, rfl⟩ | ⟨rfl, rfl⟩ | ⟨rfl, rfl⟩
        · by_cases hc : (97 : Int) ≤ (a.toNat : Int)
          · have hvx : hv a = (a.toNat : Int) - 87 := by unfold hv; rw [if_pos (by omega)]
            have hlt := a.toNat_lt
            have hx0 : (a.toNat : Int) ≤ 255 := by omega
            clear hlt
            go_wp2
            go_roundw
            case rel => exact ⟨.inr (.inl ⟨by go_num, by first | (rw [hvx]; done) | (rw [hvx]; go_num)⟩), trivial⟩
            case measure => simp [intOf]; omega
          · have hvx : hv a = (a.toNat : Int) - 48 := by unfold hv; rw [if_neg (by omega)]
            have hlt := a.toNat_lt
            have hx0 : (a.toNat : Int) ≤ 255 := by omega
            clear hlt
            have hc2 : (a.toNat : Int) < 97 := by omega
            go_wp2
            go_roundw
            case rel => exact ⟨.inr (.inl ⟨by go_num, by first | (rw [hvx]; done) | (rw [hvx]; go_num)⟩), trivial⟩
            case measure => simp [intOf]; omega
        · by_cases hc : (97 : Int) ≤ (b.toNat : Int)
          · have hvx : hv b = (b.toNat : Int) - 87 := by unfold hv; rw [if_pos (by omega)]
            have hlt := b.toNat_lt
            have hx0 : (b.toNat : Int) ≤ 255 := by omega
            clear hlt
            have hva := hv_b a
            generalize hv a = va at *
            go_wp2
            go_roundw
            case rel => exact ⟨.inr (.inr ⟨by go_num, by first | (rw [hvx]; done) | (rw [hvx]; go_num)⟩), trivial⟩
            case measure => simp [intOf]; omega
          · have hvx : hv b = (b.toNat : Int) - 48 := by unfold hv; rw [if_neg (by omega)]
            have hlt := b.toNat_lt
            have hx0 : (b.toNat : Int) ≤ 255 := by omega
            clear hlt
            have hc2 : (b.toNat : Int) < 97 := by omega
            have hva := hv_b a
            generalize hv a = va at *
            go_wp2
            go_roundw
            case rel => exact ⟨.inr (.inr ⟨by go_num, by first | (rw [hvx]; done) | (rw [hvx]; go_num)⟩), trivial⟩
            case measure => simp [intOf]; omega
        · have hva := hv_b a
          have hvb := hv_b b
          have HB := Lib.hid (hexB_toNat a b)
          generalize hv a = va at *
          generalize hv b = vb' at *
          go_wp2_with (at_builtin; refine hold_here' ?_)
          refine Lib.hid ?_
          refine absorb_list (H.allocAt 1 rfl wr.heap.size rfl #[.int .u8 ((16 * va + vb') % 256)] 5 |>.push_mk rfl) ?_
          clear H
          intro w5 H
          generalize wr.heap.size = gN at H ⊢
          obtain ⟨hi0, hz0, hz1, hz2⟩ := HI.out
          refine wpList_append_any _ rfl (.tmp 41) (.tmp 44) _ rfl 0 5 i0 _ 1 1 Try.underlying22 hi0 hz0 hz1 hz2 rfl (by omega) (.slice AV k cV) k ((hexTo L k).map vb) rfl (H.row 0 rfl) (some ⟨gN, 0, none⟩) 1 1 [.int .u8 ((16 * va + vb') % 256)] rfl (H.rdBlk 1 rfl 1 1 rfl) (by intro u hu; simp at hu; subst hu; rfl) (by simp only [maxLen]; omega) (by omega) (by omega) ?_
          intro v6 w6 hown6 hg6 hat6
          replace H := ((H.grow 0 rfl hown6 hg6 hat6).upd_mk (by simp)).front 1
          clear hown6 hg6 hat6 hi0 hz0 hz1 hz2
          have H7 : St w [] w6 (lay [.row 5 1 v6 (k + 1) ((hexTo L (k + 1)).map vb)]) := by rw [HX.out, List.map_append]; unfold vb; rw [List.map_cons, HB.out]; exact H
          clear H
          go_wp2
          go_roundw
          case rel => exact ⟨k + 1, by omega, by go_num, H7⟩
          case measure => simp [intOf]; omega
    · obtain rfl : k = m := by omega
      go_wp2
      go_ret
      exact ⟨_, rfl, (by unfold OwnB; rw [hexTo_length]; exact H.newRow 0 rfl), H.below⟩
end Go.Proofs.Ythdfbnababmanaa

namespace Go.Proofs.Ythdfbnababmanaa
open Go.RowKit
set_option linter.unusedVariables false
set_option maxRecDepth 100000

attribute [local irreducible] permB kBytes kPerm kFrom

theorem count_add (a n r : Nat) (hr : 0 < r) : a / r + (a % r + n) / r = (a + n) / r := by
  have h := Nat.div_add_mod a r
  have e : a + n = (a % r + n) + r * (a / r) := by omega
  rw [e, Nat.add_mul_div_left _ _ hr, Nat.add_comm]

theorem Sp.after_add (x : Sp) (m n : Nat) : x.after (m + n) = (x.after m).after n := by
  induction n with
  | zero => rfl
  | succ n ih => rw [← Nat.add_assoc, Sp.after_succ, ih]; rfl

theorem Sp.read_add (x : Sp) (m n : Nat) : x.read (m + n) = x.read m ++ (x.after m).read n := by
  unfold Sp.read
  rw [List.range_add, List.map_append, List.map_map]
  congr 1
  apply List.map_congr_left
  intro i _
  show (x.after (m + i)).get = _
  rw [Sp.after_add]

/-- where a sponge that is shut stands behind some bytes, and how often it was permuted -/
theorem Sp.after_count {x : Sp} (h : x.Ok) (hs : x.s = true) : ∀ m, ((x.p + m - 1) / x.r) * x.r + (x.after m).p = x.p + m ∧ (0 < m → 1 ≤ (x.after m).p) := by
  have h8 := h.r8
  have hpr := h.pr
  have key : ∀ m, ∃ c, c * x.r + (x.after m).p = x.p + m ∧ (m = 0 → c = 0) ∧ (0 < m → 1 ≤ (x.after m).p) := by
    intro m
    induction m with
    | zero => exact ⟨0, by rw [Sp.after_zero]; omega, fun _ => rfl, fun h => absurd h (by omega)⟩
    | succ m ih =>
      obtain ⟨c, h1, h2, h3⟩ := ih
      obtain ⟨ok, hr, hs', hf⟩ := Sp.after_ok h hs m
      by_cases he : (x.after m).p = (x.after m).r
      · refine ⟨c + 1, ?_, fun e => absurd e (by omega), fun _ => ?_⟩
        · rw [Sp.after_succ, Sp.turn_yes he]
          show (c + 1) * x.r + (0 + 1) = x.p + (m + 1)
          rw [Nat.add_mul, Nat.one_mul]
          rw [he, hr] at h1
          omega
        · rw [Sp.after_succ, Sp.turn_yes he]
          show 1 ≤ 0 + 1
          omega
      · refine ⟨c, ?_, fun e => absurd e (by omega), fun _ => ?_⟩
        · rw [Sp.after_succ, Sp.turn_no he]
          show c * x.r + ((x.after m).p + 1) = x.p + (m + 1)
          omega
        · rw [Sp.after_succ, Sp.turn_no he]
          show 1 ≤ (x.after m).p + 1
          omega
  intro m
  obtain ⟨c, h1, h2, h3⟩ := key m
  obtain ⟨ok, hr, -, -⟩ := Sp.after_ok h hs m
  have hc : c = (x.p + m - 1) / x.r := count_end h1 (by rw [← hr]; exact ok.pr) h2 h3 (by omega) hpr
  rw [← hc]
  exact ⟨h1, h3⟩

/-- counted piece by piece -/
theorem Sp.count_more {x : Sp} (h : x.Ok) (hs : x.s = true) (m n : Nat) : (x.p + m - 1) / x.r + ((x.after m).p + n - 1) / x.r = (x.p + (m + n) - 1) / x.r := by
  obtain ⟨h1, h2⟩ := Sp.after_count h hs m
  have h8 := h.r8
  have hpr := h.pr
  obtain ⟨ok, hr, -, -⟩ := Sp.after_ok h hs m
  have hp := ok.pr
  rw [hr] at hp
  generalize (x.p + m - 1) / x.r = c at h1
  rcases Nat.eq_zero_or_pos n with rfl | hn
  · have e1 : ((x.after m).p + 0 - 1) / x.r = 0 := Nat.div_eq_of_lt (by omega)
    rw [e1, Nat.add_zero, Nat.add_zero]
    rcases Nat.eq_zero_or_pos m with rfl | hm
    · rw [Sp.after_zero] at h1
      have hc0 : c = 0 := by
        rcases Nat.eq_zero_or_pos c with h | h
        · exact h
        · have : 1 * x.r ≤ c * x.r := Nat.mul_le_mul_right _ h
          omega
      rw [hc0, Nat.div_eq_of_lt (by omega)]
    · have := h2 hm
      have e : x.p + m - 1 = ((x.after m).p - 1) + x.r * c := by rw [Nat.mul_comm]; omega
      rw [e, Nat.add_mul_div_left _ _ (by omega), Nat.div_eq_of_lt (by omega), Nat.zero_add]
  · have e : x.p + (m + n) - 1 = ((x.after m).p + n - 1) + x.r * c := by rw [Nat.mul_comm]; omega
    rw [e, Nat.add_mul_div_left _ _ (by omega), Nat.add_comm]

end Go.Proofs.Ythdfbnababmanaa

namespace Go.Proofs.Ythdfbnababmanaa
open Go.RowKit
set_option linter.unusedVariables false
set_option maxRecDepth 100000

attribute [local irreducible] permB kBytes kPerm kFrom

theorem rep_snoc {α : Type} (x : α) (k : Nat) : List.replicate k x ++ [x] = List.replicate (k + 1) x := by
  rw [List.replicate_succ']

set_option maxHeartbeats 1000000 in
theorem fill_s (A : Option Addr) (n c : Nat) (x : UInt8) (w : World) (hn : n ≤ 1048576) :
    Calls Try.prog 43 #[.slice A n c, .int .u8 (x.toNat : Int)] w fun e w' => ∃ v, e = .returned v ∧ OwnB w' w.heap.size v (List.replicate n x) ∧ Below w.heap.size w w' := by
  obtain ⟨i0, hi0, hz0, hz1, hz2⟩ := info_parts u8_info
  have HI := Lib.hid (⟨hi0, hz0, hz1, hz2⟩ : _ ∧ _ ∧ _ ∧ _)
  clear hi0 hz0 hz1 hz2
  have H0 := (St.start_lay w []).nilRow 0 rfl 5 1 |>.push_mk rfl
  go_enter Try.func43, Try.ntmps43
  go_wp2
  go_loopw [5, 6] (fun v i wr => ∃ k : Nat, k ≤ n ∧ i = .int .i64 k ∧ St w [] wr (lay [.row 5 1 v k ((List.replicate k x).map vb)])) (fun _ i _ => n - (intOf i).toNat)
  case atStart => exact ⟨0, Nat.zero_le _, rfl, H0⟩
  case round =>
    clear H0
    obtain ⟨k, hk, rfl, H⟩ := hrel
    obtain ⟨AV, cV, rfl, -, -⟩ := row_form (H.row 0 rfl)
    by_cases hlt : k < n
    · have hk1 : (k : Int) < n := by omega
      go_wp2_with (at_builtin; refine hold_here' ?_)
      refine Lib.hid ?_
      refine absorb_list (H.allocAt 1 rfl wr.heap.size rfl #[.int .u8 (x.toNat : Int)] 5 |>.push_mk rfl) ?_
      clear H
      intro w5 H
      generalize wr.heap.size = gN at H ⊢
      obtain ⟨hi0, hz0, hz1, hz2⟩ := HI.out
      refine wpList_append_any _ rfl (.tmp 13) (.tmp 15) _ rfl 0 5 i0 _ 1 1 Try.underlying22 hi0 hz0 hz1 hz2 rfl (by omega) (.slice AV k cV) k ((List.replicate k x).map vb) rfl (H.row 0 rfl) (some ⟨gN, 0, none⟩) 1 1 [vb x] rfl (H.rdBlk 1 rfl 1 1 rfl) (by intro u hu; simp at hu; subst hu; rfl) (by simp only [maxLen]; omega) (by omega) (by omega) ?_
      intro v6 w6 hown6 hg6 hat6
      replace H := ((H.grow 0 rfl hown6 hg6 hat6).upd_mk (by simp)).front 1
      clear hown6 hg6 hat6 hi0 hz0 hz1 hz2
      have H7 : St w [] w6 (lay [.row 5 1 v6 (k + 1) ((List.replicate (k + 1) x).map vb)]) := by rw [← rep_snoc, List.map_append]; exact H
      clear H
      go_wp2
      go_roundw
      case rel => exact ⟨k + 1, by omega, by go_num, H7⟩
      case measure => simp [intOf]; omega
    · obtain rfl : k = n := by omega
      go_wp2
      go_ret
      exact ⟨_, rfl, (by unfold OwnB; rw [List.length_replicate]; exact H.newRow 0 rfl), H.below⟩

theorem strB_len (x : List UInt8) : (strB x).length = (leftB (8 * x.length)).length + x.length := by unfold strB; rw [List.length_append]

theorem prefix_len {r : Nat} {x y x' y' : List UInt8} (hx : x.length = x'.length) (hy : y.length = y'.length) : (prefixB r x y).length = (prefixB r x' y').length := by
  unfold prefixB padI
  split
  · unfold padB padN
    simp only [List.length_append, strB_len, List.length_replicate, hx, hy]
  · rfl

theorem beginN_len {r : Nat} {x y x' y' : List UInt8} (hx : x.length = x'.length) (hy : y.length = y'.length) : beginN r x y = beginN r x' y' := by
  unfold beginN; rw [prefix_len hx hy, hx, hy]

/-- how many bytes were written into a sponge that has begun -/
def begW (r : Nat) (x y : List UInt8) : Nat := if x.length + y.length = 0 then 0 else (prefixB r x y).length

theorem beginN_W (r : Nat) (x y : List UInt8) : beginN r x y = begW r x y / r := by
  unfold beginN begW
  split
  · rw [Nat.zero_div]
  · rfl

theorem beginSp_W {r : Nat} (x y : List UInt8) (h : 8 ≤ r) : (beginSp r x y).p = begW r x y % r := by
  unfold beginSp begW
  split
  · rw [Nat.zero_mod]; rfl
  · rw [Sp.write_p (x := Sp.new r 4) _ (by show 0 < r; omega)]
    show (0 + _) % r = _
    rw [Nat.zero_add]

theorem begW_len {r : Nat} {x y x' y' : List UInt8} (hx : x.length = x'.length) (hy : y.length = y'.length) : begW r x y = begW r x' y' := by
  unfold begW; rw [prefix_len hx hy, hx, hy]

theorem toldN_W {r : Nat} (x y q : List UInt8) (N : Nat) (h : 8 ≤ r) : toldN r x y q N = (begW r x y + q.length) / r + 1 + (N - 1) / r := by
  unfold toldN
  rw [beginN_W, beginSp_W x y h, Nat.zero_add, ← Nat.add_assoc, count_add _ _ _ (by omega), Nat.add_assoc]

theorem told_take (r : Nat) (x y q : List UInt8) (N M : Nat) (h : M ≤ N) : (toldB r x y q N).take M = toldB r x y q M := by
  unfold toldB Sp.read
  rw [← List.map_take, List.take_range, Nat.min_eq_left h]

theorem noteN_pos (T : Nat) (h : 1 ≤ T) : noteN (some []) 3 200 T = some [((3, 200, (T : Int)) : RunT)] := by
  unfold noteN; rw [if_neg (by omega)]; rfl

end Go.Proofs.Ythdfbnababmanaa

namespace Go.Proofs.Ythdfbnababmanaa
open Go.RowKit
set_option linter.unusedVariables false

def Own.lit (g : Nat) (T : TypeId) (cs : List Value) (m : Nat × Nat) : Own where
  holds w F := w.heap[g]? = some (.cells cs.toArray T m) ∧ F = [g]
  loc := fun ⟨h, e⟩ k => ⟨by rw [k g (by simp [e])]; exact h, e⟩
  old := fun ⟨h, e⟩ k hk => by rw [e] at hk; simp at hk; subst hk; exact lt_of_heap h

section
variable {w0 w w' : World} {F0 : List Nat} {E : Env}

theorem St.litAt (H : St w0 F0 w E) (k : Nat) (hk : E k = none) (b : Nat) (hb : b = w.heap.size) (cs : Array Value) (T : TypeId) (m : Nat × Nat) : St w0 F0 (w.alloc (.cells cs T m)) (upd E k (.lit b T cs.toList m)) := by
  subst hb
  exact H.push k hk ((Below.refl _ _).alloc (Nat.le_refl _) _) (F := [w.heap.size]) ⟨by rw [heap_alloc_new], rfl⟩ (by simp)

theorem St.rdLit {g : Nat} {T : TypeId} {cs : List Value} {m : Nat × Nat} (H : St w0 F0 w E) (k : Nat) (hk : E k = some (.lit g T cs m)) (size n : Nat) (hl : cs.length = n * size) : Rd w size (some ⟨g, 0, none⟩) n cs := by
  obtain ⟨F, ⟨h, -⟩, -⟩ := H.change k hk
  refine ⟨hl, fun _ => ⟨_, rfl, lt_of_heap h, fun j u hu => ?_⟩⟩
  rw [Addr.add_mid, Nat.zero_add, cell_of_row w g j _ _ _ h]
  simpa using hu
end
end Go.Proofs.Ythdfbnababmanaa

namespace Go.Proofs.Ythdfbnababmanaa
open Go.RowKit
set_option linter.unusedVariables false
set_option maxRecDepth 100000

def vA : List UInt8 := [0x7f, 0x9c, 0x2b, 0xa4, 0xe8, 0x8f, 0x82, 0x7d, 0x61, 0x60, 0x45, 0x50, 0x76, 0x05, 0x85, 0x3e, 0xd7, 0x3b, 0x80, 0x93, 0xf6, 0xef, 0xbc, 0x88, 0xeb, 0x1a, 0x6e, 0xac, 0xfa, 0x66, 0xef, 0x26]
def vB : List UInt8 := [0xc1, 0xc3, 0x69, 0x25, 0xb6, 0x40, 0x9a, 0x04, 0xf1, 0xb5, 0x04, 0xfc, 0xbc, 0xa9, 0xd8, 0x2b, 0x40, 0x17, 0x27, 0x7c, 0xb5, 0xed, 0x2b, 0x20, 0x65, 0xfc, 0x1d, 0x38, 0x14, 0xd5, 0xaa, 0xf5]
def emB : List UInt8 := [69, 109, 97, 105, 108, 32, 83, 105, 103, 110, 97, 116, 117, 114, 101]

theorem awk_A : toldB 168 [] [] [] 32 = vA := by decide +kernel
theorem hex_A : hexTo (ByteArray.mk #[55, 102, 57, 99, 50, 98, 97, 52, 101, 56, 56, 102, 56, 50, 55, 100, 54, 49, 54, 48, 52, 53, 53, 48, 55, 54, 48, 53, 56, 53, 51, 101, 100, 55, 51, 98, 56, 48, 57, 51, 102, 54, 101, 102, 98, 99, 56, 56, 101, 98, 49, 97, 54, 101, 97, 99, 102, 97, 54, 54, 101, 102, 50, 54] : ByteArray).data.toList 32 = vA := by decide +kernel
theorem hex_B : hexTo (ByteArray.mk #[99, 49, 99, 51, 54, 57, 50, 53, 98, 54, 52, 48, 57, 97, 48, 52, 102, 49, 98, 53, 48, 52, 102, 99, 98, 99, 97, 57, 100, 56, 50, 98, 52, 48, 49, 55, 50, 55, 55, 99, 98, 53, 101, 100, 50, 98, 50, 48, 54, 53, 102, 99, 49, 100, 51, 56, 49, 52, 100, 53, 97, 97, 102, 53] : ByteArray).data.toList 32 = vB := by decide +kernel
theorem left_0 : leftB 0 = [1, 0] := by unfold leftB; rw [numB_small (by decide)]; rfl
theorem left_120 : leftB 120 = [1, 120] := by unfold leftB; rw [numB_small (by decide)]; rfl
theorem left_168 : leftB 168 = [1, 168] := by unfold leftB; rw [numB_small (by decide)]; rfl
theorem left_256 : leftB 256 = [2, 1, 0] := by unfold leftB; rw [numB_big (by decide), show (256 : Nat) / 256 = 1 from rfl, numB_small (by decide)]; rfl
theorem prefix_B : prefixB 168 [] emB = [1, 168, 1, 0, 1, 120] ++ emB ++ List.replicate 147 0 := by
  unfold prefixB padI
  rw [if_pos (by decide)]
  unfold padB padN strB
  rw [show 8 * ([] : List UInt8).length = 0 from rfl, show 8 * emB.length = 120 from rfl, show ((168 : Nat) : Int).toNat = 168 from rfl, left_0, left_120, left_168]
  rfl
theorem awk_B : toldB 168 [] emB [0, 1, 2, 3] 32 = vB := by
  unfold toldB beginSp
  rw [if_neg (by decide), prefix_B]
  decide +kernel
attribute [local irreducible] permB kBytes kPerm kFrom
theorem noteN_none (k : Int) (s : Int) (n : Nat) : noteN none k s n = none := by unfold noteN; split <;> rfl

theorem em_n : emB.length = 15 := rfl

set_option maxHeartbeats 4000000 in
theorem awake_s (w : World) : Calls Try.prog 37 #[] w fun e w' => e = .returned (.bool true) ∧ Below w.heap.size w w' := by
  have H := (St.start_lay w []).ledNil 0 rfl |>.push_mk rfl
  have HA := Lib.hid hex_A
  have HB := Lib.hid hex_B
  have hcv := fun (w : World) (C : Array Value) (n c : Nat) => Lib.run_convert_bytes_const (P := Try.prog) w 22 5 C n c Try.underlying22 Try.underlying5
  go_enter Try.func37, Try.ntmps37
  go_wp2_with fail
  refine (shShake128_s (.pointer none) none 0 0 none 0 0 [] 32 32 rfl (by omega) H 0 1 rfl rfl (LW.none _ _) (by omega) (by omega) (fun _ _ _ => Rd.none_) (by omega)).mono ?_
  rintro e w1 ⟨v1, rfl, H1⟩
  rw [noteN_none, upd_laid (by simp), awk_A] at H1
  replace H : St w [] w1 (lay [led (.pointer none) none, .row 5 1 v1 32 (vA.map vb)]) := H1.push_mk rfl
  clear H1
  obtain ⟨A1, c1, rfl, -, -⟩ := row_form (H.row 1 rfl)
  go_wp2_with fail
  refine absorb_calls (H.litAt 2 rfl w1.heap.size rfl _ _ _ |>.push_mk rfl |>.allocAt 3 rfl (w1.heap.size + 1) (by simp) _ _ |>.push_mk rfl) ?_
  clear H
  intro w2 H
  generalize w1.heap.size = g2 at H ⊢
  replace H : St w [] w2 (lay [led (.pointer none) none, .row 5 1 (.slice A1 32 c1) 32 (vA.map vb), .lit g2 5 (emB.map vb) (15, 16), .blk (g2 + 1) 5 (([0, 1, 2, 3] : List UInt8).map vb)]) := H
  refine (shC128_s (.pointer none) none 0 0 none (some ⟨g2, 0, none⟩) (some ⟨g2 + 1, 0, none⟩) 0 15 4 0 15 4 [] emB [0, 1, 2, 3] 32 32 rfl (by omega) H 0 4 rfl rfl (LW.none _ _) (by omega) (by omega) (fun _ _ _ => Rd.none_) (fun w' X h => h.rdLit 2 rfl 1 15 rfl) (fun w' X h => h.rdBlk 3 rfl 1 4 rfl) (by omega) (by omega) (by omega)).mono ?_
  rintro e w3 ⟨v3, rfl, H1⟩
  rw [noteN_none, upd_laid (by simp), awk_B] at H1
  replace H : St w [] w3 (lay [led (.pointer none) none, .row 5 1 (.slice A1 32 c1) 32 (vA.map vb), .lit g2 5 (emB.map vb) (15, 16), .blk (g2 + 1) 5 (([0, 1, 2, 3] : List UInt8).map vb), .row 5 1 v3 32 (vB.map vb)]) := H1.push_mk rfl
  clear H1
  obtain ⟨A3, c3, rfl, -, -⟩ := row_form (H.row 4 rfl)
  go_wp2_with fail
  refine (left_s 256 w3 (by omega)).mono ?_
  rintro e w4 ⟨v4, rfl, ho, hb⟩
  have e1 : leftI 256 = [2, 1, 0] := left_256
  rw [e1] at ho
  replace H := (H.pushRow 5 rfl hb ho).push_mk rfl
  replace H : St w [] w4 (lay [led (.pointer none) none, .row 5 1 (.slice A1 32 c1) 32 (vA.map vb), .lit g2 5 (emB.map vb) (15, 16), .blk (g2 + 1) 5 (([0, 1, 2, 3] : List UInt8).map vb), .row 5 1 (.slice A3 32 c3) 32 (vB.map vb), .row 5 1 v4 3 (([2, 1, 0] : List UInt8).map vb)]) := H
  clear ho hb e1
  obtain ⟨A4, c4, rfl, -, -⟩ := row_form (H.row 5 rfl)
  rw [show errI 256 = 0 from rfl]
  go_wp2_with fail
  refine (unhex_s _ 32 rfl (by omega) w4).mono ?_
  rintro e w5 ⟨v5, rfl, ho, hb⟩
  rw [HA.out] at ho
  replace H := (H.pushRow 6 rfl hb ho).push_mk rfl
  clear ho hb
  obtain ⟨A5, c5, rfl, -, -⟩ := row_form (H.row 6 rfl)
  go_wp2_with fail
  refine (sameBytes_yes A1 A5 32 32 c1 c5 vA vA _ (H.rd 1 rfl) (H.rd 6 rfl) (by omega) (by omega) rfl).mono ?_
  rintro e w6 ⟨rfl, hb⟩
  replace H := H.call hb
  clear hb
  go_wp2_with fail
  refine (unhex_s _ 32 rfl (by omega) w6).mono ?_
  rintro e w7 ⟨v7, rfl, ho, hb⟩
  rw [HB.out] at ho
  replace H := (H.pushRow 7 rfl hb ho).push_mk rfl
  clear ho hb
  obtain ⟨A7, c7, rfl, -, -⟩ := row_form (H.row 7 rfl)
  go_wp2_with fail
  refine (sameBytes_yes A3 A7 32 32 c3 c7 vB vB _ (H.rd 4 rfl) (H.rd 7 rfl) (by omega) (by omega) rfl).mono ?_
  rintro e w8 ⟨rfl, hb⟩
  replace H := H.call hb
  clear hb
  go_wp2_with fail
  refine absorb_calls (H.allocAt 8 rfl w8.heap.size rfl _ _ |>.push_mk rfl) ?_
  clear H
  intro w9 H
  generalize w8.heap.size = g9 at H ⊢
  refine (sameBytes_yes A4 (some ⟨g9, 0, none⟩) 3 3 c4 3 [2, 1, 0] [2, 1, 0] _ (H.rd 5 rfl) (H.rdBlk 8 rfl 1 3 rfl) (by omega) (by omega) rfl).mono ?_
  rintro e wa ⟨rfl, hb⟩
  replace H := H.call hb
  clear hb
  go_wp2
  go_ret
  exact ⟨rfl, H.below⟩
end Go.Proofs.Ythdfbnababmanaa

namespace Go.Proofs.Ythdfbnababmanaa
open Go.RowKit
set_option linter.unusedVariables false

theorem pick_any (x : Int) (N : Nat) (w : World) (h1 : -9223372036854775808 ≤ x) (h2 : x ≤ 9223372036854775807) (hN1 : 1 ≤ N) (hN : N ≤ 1099511627776) {b : Int} (hb : b = (N : Int)) :
    Calls Try.prog 39 #[.int .i64 x, .int .i64 b] w fun e w' => (∃ n : Nat, n < N ∧ (n : Int) = x % (N : Int) ∧ e = .returned (.int .i64 (n : Int))) ∧ w = w' := by
  subst hb
  have h4 := Int.emod_nonneg x (show (N : Int) ≠ 0 by omega)
  have h5 := Int.emod_lt_of_pos x (show (0 : Int) < N by omega)
  have hr : x.tmod N = x % N ∨ x.tmod N = x % N - N := by
    rw [Int.tmod_eq_emod (a := x) (b := (N : Int))]
    split
    · left; simp
    · right; simp
  generalize x % (N : Int) = y at *
  obtain ⟨r, hr'⟩ : ∃ r, x.tmod N = r := ⟨_, rfl⟩
  rw [hr'] at hr
  have HM : Hid (y = if r < 0 then r + N else r) := by unfold Hid; split <;> omega
  have hlt : r < N := by omega
  have hgt : -(N : Int) ≤ r := by omega
  clear hr h4 h5
  by_cases hneg : r < 0
  · have HY : Hid (y = r + N) := by have h := HM.out; rw [if_pos hneg] at h; exact h
    clear HM
    go_enter Try.func39, Try.ntmps39
    go_wp2
    go_ret
    exact ⟨⟨(r + N).toNat, by omega, by rw [HY.out]; omega, by go_num⟩, rfl⟩
  · have HY : Hid (y = r) := by have h := HM.out; rw [if_neg hneg] at h; exact h
    clear HM
    go_enter Try.func39, Try.ntmps39
    go_wp2
    go_ret
    exact ⟨⟨r.toNat, by omega, by rw [HY.out]; omega, by go_num⟩, rfl⟩
end Go.Proofs.Ythdfbnababmanaa

namespace Go.Proofs.Ythdfbnababmanaa
open Go.RowKit
set_option linter.unusedVariables false
set_option maxRecDepth 100000

attribute [local irreducible] permB kBytes kPerm kFrom

theorem w64_in {x : Int} (h : -9223372036854775808 ≤ x ∧ x ≤ 9223372036854775807) : wrap64 x = x := by unfold wrap64; omega

theorem rate_s (b : Bool) (w : World) : Calls Try.prog 44 #[.bool b] w fun e w' => e = .returned (.int .i64 (if b then 136 else 168)) ∧ w = w' := by
  cases b
  all_goals
    go_enter Try.func44, Try.ntmps44
    go_wp2
    go_ret
    exact ⟨rfl, rfl⟩

set_option maxHeartbeats 16000000 in
theorem shakeCounts_false (A : Option Addr) (n c : Nat) (xs : List UInt8) (B : Option Addr) (nc d : Nat) (ys : List UInt8) (C : Option Addr) (np cp : Nat) (q : List UInt8) (u : UInt8) (Z Z2 : Int) (w : World)
    (hA : Rd w 1 A n (xs.map vb)) (hn : n ≤ 1048576) (hB : Rd w 1 B nc (ys.map vb)) (hnc : nc ≤ 1048576) (hC : Rd w 1 C np (q.map vb)) (hnp : np ≤ 1048576)
    (hZ1 : -9223372036854775808 ≤ Z) (hZ2 : Z ≤ 9223372036854775807) (hY1 : -9223372036854775808 ≤ Z2) (hY2 : Z2 ≤ 9223372036854775807) :
    Calls Try.prog 6 #[.bool false, .slice A n c, .slice B nc d, .slice C np cp, .int .u8 (u.toNat : Int), .int .i64 Z, .int .i64 Z2] w fun e w' => e = .returned (.bool true) ∧ Below w.heap.size w w' := by
  have hlx : xs.length = n := by simpa using hA.1
  have hly : ys.length = nc := by simpa using hB.1
  have hlq : q.length = np := by simpa using hC.1
  have HX := Lib.hid hlx
  have HY := Lib.hid hly
  have HQ := Lib.hid hlq
  clear hlx hly hlq
  have H := (St.start_lay w []).ledNil 0 rfl |>.push_mk rfl
  go_enter Try.func6, Try.ntmps6
  go_wp2_with fail
  refine (awake_s w).mono ?_
  rintro e w1 ⟨rfl, hb⟩
  replace H := H.call hb
  clear hb
  go_wp2_with fail
  refine (pick_any Z 65537 _ hZ1 hZ2 (by omega) (by omega) rfl).mono ?_
  rintro e w3 ⟨⟨N, hN, -, rfl⟩, rfl⟩
  go_wp2_with fail
  refine (pick_any Z2 (N + 1) _ hY1 hY2 (by omega) (by omega) (by omega)).mono ?_
  rintro e w3 ⟨⟨M, hM, -, rfl⟩, rfl⟩
  go_wp2_with fail
  refine (ledger_new H 1 rfl).mono ?_
  rintro e w4 ⟨l, rfl, H1⟩
  replace H := H1.push_mk rfl
  clear H1
  go_wp2_with fail
  refine (ledger_new H 2 rfl).mono ?_
  rintro e w4 ⟨m, rfl, H1⟩
  replace H := H1.push_mk rfl
  clear H1
  have hT1 := toldN_W (r := 168) xs ys q N (by omega)
  have hT2 := toldN_W (r := 168) (List.replicate n u) (List.replicate nc u) (List.replicate np u) N (by omega)
  rw [← begW_len (r := 168) (x := xs) (y := ys) (by rw [HX.out, List.length_replicate]) (by rw [HY.out, List.length_replicate]), List.length_replicate, ← HQ.out, ← hT1] at hT2
  rw [HQ.out] at hT1 hT2
  obtain ⟨T, hT⟩ : ∃ T, toldN 168 xs ys q N = T := ⟨_, rfl⟩
  rw [hT] at hT1 hT2
  have HT := Lib.hid hT
  have HT1 := Lib.hid hT1
  have HT2 := Lib.hid hT2
  clear hT hT1 hT2
  obtain ⟨W, hW⟩ : ∃ W, begW 168 xs ys = W := ⟨_, rfl⟩
  have hWb : W ≤ 10001000 := by
    rw [← hW]
    unfold begW
    split
    · omega
    · refine padI_le (by omega) (by omega) ?_
      have h1 := strB_le (l := xs) (by rw [HX.out]; omega)
      have h2 := strB_le (l := ys) (by rw [HY.out]; omega)
      rw [List.length_append]
      omega
  have HW := Lib.hid hW
  clear hW
  have HT3 : Hid (T = (W + np) / 168 + 1 + (N - 1) / 168) := by unfold Hid; rw [HT1.out, HW.out]
  have hTb : T ≤ 12000000 := by
    have h1 : (W + np) / 168 ≤ W + np := Nat.div_le_self _ _
    have h2 : (N - 1) / 168 ≤ N - 1 := Nat.div_le_self _ _
    rw [HT3.out]; omega
  have hTp : 1 ≤ T := by rw [HT3.out]; omega
  go_wp2_with fail
  refine (shC128_s l (some []) 0 0 A B C n nc np c d cp xs ys q N N rfl (by omega) H 1 3 rfl rfl LW.nil (by omega) (by omega) (fun w' X h => h.arg0 hA) (fun w' X h => h.arg0 hB) (fun w' X h => h.arg0 hC) (by omega) (by omega) (by omega)).mono ?_
  rintro e w5 ⟨v3, rfl, H1⟩
  rw [HT.out, noteN_pos T hTp, upd_laid (by simp)] at H1
  replace H := H1.push_mk rfl
  clear H1
  obtain ⟨A3, c3, rfl, hc3, -⟩ := row_form (H.row 3 rfl)
  go_wp2_with fail
  refine (fill_s A n c u _ (by omega)).mono ?_
  rintro e wa ⟨v4, rfl, ho, hb⟩
  unfold OwnB at ho
  rw [List.length_replicate] at ho
  replace H := (H.pushRow 4 rfl hb ho).push_mk rfl
  clear ho hb
  obtain ⟨A4, c4, rfl, -, -⟩ := row_form (H.row 4 rfl)
  go_wp2_with fail
  refine (fill_s B nc d u _ (by omega)).mono ?_
  rintro e wa ⟨v5, rfl, ho, hb⟩
  unfold OwnB at ho
  rw [List.length_replicate] at ho
  replace H := (H.pushRow 5 rfl hb ho).push_mk rfl
  clear ho hb
  obtain ⟨A5, c5, rfl, -, -⟩ := row_form (H.row 5 rfl)
  go_wp2_with fail
  refine (fill_s C np cp u _ (by omega)).mono ?_
  rintro e wa ⟨v6, rfl, ho, hb⟩
  unfold OwnB at ho
  rw [List.length_replicate] at ho
  replace H := (H.pushRow 6 rfl hb ho).push_mk rfl
  clear ho hb
  obtain ⟨A6, c6, rfl, -, -⟩ := row_form (H.row 6 rfl)
  go_wp2_with fail
  refine (shC128_s m (some []) 0 0 A4 A5 A6 n nc np c4 c5 c6 _ _ _ N N rfl (by omega) H 2 7 rfl rfl LW.nil (by omega) (by omega) (fun w' X h => h.rd 4 rfl) (fun w' X h => h.rd 5 rfl) (fun w' X h => h.rd 6 rfl) (by omega) (by omega) (by omega)).mono ?_
  rintro e w5 ⟨v7, rfl, H1⟩
  rw [HT2.out, noteN_pos T hTp, upd_laid (by simp)] at H1
  replace H := H1.push_mk rfl
  clear H1
  obtain ⟨A7, c7, rfl, hc7, -⟩ := row_form (H.row 7 rfl)
  go_wp2_with fail
  refine (shC128_s (.pointer none) none 0 0 A B C n nc np c d cp xs ys q M M rfl (by omega) H 0 8 rfl rfl (LW.none _ _) (by omega) (by omega) (fun w' X h => h.arg0 hA) (fun w' X h => h.arg0 hB) (fun w' X h => h.arg0 hC) (by omega) (by omega) (by omega)).mono ?_
  rintro e w5 ⟨v8, rfl, H1⟩
  rw [noteN_none, upd_laid (by simp)] at H1
  replace H := H1.push_mk rfl
  clear H1
  obtain ⟨A8, c8, rfl, hc8, -⟩ := row_form (H.row 8 rfl)
  go_wp2_with fail
  refine (rate_s false _).mono ?_
  rintro e w5 ⟨rfl, rfl⟩
  simp only [if_true, if_false, Bool.false_eq_true]
  obtain ⟨i0, hi0, hz0, hz1, hz2⟩ := info_parts u8_info
  have HI := Lib.hid (⟨hi0, hz0, hz1, hz2⟩ : _ ∧ _ ∧ _ ∧ _)
  clear hi0 hz0 hz1 hz2
  replace H : St w [] _ (lay [led (.pointer none) none, led l (some [((3, 200, (T : Int)) : RunT)]), led m (some [((3, 200, (T : Int)) : RunT)]), .row 5 1 (.slice A3 N c3) N ((toldB 168 xs ys q N).map vb), .row 5 1 (.slice A4 n c4) n ((List.replicate n u).map vb), .row 5 1 (.slice A5 nc c5) nc ((List.replicate nc u).map vb), .row 5 1 (.slice A6 np c6) np ((List.replicate np u).map vb), .row 5 1 (.slice A7 N c7) N ((toldB 168 (List.replicate n u) (List.replicate nc u) (List.replicate np u) N).map vb), .row 5 1 (.slice A8 M c8) M ((toldB 168 xs ys q M).map vb)]) := H
  go_upto_if 84 with fail
  go_cut [25, 26, 27, 84] from 86 (fun v za zb zc wr => v = .int .i64 ((np : Int) + W) ∧ St w [] wr (lay [led (.pointer none) none, led l (some [((3, 200, (T : Int)) : RunT)]), led m (some [((3, 200, (T : Int)) : RunT)]), .row 5 1 (.slice A3 N c3) N ((toldB 168 xs ys q N).map vb), .row 5 1 (.slice A4 n c4) n ((List.replicate n u).map vb), .row 5 1 (.slice A5 nc c5) nc ((List.replicate nc u).map vb), .row 5 1 (.slice A6 np c6) np ((List.replicate np u).map vb), .row 5 1 (.slice A7 N c7) N ((toldB 168 (List.replicate n u) (List.replicate nc u) (List.replicate np u) N).map vb), .row 5 1 (.slice A8 M c8) M ((toldB 168 xs ys q M).map vb)]))
  case first =>
    by_cases h0 : n + nc = 0
    · have hW0 : W = 0 := by rw [← HW.out]; unfold begW; rw [if_pos (by rw [HX.out, HY.out]; exact h0)]
      have hg : ¬ ((n : Int) + nc) > 0 := by omega
      clear h0
      go_wp2_with fail
      go_meet
      case rel => exact ⟨by rw [hW0]; simp, H⟩
    · have hW0 : (padI (strB xs ++ strB ys) 168).length = W := by rw [← HW.out]; unfold begW; rw [if_neg (by rw [HX.out, HY.out]; exact h0)]; rfl
      have hg : ((n : Int) + nc) > 0 := by omega
      have hE : Hid (padE 168 = 0) := if_pos ⟨by omega, by omega⟩
      have HWP := Lib.hid hW0
      clear h0 hW0
      have hLx := strB_le (l := xs) (by rw [HX.out]; omega)
      have hLy := strB_le (l := ys) (by rw [HY.out]; omega)
      go_wp2_with fail
      refine (string_s A n c xs _ (H.arg0 hA) (by omega)).mono ?_
      rintro e wa ⟨v9, rfl, ho, hb⟩
      replace H := (H.pushRow 9 rfl hb ho).push_mk rfl
      clear ho hb
      obtain ⟨A9, c9, rfl, -, -⟩ := row_form (H.row 9 rfl)
      go_wp2_with fail
      refine (string_s B nc d ys _ (H.arg0 hB) (by omega)).mono ?_
      rintro e wa ⟨v10, rfl, ho, hb⟩
      replace H := (H.pushRow 10 rfl hb ho).push_mk rfl
      clear ho hb
      obtain ⟨A10, c10, rfl, -, -⟩ := row_form (H.row 10 rfl)
      go_wp2_with (at_builtin; refine hold_here' ?_)
      refine Lib.hid ?_
      obtain ⟨hi0, hz0, hz1, hz2⟩ := HI.out
      refine wpList_append_any _ rfl (.tmp 87) (.tmp 89) _ rfl 0 5 i0 _ 1 1 Try.underlying22 hi0 hz0 hz1 hz2 rfl (by omega) (.slice A9 (strB xs).length c9) (strB xs).length ((strB xs).map vb) rfl (H.row 9 rfl) A10 (strB ys).length c10 ((strB ys).map vb) rfl (H.rd 10 rfl) (vb_one _) (by simp only [maxLen]; omega) (by omega) (by omega) ?_
      intro v6 w6 hown6 hg6 hat6
      replace H := (H.grow 9 rfl hown6 hg6 hat6).upd_mk (by simp)
      rw [← List.map_append] at H
      clear hown6 hg6 hat6 hi0 hz0 hz1 hz2
      obtain ⟨A9, c9, rfl, -, -⟩ := row_form (H.row 9 rfl)
      go_wp2_with fail
      refine (pad_s A9 ((strB xs).length + (strB ys).length) c9 (strB xs ++ strB ys) 168 _ (H.rd 9 rfl) (by omega)).mono ?_
      rintro e wa ⟨v11, rfl, ho, hb⟩
      rw [hE.out]
      unfold OwnB at ho
      rw [HWP.out] at ho
      replace H := (H.pushRow 11 rfl hb ho).push_mk rfl
      clear ho hb hLx hLy
      obtain ⟨A11, c11, rfl, -, -⟩ := row_form (H.row 11 rfl)
      go_wp2_with fail
      go_meet
      case rel => exact ⟨rfl, H.front 9⟩
  case rest =>
  clear H
  obtain ⟨rfl, H⟩ := hcut
  go_upto_if 106 with fail
  go_cut [28, 105, 106] from 107 (fun v za zb wr => v = .int .i64 (T : Int) ∧ St w [] wr (lay [led (.pointer none) none, led l (some [((3, 200, (T : Int)) : RunT)]), led m (some [((3, 200, (T : Int)) : RunT)]), .row 5 1 (.slice A3 N c3) N ((toldB 168 xs ys q N).map vb), .row 5 1 (.slice A4 n c4) n ((List.replicate n u).map vb), .row 5 1 (.slice A5 nc c5) nc ((List.replicate nc u).map vb), .row 5 1 (.slice A6 np c6) np ((List.replicate np u).map vb), .row 5 1 (.slice A7 N c7) N ((toldB 168 (List.replicate n u) (List.replicate nc u) (List.replicate np u) N).map vb), .row 5 1 (.slice A8 M c8) M ((toldB 168 xs ys q M).map vb)]))
  case first =>
    by_cases hN0 : N = 0
    · have HE : Hid (((np : Int) + W) / 168 + 1 = (T : Int)) := by
        have ht := HT3.out
        rw [hN0, show (0 - 1) / 168 = 0 from rfl, Nat.add_zero] at ht
        unfold Hid
        omega
      have hN1 : ¬ (N : Int) > 0 := by omega
      clear hN0
      go_wp2_with fail
      go_meet
      case rel => exact ⟨by rw [HE.out], H⟩
    · have hN1 : (N : Int) > 0 := by omega
      have HE : Hid (((np : Int) + W) / 168 + 1 + ((N : Int) - 1) / 168 = (T : Int)) := by
        have ht := HT3.out
        unfold Hid
        omega
      clear hN0
      go_wp2_with fail
      go_meet
      case rel => exact ⟨by rw [HE.out], H⟩
  case rest =>
  clear H
  obtain ⟨rfl, H⟩ := hcut
  have hcM : (M : Int) ≤ c3 := by omega
  have hcN : (M : Int) ≤ N := by omega
  go_wp2_with fail
  refine (sameBytes_yes A3 A8 M M c3 c8 (toldB 168 xs ys q M) (toldB 168 xs ys q M) _ (by have hh := (H.rd 3 rfl).take (k := M) (by omega); rw [told_take _ _ _ _ _ _ (by omega)] at hh; exact hh) (H.rd 8 rfl) (by omega) (by omega) rfl).mono ?_
  rintro e wx ⟨rfl, hb⟩
  replace H := H.call hb
  clear hb
  have hlw : Hid (LW (some [((3, 200, (T : Int)) : RunT)]) 1 (T : Int)) := by unfold Hid; rw [← noteN_pos T hTp]; exact (LW.nil.noteN 3 200 T).more (by omega) (by omega)
  go_wp2_with fail
  refine (ledger_runs_w 1 _ H 1 rfl hlw.out (by omega) 9 rfl).mono ?_
  rintro e wx ⟨v20, rfl, H6⟩
  replace H := H6.push_mk rfl
  clear H6
  obtain ⟨A20, c20, rfl, -, -⟩ := row_shape (H.row 9 rfl)
  go_wp2_with fail
  refine absorb_calls (H.allocAt 10 rfl wx.heap.size rfl #[.int .u8 3, .int .i64 200, .int .i64 (T : Int)] 65 |>.push_mk rfl) ?_
  clear H
  intro wy H
  generalize wx.heap.size = gR at H ⊢
  refine (sameRuns_any A20 (some ⟨gR, 0, none⟩) c20 1 [(3, 200, (T : Int))] [(3, 200, (T : Int))] (H.rd 9 rfl) (H.rdBlk 10 rfl 3 1 rfl) (by simp) (by simp)).mono ?_
  rintro e wz ⟨rfl, kd, rfl⟩
  rw [decide_eq_true rfl]
  replace H := H.drewN kd
  generalize wy.drewN kd = wz at H ⊢
  go_wp2_with fail
  refine (ledger_runs_w 1 _ H 1 rfl hlw.out (by omega) 11 rfl).mono ?_
  rintro e wx ⟨v22, rfl, H6⟩
  replace H := H6.push_mk rfl
  clear H6
  obtain ⟨A22, c22, rfl, -, -⟩ := row_shape (H.row 11 rfl)
  go_wp2_with fail
  refine (ledger_runs_w 1 _ H 2 rfl hlw.out (by omega) 12 rfl).mono ?_
  rintro e wx ⟨v23, rfl, H6⟩
  replace H := H6.push_mk rfl
  clear H6
  obtain ⟨A23, c23, rfl, -, -⟩ := row_shape (H.row 12 rfl)
  go_wp2_with fail
  refine (sameRuns_any A22 A23 c22 c23 [(3, 200, (T : Int))] [(3, 200, (T : Int))] (H.rd 11 rfl) (H.rd 12 rfl) (by simp) (by simp)).mono ?_
  rintro e wz ⟨rfl, kd2, rfl⟩
  rw [decide_eq_true rfl]
  replace H := H.drewN kd2
  go_wp2
  go_ret
  exact ⟨rfl, H.below⟩

set_option maxHeartbeats 16000000 in
theorem shakeCounts_true (A : Option Addr) (n c : Nat) (xs : List UInt8) (B : Option Addr) (nc d : Nat) (ys : List UInt8) (C : Option Addr) (np cp : Nat) (q : List UInt8) (u : UInt8) (Z Z2 : Int) (w : World)
    (hA : Rd w 1 A n (xs.map vb)) (hn : n ≤ 1048576) (hB : Rd w 1 B nc (ys.map vb)) (hnc : nc ≤ 1048576) (hC : Rd w 1 C np (q.map vb)) (hnp : np ≤ 1048576)
    (hZ1 : -9223372036854775808 ≤ Z) (hZ2 : Z ≤ 9223372036854775807) (hY1 : -9223372036854775808 ≤ Z2) (hY2 : Z2 ≤ 9223372036854775807) :
    Calls Try.prog 6 #[.bool true, .slice A n c, .slice B nc d, .slice C np cp, .int .u8 (u.toNat : Int), .int .i64 Z, .int .i64 Z2] w fun e w' => e = .returned (.bool true) ∧ Below w.heap.size w w' := by
  have hlx : xs.length = n := by simpa using hA.1
  have hly : ys.length = nc := by simpa using hB.1
  have hlq : q.length = np := by simpa using hC.1
  have HX := Lib.hid hlx
  have HY := Lib.hid hly
  have HQ := Lib.hid hlq
  clear hlx hly hlq
  have H := (St.start_lay w []).ledNil 0 rfl |>.push_mk rfl
  go_enter Try.func6, Try.ntmps6
  go_wp2_with fail
  refine (awake_s w).mono ?_
  rintro e w1 ⟨rfl, hb⟩
  replace H := H.call hb
  clear hb
  go_wp2_with fail
  refine (pick_any Z 65537 _ hZ1 hZ2 (by omega) (by omega) rfl).mono ?_
  rintro e w3 ⟨⟨N, hN, -, rfl⟩, rfl⟩
  go_wp2_with fail
  refine (pick_any Z2 (N + 1) _ hY1 hY2 (by omega) (by omega) (by omega)).mono ?_
  rintro e w3 ⟨⟨M, hM, -, rfl⟩, rfl⟩
  go_wp2_with fail
  refine (ledger_new H 1 rfl).mono ?_
  rintro e w4 ⟨l, rfl, H1⟩
  replace H := H1.push_mk rfl
  clear H1
  go_wp2_with fail
  refine (ledger_new H 2 rfl).mono ?_
  rintro e w4 ⟨m, rfl, H1⟩
  replace H := H1.push_mk rfl
  clear H1
  have hT1 := toldN_W (r := 136) xs ys q N (by omega)
  have hT2 := toldN_W (r := 136) (List.replicate n u) (List.replicate nc u) (List.replicate np u) N (by omega)
  rw [← begW_len (r := 136) (x := xs) (y := ys) (by rw [HX.out, List.length_replicate]) (by rw [HY.out, List.length_replicate]), List.length_replicate, ← HQ.out, ← hT1] at hT2
  rw [HQ.out] at hT1 hT2
  obtain ⟨T, hT⟩ : ∃ T, toldN 136 xs ys q N = T := ⟨_, rfl⟩
  rw [hT] at hT1 hT2
  have HT := Lib.hid hT
  have HT1 := Lib.hid hT1
  have HT2 := Lib.hid hT2
  clear hT hT1 hT2
  obtain ⟨W, hW⟩ : ∃ W, begW 136 xs ys = W := ⟨_, rfl⟩
  have hWb : W ≤ 10001000 := by
    rw [← hW]
    unfold begW
    split
    · omega
    · refine padI_le (by omega) (by omega) ?_
      have h1 := strB_le (l := xs) (by rw [HX.out]; omega)
      have h2 := strB_le (l := ys) (by rw [HY.out]; omega)
      rw [List.length_append]
      omega
  have HW := Lib.hid hW
  clear hW
  have HT3 : Hid (T = (W + np) / 136 + 1 + (N - 1) / 136) := by unfold Hid; rw [HT1.out, HW.out]
  have hTb : T ≤ 12000000 := by
    have h1 : (W + np) / 136 ≤ W + np := Nat.div_le_self _ _
    have h2 : (N - 1) / 136 ≤ N - 1 := Nat.div_le_self _ _
    rw [HT3.out]; omega
  have hTp : 1 ≤ T := by rw [HT3.out]; omega
  go_wp2_with fail
  refine (shC256_s l (some []) 0 0 A B C n nc np c d cp xs ys q N N rfl (by omega) H 1 3 rfl rfl LW.nil (by omega) (by omega) (fun w' X h => h.arg0 hA) (fun w' X h => h.arg0 hB) (fun w' X h => h.arg0 hC) (by omega) (by omega) (by omega)).mono ?_
  rintro e w5 ⟨v3, rfl, H1⟩
  rw [HT.out, noteN_pos T hTp, upd_laid (by simp)] at H1
  replace H := H1.push_mk rfl
  clear H1
  obtain ⟨A3, c3, rfl, hc3, -⟩ := row_form (H.row 3 rfl)
  go_wp2_with fail
  refine (fill_s A n c u _ (by omega)).mono ?_
  rintro e wa ⟨v4, rfl, ho, hb⟩
  unfold OwnB at ho
  rw [List.length_replicate] at ho
  replace H := (H.pushRow 4 rfl hb ho).push_mk rfl
  clear ho hb
  obtain ⟨A4, c4, rfl, -, -⟩ := row_form (H.row 4 rfl)
  go_wp2_with fail
  refine (fill_s B nc d u _ (by omega)).mono ?_
  rintro e wa ⟨v5, rfl, ho, hb⟩
  unfold OwnB at ho
  rw [List.length_replicate] at ho
  replace H := (H.pushRow 5 rfl hb ho).push_mk rfl
  clear ho hb
  obtain ⟨A5, c5, rfl, -, -⟩ := row_form (H.row 5 rfl)
  go_wp2_with fail
  refine (fill_s C np cp u _ (by omega)).mono ?_
  rintro e wa ⟨v6, rfl, ho, hb⟩
  unfold OwnB at ho
  rw [List.length_replicate] at ho
  replace H := (H.pushRow 6 rfl hb ho).push_mk rfl
  clear ho hb
  obtain ⟨A6, c6, rfl, -, -⟩ := row_form (H.row 6 rfl)
  go_wp2_with fail
  refine (shC256_s m (some []) 0 0 A4 A5 A6 n nc np c4 c5 c6 _ _ _ N N rfl (by omega) H 2 7 rfl rfl LW.nil (by omega) (by omega) (fun w' X h => h.rd 4 rfl) (fun w' X h => h.rd 5 rfl) (fun w' X h => h.rd 6 rfl) (by omega) (by omega) (by omega)).mono ?_
  rintro e w5 ⟨v7, rfl, H1⟩
  rw [HT2.out, noteN_pos T hTp, upd_laid (by simp)] at H1
  replace H := H1.push_mk rfl
  clear H1
  obtain ⟨A7, c7, rfl, hc7, -⟩ := row_form (H.row 7 rfl)
  go_wp2_with fail
  refine (shC256_s (.pointer none) none 0 0 A B C n nc np c d cp xs ys q M M rfl (by omega) H 0 8 rfl rfl (LW.none _ _) (by omega) (by omega) (fun w' X h => h.arg0 hA) (fun w' X h => h.arg0 hB) (fun w' X h => h.arg0 hC) (by omega) (by omega) (by omega)).mono ?_
  rintro e w5 ⟨v8, rfl, H1⟩
  rw [noteN_none, upd_laid (by simp)] at H1
  replace H := H1.push_mk rfl
  clear H1
  obtain ⟨A8, c8, rfl, hc8, -⟩ := row_form (H.row 8 rfl)
  go_wp2_with fail
  refine (rate_s true _).mono ?_
  rintro e w5 ⟨rfl, rfl⟩
  simp only [if_true, if_false, Bool.false_eq_true]
  obtain ⟨i0, hi0, hz0, hz1, hz2⟩ := info_parts u8_info
  have HI := Lib.hid (⟨hi0, hz0, hz1, hz2⟩ : _ ∧ _ ∧ _ ∧ _)
  clear hi0 hz0 hz1 hz2
  replace H : St w [] _ (lay [led (.pointer none) none, led l (some [((3, 200, (T : Int)) : RunT)]), led m (some [((3, 200, (T : Int)) : RunT)]), .row 5 1 (.slice A3 N c3) N ((toldB 136 xs ys q N).map vb), .row 5 1 (.slice A4 n c4) n ((List.replicate n u).map vb), .row 5 1 (.slice A5 nc c5) nc ((List.replicate nc u).map vb), .row 5 1 (.slice A6 np c6) np ((List.replicate np u).map vb), .row 5 1 (.slice A7 N c7) N ((toldB 136 (List.replicate n u) (List.replicate nc u) (List.replicate np u) N).map vb), .row 5 1 (.slice A8 M c8) M ((toldB 136 xs ys q M).map vb)]) := H
  go_upto_if 84 with fail
  go_cut [25, 26, 27, 84] from 86 (fun v za zb zc wr => v = .int .i64 ((np : Int) + W) ∧ St w [] wr (lay [led (.pointer none) none, led l (some [((3, 200, (T : Int)) : RunT)]), led m (some [((3, 200, (T : Int)) : RunT)]), .row 5 1 (.slice A3 N c3) N ((toldB 136 xs ys q N).map vb), .row 5 1 (.slice A4 n c4) n ((List.replicate n u).map vb), .row 5 1 (.slice A5 nc c5) nc ((List.replicate nc u).map vb), .row 5 1 (.slice A6 np c6) np ((List.replicate np u).map vb), .row 5 1 (.slice A7 N c7) N ((toldB 136 (List.replicate n u) (List.replicate nc u) (List.replicate np u) N).map vb), .row 5 1 (.slice A8 M c8) M ((toldB 136 xs ys q M).map vb)]))
  case first =>
    by_cases h0 : n + nc = 0
    · have hW0 : W = 0 := by rw [← HW.out]; unfold begW; rw [if_pos (by rw [HX.out, HY.out]; exact h0)]
      have hg : ¬ ((n : Int) + nc) > 0 := by omega
      clear h0
      go_wp2_with fail
      go_meet
      case rel => exact ⟨by rw [hW0]; simp, H⟩
    · have hW0 : (padI (strB xs ++ strB ys) 136).length = W := by rw [← HW.out]; unfold begW; rw [if_neg (by rw [HX.out, HY.out]; exact h0)]; rfl
      have hg : ((n : Int) + nc) > 0 := by omega
      have hE : Hid (padE 136 = 0) := if_pos ⟨by omega, by omega⟩
      have HWP := Lib.hid hW0
      clear h0 hW0
      have hLx := strB_le (l := xs) (by rw [HX.out]; omega)
      have hLy := strB_le (l := ys) (by rw [HY.out]; omega)
      go_wp2_with fail
      refine (string_s A n c xs _ (H.arg0 hA) (by omega)).mono ?_
      rintro e wa ⟨v9, rfl, ho, hb⟩
      replace H := (H.pushRow 9 rfl hb ho).push_mk rfl
      clear ho hb
      obtain ⟨A9, c9, rfl, -, -⟩ := row_form (H.row 9 rfl)
      go_wp2_with fail
      refine (string_s B nc d ys _ (H.arg0 hB) (by omega)).mono ?_
      rintro e wa ⟨v10, rfl, ho, hb⟩
      replace H := (H.pushRow 10 rfl hb ho).push_mk rfl
      clear ho hb
      obtain ⟨A10, c10, rfl, -, -⟩ := row_form (H.row 10 rfl)
      go_wp2_with (at_builtin; refine hold_here' ?_)
      refine Lib.hid ?_
      obtain ⟨hi0, hz0, hz1, hz2⟩ := HI.out
      refine wpList_append_any _ rfl (.tmp 87) (.tmp 89) _ rfl 0 5 i0 _ 1 1 Try.underlying22 hi0 hz0 hz1 hz2 rfl (by omega) (.slice A9 (strB xs).length c9) (strB xs).length ((strB xs).map vb) rfl (H.row 9 rfl) A10 (strB ys).length c10 ((strB ys).map vb) rfl (H.rd 10 rfl) (vb_one _) (by simp only [maxLen]; omega) (by omega) (by omega) ?_
      intro v6 w6 hown6 hg6 hat6
      replace H := (H.grow 9 rfl hown6 hg6 hat6).upd_mk (by simp)
      rw [← List.map_append] at H
      clear hown6 hg6 hat6 hi0 hz0 hz1 hz2
      obtain ⟨A9, c9, rfl, -, -⟩ := row_form (H.row 9 rfl)
      go_wp2_with fail
      refine (pad_s A9 ((strB xs).length + (strB ys).length) c9 (strB xs ++ strB ys) 136 _ (H.rd 9 rfl) (by omega)).mono ?_
      rintro e wa ⟨v11, rfl, ho, hb⟩
      rw [hE.out]
      unfold OwnB at ho
      rw [HWP.out] at ho
      replace H := (H.pushRow 11 rfl hb ho).push_mk rfl
      clear ho hb hLx hLy
      obtain ⟨A11, c11, rfl, -, -⟩ := row_form (H.row 11 rfl)
      go_wp2_with fail
      go_meet
      case rel => exact ⟨rfl, H.front 9⟩
  case rest =>
  clear H
  obtain ⟨rfl, H⟩ := hcut
  go_upto_if 106 with fail
  go_cut [28, 105, 106] from 107 (fun v za zb wr => v = .int .i64 (T : Int) ∧ St w [] wr (lay [led (.pointer none) none, led l (some [((3, 200, (T : Int)) : RunT)]), led m (some [((3, 200, (T : Int)) : RunT)]), .row 5 1 (.slice A3 N c3) N ((toldB 136 xs ys q N).map vb), .row 5 1 (.slice A4 n c4) n ((List.replicate n u).map vb), .row 5 1 (.slice A5 nc c5) nc ((List.replicate nc u).map vb), .row 5 1 (.slice A6 np c6) np ((List.replicate np u).map vb), .row 5 1 (.slice A7 N c7) N ((toldB 136 (List.replicate n u) (List.replicate nc u) (List.replicate np u) N).map vb), .row 5 1 (.slice A8 M c8) M ((toldB 136 xs ys q M).map vb)]))
  case first =>
    by_cases hN0 : N = 0
    · have HE : Hid (((np : Int) + W) / 136 + 1 = (T : Int)) := by
        have ht := HT3.out
        rw [hN0, show (0 - 1) / 136 = 0 from rfl, Nat.add_zero] at ht
        unfold Hid
        omega
      have hN1 : ¬ (N : Int) > 0 := by omega
      clear hN0
      go_wp2_with fail
      go_meet
      case rel => exact ⟨by rw [HE.out], H⟩
    · have hN1 : (N : Int) > 0 := by omega
      have HE : Hid (((np : Int) + W) / 136 + 1 + ((N : Int) - 1) / 136 = (T : Int)) := by
        have ht := HT3.out
        unfold Hid
        omega
      clear hN0
      go_wp2_with fail
      go_meet
      case rel => exact ⟨by rw [HE.out], H⟩
  case rest =>
  clear H
  obtain ⟨rfl, H⟩ := hcut
  have hcM : (M : Int) ≤ c3 := by omega
  have hcN : (M : Int) ≤ N := by omega
  go_wp2_with fail
  refine (sameBytes_yes A3 A8 M M c3 c8 (toldB 136 xs ys q M) (toldB 136 xs ys q M) _ (by have hh := (H.rd 3 rfl).take (k := M) (by omega); rw [told_take _ _ _ _ _ _ (by omega)] at hh; exact hh) (H.rd 8 rfl) (by omega) (by omega) rfl).mono ?_
  rintro e wx ⟨rfl, hb⟩
  replace H := H.call hb
  clear hb
  have hlw : Hid (LW (some [((3, 200, (T : Int)) : RunT)]) 1 (T : Int)) := by unfold Hid; rw [← noteN_pos T hTp]; exact (LW.nil.noteN 3 200 T).more (by omega) (by omega)
  go_wp2_with fail
  refine (ledger_runs_w 1 _ H 1 rfl hlw.out (by omega) 9 rfl).mono ?_
  rintro e wx ⟨v20, rfl, H6⟩
  replace H := H6.push_mk rfl
  clear H6
  obtain ⟨A20, c20, rfl, -, -⟩ := row_shape (H.row 9 rfl)
  go_wp2_with fail
  refine absorb_calls (H.allocAt 10 rfl wx.heap.size rfl #[.int .u8 3, .int .i64 200, .int .i64 (T : Int)] 65 |>.push_mk rfl) ?_
  clear H
  intro wy H
  generalize wx.heap.size = gR at H ⊢
  refine (sameRuns_any A20 (some ⟨gR, 0, none⟩) c20 1 [(3, 200, (T : Int))] [(3, 200, (T : Int))] (H.rd 9 rfl) (H.rdBlk 10 rfl 3 1 rfl) (by simp) (by simp)).mono ?_
  rintro e wz ⟨rfl, kd, rfl⟩
  rw [decide_eq_true rfl]
  replace H := H.drewN kd
  generalize wy.drewN kd = wz at H ⊢
  go_wp2_with fail
  refine (ledger_runs_w 1 _ H 1 rfl hlw.out (by omega) 11 rfl).mono ?_
  rintro e wx ⟨v22, rfl, H6⟩
  replace H := H6.push_mk rfl
  clear H6
  obtain ⟨A22, c22, rfl, -, -⟩ := row_shape (H.row 11 rfl)
  go_wp2_with fail
  refine (ledger_runs_w 1 _ H 2 rfl hlw.out (by omega) 12 rfl).mono ?_
  rintro e wx ⟨v23, rfl, H6⟩
  replace H := H6.push_mk rfl
  clear H6
  obtain ⟨A23, c23, rfl, -, -⟩ := row_shape (H.row 12 rfl)
  go_wp2_with fail
  refine (sameRuns_any A22 A23 c22 c23 [(3, 200, (T : Int))] [(3, 200, (T : Int))] (H.rd 11 rfl) (H.rd 12 rfl) (by simp) (by simp)).mono ?_
  rintro e wz ⟨rfl, kd2, rfl⟩
  rw [decide_eq_true rfl]
  replace H := H.drewN kd2
  go_wp2
  go_ret
  exact ⟨rfl, H.below⟩

theorem shakeCounts_walk (b : Bool) (A : Option Addr) (n c : Nat) (xs : List UInt8) (B : Option Addr) (nc d : Nat) (ys : List UInt8) (C : Option Addr) (np cp : Nat) (q : List UInt8) (u : UInt8) (Z Z2 : Int) (w : World)
    (hA : Rd w 1 A n (xs.map vb)) (hn : n ≤ 1048576) (hB : Rd w 1 B nc (ys.map vb)) (hnc : nc ≤ 1048576) (hC : Rd w 1 C np (q.map vb)) (hnp : np ≤ 1048576)
    (hZ1 : -9223372036854775808 ≤ Z) (hZ2 : Z ≤ 9223372036854775807) (hY1 : -9223372036854775808 ≤ Z2) (hY2 : Z2 ≤ 9223372036854775807) :
    Calls Try.prog 6 #[.bool b, .slice A n c, .slice B nc d, .slice C np cp, .int .u8 (u.toNat : Int), .int .i64 Z, .int .i64 Z2] w fun e w' => e = .returned (.bool true) ∧ Below w.heap.size w w' := by
  cases b
  · exact shakeCounts_false A n c xs B nc d ys C np cp q u Z Z2 w hA hn hB hnc hC hnp hZ1 hZ2 hY1 hY2
  · exact shakeCounts_true A n c xs B nc d ys C np cp q u Z Z2 w hA hn hB hnc hC hnp hZ1 hZ2 hY1 hY2

end Go.Proofs.Ythdfbnababmanaa
