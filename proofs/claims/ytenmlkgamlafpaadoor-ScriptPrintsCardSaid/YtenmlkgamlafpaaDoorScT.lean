/- What the table of lines tells of a kind. -/
import Derived.Test.YtenmlkgamlafpaaDoorScL
import Derived.Test.YtenmlkgamlafpaaDoorScP

namespace Go.Proofs.YtenmlkgamlafpaaDoor
open Go.RowKit
set_option linter.unusedVariables false
set_option maxRecDepth 100000

theorem run_lookOk {P : Program} {w : World} {t k e : TypeId} (ht : P.underlying t = some (.map k e)) (hk : P.underlying k = some (.int .u8)) {b c : Nat} {es : List MapEntry} (hb : w.heap[b]? = some (.map es.toArray c)) (key : Int) (j : Nat) (v : Value) (hf : Instr.findNow (.int .u8) (.int .u8 key) es 0 = some (some (j, v))) :
    (Instr.lookup t (.map (some b)) (.int .u8 key) true).run P w = .ok (.tuple #[v, .bool true]) w := by
  have hc : ∀ q, (Instr.checkKey q 10000 k (.int .u8 key)).run P w = .ok () w := fun q => MapKept.run_checkKey (k := .int .u8 key) hk (by simp [MapKept.IsKey]) q 9999
  have hfind := MapKept.run_findKey (w := w) hk hf
  simp [Instr.lookup, run_underlying ht, MapKept.run_getObj_map hb, hc, hfind, Result.andThen]

theorem run_lookNo {P : Program} {w : World} {t k e : TypeId} (ht : P.underlying t = some (.map k e)) (hk : P.underlying k = some (.int .u8)) {b c : Nat} {es : List MapEntry} (hb : w.heap[b]? = some (.map es.toArray c)) (key : Int) (z : Value) (hz : (zeroValue e).run P w = .ok z w) (hf : Instr.findNow (.int .u8) (.int .u8 key) es 0 = some none) :
    (Instr.lookup t (.map (some b)) (.int .u8 key) true).run P w = .ok (.tuple #[z, .bool false]) w := by
  have hc : ∀ q, (Instr.checkKey q 10000 k (.int .u8 key)).run P w = .ok () w := fun q => MapKept.run_checkKey (k := .int .u8 key) hk (by simp [MapKept.IsKey]) q 9999
  have hfind := MapKept.run_findKey (w := w) hk hf
  simp [Instr.lookup, run_underlying ht, MapKept.run_getObj_map hb, hc, hfind, hz, Result.andThen]

/-- a field's functions, where the getters lie -/
def fcells (pv : Nat → Nat) : Nat → List Value
  | 0 => numF (pv 1)
  | 1 => algF
  | 2 => numF (pv 2)
  | 3 => numF (pv 3)
  | 4 => lstF (pv 4)
  | _ => lstF (pv 5)

theorem fcells_length (pv : Nat → Nat) (c : Nat) : (fcells pv c).length = 2 := by
  match c with
  | 0 => rfl
  | 1 => rfl
  | 2 => rfl
  | 3 => rfl
  | 4 => rfl
  | c + 5 => rfl

def frow (pv : Nat → Nat) (cs : List Nat) : List Value := cs.flatMap (fcells pv)

theorem frow_get (pv : Nat → Nat) (cs : List Nat) (i j c : Nat) (hi : cs[i]? = some c) (hj : j < 2) : (frow pv cs)[i * 2 + j]? = (fcells pv c)[j]? := flat_get (fcells_length pv) cs i j c hi hj

/-- where the getters lie, by number -/
def pvOf (p1 p2 p3 p4 p5 : Nat) : Nat → Nat
  | 1 => p1
  | 2 => p2
  | 3 => p3
  | 4 => p4
  | _ => p5

def boOf (b1 b2 b3 b4 b5 b6 b7 b8 b9 b10 : Nat) (k : UInt8) : Nat := if k = 1 then b1 else if k = 2 then b2 else if k = 3 then b3 else if k = 4 then b4 else if k = 5 then b5 else if k = 6 then b6 else if k = 7 then b7 else if k = 8 then b8 else if k = 9 then b9 else b10

structure Tbl (w : World) (g : Nat) (pv : Nat → Nat) (bo : UInt8 → Nat) : Prop where
  look : ∀ k : UInt8, usesOf k ≠ [] → (Instr.lookup 40 (.map (some g)) (.int .u8 (k.toNat : Int)) true).run Tryd.prog w = .ok (.tuple #[.agg #[tv (wordOf k), .slice (some ⟨bo k, 0, none⟩) (usesOf k).length (usesOf k).length], .bool true]) w ∧ Rd w 2 (some ⟨bo k, 0, none⟩) (usesOf k).length (frow pv (usesOf k))
  no : ∀ k : UInt8, usesOf k = [] → (Instr.lookup 40 (.map (some g)) (.int .u8 (k.toNat : Int)) true).run Tryd.prog w = .ok (.tuple #[.agg #[tv [], .slice none 0 0], .bool false]) w
  g1 : w.cell? ⟨pv 1, 0, none⟩ = some (.func (.func 22) #[] #[])
  g2 : w.cell? ⟨pv 2, 0, none⟩ = some (.func (.func 23) #[] #[])
  g3 : w.cell? ⟨pv 3, 0, none⟩ = some (.func (.func 24) #[] #[])
  g4 : w.cell? ⟨pv 4, 0, none⟩ = some (.func (.func 26) #[] #[])
  g5 : w.cell? ⟨pv 5, 0, none⟩ = some (.func (.func 27) #[] #[])

theorem zero_line (w : World) : (zeroValue 47).run Tryd.prog w = .ok (.agg #[tv [], .slice none 0 0]) w := rfl

set_option maxHeartbeats 2000000 in
theorem tbl_of {w0 w : World} {F0 : List Nat} (g p1 p2 p3 p4 p5 b1 b2 b3 b4 b5 b6 b7 b8 b9 b10 : Nat) (H : St w0 F0 w (lay (.mapO g (scEs b1 b2 b3 b4 b5 b6 b7 b8 b9 b10) 10 :: (scGets p1 p2 p3 p4 p5 ++ scRows p1 p2 p3 p4 p5 b1 b2 b3 b4 b5 b6 b7 b8 b9 b10)))) : Tbl w g (pvOf p1 p2 p3 p4 p5) (boOf b1 b2 b3 b4 b5 b6 b7 b8 b9 b10) := by
  refine ⟨fun k hk => ?_, fun k hk => ?_, H.cell 1 rfl (o := 0) rfl, H.cell 2 rfl (o := 0) rfl, H.cell 3 rfl (o := 0) rfl, H.cell 4 rfl (o := 0) rfl, H.cell 5 rfl (o := 0) rfl⟩
  · rcases uses_cases k with h | h | h | h | h | h | h | h | h | h | h
    · subst h
      exact ⟨run_lookOk Tryd.underlying40 Tryd.underlying24 (H.map_at 0 rfl) 1 0 _ rfl, H.rdBlkS 6 rfl 2 1 rfl⟩
    · subst h
      exact ⟨run_lookOk Tryd.underlying40 Tryd.underlying24 (H.map_at 0 rfl) 2 1 _ rfl, H.rdBlkS 7 rfl 2 4 rfl⟩
    · subst h
      exact ⟨run_lookOk Tryd.underlying40 Tryd.underlying24 (H.map_at 0 rfl) 3 2 _ rfl, H.rdBlkS 8 rfl 2 2 rfl⟩
    · subst h
      exact ⟨run_lookOk Tryd.underlying40 Tryd.underlying24 (H.map_at 0 rfl) 4 3 _ rfl, H.rdBlkS 9 rfl 2 1 rfl⟩
    · subst h
      exact ⟨run_lookOk Tryd.underlying40 Tryd.underlying24 (H.map_at 0 rfl) 5 4 _ rfl, H.rdBlkS 10 rfl 2 2 rfl⟩
    · subst h
      exact ⟨run_lookOk Tryd.underlying40 Tryd.underlying24 (H.map_at 0 rfl) 6 5 _ rfl, H.rdBlkS 11 rfl 2 1 rfl⟩
    · subst h
      exact ⟨run_lookOk Tryd.underlying40 Tryd.underlying24 (H.map_at 0 rfl) 7 6 _ rfl, H.rdBlkS 12 rfl 2 5 rfl⟩
    · subst h
      exact ⟨run_lookOk Tryd.underlying40 Tryd.underlying24 (H.map_at 0 rfl) 8 7 _ rfl, H.rdBlkS 13 rfl 2 5 rfl⟩
    · subst h
      exact ⟨run_lookOk Tryd.underlying40 Tryd.underlying24 (H.map_at 0 rfl) 9 8 _ rfl, H.rdBlkS 14 rfl 2 1 rfl⟩
    · subst h
      exact ⟨run_lookOk Tryd.underlying40 Tryd.underlying24 (H.map_at 0 rfl) 10 9 _ rfl, H.rdBlkS 15 rfl 2 1 rfl⟩
    · exact absurd h hk
  · have h1 : k ≠ 1 := fun e => by subst e; cases hk
    have h2 : k ≠ 2 := fun e => by subst e; cases hk
    have h3 : k ≠ 3 := fun e => by subst e; cases hk
    have h4 : k ≠ 4 := fun e => by subst e; cases hk
    have h5 : k ≠ 5 := fun e => by subst e; cases hk
    have h6 : k ≠ 6 := fun e => by subst e; cases hk
    have h7 : k ≠ 7 := fun e => by subst e; cases hk
    have h8 : k ≠ 8 := fun e => by subst e; cases hk
    have h9 : k ≠ 9 := fun e => by subst e; cases hk
    have h10 : k ≠ 10 := fun e => by subst e; cases hk
    have e1 := u8_is k 1 h1 1 rfl
    have e2 := u8_is k 2 h2 2 rfl
    have e3 := u8_is k 3 h3 3 rfl
    have e4 := u8_is k 4 h4 4 rfl
    have e5 := u8_is k 5 h5 5 rfl
    have e6 := u8_is k 6 h6 6 rfl
    have e7 := u8_is k 7 h7 7 rfl
    have e8 := u8_is k 8 h8 8 rfl
    have e9 := u8_is k 9 h9 9 rfl
    have e10 := u8_is k 10 h10 10 rfl
    refine run_lookNo Tryd.underlying40 Tryd.underlying24 (H.map_at 0 rfl) (k.toNat : Int) _ (zero_line w) ?_
    simp only [scEs, Instr.findNow, Instr.sameNow, if_true, e1, e2, e3, e4, e5, e6, e7, e8, e9, e10]

theorem Tbl.cell {w : World} {g : Nat} {pv : Nat → Nat} {bo : UInt8 → Nat} (h : Tbl w g pv bo) {k : UInt8} (hu : usesOf k ≠ []) {q c j : Nat} {u : Value} (hq : (usesOf k)[q]? = some c) (hj : j < 2) (hc : (fcells pv c)[j]? = some u) : w.cell? ⟨bo k, q * 2 + j, none⟩ = some u := by
  obtain ⟨ad, e, -, hx⟩ := (h.look k hu).2.2 (by
    have h1 := (List.getElem?_eq_some_iff.1 hq).1
    omega)
  injection e with e
  subst e
  have h2 := hx (q * 2 + j) u (by rw [frow_get pv _ q j c hq hj]; exact hc)
  rw [Addr.add_mid, Nat.zero_add] at h2
  exact h2

end Go.Proofs.YtenmlkgamlafpaaDoor
