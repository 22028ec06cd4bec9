/- Operations out of bytes: Next and Decode, in op and in the document. -/
import Derived.Test.YtenmlkgamlafpaaDoorOpE
import Derived.Deep.Cut

namespace Go.Proofs.YtenmlkgamlafpaaDoor
open Go.RowKit
set_option linter.unusedVariables false

/-- n bytes from a on -/
def fld (l : List UInt8) (a n : Nat) : List UInt8 := (l.drop a).take n

theorem fld_length (l : List UInt8) (a n : Nat) (h : a + n ≤ l.length) : (fld l a n).length = n := by simp [fld]; omega

theorem Rd.fld {w : World} {b o n : Nat} {l : List UInt8} (h : Rd w 1 (some ⟨b, o, none⟩) n (l.map vb)) (a m : Nat) (hm : a + m ≤ n) {A : Option Addr} (hA : A = some ⟨b, o + a, none⟩) : Rd w 1 A m ((fld l a m).map vb) := by
  have hl : l.length = n := by simpa using h.1
  refine ⟨by simp [Go.Proofs.YtenmlkgamlafpaaDoor.fld]; omega, fun hn => ⟨_, hA, ?_, fun j u hu => ?_⟩⟩
  · obtain ⟨ad, e, hb, -⟩ := h.2 (by omega)
    injection e with e; subst e; exact hb
  · obtain ⟨ad, e, -, hc⟩ := h.2 (by omega)
    injection e with e; subst e
    have hj : j < ((Go.Proofs.YtenmlkgamlafpaaDoor.fld l a m).map vb).length := (List.getElem?_eq_some_iff.1 hu).1
    have hj2 : j < m := by simp [Go.Proofs.YtenmlkgamlafpaaDoor.fld] at hj; omega
    have h2 := hc (a + j) u (by
      rw [← hu]
      simp [Go.Proofs.YtenmlkgamlafpaaDoor.fld, List.getElem?_drop, hj2])
    rw [Addr.add_mid] at h2 ⊢
    rw [Nat.add_assoc]; exact h2

theorem Rd.fld_if {w : World} {b o n : Nat} {l : List UInt8} (h : Rd w 1 (some ⟨b, o, none⟩) n (l.map vb)) (a m c : Nat) (hm : a + m ≤ n) (hc : n ≤ c) : Rd w 1 (if c = a then some ⟨b, o, none⟩ else some ⟨b, o + a, none⟩) m ((Go.Proofs.YtenmlkgamlafpaaDoor.fld l a m).map vb) := by
  by_cases hca : c = a
  · obtain rfl : m = 0 := by omega
    exact ⟨by simp [Go.Proofs.YtenmlkgamlafpaaDoor.fld], fun h => by omega⟩
  · exact h.fld a m hm (by rw [if_neg hca])

/-- a word of 64 bits as a whole number -/
def i64N (x : Nat) : Int := IntKind.i64.wrap (x : Int)

def Held (p : Prop) : Prop := p

theorem hold_here {p : Prop} (h : Held p) : p := h

theorem Held.go {p : Prop} (h : p) : Held p := h

structure NextR where
  k : UInt8
  h : Int
  a : UInt8
  c : Int
  o : Int
  d : List UInt8
  m : List UInt8
  N : Nat
  e : Int

def noNext : NextR := ⟨0, 0, 0, 0, 0, [], [], 0, 300⟩

def nD (l : List UInt8) : Nat := tk (fld l 26 3)

def nM (l : List UInt8) : Nat := tk (fld l 29 3)

def nextR (l : List UInt8) : NextR :=
  if 32 ≤ l.length ∧ 32 + nD l + nM l ≤ l.length then
    ⟨l.getD 0 0, i64N (tk (fld l 2 8)), l.getD 1 0, i64N (tk (fld l 10 8)), i64N (tk (fld l 18 8)), fld l 32 (nD l), fld l (32 + nD l) (nM l), 32 + nD l + nM l, 0⟩
  else noNext

def decR (l : List UInt8) : NextR := if (nextR l).e = 0 ∧ (nextR l).N = l.length then nextR l else noNext

theorem results_cell2 {P : Program} {fn : Func} {p q r : Tmp} {ty : TypeId} (h : fn.results = #[.cell p ty, .tmp q, .tmp r]) (tmps : Array Value) (w : World) (g : Nat) (t : TypeId) (cs : Array Value) (fr : Nat × Nat) (d : TypeDesc)
    (hp : tmps.getD p undef = .pointer (some ⟨g, 0, none⟩)) (hg : w.heap[g]? = some (.cells cs t fr))
    (hu : P.underlying ty = some d) (hd : (match d with | .struct _ | .array _ _ => true | _ => false) = true) (hi : (P.info? ty).map (·.size) = some cs.size) :
    (results fn tmps).run P w = .ok (.tuple #[.agg cs, tmps.getD q undef, tmps.getD r undef]) w := by
  have hp' : tmps[p]?.getD undef = .pointer (some ⟨g, 0, none⟩) := by simpa using hp
  simp [results, h, hp', asAddr, run_loadVar_row w g t ty cs fr d hg hu hd hi, Result.andThen]

theorem results_cell1 {P : Program} {fn : Func} {p q : Tmp} {ty : TypeId} (h : fn.results = #[.cell p ty, .tmp q]) (tmps : Array Value) (w : World) (g : Nat) (t : TypeId) (cs : Array Value) (fr : Nat × Nat) (d : TypeDesc)
    (hp : tmps.getD p undef = .pointer (some ⟨g, 0, none⟩)) (hg : w.heap[g]? = some (.cells cs t fr))
    (hu : P.underlying ty = some d) (hd : (match d with | .struct _ | .array _ _ => true | _ => false) = true) (hi : (P.info? ty).map (·.size) = some cs.size) :
    (results fn tmps).run P w = .ok (.tuple #[.agg cs, tmps.getD q undef]) w := by
  have hp' : tmps[p]?.getD undef = .pointer (some ⟨g, 0, none⟩) := by simpa using hp
  simp [results, h, hp', asAddr, run_loadVar_row w g t ty cs fr d hg hu hd hi, Result.andThen]

theorem op_size : (Tryd.prog.info? 28).map (·.size) = some 7 := by kernel_rfl

theorem rd_getD {w : World} {b o n : Nat} {l : List UInt8} (h : Rd w 1 (some ⟨b, o, none⟩) n (l.map vb)) (hl : l.length = n) (k : Nat) (hk : k < n) : w.cell? ⟨b, o + k, none⟩ = some (vb (l.getD k 0)) := by
  obtain ⟨ad, e, -, hc⟩ := h.2 (by omega)
  injection e with e; subst e
  have := hc k (vb (l.getD k 0)) (by rw [List.getElem?_map, List.getD_eq_getElem?_getD, List.getElem?_eq_getElem (by omega)]; rfl)
  rwa [Addr.add_mid] at this

theorem absorb_post {Q : Exit → Act → World → Prop} {a : Act} {w0 w : World} {F0 : List Nat} {E : Env} (H : St w0 F0 w E) (h : ∀ w', St w0 F0 w' E → Q .normal a w') : Q .normal a w := h w H

theorem Rd.zero {w : World} {A : Option Addr} {m : Nat} (h : m = 0) : Rd w 1 A m (([] : List UInt8).map vb) := ⟨by simp [h], fun h' => by omega⟩

theorem St.shape_row {w0 w : World} {F0 : List Nat} {L : List Own} {e : TypeId} {v : Value} {n n' : Nat} {xs xs' : List Value} (H : St w0 F0 w (lay L)) (k : Nat) (hk : L[k]? = some (.row e 1 v n xs)) (hn : n = n') (hx : xs = xs') : St w0 F0 w (lay (L.set k (.row e 1 v n' xs'))) := by
  subst hn hx
  have h := List.getElem?_eq_some_iff.1 hk
  obtain ⟨h1, h2⟩ := h
  rw [← h2, List.set_getElem_self]
  exact H

/-- what a call of Next tells -/
def NextP (l : List UInt8) (w : World) (e : Ending) (w' : World) : Prop :=
  ∃ v5 v6, e = .returned (.tuple #[opV (nextR l).k (nextR l).h (nextR l).a (nextR l).c (nextR l).o v5 v6, .int .i64 ((nextR l).N : Int), .int .i64 (nextR l).e]) ∧
    St w [] w' (lay [.row 5 1 v5 (nextR l).d.length ((nextR l).d.map vb), .row 5 1 v6 (nextR l).m.length ((nextR l).m.map vb)])

theorem NextP.no {l : List UInt8} {w w' : World} (h : nextR l = noNext) (hb : Below w.heap.size w w') : NextP l w (.returned (.tuple #[opV 0 0 0 0 0 (.slice none 0 0) (.slice none 0 0), .int .i64 0, .int .i64 300])) w' := by
  refine ⟨.slice none 0 0, .slice none 0 0, by rw [h]; rfl, ?_⟩
  rw [h]
  exact ((((St.start_lay w []).call hb).nilRow 0 rfl _ _).push_mk rfl |>.nilRow 1 rfl _ _).push_mk rfl

theorem NextP.ok {l : List UInt8} {w w' : World} {v5 v6 : Value} {n5 n6 N : Nat} {x5 x6 : List Value} (h : 32 ≤ l.length ∧ 32 + nD l + nM l ≤ l.length) (H : St w [] w' (lay [.row 5 1 v5 n5 x5, .row 5 1 v6 n6 x6])) (h5 : n5 = nD l) (h6 : n6 = nM l) (hx5 : x5 = (fld l 32 (nD l)).map vb) (hx6 : x6 = (fld l (32 + nD l) (nM l)).map vb) (hN : N = 32 + nD l + nM l) :
    NextP l w (.returned (.tuple #[opV (l.getD 0 0) (i64N (tk (fld l 2 8))) (l.getD 1 0) (i64N (tk (fld l 10 8))) (i64N (tk (fld l 18 8))) v5 v6, .int .i64 (N : Int), .int .i64 0])) w' := by
  have hr : nextR l = ⟨l.getD 0 0, i64N (tk (fld l 2 8)), l.getD 1 0, i64N (tk (fld l 10 8)), i64N (tk (fld l 18 8)), fld l 32 (nD l), fld l (32 + nD l) (nM l), 32 + nD l + nM l, 0⟩ := by unfold nextR; rw [if_pos h]
  refine ⟨v5, v6, by rw [hr]; subst hN; rfl, ?_⟩
  rw [hr]
  simp only
  rw [fld_length _ _ _ (by omega), fld_length _ _ _ (by omega), ← h5, ← h6]
  rw [← h5] at hx5 hx6
  rw [← h6] at hx6
  rw [← hx5, ← hx6]
  exact H

end Go.Proofs.YtenmlkgamlafpaaDoor
