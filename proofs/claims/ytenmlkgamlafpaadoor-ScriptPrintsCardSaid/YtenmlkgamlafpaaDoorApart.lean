/- ApartBytes: of slices of bytes that the call owns, no two on one block: it answers true, whatever they hold. -/
import Derived.Test.YtenmlkgamlafpaaDoorRows
import Derived.Test.YtenmlkgamlafpaaDoorLib
import Derived.Test.YtenmlkgamlafpaaDoorKitB
import Derived.Test.YtenmlkgamlafpaaDoorHeap
namespace Go.Proofs.YtenmlkgamlafpaaDoor
open Go.RowKit

theorem lb_info : (Tryd.prog.info? 26).map (fun i => (i.zero, i.size, i.bytes)) = some (some (.slice none 0 0), 1, 24) := by kernel_rfl

/-- the list that is handed in -/
def LR (w : World) (gL N cL : Nat) (vs : List Value) : Prop := w.ownsRow 0 26 1 (.slice (some ⟨gL, 0, none⟩) N cL) N vs
theorem LR.cell {w : World} {gL N cL k : Nat} {vs : List Value} (h : LR w gL N cL vs) (hk : k < N) : w.cell? ⟨gL, k, none⟩ = some (vs.getD k (.slice none 0 0)) := by
  have hl := h.1
  have := World.ownsRow.cellAt h k (by omega)
  rw [this, List.getD_eq_getElem?_getD, List.getElem?_eq_getElem (by omega)]
  rfl
theorem LR.ne {w : World} {gL N cL base : Nat} {vs : List Value} {v : Value} {l : List UInt8} (h : LR w gL N cL vs) (ho : OwnB w base v l) : v.ownBlock ≠ some gL := by
  rcases h.2 with ⟨h', _⟩ | ⟨g', cap', cur, h', _, hg, _⟩
  · cases h'
  injection h' with h1
  injection h1 with h1
  injection h1 with h1
  subst h1
  rcases ho.2 with ⟨rfl, _⟩ | ⟨g, cap, cur', rfl, _, hgg, _⟩
  · simp [Value.ownBlock]
  · intro e
    have : g = gL := by simpa [Value.ownBlock] using e
    subst this
    rw [hg] at hgg
    injection hgg with hgg
    injection hgg with _ h2
    exact absurd h2 (by decide)
theorem LR.below {w w' : World} {gL N cL : Nat} {vs : List Value} (h : LR w gL N cL vs) (hb : Below w.heap.size w w') : LR w' gL N cL vs :=
  World.ownsRow.kept h (row := none) ⟨hb.os, hb.tape, hb.output, hb.size, fun k hk _ => hb.block k hk⟩ (.inr (by simp [Value.ownBlock]))
theorem LR.kept' {w w' : World} {gL N cL : Nat} {vs : List Value} {row : Option Nat} (h : LR w gL N cL vs) (hg : w.grownBy w' row) (hne : row ≠ some gL) : LR w' gL N cL vs :=
  World.ownsRow.kept h hg (.inr (by simp only [Value.ownBlock]; exact fun e => hne e.symm))
theorem LR.kept {w w' : World} {gL N cL g : Nat} {vs : List Value} (h : LR w gL N cL vs) (hg : w.grownBy w' (some g)) (hne : g ≠ gL) : LR w' gL N cL vs :=
  World.ownsRow.kept h hg (.inr (by simp [Value.ownBlock]; exact fun e => hne e.symm))

/-- after round k of the first loop -/
def F1 (vs : List Value) (ls : List (List UInt8)) (k : Nat) : Nat → List (Value × List UInt8) := fun j =>
  [(vs.getD j (.slice none 0 0), if j < k then marksB (j + 10) 0 (ls.getD j []).length else ls.getD j [])]
def F1i (vs : List Value) (ls : List (List UInt8)) (k i : Nat) : Nat → List (Value × List UInt8) := fun j =>
  if j = k then [(vs.getD k (.slice none 0 0), marksB (k + 10) 0 i ++ (ls.getD k []).drop i)] else F1 vs ls k j
theorem Fam.one {w : World} {base N j : Nat} {F : Nat → List (Value × List UInt8)} {v : Value} {l : List UInt8} (h : Fam w base N F) (hj : j < N) (hF : F j = [(v, l)]) : OwnB w base v l := h.own j hj (v, l) (by rw [hF]; simp)
theorem F1_at (vs : List Value) (ls : List (List UInt8)) (k : Nat) : F1 vs ls k k = [(vs.getD k (.slice none 0 0), ls.getD k [])] := by simp [F1]
theorem F1i_zero (vs : List Value) (ls : List (List UInt8)) (k : Nat) : F1i vs ls k 0 = F1 vs ls k := by
  funext j
  unfold F1i F1
  by_cases h : j = k
  · subst h; simp [marksB]
  · simp [h]
theorem F1i_end (vs : List Value) (ls : List (List UInt8)) (k : Nat) : F1i vs ls k (ls.getD k []).length = F1 vs ls (k + 1) := by
  funext j
  unfold F1i F1
  by_cases h : j = k
  · subst h; simp [marksB]
  · have : (j < k + 1) ↔ (j < k) := by omega
    simp [h, this]
theorem F1i_at (vs : List Value) (ls : List (List UInt8)) (k i : Nat) : F1i vs ls k i k = [(vs.getD k (.slice none 0 0), marksB (k + 10) 0 i ++ (ls.getD k []).drop i)] := by simp [F1i]
theorem F1i_succ (vs : List Value) (ls : List (List UInt8)) (k i : Nat) (h : i < (ls.getD k []).length) :
    (fun j => if j = k then [(vs.getD k (.slice none 0 0), (marksB (k + 10) 0 i ++ (ls.getD k []).drop i).set i (markB (k + 10) i))] else F1i vs ls k i j) = F1i vs ls k (i + 1) := by
  have hs := over_step (m := k + 10) h
  rw [Nat.zero_add] at hs
  funext j
  by_cases hj : j = k
  · subst hj; simp only [F1i, if_true]; rw [hs]
  · simp only [F1i, hj, if_false]

/-- after round k of the second loop: beside each slice, from 0 to k - 1, what it was gone on with -/
def F2 (vs : List Value) (ls : List (List UInt8)) (Gs : List Value) (k : Nat) : Nat → List (Value × List UInt8) := fun j =>
  if j < k then [(vs.getD j (.slice none 0 0), marksB (j + 10) 0 (ls.getD j []).length), (Gs.getD j (.slice none 0 0), marksB (j + 10) 0 ((ls.getD j []).length + 6))]
  else [(vs.getD j (.slice none 0 0), marksB (j + 10) 0 (ls.getD j []).length)]
def F2i (vs : List Value) (ls : List (List UInt8)) (Gs : List Value) (k : Nat) (g : Value) (i : Nat) : Nat → List (Value × List UInt8) := fun j =>
  if j = k then [(vs.getD k (.slice none 0 0), marksB (k + 10) 0 (ls.getD k []).length), (g, marksB (k + 10) 0 ((ls.getD k []).length + i))] else F2 vs ls Gs k j
theorem F2_start (vs : List Value) (ls : List (List UInt8)) (N : Nat) : ∀ j, j < N → F2 vs ls [] 0 j = F1 vs ls N j := by
  intro j hj
  simp [F1, F2, hj]
theorem F2_at (vs : List Value) (ls : List (List UInt8)) (Gs : List Value) (k : Nat) : F2 vs ls Gs k k = [(vs.getD k (.slice none 0 0), marksB (k + 10) 0 (ls.getD k []).length)] := by simp [F2]
theorem F2i_zero (vs : List Value) (ls : List (List UInt8)) (Gs : List Value) (k : Nat) :
    (fun j => if j = k then [((vs.getD k (.slice none 0 0)), marksB (k + 10) 0 (ls.getD k []).length), ((vs.getD k (.slice none 0 0)), marksB (k + 10) 0 (ls.getD k []).length)] else F2 vs ls Gs k j) = F2i vs ls Gs k (vs.getD k (.slice none 0 0)) 0 := by
  funext j; simp [F2i]
theorem F2i_at (vs : List Value) (ls : List (List UInt8)) (Gs : List Value) (k : Nat) (g : Value) (i : Nat) : F2i vs ls Gs k g i k = [(vs.getD k (.slice none 0 0), marksB (k + 10) 0 (ls.getD k []).length), (g, marksB (k + 10) 0 ((ls.getD k []).length + i))] := by simp [F2i]
theorem F2i_succ (vs : List Value) (ls : List (List UInt8)) (Gs : List Value) (k : Nat) (g g' : Value) (i : Nat) :
    (fun j => if j = k then [(vs.getD k (.slice none 0 0), marksB (k + 10) 0 (ls.getD k []).length), (g', marksB (k + 10) 0 ((ls.getD k []).length + (i + 1)))] else F2i vs ls Gs k g i j) = F2i vs ls Gs k g' (i + 1) := by
  funext j
  by_cases hj : j = k <;> simp [F2i, hj]
theorem F2i_end (vs : List Value) (ls : List (List UInt8)) (Gs : List Value) (k : Nat) (g : Value) (hG : Gs.length = k) : F2i vs ls Gs k g 6 = F2 vs ls (Gs ++ [g]) (k + 1) := by
  funext j
  by_cases hj : j = k
  · subst hj; subst hG; simp [F2i, F2]
  · simp only [F2i, hj, if_false, F2]
    by_cases hjk : j < k
    · have h1 : j < k + 1 := by omega
      have h2 : (Gs ++ [g]).getD j (.slice none 0 0) = Gs.getD j (.slice none 0 0) := by
        rw [List.getD_eq_getElem?_getD, List.getD_eq_getElem?_getD, List.getElem?_append_left (by omega)]
      simp only [hjk, h1, if_true, h2]
    · have h1 : ¬ j < k + 1 := by omega
      simp only [hjk, h1, if_false]
theorem marksB_take (k s n m : Nat) (h : n ≤ m) : marksB k s n = (marksB k s m).take n := by
  simp [marksB, ← List.map_take, List.take_range, Nat.min_eq_left h]

theorem marksB_get {a n i : Nat} (h : i < n) : (marksB a 0 n)[i]? = some (markB a i) := by
  simp [marksB, h]
theorem OwnB.markAt {w : World} {base a n m c i : Nat} {A : Option Addr} (h : OwnB w base (.slice A m c) (marksB a 0 n)) (hi : i < n) :
    ∃ g, A = some ⟨g, 0, none⟩ ∧ w.cell? ⟨g, i, none⟩ = some (.int .u8 ((markB a i).toNat : Int)) := by
  have hm := h.len_eq
  rw [marksB_length] at hm
  obtain ⟨g, rfl, -⟩ := h.form (by omega)
  obtain ⟨x, hx, hc⟩ := h.cellAt (k := i) (by rw [marksB_length]; exact hi)
  rw [marksB_get hi] at hx
  injection hx with hx
  subst hx
  exact ⟨g, rfl, hc⟩
theorem LR.lit (w : World) (cs : Array Value) (n : Nat) (hn : cs.size = n) (h : n ≤ 1000) : LR (w.alloc (.cells cs 26)) w.heap.size n n cs.toList :=
  World.ownsRow_lit w cs n (Nat.zero_le _) (by simp only [maxLen]; omega) (by omega)
theorem LR.name {w : World} {gL N cL : Nat} {vs : List Value} (h : LR w gL N cL vs) : ∃ us, us = vs ∧ LR w gL N cL us := ⟨vs, rfl, h⟩
theorem LR.lt {w : World} {gL N cL : Nat} {vs : List Value} (h : LR w gL N cL vs) : gL < w.heap.size := (World.ownsRow.lt h gL rfl).2

theorem Hp.fam {w : World} {base : Nat} {ps : List (Value × List UInt8)} (h : Hp w base ps) : Fam w base ps.length (F1 (ps.map (·.1)) (ps.map (·.2)) 0) := by
  have key : ∀ j, j < ps.length → ∃ p, ps[j]? = some p ∧ F1 (ps.map (·.1)) (ps.map (·.2)) 0 j = [p] := by
    intro j hj
    refine ⟨ps[j], List.getElem?_eq_getElem hj, ?_⟩
    simp [F1, List.getElem?_eq_getElem hj]
  refine ⟨fun j hj p hp => ?_, fun i j hi hj hij p hp q hq => ?_⟩
  · obtain ⟨r, hr, e⟩ := key j hj
    rw [e] at hp
    rw [List.mem_singleton.1 hp]
    exact h.own j r hr
  · obtain ⟨r, hr, e⟩ := key i hi
    obtain ⟨t, ht, e'⟩ := key j hj
    rw [e] at hp
    rw [e'] at hq
    rw [List.mem_singleton.1 hp, List.mem_singleton.1 hq]
    exact h.apart i j r t hij hr ht

end Go.Proofs.YtenmlkgamlafpaaDoor
