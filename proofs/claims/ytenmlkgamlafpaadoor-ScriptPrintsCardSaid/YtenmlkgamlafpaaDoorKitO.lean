/- The kit's functions on operations; lists apart, out of a state. -/
import Derived.Test.YtenmlkgamlafpaaDoorOpE
import Derived.Test.YtenmlkgamlafpaaDoorApart
import Derived.Test.YtenmlkgamlafpaaDoorHeld

namespace Go.Proofs.YtenmlkgamlafpaaDoor
open Go.RowKit
set_option linter.unusedVariables false

theorem St.rows_ne {w0 w : World} {F0 : List Nat} {E : Env} {e e' : TypeId} {s s' n n' : Nat} {v v' : Value} {xs xs' : List Value} (H : St w0 F0 w E) (i j : Nat) (hij : i ≠ j) (hi : E i = some (.row e s v n xs)) (hj : E j = some (.row e' s' v' n' xs')) : v.ownBlock = none ∨ v.ownBlock ≠ v'.ownBlock := by
  obtain ⟨F, ⟨-, e1⟩, -, hd, -⟩ := H.change i hi
  obtain ⟨G, ⟨-, e2⟩, hd'⟩ := hd j _ (fun e => hij e.symm) hj
  cases hv : v.ownBlock with
  | none => exact .inl rfl
  | some g =>
    refine .inr fun h => ?_
    exact hd' g (by rw [e2, ← h]; simp) (by rw [e1, hv]; simp)

theorem St.hp {w0 w : World} {E : Env} (H : St w0 [] w E) (ps : List (Value × List UInt8)) (f : Nat → Nat) (hf : ∀ i j, i < ps.length → j < ps.length → f i = f j → i = j) (h : ∀ i p, ps[i]? = some p → E (f i) = some (.row 5 1 p.1 p.2.length (p.2.map vb))) : Hp w w0.heap.size ps := by
  refine ⟨fun i p hp => H.ownRow (f i) (h i p hp), fun i j p q hij hp hq => ?_⟩
  have li := (List.getElem?_eq_some_iff.1 hp).1
  have lj := (List.getElem?_eq_some_iff.1 hq).1
  exact H.rows_ne (f i) (f j) (fun e => hij (hf i j li lj e)) (h i p hp) (h j q hq)

set_option maxHeartbeats 1000000 in
theorem sameOp_yes (k : UInt8) (h : Int) (a : UInt8) (cn ou : Int) (A B A' B' : Option Addr) (n m c d n' m' c' d' : Nat) (xs ys : List UInt8) (w : World) (hA : Rd w 1 A n (xs.map vb)) (hB : Rd w 1 B m (ys.map vb)) (hA' : Rd w 1 A' n' (xs.map vb)) (hB' : Rd w 1 B' m' (ys.map vb))
    (hn : n ≤ 9223372036854775807) (hm : m ≤ 9223372036854775807) :
    Calls Tryd.prog 8 #[opV k h a cn ou (.slice A n c) (.slice B m d), opV k h a cn ou (.slice A' n' c') (.slice B' m' d')] w fun e w' => e = .returned (.bool true) ∧ Below w.heap.size w w' := by
  have hl : n' = n := by have h1 := hA.1; have h2 := hA'.1; simp at h1 h2; omega
  have hl' : m' = m := by have h1 := hB.1; have h2 := hB'.1; simp at h1 h2; omega
  subst hl hl'
  have e1 : (h == h) = true := by simp
  have e2 : (cn == cn) = true := by simp
  have e3 : (ou == ou) = true := by simp
  have H0 := St.start_lay w []
  go_enter Tryd.func8, Tryd.ntmps8
  go_wp2_with fail
  refine absorb_calls (H0.allocAt 0 rfl w.heap.size rfl _ _ |>.push_mk rfl |>.allocAt 1 rfl (w.heap.size + 1) (by simp) _ _ |>.push_mk rfl) ?_
  intro w1 H
  generalize w.heap.size + 1 = gb at H ⊢
  generalize hga : w.heap.size = ga at H ⊢
  clear hga H0
  refine (sameBytes_quiet A A' n' n' c c' xs xs w1 (H.arg0 hA) (H.arg0 hA') hn hn rfl).mono ?_
  rintro e w2 ⟨rfl, q, rfl⟩
  replace H := H.drewN q
  generalize w1.drewN q = w2 at H ⊢
  have c0 := H.cell 0 rfl (o := 6) rfl
  have c1 := H.cell 1 rfl (o := 6) rfl
  go_wp2_with fail
  refine (sameBytes_quiet B B' m' m' d d' ys ys w2 (H.arg0 hB) (H.arg0 hB') hm hm rfl).mono ?_
  rintro e w3 ⟨rfl, q', rfl⟩
  replace H := H.drewN q'
  go_wp2_with fail
  go_ret
  exact ⟨rfl, H.below⟩

end Go.Proofs.YtenmlkgamlafpaaDoor
