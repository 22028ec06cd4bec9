/- A message in pieces, plain: lists cut alike. -/
import Derived.Test.YthieegmmbjjcbaaSh5V
import Derived.Test.YthieegmmbjjcbaaCut
import Derived.Test.YthieegmmbjjcbaaHeld2
namespace Go.Proofs.Ythieegmmbjjcbaa
open Go.RowKit
set_option linter.unusedVariables false

/-- the first pieces, together -/
def flatTo (L : List (List UInt8)) (i : Nat) : List UInt8 := (L.take i).flatten
theorem flatTo_succ {L : List (List UInt8)} {i : Nat} {x : List UInt8} (h : L[i]? = some x) : flatTo L (i + 1) = flatTo L i ++ x := by
  unfold flatTo; rw [List.take_add_one, h]; simp
theorem flatTo_all (L : List (List UInt8)) : flatTo L L.length = L.flatten := by unfold flatTo; rw [List.take_length]
theorem flatTo_le (L : List (List UInt8)) (i : Nat) : (flatTo L i).length ≤ L.flatten.length := by
  have h : L.flatten = flatTo L i ++ (L.drop i).flatten := by unfold flatTo; rw [← List.flatten_append, List.take_append_drop]
  rw [h, List.length_append]; omega
theorem Pc.cap {w : World} {p : Pc} {G : List Nat} (h : p.own.holds w G) : p.n ≤ p.c := by
  have h1 : w.ownsRow 0 5 1 (.slice p.A p.n p.c) p.n (p.l.map vb) := h.1
  obtain ⟨A, c, e, hc, -⟩ := row_form h1
  injection e with e1 e2 e3
  omega
/-- lists of one length are cut into pieces of the same lengths -/
theorem cutB_alike : ∀ (cs p q : List UInt8), p.length = q.length → (cutB p cs).map List.length = (cutB q cs).map List.length := by
  intro cs
  induction cs with
  | nil => intro p q h; simp [cutB, h]
  | cons c cs ih =>
    intro p q h
    unfold cutB
    by_cases hp : p = []
    · subst hp
      have hq : q = [] := List.eq_nil_of_length_eq_zero (by rw [← h]; rfl)
      subst hq
      rfl
    · have hq : q ≠ [] := fun e => hp (by subst e; exact List.eq_nil_of_length_eq_zero (by rw [h]; rfl))
      rw [if_neg hp, if_neg hq, List.map_cons, List.map_cons, ih _ (q.drop (c.toNat % 200)) (by rw [List.length_drop, List.length_drop, h]), List.length_take, List.length_take, h]
theorem flatTo_alike {L M : List (List UInt8)} (h : L.map List.length = M.map List.length) (i : Nat) : (flatTo L i).length = (flatTo M i).length := by
  unfold flatTo
  rw [List.length_flatten, List.length_flatten, List.map_take, List.map_take, h]
theorem last_all5 (n : Nat) : lastN5 n + n / 128 = (n + 16) / 128 + 1 := by
  unfold lastN5 padZ5
  omega
end Go.Proofs.Ythieegmmbjjcbaa
