/- Rows of a constant's bytes (marked behind their end): pieces that are read only. -/
import Derived.Test.YthieegmmbjjcbaaSep
import Derived.Lib.SlBytesConst
namespace Go.Proofs.Ythieegmmbjjcbaa
open Go.RowKit
set_option linter.unusedVariables false

def Own.lit (g : Nat) (T : TypeId) (cs : List Value) (m : Nat × Nat) : Own where
  holds w F := w.heap[g]? = some (.cells cs.toArray T m) ∧ F = [g]
  loc := fun ⟨h, e⟩ k => ⟨by rw [k g (by simp [e])]; exact h, e⟩
  old := fun ⟨h, e⟩ k hk => by rw [e] at hk; simp at hk; subst hk; exact lt_of_heap h

section
variable {w0 w w' : World} {F0 : List Nat} {E : Env}

theorem St.litAt (H : St w0 F0 w E) (k : Nat) (hk : E k = none) (b : Nat) (hb : b = w.heap.size) (cs : Array Value) (T : TypeId) (m : Nat × Nat) : St w0 F0 (w.alloc (.cells cs T m)) (upd E k (.lit b T cs.toList m)) := by
  subst hb
  exact H.push k hk ((Below.refl _ _).alloc (Nat.le_refl _) _) (F := [w.heap.size]) ⟨by rw [heap_alloc_new], rfl⟩ (by simp)

theorem St.rdLit {g : Nat} {T : TypeId} {cs : List Value} {m : Nat × Nat} (H : St w0 F0 w E) (k : Nat) (hk : E k = some (.lit g T cs m)) (size n : Nat) (hl : cs.length = n * size) : Rd w size (some ⟨g, 0, none⟩) n cs := by
  obtain ⟨F, ⟨h, -⟩, -⟩ := H.change k hk
  refine ⟨hl, fun _ => ⟨_, rfl, lt_of_heap h, fun j u hu => ?_⟩⟩
  rw [Addr.add_mid, Nat.zero_add, cell_of_row w g j _ _ _ h]
  simpa using hu
end
end Go.Proofs.Ythieegmmbjjcbaa
