/- A map that a call makes, as a piece of memory: entries by numbers of one byte. Nothing here speaks of the program. -/
import Derived.Test.YtenmlkgamlafpaaDoorSep
import Derived.Test.YtenmlkgamlafpaaDoorFlat
import Derived.Maps.Own
import Derived.MapKept
namespace Go.Proofs.YtenmlkgamlafpaaDoor
open Go.RowKit
set_option linter.unusedVariables false

def Own.mapO (b : Nat) (es : List MapEntry) (clock : Nat) : Own where
  holds w F := w.heap[b]? = some (.map es.toArray clock) ∧ F = [b]
  loc := fun ⟨h, e⟩ k => ⟨by rw [k b (by simp [e])]; exact h, e⟩
  old := fun ⟨h, e⟩ k hk => by rw [e] at hk; simp at hk; subst hk; exact lt_of_heap h

section
variable {P : Program} {w0 w : World} {F0 : List Nat} {E : Env}
theorem St.map_at {b c : Nat} {es : List MapEntry} (H : St w0 F0 w E) (k : Nat) (hk : E k = some (.mapO b es c)) : w.heap[b]? = some (.map es.toArray c) := by
  obtain ⟨F, h, -⟩ := H.change k hk
  exact h.1
theorem St.map_lt {b c : Nat} {es : List MapEntry} (H : St w0 F0 w E) (k : Nat) (hk : E k = some (.mapO b es c)) : b < w.heap.size := lt_of_heap (H.map_at k hk)
theorem St.mkMap (H : St w0 F0 w E) (k : Nat) (hk : E k = none) (b : Nat) (hb : b = w.heap.size) : St w0 F0 (w.alloc (.map #[] 0)) (upd E k (.mapO b [] 0)) := by
  subst hb
  exact H.push k hk ((Below.refl _ _).alloc (Nat.le_refl _) _) (A := .mapO w.heap.size [] 0) (F := [w.heap.size]) ⟨by rw [heap_alloc_new], rfl⟩ (by simp)
theorem St.insert {b c : Nat} {es : List MapEntry} (x : MapEntry) (H : St w0 F0 w E) (k : Nat) (hk : E k = some (.mapO b es c)) :
    St w0 F0 { w with heap := w.heap.setIfInBounds b (.map (es ++ [x]).toArray (c + 1)) } (upd E k (.mapO b (es ++ [x]) (c + 1))) := by
  obtain ⟨F, ⟨h, e⟩, -, -, hc⟩ := H.change k hk
  subst e
  have hlt := lt_of_heap h
  refine hc _ _ [b] ⟨by simp [hlt], rfl⟩ ⟨rfl, rfl, rfl, by simp, fun i hi hn => ?_⟩ (by simp)
  have : i ≠ b := by simpa using hn
  simp [Ne.symm this]
theorem run_insert {t k e : TypeId} (ht : P.underlying t = some (.map k e)) (hk : P.underlying k = some (.int .u8)) {b c : Nat} {es : List MapEntry} (hb : w.heap[b]? = some (.map es.toArray c)) (key : Int) (val : Value) (hf : Instr.findNow (.int .u8) (.int .u8 key) es 0 = some none) :
    (Instr.mapUpdate t (.map (some b)) (.int .u8 key) val).run P w = .ok () { w with heap := w.heap.setIfInBounds b (.map (es ++ [({ key := .int .u8 key, val := val, born := c } : MapEntry)]).toArray (c + 1)) } := by
  have hc : (Instr.checkKey false 10000 k (.int .u8 key)).run P w = .ok () w := MapKept.run_checkKey (k := .int .u8 key) hk (by simp [MapKept.IsKey]) false 9999
  have hfind := MapKept.run_findKey (w := w) hk hf
  simp [Instr.mapUpdate, run_underlying ht, MapKept.run_getObj_map hb, hc, hfind, MapKept.run_setObj_map _ hb, Result.andThen]
theorem run_look {t k e : TypeId} (ht : P.underlying t = some (.map k e)) (hk : P.underlying k = some (.int .u8)) {b c : Nat} {es : List MapEntry} (hb : w.heap[b]? = some (.map es.toArray c)) (key : Int) (j : Nat) (v : Value) (hf : Instr.findNow (.int .u8) (.int .u8 key) es 0 = some (some (j, v))) :
    (Instr.lookup t (.map (some b)) (.int .u8 key) false).run P w = .ok v w := by
  have hc : ∀ q, (Instr.checkKey q 10000 k (.int .u8 key)).run P w = .ok () w := fun q => MapKept.run_checkKey (k := .int .u8 key) hk (by simp [MapKept.IsKey]) q 9999
  have hfind := MapKept.run_findKey (w := w) hk hf
  simp [Instr.lookup, run_underlying ht, MapKept.run_getObj_map hb, hc, hfind, Result.andThen]
theorem run_look_none {t k e : TypeId} (ht : P.underlying t = some (.map k e)) (hk : P.underlying k = some (.int .u8)) {b c : Nat} {es : List MapEntry} (hb : w.heap[b]? = some (.map es.toArray c)) (key : Int) (z : Value) (hz : (zeroValue e).run P w = .ok z w) (hf : Instr.findNow (.int .u8) (.int .u8 key) es 0 = some none) :
    (Instr.lookup t (.map (some b)) (.int .u8 key) false).run P w = .ok z w := by
  have hc : ∀ q, (Instr.checkKey q 10000 k (.int .u8 key)).run P w = .ok () w := fun q => MapKept.run_checkKey (k := .int .u8 key) hk (by simp [MapKept.IsKey]) q 9999
  have hfind := MapKept.run_findKey (w := w) hk hf
  simp [Instr.lookup, run_underlying ht, MapKept.run_getObj_map hb, hc, hfind, hz, Result.andThen]

theorem upon_insert {o : Oper} {a : Act} {K : Act → World → Prop} {Q : Exit → Act → World → Prop} {t k e : TypeId} (ht : P.underlying t = some (.map k e)) (hk : P.underlying k = some (.int .u8)) {b c : Nat} {es : List MapEntry} (key : Int) (val : Value)
    (H : St w0 F0 w E) (i : Nat) (hE : E i = some (.mapO b es c)) (hf : Instr.findNow (.int .u8) (.int .u8 key) es 0 = some none)
    (h : ∀ w', St w0 F0 w' (upd E i (.mapO b (es ++ [({ key := .int .u8 key, val := val, born := c } : MapEntry)]) (c + 1))) → K (a.put o.dst undef) w') :
    Oper.upon P o a K Q (((Instr.mapUpdate t (.map (some b)) (.int .u8 key) val).run P w).andThen fun _ w' => Result.ok Next.skip w') := by
  rw [run_insert ht hk (H.map_at i hE) key val hf]
  exact h _ (H.insert { key := .int .u8 key, val := val, born := c } i hE)
end
end Go.Proofs.YtenmlkgamlafpaaDoor
