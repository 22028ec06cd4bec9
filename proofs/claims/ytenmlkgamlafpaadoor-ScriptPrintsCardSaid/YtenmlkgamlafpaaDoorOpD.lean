/- Decode, in op and in the document. -/
import Derived.Test.YtenmlkgamlafpaaDoorOpR

namespace Go.Proofs.YtenmlkgamlafpaaDoor
open Go.RowKit
set_option linter.unusedVariables false

/-- what a call of Decode tells -/
def DecP (l : List UInt8) (w : World) (e : Ending) (w' : World) : Prop :=
  ∃ v5 v6, e = .returned (.tuple #[opV (decR l).k (decR l).h (decR l).a (decR l).c (decR l).o v5 v6, .int .i64 (decR l).e]) ∧
    St w [] w' (lay [.row 5 1 v5 (decR l).d.length ((decR l).d.map vb), .row 5 1 v6 (decR l).m.length ((decR l).m.map vb)])

theorem DecP.no {l : List UInt8} {w w' : World} (h : decR l = noNext) (hb : Below w.heap.size w w') : DecP l w (.returned (.tuple #[opV 0 0 0 0 0 (.slice none 0 0) (.slice none 0 0), .int .i64 300])) w' := by
  refine ⟨.slice none 0 0, .slice none 0 0, by rw [h]; rfl, ?_⟩
  rw [h]
  exact ((((St.start_lay w []).call hb).nilRow 0 rfl _ _).push_mk rfl |>.nilRow 1 rfl _ _).push_mk rfl

theorem decR_of (l : List UInt8) : ((nextR l).e = 0 → (nextR l).N = l.length → decR l = nextR l) ∧ (((nextR l).e ≠ 0 ∨ (nextR l).N ≠ l.length) → decR l = noNext) := by
  unfold decR
  refine ⟨fun h1 h2 => if_pos ⟨h1, h2⟩, fun h => if_neg ?_⟩
  rcases h with h | h
  · exact fun h' => h h'.1
  · exact fun h' => h h'.2

end Go.Proofs.YtenmlkgamlafpaaDoor
