/- The document's Next. -/
import Derived.Test.YtenmlkgamlafpaaDoorOpN

namespace Go.Proofs.YtenmlkgamlafpaaDoor
open Go.RowKit
set_option linter.unusedVariables false

theorem Rd.fld2 {w : World} {b o n : Nat} {l : List UInt8} (h : Rd w 1 (some ⟨b, o, none⟩) n (l.map vb)) (a m m' : Nat) (hm : a + m ≤ n) (he : m' = m) {A : Option Addr} (hA : A = some ⟨b, o + a, none⟩) : Rd w 1 A m' ((Go.Proofs.YtenmlkgamlafpaaDoor.fld l a m).map vb) := by
  subst he; exact h.fld a m' hm hA

theorem Rd.zero2 {w : World} {A : Option Addr} {a m m' : Nat} {l : List UInt8} (h : m' = 0) (he : m = 0) : Rd w 1 A m' ((Go.Proofs.YtenmlkgamlafpaaDoor.fld l a m).map vb) := by
  subst h he
  exact ⟨by simp [Go.Proofs.YtenmlkgamlafpaaDoor.fld], fun h' => by omega⟩

end Go.Proofs.YtenmlkgamlafpaaDoor
