/- Lists of whole numbers: read, held against one another (turnkeykit.SameInts). -/
import Derived.Test.YthieegmmbjjcbaaKitB
namespace Go.Proofs.Ythieegmmbjjcbaa
open Go.RowKit

/-- a number as a value -/
def iv (x : Int) : Value := .int .i64 x
theorem iv_one (l : List Int) : ∀ u ∈ l.map iv, u.oneCell' = true := by
  intro v hv
  obtain ⟨x, -, rfl⟩ := List.mem_map.1 hv
  rfl
theorem int_info : (Try.prog.info? 3).map (fun i => (i.zero, i.size, i.bytes)) = some (some (.int .i64 0), 1, 8) := by kernel_rfl

theorem Rd.intAt {w : World} {A : Option Addr} {n k : Nat} {l : List Int} (h : Rd w 1 A n (l.map iv)) (hk : k < n) :
    ∃ ad b, A = some ad ∧ l[k]? = some b ∧ w.cell? (ad.add k) = some (.int .i64 b) := by
  obtain ⟨ad, u, rfl, -, hu, hc⟩ := h.at_ hk
  rw [List.getElem?_map] at hu
  cases hb : l[k]? with
  | none => rw [hb] at hu; cases hu
  | some b => rw [hb] at hu; cases hu; exact ⟨ad, b, rfl, rfl, hc⟩

end Go.Proofs.Ythieegmmbjjcbaa
