/- A row that is filled place by place. -/
import Derived.Test.YtenmlkgamlafpaaDoorLib
namespace Go.Proofs.YtenmlkgamlafpaaDoor
theorem zeros_step {l : List UInt8} {k n : Nat} {b : UInt8} (hk : k < n) (hb : l[k]? = some b) : (l.take k ++ List.replicate (n - k) 0).set k b = l.take (k + 1) ++ List.replicate (n - (k + 1)) 0 := by
  have hl : k < l.length := (List.getElem?_eq_some_iff.1 hb).1
  have e : n - k = (n - (k + 1)) + 1 := by omega
  have hm : min k l.length = k := by omega
  rw [List.set_append_right _ _ (by simp; omega), List.length_take, hm, Nat.sub_self, e, List.replicate_succ, List.set_cons_zero, List.take_add_one, hb]
  simp
end Go.Proofs.YtenmlkgamlafpaaDoor
