/- Plain laws for SkelPublic: what a kind uses, in both packages; bounds grow. -/
import Derived.Test.YtgfhnbjpdhdhgaaLawSFills
import Derived.Test.YtgfhnbjpdhdhgaaPlain
namespace Go.Proofs.Ytgfhnbjpdhdhgaa
open Go.RowKit
set_option linter.unusedVariables false

theorem uses_sku (k : UInt8) (i : Nat) : (i ∈ usesOf k) ↔ (i + 1 ∈ sku k) := by
  unfold usesOf sku
  repeat' split
  all_goals (simp only [List.mem_cons, List.not_mem_nil, or_false]; try omega)
theorem pI_q (k : UInt8) (i : Nat) (x : Int) : pI i (usesOf k) x = qI (i + 1) k x := by
  unfold pI qI
  simp only [uses_sku]
theorem pA_q (k : UInt8) (a : UInt8) : pA (usesOf k) a = qA k a := by
  unfold pA qA
  simp only [uses_sku]
theorem pL_q (k : UInt8) (i : Nat) (l : List UInt8) : ((pL i (usesOf k) l).length : Int) = qI (i + 1) k l.length := by
  unfold pL qI
  simp only [uses_sku]
  split <;> simp
theorem pLq_le (c : Nat) (us : List Nat) (l : List UInt8) : (pL c us l).length ≤ l.length := by unfold pL; split <;> simp
theorem qI_qI (i : Nat) (k : UInt8) (x : Int) : qI i k (qI i k x) = qI i k x := by unfold qI; split <;> simp_all
theorem qA_qA (k a : UInt8) : qA k (qA k a) = qA k a := by unfold qA; split <;> simp_all
theorem q2_qA (k a : UInt8) : qI 2 k (a.toNat : Int) = ((qA k a).toNat : Int) := by unfold qI qA; split <;> rfl

theorem cutI_mono {x y : Int} (h : x ≤ y) : cutI x ≤ cutI y := by unfold cutI; split <;> (try split) <;> (try split) <;> (try split) <;> omega
theorem bdI_mono {d m o c d' m' o' c' : Int} (hd : d ≤ d') (hm0 : 0 ≤ m) (hm : m ≤ m') (ho0 : 0 ≤ o) (ho : o ≤ o') (hc0 : 0 ≤ c) (hc : c ≤ c') : bdI d m o c ≤ bdI d' m' o' c' := by
  unfold bdI
  have hq : o / 32 + 1 ≤ o' / 32 + 1 ∧ 0 ≤ o / 32 + 1 := by omega
  generalize o / 32 + 1 = q at hq ⊢
  generalize o' / 32 + 1 = q' at hq ⊢
  have h1 : (m + 512) * q ≤ (m' + 512) * q' := Int.mul_le_mul (by omega) hq.1 hq.2 (by omega)
  have h2 : 4 * c * q ≤ 4 * c' * q' := Int.mul_le_mul (by omega) hq.1 hq.2 (by omega)
  generalize (m + 512) * q = x at h1 ⊢
  generalize (m' + 512) * q' = x' at h1 ⊢
  generalize 4 * c * q = y at h2 ⊢
  generalize 4 * c' * q' = y' at h2 ⊢
  omega
theorem bound_le (d m o c d' m' o' c' : Int) : bdI (cutI d) (cutI m) (cutI o) (cutI c) ≤ bdI (cutI (max d d')) (cutI (max m m')) (cutI (max o o')) (cutI (max c c')) :=
  bdI_mono (cutI_mono (by omega)) (cutI_in m).1 (cutI_mono (by omega)) (cutI_in o).1 (cutI_mono (by omega)) (cutI_in c).1 (cutI_mono (by omega))
theorem bound_96 (d m o c : Int) : 96 ≤ bdI (cutI d) (cutI m) (cutI o) (cutI c) := by
  have h := bdI_mono (d := 0) (m := 0) (o := 0) (c := 0) (cutI_in d).1 (by omega) (cutI_in m).1 (by omega) (cutI_in o).1 (by omega) (cutI_in c).1
  have e : bdI 0 0 0 0 = 96 := by decide
  omega

/-- an operation's skeleton, part by part -/
theorem skOf_u (k : UInt8) (h : Int) (a : UInt8) (c o : Int) (A B : Option Addr) (n cA m cB : Nat) (w : World) :
    Calls Try.prog 32 #[opV k h a c o (.slice A n cA) (.slice B m cB)] w fun e w' => e = .returned (.agg #[.int .u8 (k.toNat : Int), .int .i64 (qI 1 k h), .int .u8 ((qA k a).toNat : Int), .int .i64 (qI 3 k c), .int .i64 (qI 4 k o), .int .i64 (qI 5 k n), .int .i64 (qI 6 k m)]) ∧ Below w.heap.size w w' :=
  (skOf_s k h a c o A B n cA m cB w).mono fun e w' hh => ⟨by rw [hh.1, q2_qA]; rfl, hh.2⟩
end Go.Proofs.Ytgfhnbjpdhdhgaa
