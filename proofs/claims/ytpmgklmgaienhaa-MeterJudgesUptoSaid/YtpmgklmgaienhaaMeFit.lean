/- turnkeylaw29.fits and heap, walked. -/
import Derived.Test.YtpmgklmgaienhaaMeAl
namespace Go.Proofs.Ytpmgklmgaienhaa
open Go.RowKit
set_option linter.unusedVariables false
set_option maxRecDepth 100000

def FitAt (r : RowM) (kk : Int) : Prop := (∃ w c, AskIs r kk false w c) ∧ ∃ w c, AskIs r kk true w c
def FitR (r : RowM) : Prop := goodTo r.l r.n = true ∧ ∀ k : Nat, k < 256 → FitAt r (k : Int)
theorem lim_is : Is 4746794007248502784 (2147483648 * 2 ^ uE) := by
  have h := int_is (n := 2147483648) (by decide)
  rwa [show floatOfInt .f64 2147483648 = 4746794007248502784 by decide +kernel] at h
theorem nlim_is : Is 13970166044103278592 (-2147483648 * 2 ^ uE) := by
  have h := int_is (n := -2147483648) (by decide)
  rwa [show floatOfInt .f64 (-2147483648) = 13970166044103278592 by decide +kernel] at h
theorem cmp_gt_iff {a b : Int} : compare a b = Ordering.gt ↔ b < a := by
  constructor
  · intro h
    rcases Int.lt_or_le b a with h1 | h1
    · exact h1
    · rcases Int.lt_or_le a b with h2 | h2
      · rw [cmp_lt h2] at h; cases h
      · rw [show a = b by omega, cmp_eq] at h; cases h
  · exact cmp_gt
theorem cmp_lt_iff {a b : Int} : compare a b = Ordering.lt ↔ a < b := by
  constructor
  · intro h
    rcases Int.lt_or_le a b with h1 | h1
    · exact h1
    · rcases Int.lt_or_le b a with h2 | h2
      · rw [cmp_gt h2] at h; cases h
      · rw [show a = b by omega, cmp_eq] at h; cases h
  · exact cmp_lt

set_option maxHeartbeats 4000000 in
theorem fits_s (A : Option Addr) (n c : Nat) (l : List RunT) (w : World) (hR : Rd w 3 A n (runsV l)) (hok : ∀ r ∈ l, RunOk r) (hn : n ≤ 5864062014634) :
    Calls Try.prog 31 #[.slice A n c] w fun e w' => ∃ b : Bool, e = .returned (.bool b) ∧ Hid (b = true → FitR ⟨A, n, c, l⟩) ∧ Below w.heap.size w w' := by
  have HOK := Lib.hid hok
  have RA := Lib.hid hR
  have H := St.start_lay w []
  clear hok hR
  go_enter Try.func31, Try.ntmps31
  go_wp2_with fail
  refine (refCheck_s A n c l w RA.out (by omega)).mono ?_
  rintro e w1 ⟨rfl, q, rfl⟩
  replace H := H.drewN q
  by_cases hc : checkE l n = 0
  · have HG := Lib.hid (checkE_eq hc)
    rw [hc]
    go_wp2
    go_loopw [3] (fun v wr => ∃ k : Nat, k ≤ 256 ∧ v = .int .i64 (k : Int) ∧ Hid (∀ i : Nat, i < k → FitAt ⟨A, n, c, l⟩ (i : Int)) ∧ St w [] wr (lay [])) (fun v _ => 256 - (intOf v).toNat)
    case atStart => exact ⟨0, by omega, rfl, fun i hi => by omega, H⟩
    case round =>
      clear H
      obtain ⟨k, hk, rfl, HF, H⟩ := hrel
      by_cases hlt : k < 256
      · have hki : (k : Int) < 256 := by omega
        have w1 : IntKind.u8.wrap (k : Int) = (k : Int) := IntWalk.u8_in _ (by omega)
        go_wp2_with fail
        refine (refNumber_s A n c l (k : Int) wr (H.arg0 RA.out) HOK.out hn).mono ?_
        rintro e w2 ⟨rfl, hb⟩
        replace H := H.call hb
        clear hb
        have hni := numI_in HOK.out (k : Int) n
        obtain ⟨cn, in_, -, cpos⟩ := int_any (n := numI l (k : Int) n) (by have : (2 : Nat) ^ 63 = 9223372036854775808 := by decide
                                                                           omega)
        have hcn := cpos hni.1
        have HNm : Hid (askO (k : Int) false ⟨A, n, c, l⟩ = some (floatOfInt .f64 (numI l (k : Int) n))) := rfl
        generalize floatOfInt .f64 (numI l (k : Int) n) = wn at in_ HNm ⊢
        go_wp2_with fail
        refine (refSize_a A n c l (k : Int) w2 (H.arg0 RA.out) hn).mono ?_
        rintro e w3 ⟨r, q2, rfl, HS, rfl⟩
        replace H := H.drewN q2
        obtain ⟨ws, cs, es, is, -⟩ := sizeO_is HOK.out (k : Int) n (by have : (2 : Nat) ^ 50 = 1125899906842624 := by decide
                                                                       omega)
        obtain rfl : r = ws := (absF_s (by rw [HS.out, es])).1
        have HSz : Hid (askO (k : Int) true ⟨A, n, c, l⟩ = some r) := es
        have o1 := orderW in_ lim_is
        have o2 := orderW is lim_is
        have o3 := orderW is nlim_is
        have IN := Lib.hid in_
        have IS := Lib.hid is
        have g1 := Lib.hid (cmp_gt_iff (a := cn) (b := 2147483648))
        have g2 := Lib.hid (cmp_gt_iff (a := cs) (b := 2147483648))
        have g3 := Lib.hid (cmp_lt_iff (a := cs) (b := -2147483648))
        clear in_ is es HS hni cpos
        generalize compare cn 2147483648 = a1 at o1 g1
        generalize compare cs 2147483648 = a2 at o2 g2
        generalize compare cs (-2147483648) = a3 at o3 g3
        by_cases b1 : a1 = Ordering.gt
        · subst b1
          go_wp2
          go_ret
          exact ⟨false, rfl, fun h => (by cases h), H.below⟩
        by_cases b2 : a2 = Ordering.gt
        · subst b2
          go_wp2
          go_ret
          exact ⟨false, rfl, fun h => (by cases h), H.below⟩
        by_cases b3 : a3 = Ordering.lt
        · subst b3
          go_wp2
          go_ret
          exact ⟨false, rfl, fun h => (by cases h), H.below⟩
        have HF2 : Hid (∀ i : Nat, i < k + 1 → FitAt ⟨A, n, c, l⟩ (i : Int)) := fun i hi => by
          by_cases e : i = k
          · subst e
            have h1 : ¬ (2147483648 < cn) := fun h => b1 (g1.out.2 h)
            have h2 : ¬ (2147483648 < cs) := fun h => b2 (g2.out.2 h)
            have h3 : ¬ (cs < -2147483648) := fun h => b3 (g3.out.2 h)
            have h31 : (2 : Nat) ^ 31 = 2147483648 := by decide
            exact ⟨⟨wn, cn, HNm.out, IN.out, by omega⟩, ⟨r, cs, HSz.out, IS.out, by omega⟩⟩
          · exact HF.out i (by omega)
        have e1 : (a1 == Ordering.gt) = false := beq_eq_false_iff_ne.2 b1
        have e2 : (a2 == Ordering.gt) = false := beq_eq_false_iff_ne.2 b2
        have e3 : (a3 == Ordering.lt) = false := beq_eq_false_iff_ne.2 b3
        clear g1 g2 g3 IN IS HNm HSz w1 hc b1 b2 b3
        go_wp2
        go_roundw
        case rel => exact ⟨k + 1, by omega, by go_num, HF2, H⟩
        case measure => simp [intOf]; omega
      · obtain rfl : k = 256 := by omega
        go_wp2
        go_ret
        exact ⟨true, rfl, fun _ => ⟨HG.out, HF.out⟩, H.below⟩
  · obtain ⟨-, hc2⟩ := checkE_ne hc
    rw [hc2]
    go_wp2
    go_ret
    exact ⟨false, rfl, fun h => (by cases h), H.below⟩
end Go.Proofs.Ytpmgklmgaienhaa
