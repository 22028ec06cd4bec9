/- The row of the law MeterWhole: for every input that can be read it returns true and leaves what was there as it was. No condition. -/
import Derived.Test.YtpmgklmgaienhaaRow
import Derived.Test.YtpmgklmgaienhaaRowI
import Derived.Test.YtpmgklmgaienhaaLawMWhole
namespace Go.Proofs.Ytpmgklmgaienhaa.meterWhole
open Go.ChangeShapes Go.WideShapes Go.ChangeAt Go.RowKit
open Go.ChangeMaps (open_string shut_string)
set_option linter.unusedVariables false

set_option maxRecDepth 100000 in
theorem lifted (os : Os) (started : os.Started) (H : Type) (enc : TypeId × Value → H) :
    ReturnsInHanded {} Try.checked os 4 .any (Rows.meterWholeSpec.pre6 enc Try.prog Try.f4 Rows.meterWholeRow.domain false) (Rows.meterWholeSpec.post enc Try.prog Try.f4 false true false false) := by
  refine returnsInHanded_of_change_sized (C := Try.checked) rowOwn started (by kernel_rfl) Try.func4
    (ChangeSpec.witness6 (enc := enc) (C := Try.checked) false ⟨#[], #[.int .i32 0, .int .i32 0, .int .u16 0], []⟩ 8 (by kernel_rfl) (by kernel_rfl) (by kernel_rfl) (by kernel_rfl)) ?_
  intro W base args ds gs before hval0 hW hcnd hsz0 _
  have hsz : (DataW.weightsEach Try.prog (Try.f4.params.toList ++ Rows.meterWholeSpec.plain.varTypes Try.prog) (ds ++ gs)).all (· ≤ reachBytes) = true := hsz0
  have hval : ∀ (j : Nat) t v, Try.f4.params[j]? = some t → args[j]? = some v → Value.okWide Try.prog W .any base t v := hval0
  have hW' := hW
  obtain ⟨p, q, hA0, hV, rfl, hfz, hnd⟩ := hW
  have hA : DataW.TrodAll enc Try.prog W 0 (fun _ => true) true Try.f4.params.toList args.toList ds p := hA0
  rw [Try.params4] at hA hval hsz
  obtain ⟨v0, vs0, d0, ds0, p0, q0, hargs, rfl, rfl, h0, r0⟩ := trodAll_cons hA
  obtain ⟨v1, vs1, d1, ds1, p1, q1, rfl, rfl, rfl, h1, r1⟩ := trodAll_cons r0
  obtain ⟨v2, vs2, d2, ds2, p2, q2, rfl, rfl, rfl, h2, r2⟩ := trodAll_cons r1
  obtain ⟨rfl, rfl, rfl⟩ := trodAll_nil r2
  obtain rfl : args = #[v0, v1, v2] := by cases args; simp_all
  obtain ⟨rfl, rfl⟩ := trodVars_none hV
  obtain ⟨x0, rfl, rfl, rfl, wf0⟩ := open_int Try.underlying21 (hval 0 21 v0 rfl rfl) h0
  have bd0 := i32_of wf0
  obtain ⟨x1, rfl, rfl, rfl, wf1⟩ := open_int Try.underlying21 (hval 1 21 v1 rfl rfl) h1
  have bd1 := i32_of wf1
  obtain ⟨x2, rfl, rfl, rfl, wf2⟩ := open_int Try.underlying32 (hval 2 32 v2 rfl rfl) h2
  have bd2 := u16_of wf2
  clear hA0 hval0
  refine (meterWhole_walk x0 x1 x2 W bd0.1 bd0.2 bd1.1 bd1.2 bd2.1 bd2.2).mono fun e W' ⟨he, bel⟩ => ?_
  subst he
  exact ⟨_, rfl, _, _, _, [], _, [], hW', trodAll_mk1 (shut_bool Try.underlying4 _), (trodAll_cons_mk (shut_int Try.underlying21 wf0) (trodAll_cons_mk (shut_int Try.underlying21 wf1) (trodAll_cons_mk (shut_int Try.underlying32 wf2) trodAll_mk0))), rfl, bel.frame _, fun h => by cases h⟩

theorem proved : Rows.MeterWholeSaid :=
  OpenClaim.holds_of_wide 4 Try.f4 rfl rfl rfl rfl rfl rfl rfl ⟨rfl, rfl, rfl, rfl, rfl⟩ rfl rfl rfl rfl rfl (by kernel_rfl) Try.func4 (by kernel_rfl)
    (of_decide_eq_true (by kernel_rfl)) (by unfold Func.isWrapper; first | (rw [if_pos (by decide +kernel)]; kernel_rfl) | (rw [if_neg (by decide +kernel)]; exact ⟨rfl, rfl⟩))
    (fun os started H enc _ => lifted os started H enc)
end Go.Proofs.Ytpmgklmgaienhaa.meterWhole
namespace Go.Proofs.Ytpmgklmgaienhaa
theorem meterWhole_proved : Rows.MeterWholeSaid := meterWhole.proved
#print axioms meterWhole_proved
end Go.Proofs.Ytpmgklmgaienhaa
