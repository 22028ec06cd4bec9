/- The row of the law SpongePieces: for every input that can be read it returns true and leaves what was there as it was. No condition. -/
import Derived.Test.YtgjlclihgpahbaaMgC
namespace Go.Proofs.Ytgjlclihgpahbaa.spongePieces
open Go.ChangeShapes Go.WideShapes Go.ChangeAt Go.RowKit
open Go.ChangeMaps (open_string shut_string)
set_option linter.unusedVariables false

set_option maxRecDepth 100000 in
set_option maxHeartbeats 4000000 in
theorem lifted (os : Os) (started : os.Started) (H : Type) (enc : TypeId × Value → H) (F0 : Stop.Interp) :
    ReturnsInHanded {} Try.checked os 4 .any ((Rows.OpenSpec.upto Rows.spongePiecesSpec).pre6 enc Try.prog Try.f4 Rows.spongePiecesUptoRow.domain false) (((Rows.OpenSpec.upto Rows.spongePiecesSpec).at F0).post enc Try.prog Try.f4 false true false false) := by
  refine returnsInHanded_of_cond (k := Rows.uptoSmall) rfl rowOwn started (by kernel_rfl) Try.func4
    (OpenSpec.witness (s := Rows.OpenSpec.upto Rows.spongePiecesSpec) (enc := enc) (C := Try.checked) (k := Rows.uptoSmall) rfl false ⟨#[], #[.int .i64 0, .int .u8 0, .agg #[.slice none 0 0, .slice none 0 0, .int .i64 0, .slice none 0 0]], []⟩ 8 (by kernel_rfl) (by kernel_rfl) (by kernel_rfl) (x := ([.lit (.int .i64 0), .lit (.int .u8 0), .agg [.nil, .nil, .lit (.int .i64 0), .nil]], [], [])) (by kernel_rfl) (by kernel_rfl) (by kernel_rfl)) ?_
  intro W base args ds gs before hval0 hW hcnd hk0 _
  have hval : ∀ (j : Nat) t v, Try.f4.params[j]? = some t → args[j]? = some v → Value.okWide Try.prog W .any base t v := hval0
  have hW' := hW
  obtain ⟨p, q, hA0, hV, rfl, hfz, hnd⟩ := hW
  have hA : DataW.TrodAll enc Try.prog W 0 (fun _ => true) true Try.f4.params.toList args.toList ds p := hA0
  rw [Try.params4] at hA hval
  obtain ⟨v0, vs0, d0, ds0, p0, q0, hargs, rfl, rfl, h0, r0⟩ := trodAll_cons hA
  obtain ⟨v1, vs1, d1, ds1, p1, q1, rfl, rfl, rfl, h1, r1⟩ := trodAll_cons r0
  obtain ⟨v2, vs2, d2, ds2, p2, q2, rfl, rfl, rfl, h2, r2⟩ := trodAll_cons r1
  obtain ⟨rfl, rfl, rfl⟩ := trodAll_nil r2
  obtain rfl : args = #[v0, v1, v2] := by cases args; simp_all
  obtain ⟨rfl, rfl⟩ := trodVars_none hV
  have hu := upto_of hk0
  clear hk0
  have hu2 := Nat.le_trans (bulk_mem (ds := [d0, d1, d2] ++ []) (i := 2) (d := d2) rfl) hu
  clear hu
  obtain ⟨x0, rfl, rfl, rfl, wf0⟩ := open_int Try.underlying3 (hval 0 3 v0 rfl rfl) h0
  have bd0 := i64_of wf0
  obtain ⟨x1, rfl, rfl, rfl, wf1⟩ := open_int Try.underlying5 (hval 1 5 v1 rfl rfl) h1
  obtain ⟨u1, hu1⟩ := u8_of wf1; subst hu1
  have k2 := h2
  have lt2 : ∀ x ∈ p2, x.block < W.heap.size := by obtain ⟨m, hm⟩ := k2; exact DataW.trod_lt m _ _ _ hm
  obtain ⟨sA2, sn2, sc2, sxs2, sB2, snb2, sd2, scs2, sZ2, sC2, snp2, scp2, sqs2, rfl, ra2, rc2, rb2, rnb2, rq2, rnp2, iz2, rn2⟩ := open_streamU (hval 2 45 v2 rfl rfl) h2 hu2
  clear hA0 hval0
  refine (spongePieces_walk x0 u1 sA2 sn2 sc2 sxs2 sB2 snb2 sd2 scs2 sZ2 sC2 snp2 scp2 sqs2 W bd0.1 bd0.2 ra2 rc2 rb2 rnb2 rq2 rnp2 iz2.1 iz2.2 rn2).mono fun e W' ⟨he, bel⟩ => ?_
  subst he
  exact ⟨_, rfl, _, _, _, [], _, [], hW', trodAll_mk1 (shut_bool Try.underlying4 _), (trodAll_cons_mk (shut_int Try.underlying3 wf0) (trodAll_cons_mk (shut_int Try.underlying5 wf1) (trodAll_cons_mk (Below.trod rowLaid (by kernel_rfl) (of_decide_eq_true (by kernel_rfl)) k2 bel lt2) trodAll_mk0))), rfl, bel.frame _, fun h => by cases h⟩

theorem proved : Rows.SpongePiecesUptoSaid :=
  OpenClaim.holds_of_cond 4 Try.f4 rfl rfl rfl rfl rfl rfl rfl ⟨rfl, rfl, rfl, rfl, rfl⟩ rfl rfl rfl rfl rfl (by kernel_rfl) Try.func4 (by kernel_rfl)
    (of_decide_eq_true (by kernel_rfl)) (by unfold Func.isWrapper; first | (rw [if_pos (by decide +kernel)]; kernel_rfl) | (rw [if_neg (by decide +kernel)]; exact ⟨rfl, rfl⟩))
    (fun os started H enc _ F0 => lifted os started H enc F0)
end Go.Proofs.Ytgjlclihgpahbaa.spongePieces
namespace Go.Proofs.Ytgjlclihgpahbaa
theorem spongePieces_proved : Rows.SpongePiecesUptoSaid := spongePieces.proved
#print axioms spongePieces_proved
end Go.Proofs.Ytgjlclihgpahbaa
