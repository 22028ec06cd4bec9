/- The law MeterNames, walked. -/
import Derived.Test.YtpmgklmgaienhaaMeN
namespace Go.Proofs.Ytpmgklmgaienhaa
open Go.RowKit
set_option linter.unusedVariables false
set_option maxRecDepth 100000

set_option maxHeartbeats 1000000 in
theorem row_s (k s z : Int) (w : World) : Calls Try.prog 36 #[.int .u8 k, .int .i64 s, .int .i64 z] w fun e w' => ∃ g, e = .returned (.slice (some ⟨g, 0, none⟩) 1 1) ∧ g = w.heap.size ∧ Below w.heap.size w w' ∧ w'.heap[g]? = some (.cells #[.int .u8 k, .int .i64 s, .int .i64 z] 60 (0, 0)) := by
  go_enter Try.func36, Try.ntmps36
  go_wp2
  go_ret
  exact ⟨_, rfl, rfl, (Below.refl _ _).alloc (Nat.le_refl _) _, heap_alloc_new _ _⟩
theorem eq_zero_f (w : World) : (Op.equalIn 9999 25 (.float .f64 0) (.float .f64 0)).run Try.prog w = .ok true w := by kernel_rfl
/-- a row of one run, as it lies in memory -/
def rowB (g : Nat) (r : RunT) : RowM := ⟨some ⟨g, 0, none⟩, 1, 1, [r]⟩
theorem rowB_ok {w0 w : World} {E : Env} {g k : Nat} {r : RunT} (H : St w0 [] w E) (hk : E k = some (.blk g 60 (runV r))) (ok : RunOk r) : Rd w 3 (rowB g r).A (rowB g r).n (runsV (rowB g r).l) ∧ (rowB g r).n ≤ 5864062014634 ∧ ∀ x ∈ (rowB g r).l, RunOk x := by
  refine ⟨?_, by show 1 ≤ _; omega, fun x hx => by simp [rowB] at hx; subst hx; exact ok⟩
  have h := H.rdBlkM k hk 3 1 rfl
  show Rd w 3 (some ⟨g, 0, none⟩) 1 (runsV [r])
  rw [show runsV [r] = runV r by simp [runsV]]
  exact h
theorem ver_zero {as_ bs : List RowM} {V : List Value} (h : VerIs as_ bs V) (h2 : judgeE as_ bs ≠ 0 ∨ (stJ as_ bs 24).1 = 0) : V = zeroV := by
  unfold VerIs at h
  rwa [if_neg (fun hh => by rcases h2 with e | e; exact e hh.1; exact hh.2 e)] at h
theorem ver_yes {as_ bs : List RowM} {V : List Value} (h : VerIs as_ bs V) (h1 : judgeE as_ bs = 0) (h2 : (stJ as_ bs 24).1 ≠ 0) : ∃ P, V = verV as_ bs (stJ as_ bs 24) P := by
  unfold VerIs at h
  rw [if_pos ⟨h1, h2⟩] at h
  obtain ⟨P, h, -⟩ := h
  exact ⟨P, h⟩

set_option maxHeartbeats 4000000 in
theorem meterNames_walk (w : World) : Calls Try.prog 8 #[] w fun e w' => e = .returned (.bool true) ∧ Below w.heap.size w w' := by
  have H := St.start_lay w []
  go_enter Try.func8, Try.ntmps8
  go_wp2_with fail
  refine absorb_calls (H.allocAt 0 rfl w.heap.size rfl #[.float .f64 4607182418800017408, .float .f64 4613937818241073152] 25 |>.push_mk rfl |>.allocAt 1 rfl (w.heap.size + 1) (by simp) #[.float .f64 4617315517961601024, .float .f64 4619567317775286272] 25 |>.push_mk rfl) ?_
  clear H
  intro w1 H
  generalize w.heap.size + 1 = g1 at H ⊢
  generalize w.heap.size = g0 at H ⊢
  refine (t_a (some ⟨g0, 0, none⟩) (some ⟨g1, 0, none⟩) 2 2 2 2 [4607182418800017408, 4613937818241073152] [4617315517961601024, 4619567317775286272] w1 (H.rdBlkM 0 rfl 1 2 rfl) (H.rdBlkM 1 rfl 1 2 rfl) (by omega) (by omega)).mono ?_
  rintro e w2 ⟨r1, q1, rfl, T1, rfl⟩
  rw [show tE 2 2 = 0 from rfl]
  replace H := (H.drewN q1).front 0
  generalize w1.drewN q1 = w2 at H ⊢
  replace H : St w [] w2 (lay []) := H
  go_wp2_with fail
  refine absorb_calls (H.allocAt 0 rfl w2.heap.size rfl #[.float .f64 4611686018427387904, .float .f64 4611686018427387904] 25 |>.push_mk rfl |>.allocAt 1 rfl (w2.heap.size + 1) (by simp) #[.float .f64 4611686018427387904, .float .f64 4611686018427387904] 25 |>.push_mk rfl) ?_
  clear H
  intro w3 H
  generalize w2.heap.size + 1 = g3 at H ⊢
  generalize w2.heap.size = g2 at H ⊢
  refine (t_a (some ⟨g2, 0, none⟩) (some ⟨g3, 0, none⟩) 2 2 2 2 [4611686018427387904, 4611686018427387904] [4611686018427387904, 4611686018427387904] w3 (H.rdBlkM 0 rfl 1 2 rfl) (H.rdBlkM 1 rfl 1 2 rfl) (by omega) (by omega)).mono ?_
  rintro e w4 ⟨r2, q2, rfl, T2, rfl⟩
  obtain rfl : r2 = 0 := by have h := T2.out; rw [names_u] at h; exact (absF_s h).1
  rw [show tE 2 2 = 0 from rfl]
  replace H := (H.drewN q2).front 0
  generalize w3.drewN q2 = w4 at H ⊢
  replace H : St w [] w4 (lay []) := H
  go_wp2_with fail
  refine absorb_calls (H.allocAt 0 rfl w4.heap.size rfl #[.float .f64 4607182418800017408] 25 |>.push_mk rfl |>.allocAt 1 rfl (w4.heap.size + 1) (by simp) #[.float .f64 4607182418800017408, .float .f64 4611686018427387904] 25 |>.push_mk rfl) ?_
  clear H
  intro w5 H
  generalize w4.heap.size + 1 = g5 at H ⊢
  generalize w4.heap.size = g4 at H ⊢
  refine (t_a (some ⟨g4, 0, none⟩) (some ⟨g5, 0, none⟩) 1 2 1 2 [4607182418800017408] [4607182418800017408, 4611686018427387904] w5 (H.rdBlkM 0 rfl 1 1 rfl) (H.rdBlkM 1 rfl 1 2 rfl) (by omega) (by omega)).mono ?_
  rintro e w6 ⟨r3, q3, rfl, T3, rfl⟩
  rw [show tE 1 2 = 2 from rfl]
  replace H := (H.drewN q3).front 0
  generalize w5.drewN q3 = w6 at H ⊢
  replace H : St w [] w6 (lay []) := H
  -- the first
  go_wp2_with fail
  refine (sqrt_a 4611686018427387904 w6).mono ?_
  rintro e w7 ⟨rt, q4, rfl, HRT, rfl⟩
  obtain ⟨dv, n1, m1, e1⟩ := run_float_any (P := Try.prog) (w6.drewN q4) .quo rfl 25 13839561654909534208 rt
  have he : r1 = dv ∧ FloatKind.f64.format.order dv dv = some Ordering.eq := by
    have h := T1.out
    obtain ⟨a, b⟩ := names_t
    rw [HRT.out] at e1
    obtain ⟨z, hz⟩ := Option.isSome_iff_exists.1 b
    rw [show absF 13839561654909534208 = some 13839561654909534208 by decide +kernel, show absF 4611686018427387904 = some 4611686018427387904 by decide +kernel, hz] at e1
    rw [a, hz] at h
    obtain ⟨rfl, -⟩ := absF_s h
    obtain ⟨rfl, hn⟩ := absF_s e1
    exact ⟨rfl, ord_self hn⟩
  obtain ⟨rfl, o1⟩ := he
  have q00 : FloatKind.f64.format.order 0 0 = some Ordering.eq := by decide +kernel
  clear e1 T1 HRT T2 T3
  go_wp2_with fail
  refine (mean_a none 0 0 [] _ Rd.none_ (by omega)).mono ?_
  rintro e w7 ⟨r4, q5, rfl, T4, rfl⟩
  obtain rfl : r4 = 0 := (absF_s (show absF r4 = some 0 from T4.out)).1
  clear T4
  go_wp2_with fail
  refine absorb_calls ((H.drewN (q4 + n1 + q5)).allocAt 0 rfl w6.heap.size rfl #[.float .f64 4613937818241073152] 25 |>.push_mk rfl) ?_
  clear H m1
  intro w7 H
  generalize w6.heap.size = g6 at H ⊢
  refine (spread_a (some ⟨g6, 0, none⟩) 1 1 [4613937818241073152] w7 (H.rdBlkM 0 rfl 1 1 rfl) (by omega)).mono ?_
  rintro e w8 ⟨r5, q6, rfl, T5, rfl⟩
  obtain rfl : r5 = 0 := (absF_s (show absF r5 = some 0 from T5.out)).1
  clear T5 o1
  replace H := (H.drewN q6).front 0
  generalize w7.drewN q6 = w8 at H ⊢
  replace H : St w [] w8 (lay []) := H
  -- the second
  obtain ⟨nn1, nn2, nn3, nn4⟩ := names_n
  have ok2 : ∀ x ∈ two9, RunOk x := by intro x hx; simp [two9] at hx; rcases hx with rfl | rfl <;> (unfold RunOk; decide)
  go_wp2_with fail
  refine absorb_calls (H.allocAt 0 rfl w8.heap.size rfl #[.int .u8 5, .int .i64 16, .int .i64 2, .int .u8 5, .int .i64 24, .int .i64 1] 60 |>.push_mk rfl) ?_
  clear H
  intro w9 H
  generalize w8.heap.size = g7 at H ⊢
  have R2 : Rd w9 3 (some ⟨g7, 0, none⟩) 2 (runsV two9) := H.rdBlkM 0 rfl 3 2 rfl
  refine (number_s (some ⟨g7, 0, none⟩) 2 2 two9 5 w9 R2 ok2 (by omega)).mono ?_
  rintro e w10 ⟨rfl, hb⟩
  rw [nn1]
  have R3 := R2.below hb
  replace H := H.call hb
  clear hb
  have o3 : FloatKind.f64.format.order 4613937818241073152 4613937818241073152 = some Ordering.eq := by decide +kernel
  have o56 : FloatKind.f64.format.order 4633078116657397760 4633078116657397760 = some Ordering.eq := by decide +kernel
  go_wp2_with fail
  refine (size_a (some ⟨g7, 0, none⟩) 2 2 two9 5 w10 R3 (by omega)).mono ?_
  rintro e w11 ⟨r6, rfl, T6, hb⟩
  obtain rfl : r6 = 4633078116657397760 := by have h := T6.out; rw [nn3] at h; exact (absF_s h).1
  have R4 := R3.below hb
  replace H := H.call hb
  clear hb T6
  go_wp2_with fail
  refine (number_s (some ⟨g7, 0, none⟩) 2 2 two9 8 w11 R4 ok2 (by omega)).mono ?_
  rintro e w12 ⟨rfl, hb⟩
  rw [nn2]
  have R5 := R4.below hb
  replace H := H.call hb
  clear hb
  go_wp2_with fail
  refine (size_a (some ⟨g7, 0, none⟩) 2 2 two9 8 w12 R5 (by omega)).mono ?_
  rintro e w13 ⟨r7, rfl, T7, hb⟩
  obtain rfl : r7 = 0 := by have h := T7.out; rw [nn4] at h; exact (absF_s h).1
  replace H := (H.call hb).front 0
  replace H : St w [] w13 (lay []) := H
  clear hb T7 R2 R3 R4 R5 nn1 nn2 nn3 nn4 ok2 o3 o56
  -- four
  go_wp2_with fail
  refine (row_s 9 1 4 w13).mono ?_
  rintro e w14 ⟨gf, rfl, hgf, hb, hblk⟩
  replace H := (H.push (A := .blk gf 60 [.int .u8 9, .int .i64 1, .int .i64 4]) (F := [gf]) 0 rfl hb ⟨hblk, rfl⟩ (by intro g hg; simp at hg; omega)).push_mk rfl
  replace H : St w [] w14 (lay [.blk gf 60 [.int .u8 9, .int .i64 1, .int .i64 4]]) := H
  clear hb hblk hgf
  go_wp2_with fail
  refine absorb_calls (H.allocAt 1 rfl w14.heap.size rfl #[.slice (some ⟨gf, 0, none⟩) 1 1, .slice (some ⟨gf, 0, none⟩) 1 1, .slice (some ⟨gf, 0, none⟩) 1 1] 35 |>.push_mk rfl |>.allocAt 2 rfl (w14.heap.size + 1) (by simp) #[.slice (some ⟨gf, 0, none⟩) 1 1, .slice (some ⟨gf, 0, none⟩) 1 1, .slice (some ⟨gf, 0, none⟩) 1 1] 35 |>.push_mk rfl) ?_
  clear H
  intro w15 H
  generalize w14.heap.size + 1 = gB at H ⊢
  generalize w14.heap.size = gA at H ⊢
  have okA : RowsOk w15 [rowB gf (9, 1, 4), rowB gf (9, 1, 4), rowB gf (9, 1, 4)] := by
    intro r hr
    simp only [List.mem_cons, List.not_mem_nil, or_false] at hr
    rcases hr with rfl | rfl | rfl
    · exact rowB_ok H (k := 0) rfl (by unfold RunOk; decide)
    · exact rowB_ok H (k := 0) rfl (by unfold RunOk; decide)
    · exact rowB_ok H (k := 0) rfl (by unfold RunOk; decide)
  have okB : RowsOk w15 [rowB gf (9, 1, 4), rowB gf (9, 1, 4), rowB gf (9, 1, 4)] := by
    intro r hr
    simp only [List.mem_cons, List.not_mem_nil, or_false] at hr
    rcases hr with rfl | rfl | rfl
    · exact rowB_ok H (k := 0) rfl (by unfold RunOk; decide)
    · exact rowB_ok H (k := 0) rfl (by unfold RunOk; decide)
    · exact rowB_ok H (k := 0) rfl (by unfold RunOk; decide)
  refine (judge_a (some ⟨gA, 0, none⟩) 3 3 [rowB gf (9, 1, 4), rowB gf (9, 1, 4), rowB gf (9, 1, 4)] (some ⟨gB, 0, none⟩) 3 3 [rowB gf (9, 1, 4), rowB gf (9, 1, 4), rowB gf (9, 1, 4)] w15 (H.rdBlkM 1 rfl 1 3 rfl) (H.rdBlkM 2 rfl 1 3 rfl) okA okB (by omega) (by omega)).mono ?_
  rintro e w16 ⟨V, rfl, HV, hb⟩
  have hcr : [rowB gf (9, 1, 4), rowB gf (9, 1, 4), rowB gf (9, 1, 4)].map core = [rowN9 four9, rowN9 four9, rowN9 four9].map core := rfl
  have hV := ver_zero HV.out (.inr (by rw [stJ_core hcr hcr, names_x.1]))
  have hE : judgeE [rowB gf (9, 1, 4), rowB gf (9, 1, 4), rowB gf (9, 1, 4)] [rowB gf (9, 1, 4), rowB gf (9, 1, 4), rowB gf (9, 1, 4)] = 0 := by rw [judgeE_core hcr hcr, names_x.2]
  rw [hE, hV]
  replace H := (H.call hb).front 1
  replace H : St w [] w16 (lay [.blk gf 60 [.int .u8 9, .int .i64 1, .int .i64 4]]) := H
  clear hb HV hV hE hcr okA okB
  have hst := fun (a : Addr) (b : Nat) (m : Mode) (w : World) => run_store Try.prog w a (.float .f64 b) m rfl
  unfold zeroV
  have HA := (H.allocAt 1 rfl w16.heap.size rfl #[.bool false, .int .u8 0, .bool false, .float .f64 0, .int .i64 0, .float .f64 0] 45).push_mk rfl
  go_upto_region 9 with (fail)
  refine absorb_wp HA ?_
  clear H HA
  intro w17 H
  generalize w16.heap.size = g11 at H ⊢
  replace H : St w [] w17 (lay [.blk gf 60 [.int .u8 9, .int .i64 1, .int .i64 4], .blk g11 45 [.bool false, .int .u8 0, .bool false, .float .f64 0, .int .i64 0, .float .f64 0]]) := H
  have HA := (H.allocAt 2 rfl w17.heap.size rfl #[.slice (some ⟨gf, 0, none⟩) 1 1, .slice (some ⟨gf, 0, none⟩) 1 1] 35).push_mk rfl
  go_wp2_with fail
  refine absorb_calls HA ?_
  clear H HA
  intro w18 H
  generalize w17.heap.size = gA at H ⊢
  replace H : St w [] w18 (lay [.blk gf 60 [.int .u8 9, .int .i64 1, .int .i64 4], .blk g11 45 [.bool false, .int .u8 0, .bool false, .float .f64 0, .int .i64 0, .float .f64 0], .blk gA 35 [.slice (some ⟨gf, 0, none⟩) 1 1, .slice (some ⟨gf, 0, none⟩) 1 1]]) := H
  refine (row_s 9 1 1 w18).mono ?_
  rintro e w19 ⟨gp, rfl, hgf, hb, hblk⟩
  replace H := (H.push (A := .blk gp 60 [.int .u8 9, .int .i64 1, .int .i64 1]) (F := [gp]) 3 rfl hb ⟨hblk, rfl⟩ (by intro g hg; simp at hg; omega)).push_mk rfl
  clear hb hblk hgf
  go_wp2_with fail
  refine (row_s 9 1 1 w19).mono ?_
  rintro e w20 ⟨gq, rfl, hgf, hb, hblk⟩
  replace H := (H.push (A := .blk gq 60 [.int .u8 9, .int .i64 1, .int .i64 1]) (F := [gq]) 4 rfl hb ⟨hblk, rfl⟩ (by intro g hg; simp at hg; omega)).push_mk rfl
  clear hb hblk hgf
  have HA := (H.allocAt 5 rfl w20.heap.size rfl #[.slice (some ⟨gp, 0, none⟩) 1 1, .slice (some ⟨gq, 0, none⟩) 1 1] 35).push_mk rfl
  go_wp2_with fail
  refine absorb_calls HA ?_
  clear H HA
  intro w21 H
  generalize w20.heap.size = gB at H ⊢
  have okA : RowsOk w21 [rowB gf (9, 1, 4), rowB gf (9, 1, 4)] := by
    intro r hr
    simp only [List.mem_cons, List.not_mem_nil, or_false] at hr
    rcases hr with rfl | rfl
    · exact rowB_ok H (k := 0) rfl (by unfold RunOk; decide)
    · exact rowB_ok H (k := 0) rfl (by unfold RunOk; decide)
  have okB : RowsOk w21 [rowB gp (9, 1, 1), rowB gq (9, 1, 1)] := by
    intro r hr
    simp only [List.mem_cons, List.not_mem_nil, or_false] at hr
    rcases hr with rfl | rfl
    · exact rowB_ok H (k := 3) rfl (by unfold RunOk; decide)
    · exact rowB_ok H (k := 4) rfl (by unfold RunOk; decide)
  refine (judge_a (some ⟨gA, 0, none⟩) 2 2 [rowB gf (9, 1, 4), rowB gf (9, 1, 4)] (some ⟨gB, 0, none⟩) 2 2 [rowB gp (9, 1, 1), rowB gq (9, 1, 1)] w21 (H.rdBlkM 2 rfl 1 2 rfl) (H.rdBlkM 5 rfl 1 2 rfl) okA okB (by omega) (by omega)).mono ?_
  rintro e w22 ⟨V, rfl, HV, hb⟩
  have hc1 : [rowB gf (9, 1, 4), rowB gf (9, 1, 4)].map core = [rowN9 four9, rowN9 four9].map core := rfl
  have hc2 : [rowB gp (9, 1, 1), rowB gq (9, 1, 1)].map core = [rowN9 one9, rowN9 one9].map core := rfl
  have hE : judgeE [rowB gf (9, 1, 4), rowB gf (9, 1, 4)] [rowB gp (9, 1, 1), rowB gq (9, 1, 1)] = 0 := by rw [judgeE_core hc1 hc2, names_y.2]
  have hst1 : stJ [rowB gf (9, 1, 4), rowB gf (9, 1, 4)] [rowB gp (9, 1, 1), rowB gq (9, 1, 1)] 24 = (9, false, 9218868437227405312) := by rw [stJ_core hc1 hc2, names_y.1]
  obtain ⟨P, hV⟩ := ver_yes HV.out hE (by rw [hst1]; decide)
  rw [hst1] at hV
  unfold verV at hV
  simp only [apart_inf] at hV
  generalize bestA _ 5 = bt at hV
  rw [hE, hV]
  replace H := (H.call hb).front 2
  replace H : St w [] w22 (lay [.blk gf 60 [.int .u8 9, .int .i64 1, .int .i64 4], .blk g11 45 [.bool false, .int .u8 0, .bool false, .float .f64 0, .int .i64 0, .float .f64 0]]) := H
  clear hb HV hV hE hc1 hc2 okA okB hst1
  have HA := (H.allocAt 2 rfl w22.heap.size rfl #[.bool true, .int .u8 9, .bool false, .float .f64 9218868437227405312, .int .i64 (bt : Nat), .float .f64 P] 45).push_mk rfl
  go_upto_region 10 with (fail)
  refine absorb_wp HA ?_
  clear H HA
  intro w23 H
  generalize w22.heap.size = g12 at H ⊢
  replace H : St w [] w23 (lay [.blk gf 60 [.int .u8 9, .int .i64 1, .int .i64 4], .blk g11 45 [.bool false, .int .u8 0, .bool false, .float .f64 0, .int .i64 0, .float .f64 0], .blk g12 45 [.bool true, .int .u8 9, .bool false, .float .f64 9218868437227405312, .int .i64 (bt : Nat), .float .f64 P]]) := H
  go_wp2_with fail
  refine absorb_calls (H.allocAt 3 rfl w23.heap.size rfl #[.slice (some ⟨gf, 0, none⟩) 1 1] 35 |>.push_mk rfl |>.allocAt 4 rfl (w23.heap.size + 1) (by simp) #[.slice (some ⟨gf, 0, none⟩) 1 1, .slice (some ⟨gf, 0, none⟩) 1 1] 35 |>.push_mk rfl) ?_
  clear H
  intro w24 H
  generalize w23.heap.size + 1 = gB at H ⊢
  generalize w23.heap.size = gA at H ⊢
  have okA : RowsOk w24 [rowB gf (9, 1, 4)] := by
    intro r hr
    simp only [List.mem_cons, List.not_mem_nil, or_false] at hr
    subst hr
    exact rowB_ok H (k := 0) rfl (by unfold RunOk; decide)
  have okB : RowsOk w24 [rowB gf (9, 1, 4), rowB gf (9, 1, 4)] := by
    intro r hr
    simp only [List.mem_cons, List.not_mem_nil, or_false] at hr
    rcases hr with rfl | rfl
    · exact rowB_ok H (k := 0) rfl (by unfold RunOk; decide)
    · exact rowB_ok H (k := 0) rfl (by unfold RunOk; decide)
  refine (judge_a (some ⟨gA, 0, none⟩) 1 1 [rowB gf (9, 1, 4)] (some ⟨gB, 0, none⟩) 2 2 [rowB gf (9, 1, 4), rowB gf (9, 1, 4)] w24 (H.rdBlkM 3 rfl 1 1 rfl) (H.rdBlkM 4 rfl 1 2 rfl) okA okB (by omega) (by omega)).mono ?_
  rintro e w25 ⟨V, rfl, HV, hb⟩
  have hc1 : [rowB gf (9, 1, 4)].map core = [rowN9 four9].map core := rfl
  have hc2 : [rowB gf (9, 1, 4), rowB gf (9, 1, 4)].map core = [rowN9 four9, rowN9 four9].map core := rfl
  have hE : judgeE [rowB gf (9, 1, 4)] [rowB gf (9, 1, 4), rowB gf (9, 1, 4)] = 2 := by rw [judgeE_core hc1 hc2, names_e.1]
  have hV := ver_zero HV.out (.inl (by rw [hE]; decide))
  rw [hE, hV]
  unfold zeroV
  replace H := (H.call hb).front 3
  replace H : St w [] w25 (lay [.blk gf 60 [.int .u8 9, .int .i64 1, .int .i64 4], .blk g11 45 [.bool false, .int .u8 0, .bool false, .float .f64 0, .int .i64 0, .float .f64 0], .blk g12 45 [.bool true, .int .u8 9, .bool false, .float .f64 9218868437227405312, .int .i64 (bt : Nat), .float .f64 P]]) := H
  clear hb HV hV hE hc1 hc2 okA okB
  go_wp2_with fail
  refine (row_s 5 16 0 w25).mono ?_
  rintro e w26 ⟨gb, rfl, hgf, hb, hblk⟩
  replace H := (H.push (A := .blk gb 60 [.int .u8 5, .int .i64 16, .int .i64 0]) (F := [gb]) 3 rfl hb ⟨hblk, rfl⟩ (by intro g hg; simp at hg; omega)).push_mk rfl
  clear hb hblk hgf
  go_wp2_with fail
  refine absorb_calls (H.allocAt 4 rfl w26.heap.size rfl #[.slice (some ⟨gf, 0, none⟩) 1 1, .slice (some ⟨gb, 0, none⟩) 1 1] 35 |>.push_mk rfl |>.allocAt 5 rfl (w26.heap.size + 1) (by simp) #[.slice (some ⟨gf, 0, none⟩) 1 1, .slice (some ⟨gf, 0, none⟩) 1 1] 35 |>.push_mk rfl) ?_
  clear H
  intro w27 H
  generalize w26.heap.size + 1 = gB at H ⊢
  generalize w26.heap.size = gA at H ⊢
  have okA : RowsOk w27 [rowB gf (9, 1, 4), rowB gb (5, 16, 0)] := by
    intro r hr
    simp only [List.mem_cons, List.not_mem_nil, or_false] at hr
    rcases hr with rfl | rfl
    · exact rowB_ok H (k := 0) rfl (by unfold RunOk; decide)
    · exact rowB_ok H (k := 3) rfl (by unfold RunOk; decide)
  have okB : RowsOk w27 [rowB gf (9, 1, 4), rowB gf (9, 1, 4)] := by
    intro r hr
    simp only [List.mem_cons, List.not_mem_nil, or_false] at hr
    rcases hr with rfl | rfl
    · exact rowB_ok H (k := 0) rfl (by unfold RunOk; decide)
    · exact rowB_ok H (k := 0) rfl (by unfold RunOk; decide)
  refine (judge_a (some ⟨gA, 0, none⟩) 2 2 [rowB gf (9, 1, 4), rowB gb (5, 16, 0)] (some ⟨gB, 0, none⟩) 2 2 [rowB gf (9, 1, 4), rowB gf (9, 1, 4)] w27 (H.rdBlkM 4 rfl 1 2 rfl) (H.rdBlkM 5 rfl 1 2 rfl) okA okB (by omega) (by omega)).mono ?_
  rintro e w28 ⟨V, rfl, HV, hb⟩
  have hc1 : [rowB gf (9, 1, 4), rowB gb (5, 16, 0)].map core = [rowN9 four9, rowN9 bad9].map core := rfl
  have hc2 : [rowB gf (9, 1, 4), rowB gf (9, 1, 4)].map core = [rowN9 four9, rowN9 four9].map core := rfl
  have hE : judgeE [rowB gf (9, 1, 4), rowB gb (5, 16, 0)] [rowB gf (9, 1, 4), rowB gf (9, 1, 4)] = 120 := by rw [judgeE_core hc1 hc2, names_e.2]
  have hV := ver_zero HV.out (.inl (by rw [hE]; decide))
  rw [hE, hV]
  unfold zeroV
  replace H := (H.call hb).front 3
  replace H : St w [] w28 (lay [.blk gf 60 [.int .u8 9, .int .i64 1, .int .i64 4], .blk g11 45 [.bool false, .int .u8 0, .bool false, .float .f64 0, .int .i64 0, .float .f64 0], .blk g12 45 [.bool true, .int .u8 9, .bool false, .float .f64 9218868437227405312, .int .i64 (bt : Nat), .float .f64 P]]) := H
  clear hb HV hV hE hc1 hc2 okA okB
  have HA := (H.allocAt 3 rfl w28.heap.size rfl #[.bool false, .int .u8 0, .bool false, .float .f64 0, .int .i64 0, .float .f64 0] 45).push_mk rfl
  go_upto_region 12 with (fail)
  refine absorb_wp HA ?_
  clear H HA hst
  intro w29 H
  replace H := H.front 3
  replace H : St w [] w29 (lay [.blk gf 60 [.int .u8 9, .int .i64 1, .int .i64 4], .blk g11 45 [.bool false, .int .u8 0, .bool false, .float .f64 0, .int .i64 0, .float .f64 0], .blk g12 45 [.bool true, .int .u8 9, .bool false, .float .f64 9218868437227405312, .int .i64 (bt : Nat), .float .f64 P]]) := H
  have qi : FloatKind.f64.format.order 9218868437227405312 9218868437227405312 = some Ordering.eq := by decide +kernel
  have HW := H
  replace H := H.drew
  have hq0 := eq_zero_f
  refine wp_region_held_drew (S := fun w' : World => ((w'.rangeAt g11 0 [.bool false, .int .u8 0, .bool false, .float .f64 0, .int .i64 0, .float .f64 0] ∧ w'.cell? ⟨g12, 0, none⟩ = some (.bool true)) ∧ w'.cell? ⟨g12, 1, none⟩ = some (.int .u8 9)) ∧ (w'.cell? ⟨g12, 2, none⟩ = some (.bool false) ∧ w'.cell? ⟨g12, 3, none⟩ = some (.float .f64 9218868437227405312))) (by kernel_rfl) ?_ (fun hHeld => ?_)
  · exact ⟨⟨⟨H.range 1 rfl, H.cell 2 rfl (o := 0) (u := .bool true) rfl⟩, H.cell 2 rfl (o := 1) (u := .int .u8 9) rfl⟩, ⟨H.cell 2 rfl (o := 2) (u := .bool false) rfl, H.cell 2 rfl (o := 3) (u := .float .f64 9218868437227405312) rfl⟩⟩
  refine takeV 0 rfl (by intro w h; clear h; go_simp; try with_reducible rfl) (by kernel_rfl) (by kernel_rfl) (by kernel_rfl) (by exact fun _ _ _ h => h) (by rfl) (by assumption) ?_
  try simp only [Act.put, List.setIfInBounds_toArray, List.set_cons_zero, List.set_cons_succ]
  refine take_call 1 rfl (by kernel_rfl) (fun K hK => ?_)
  try go_simp
  refine (lives29_s _).mono ?_
  rintro e wx ⟨rfl, hb⟩
  replace H := H.call hb
  clear hb
  refine hK.out _ _ ?_ (fun hHeld => ?_)
  · exact ⟨⟨⟨H.range 1 rfl, H.cell 2 rfl (o := 0) (u := .bool true) rfl⟩, H.cell 2 rfl (o := 1) (u := .int .u8 9) rfl⟩, ⟨H.cell 2 rfl (o := 2) (u := .bool false) rfl, H.cell 2 rfl (o := 3) (u := .float .f64 9218868437227405312) rfl⟩⟩
  clear hK K
  try simp only [Act.put, List.setIfInBounds_toArray, List.set_cons_zero, List.set_cons_succ]
  refine takeV 2 rfl (by intro w h; clear h; go_simp; try with_reducible rfl) (by kernel_rfl) (by kernel_rfl) (by kernel_rfl) (by exact fun _ _ _ h => h) (by rfl) (by assumption) ?_
  try simp only [Act.put, List.setIfInBounds_toArray, List.set_cons_zero, List.set_cons_succ]
  refine takeV 3 rfl (by intro w h; clear h; go_simp; try with_reducible rfl) (by kernel_rfl) (by kernel_rfl) (by kernel_rfl) (by exact fun _ _ _ h => h) (by rfl) (by assumption) ?_
  try simp only [Act.put, List.setIfInBounds_toArray, List.set_cons_zero, List.set_cons_succ]
  refine takeV 4 rfl (by intro w h; clear h; go_simp; try with_reducible rfl) (by kernel_rfl) (by kernel_rfl) (by kernel_rfl) (by exact fun _ _ _ h => h) (by rfl) (by assumption) ?_
  try simp only [Act.put, List.setIfInBounds_toArray, List.set_cons_zero, List.set_cons_succ]
  refine takeV 5 rfl (by intro w h; clear h; go_simp; try with_reducible rfl) (by kernel_rfl) (by kernel_rfl) (by kernel_rfl) (by exact fun _ _ _ h => h) (by rfl) (by assumption) ?_
  try simp only [Act.put, List.setIfInBounds_toArray, List.set_cons_zero, List.set_cons_succ]
  refine takeV 6 rfl (by intro w h; clear h; go_simp; try with_reducible rfl) (by kernel_rfl) (by kernel_rfl) (by kernel_rfl) (by exact fun _ _ _ h => h) (by rfl) (by assumption) ?_
  try simp only [Act.put, List.setIfInBounds_toArray, List.set_cons_zero, List.set_cons_succ]
  refine takeV 7 rfl (by intro w h; clear h; go_simp; try with_reducible rfl) (by kernel_rfl) (by kernel_rfl) (by kernel_rfl) (by exact fun _ _ _ h => h) (by rfl) (by assumption) ?_
  try simp only [Act.put, List.setIfInBounds_toArray, List.set_cons_zero, List.set_cons_succ]
  refine takeV 8 rfl (by intro w h; clear h; go_simp; try with_reducible rfl) (by kernel_rfl) (by kernel_rfl) (by kernel_rfl) (by exact fun _ _ _ h => h) (by rfl) (by assumption) ?_
  try simp only [Act.put, List.setIfInBounds_toArray, List.set_cons_zero, List.set_cons_succ]
  refine takeV 9 rfl (by intro w h; clear h; go_simp; try with_reducible rfl) (by kernel_rfl) (by kernel_rfl) (by kernel_rfl) (by exact fun _ _ _ h => h) (by rfl) (by assumption) ?_
  try simp only [Act.put, List.setIfInBounds_toArray, List.set_cons_zero, List.set_cons_succ]
  refine takeV 10 rfl (by intro w h; clear h; go_simp; try with_reducible rfl) (by kernel_rfl) (by kernel_rfl) (by kernel_rfl) (by exact fun _ _ _ h => h) (by rfl) (by assumption) ?_
  try simp only [Act.put, List.setIfInBounds_toArray, List.set_cons_zero, List.set_cons_succ]
  refine takeV 11 rfl (by intro w h; clear h; go_simp; try with_reducible rfl) (by kernel_rfl) (by kernel_rfl) (by kernel_rfl) (by exact fun _ _ _ h => h) (by rfl) (by assumption) ?_
  try simp only [Act.put, List.setIfInBounds_toArray, List.set_cons_zero, List.set_cons_succ]
  refine takeV 12 rfl (by intro w h; clear h; go_simp; try with_reducible rfl) (by kernel_rfl) (by kernel_rfl) (by kernel_rfl) (by exact fun _ _ _ h => h) (by rfl) (by assumption) ?_
  try simp only [Act.put, List.setIfInBounds_toArray, List.set_cons_zero, List.set_cons_succ]
  refine takeV 13 rfl (by intro w h; clear h; go_simp; try with_reducible rfl) (by kernel_rfl) (by kernel_rfl) (by kernel_rfl) (by exact fun _ _ _ h => h) (by rfl) (by assumption) ?_
  try simp only [Act.put, List.setIfInBounds_toArray, List.set_cons_zero, List.set_cons_succ]
  refine takeV 14 rfl (by intro w h; clear h; go_simp; try with_reducible rfl) (by kernel_rfl) (by kernel_rfl) (by kernel_rfl) (by exact fun _ _ _ h => h) (by rfl) (by assumption) ?_
  try simp only [Act.put, List.setIfInBounds_toArray, List.set_cons_zero, List.set_cons_succ]
  refine takeV 15 rfl (by intro w h; clear h; go_simp; try with_reducible rfl) (by kernel_rfl) (by kernel_rfl) (by kernel_rfl) (by exact fun _ _ _ h => h) (by rfl) (by assumption) ?_
  try simp only [Act.put, List.setIfInBounds_toArray, List.set_cons_zero, List.set_cons_succ]
  refine takeV 16 rfl (by intro w h; clear h; go_simp; try with_reducible rfl) (by kernel_rfl) (by kernel_rfl) (by kernel_rfl) (by exact fun _ _ _ h => h) (by rfl) (by assumption) ?_
  try simp only [Act.put, List.setIfInBounds_toArray, List.set_cons_zero, List.set_cons_succ]
  refine takeV 17 rfl (by intro w h; clear h; go_simp; try with_reducible rfl) (by kernel_rfl) (by kernel_rfl) (by kernel_rfl) (by exact fun _ _ _ h => h) (by rfl) (by assumption) ?_
  try simp only [Act.put, List.setIfInBounds_toArray, List.set_cons_zero, List.set_cons_succ]
  refine takeV 18 rfl (by intro w h; clear h; go_simp; try with_reducible rfl) (by kernel_rfl) (by kernel_rfl) (by kernel_rfl) (by exact fun _ _ _ h => h) (by rfl) (by assumption) ?_
  try simp only [Act.put, List.setIfInBounds_toArray, List.set_cons_zero, List.set_cons_succ]
  refine takeV 19 rfl (by intro w h; clear h; go_simp; try with_reducible rfl) (by kernel_rfl) (by kernel_rfl) (by kernel_rfl) (by exact fun _ _ _ h => h) (by rfl) (by assumption) ?_
  try simp only [Act.put, List.setIfInBounds_toArray, List.set_cons_zero, List.set_cons_succ]
  refine takeV 20 rfl (by intro w h; clear h; go_simp; try with_reducible rfl) (by kernel_rfl) (by kernel_rfl) (by kernel_rfl) (by exact fun _ _ _ h => h) (by rfl) (by assumption) ?_
  try simp only [Act.put, List.setIfInBounds_toArray, List.set_cons_zero, List.set_cons_succ]
  refine takeV 21 rfl (by intro w h; clear h; go_simp; try with_reducible rfl) (by kernel_rfl) (by kernel_rfl) (by kernel_rfl) (by exact fun _ _ _ h => h) (by rfl) (by assumption) ?_
  try simp only [Act.put, List.setIfInBounds_toArray, List.set_cons_zero, List.set_cons_succ]
  refine takeV 22 rfl (by intro w h; clear h; go_simp; try with_reducible rfl) (by kernel_rfl) (by kernel_rfl) (by kernel_rfl) (by exact fun _ _ _ h => h) (by rfl) (by assumption) ?_
  try simp only [Act.put, List.setIfInBounds_toArray, List.set_cons_zero, List.set_cons_succ]
  refine takeV 23 rfl (by intro w h; clear h; go_simp; try with_reducible rfl) (by kernel_rfl) (by kernel_rfl) (by kernel_rfl) (by exact fun _ _ _ h => h) (by rfl) (by assumption) ?_
  try simp only [Act.put, List.setIfInBounds_toArray, List.set_cons_zero, List.set_cons_succ]
  refine takeV 24 rfl (by intro w h; clear h; go_simp; try with_reducible rfl) (by kernel_rfl) (by kernel_rfl) (by kernel_rfl) (by exact fun _ _ _ h => h) (by rfl) (by assumption) ?_
  try simp only [Act.put, List.setIfInBounds_toArray, List.set_cons_zero, List.set_cons_succ]
  refine takeV 25 rfl (by intro w h; clear h; go_simp; try with_reducible rfl) (by kernel_rfl) (by kernel_rfl) (by kernel_rfl) (by exact fun _ _ _ h => h) (by rfl) (by assumption) ?_
  try simp only [Act.put, List.setIfInBounds_toArray, List.set_cons_zero, List.set_cons_succ]
  refine take_load 26 g11 [.bool false, .int .u8 0, .bool false, .float .f64 0, .int .i64 0, .float .f64 0] (fun w h => h.1.1.1) Try.underlying45 ver_size rfl (by kernel_rfl) (by kernel_rfl) (by kernel_rfl) (fun _ _ _ h => h) rfl rfl rfl rfl (by assumption) ?_
  try simp only [Act.put, List.setIfInBounds_toArray, List.set_cons_zero, List.set_cons_succ]
  refine takeV 27 rfl (by intro w h; clear h; go_simp; try with_reducible rfl) (by kernel_rfl) (by kernel_rfl) (by kernel_rfl) (by exact fun _ _ _ h => h) (by rfl) (by assumption) ?_
  try simp only [Act.put, List.setIfInBounds_toArray, List.set_cons_zero, List.set_cons_succ]
  refine take_pure 28 (.bool true) rfl (by kernel_rfl) (by kernel_rfl) (by kernel_rfl) (fun _ _ _ h => h) rfl (by intro w hSw; go_simp; try with_reducible rfl) (by assumption) ?_
  try simp only [Act.put, List.setIfInBounds_toArray, List.set_cons_zero, List.set_cons_succ]
  refine takeV 29 rfl (by intro w h; clear h; go_simp; try with_reducible rfl) (by kernel_rfl) (by kernel_rfl) (by kernel_rfl) (by exact fun _ _ _ h => h) (by rfl) (by assumption) ?_
  try simp only [Act.put, List.setIfInBounds_toArray, List.set_cons_zero, List.set_cons_succ]
  refine takeV 30 rfl (by intro w h; clear h; go_simp; try with_reducible rfl) (by kernel_rfl) (by kernel_rfl) (by kernel_rfl) (by exact fun _ _ _ h => h) (by rfl) (by assumption) ?_
  try simp only [Act.put, List.setIfInBounds_toArray, List.set_cons_zero, List.set_cons_succ]
  refine takeV 31 rfl (by intro w h; clear h; go_simp; try with_reducible rfl) (by kernel_rfl) (by kernel_rfl) (by kernel_rfl) (by exact fun _ _ _ h => h) (by rfl) (by assumption) ?_
  try simp only [Act.put, List.setIfInBounds_toArray, List.set_cons_zero, List.set_cons_succ]
  refine takeV 32 rfl (by intro w h; have hc := h.1.1.2; clear h; go_simp; try with_reducible rfl) (by kernel_rfl) (by kernel_rfl) (by kernel_rfl) (by exact fun _ _ _ h => h) (by rfl) (by assumption) ?_
  try simp only [Act.put, List.setIfInBounds_toArray, List.set_cons_zero, List.set_cons_succ]
  refine takeV 33 rfl (by intro w h; clear h; go_simp; try with_reducible rfl) (by kernel_rfl) (by kernel_rfl) (by kernel_rfl) (by exact fun _ _ _ h => h) (by rfl) (by assumption) ?_
  try simp only [Act.put, List.setIfInBounds_toArray, List.set_cons_zero, List.set_cons_succ]
  refine takeV 34 rfl (by intro w h; clear h; go_simp; try with_reducible rfl) (by kernel_rfl) (by kernel_rfl) (by kernel_rfl) (by exact fun _ _ _ h => h) (by rfl) (by assumption) ?_
  try simp only [Act.put, List.setIfInBounds_toArray, List.set_cons_zero, List.set_cons_succ]
  refine takeV 35 rfl (by intro w h; clear h; go_simp; try with_reducible rfl) (by kernel_rfl) (by kernel_rfl) (by kernel_rfl) (by exact fun _ _ _ h => h) (by rfl) (by assumption) ?_
  try simp only [Act.put, List.setIfInBounds_toArray, List.set_cons_zero, List.set_cons_succ]
  refine takeV 36 rfl (by intro w h; have hc := h.1.2; clear h; go_simp; try with_reducible rfl) (by kernel_rfl) (by kernel_rfl) (by kernel_rfl) (by exact fun _ _ _ h => h) (by rfl) (by assumption) ?_
  try simp only [Act.put, List.setIfInBounds_toArray, List.set_cons_zero, List.set_cons_succ]
  refine takeV 37 rfl (by intro w h; clear h; go_simp; try with_reducible rfl) (by kernel_rfl) (by kernel_rfl) (by kernel_rfl) (by exact fun _ _ _ h => h) (by rfl) (by assumption) ?_
  try simp only [Act.put, List.setIfInBounds_toArray, List.set_cons_zero, List.set_cons_succ]
  refine takeV 38 rfl (by intro w h; clear h; go_simp; try with_reducible rfl) (by kernel_rfl) (by kernel_rfl) (by kernel_rfl) (by exact fun _ _ _ h => h) (by rfl) (by assumption) ?_
  try simp only [Act.put, List.setIfInBounds_toArray, List.set_cons_zero, List.set_cons_succ]
  refine takeV 39 rfl (by intro w h; clear h; go_simp; try with_reducible rfl) (by kernel_rfl) (by kernel_rfl) (by kernel_rfl) (by exact fun _ _ _ h => h) (by rfl) (by assumption) ?_
  try simp only [Act.put, List.setIfInBounds_toArray, List.set_cons_zero, List.set_cons_succ]
  refine takeV 40 rfl (by intro w h; clear h; go_simp; try with_reducible rfl) (by kernel_rfl) (by kernel_rfl) (by kernel_rfl) (by exact fun _ _ _ h => h) (by rfl) (by assumption) ?_
  try simp only [Act.put, List.setIfInBounds_toArray, List.set_cons_zero, List.set_cons_succ]
  refine takeV 41 rfl (by intro w h; have hc := h.2.1; clear h; go_simp; try with_reducible rfl) (by kernel_rfl) (by kernel_rfl) (by kernel_rfl) (by exact fun _ _ _ h => h) (by rfl) (by assumption) ?_
  try simp only [Act.put, List.setIfInBounds_toArray, List.set_cons_zero, List.set_cons_succ]
  refine takeV 42 rfl (by intro w h; clear h; go_simp; try with_reducible rfl) (by kernel_rfl) (by kernel_rfl) (by kernel_rfl) (by exact fun _ _ _ h => h) (by rfl) (by assumption) ?_
  try simp only [Act.put, List.setIfInBounds_toArray, List.set_cons_zero, List.set_cons_succ]
  refine takeV 43 rfl (by intro w h; clear h; go_simp; try with_reducible rfl) (by kernel_rfl) (by kernel_rfl) (by kernel_rfl) (by exact fun _ _ _ h => h) (by rfl) (by assumption) ?_
  try simp only [Act.put, List.setIfInBounds_toArray, List.set_cons_zero, List.set_cons_succ]
  refine takeV 44 rfl (by intro w h; clear h; go_simp; try with_reducible rfl) (by kernel_rfl) (by kernel_rfl) (by kernel_rfl) (by exact fun _ _ _ h => h) (by rfl) (by assumption) ?_
  try simp only [Act.put, List.setIfInBounds_toArray, List.set_cons_zero, List.set_cons_succ]
  refine takeV 45 rfl (by intro w h; clear h; go_simp; try with_reducible rfl) (by kernel_rfl) (by kernel_rfl) (by kernel_rfl) (by exact fun _ _ _ h => h) (by rfl) (by assumption) ?_
  try simp only [Act.put, List.setIfInBounds_toArray, List.set_cons_zero, List.set_cons_succ]
  refine takeV 46 rfl (by intro w h; have hc := h.2.2; clear h; go_simp; try with_reducible rfl) (by kernel_rfl) (by kernel_rfl) (by kernel_rfl) (by exact fun _ _ _ h => h) (by rfl) (by assumption) ?_
  try simp only [Act.put, List.setIfInBounds_toArray, List.set_cons_zero, List.set_cons_succ]
  refine take_call 47 rfl (by kernel_rfl) (fun K hK => ?_)
  try go_simp
  refine (inf_pos _).mono ?_
  rintro e wx ⟨rfl, rfl⟩
  refine hK.out _ _ ?_ (fun hHeld => ?_)
  · exact ⟨⟨⟨H.range 1 rfl, H.cell 2 rfl (o := 0) (u := .bool true) rfl⟩, H.cell 2 rfl (o := 1) (u := .int .u8 9) rfl⟩, ⟨H.cell 2 rfl (o := 2) (u := .bool false) rfl, H.cell 2 rfl (o := 3) (u := .float .f64 9218868437227405312) rfl⟩⟩
  clear hK K
  try simp only [Act.put, List.setIfInBounds_toArray, List.set_cons_zero, List.set_cons_succ]
  refine takeV 48 rfl (by intro w h; clear h; go_simp; try with_reducible rfl) (by kernel_rfl) (by kernel_rfl) (by kernel_rfl) (by exact fun _ _ _ h => h) (by rfl) (by assumption) ?_
  try simp only [Act.put, List.setIfInBounds_toArray, List.set_cons_zero, List.set_cons_succ]
  refine takeV 49 rfl (by intro w h; clear h; go_simp; try with_reducible rfl) (by kernel_rfl) (by kernel_rfl) (by kernel_rfl) (by exact fun _ _ _ h => h) (by rfl) (by assumption) ?_
  try simp only [Act.put, List.setIfInBounds_toArray, List.set_cons_zero, List.set_cons_succ]
  refine takeV 50 rfl (by intro w h; clear h; go_simp; try with_reducible rfl) (by kernel_rfl) (by kernel_rfl) (by kernel_rfl) (by exact fun _ _ _ h => h) (by rfl) (by assumption) ?_
  try simp only [Act.put, List.setIfInBounds_toArray, List.set_cons_zero, List.set_cons_succ]
  refine wpAnyH_done (by kernel_rfl) ?_ _
  clear hHeld
  go_wp2
  go_ret
  exact ⟨rfl, H.below⟩

end Go.Proofs.Ytpmgklmgaienhaa
