/- The law MeterJudges, walked. -/
import Derived.Test.YtpmgklmgaienhaaMeVs
import Derived.Test.YtpmgklmgaienhaaLawMAw

namespace Go.Proofs.Ytpmgklmgaienhaa
open Go.RowKit
set_option linter.unusedVariables false
set_option maxRecDepth 100000

set_option maxHeartbeats 8000000 in
theorem meterJudges_walk (A : Option Addr) (n c : Nat) (as_ : List RowM) (B : Option Addr) (m d : Nat) (bs : List RowM) (w : World) (hA : Rd w 1 A n (as_.map rowMV)) (hn : n ≤ 1048576) (hoA : ∀ r ∈ as_, r.Ok w) (hB : Rd w 1 B m (bs.map rowMV)) (hm : m ≤ 1048576) (hoB : ∀ r ∈ bs, r.Ok w) :
    Calls Try.prog 6 #[.slice A n c, .slice B m d] w fun e w' => e = .returned (.bool true) ∧ Below w.heap.size w w' := by
  have H := St.start_lay w []
  have RA := Lib.hid hA
  have RB := Lib.hid hB
  have OA := Lib.hid hoA
  have OB := Lib.hid hoB
  clear hA hB hoA hoB
  go_enter Try.func6, Try.ntmps6
  go_wp2_with fail
  refine (lives29_s w).mono ?_
  rintro e w1 ⟨rfl, hb⟩
  replace H := H.call hb
  clear hb
  by_cases h1 : n ≤ 200
  rotate_left
  · have hn2 : decide ((n : Int) > 200) = true := by simp; omega
    go_wp2
    go_ret
    exact ⟨rfl, H.below⟩
  by_cases h2 : m ≤ 200
  rotate_left
  · have hn2 : decide ((n : Int) > 200) = false := by simp; omega
    have hm2 : decide ((m : Int) > 200) = true := by simp; omega
    go_wp2
    go_ret
    exact ⟨rfl, H.below⟩
  have hn2 : decide ((n : Int) > 200) = false := by simp; omega
  have hm2 : decide ((m : Int) > 200) = false := by simp; omega
  go_wp2_with fail
  refine (lent29_s A n c as_ w1 (H.arg0 RA.out) (fun r hr => (OA.out r hr).st H) (by omega)).mono ?_
  rintro e w2 ⟨V1, V2, ps, rfl, HCP, HN⟩
  obtain ⟨A1, c1, rfl, -⟩ := row_form (HN.row 0 rfl)
  obtain ⟨A2, c2, rfl, -⟩ := row_form (HN.row 1 rfl)
  replace H := H.also HN
  replace H : St w [] w2 (lay [.row 35 1 (.slice A1 n c1) n (ps.map LentM.outV), .row 35 1 (.slice A2 n c2) n (ps.map LentM.fullV), bigO LentM.own ps]) := H
  clear HN hn2
  go_wp2_with fail
  refine (lent29_s B m d bs w2 (H.arg0 RB.out) (fun r hr => (OB.out r hr).st H) (by omega)).mono ?_
  rintro e w3 ⟨V1, V2, qs, rfl, HCQ, HN⟩
  obtain ⟨B1, d1, rfl, -⟩ := row_form (HN.row 0 rfl)
  obtain ⟨B2, d2, rfl, -⟩ := row_form (HN.row 1 rfl)
  replace H := H.also HN
  replace H : St w [] w3 (lay [.row 35 1 (.slice A1 n c1) n (ps.map LentM.outV), .row 35 1 (.slice A2 n c2) n (ps.map LentM.fullV), bigO LentM.own ps, .row 35 1 (.slice B1 m d1) m (qs.map LentM.outV), .row 35 1 (.slice B2 m d2) m (qs.map LentM.fullV), bigO LentM.own qs]) := H
  clear HN hm2
  have CP : Hid ((ps.map LentM.out).map core = as_.map core) := by unfold Hid; rw [outs_core]; exact HCP.out
  have CQ : Hid ((qs.map LentM.out).map core = bs.map core) := by unfold Hid; rw [outs_core]; exact HCQ.out
  obtain ⟨E, hE⟩ : ∃ E, judgeE as_ bs = E := ⟨_, rfl⟩
  have J1 : Hid (judgeE (ps.map LentM.out) (qs.map LentM.out) = E) := by unfold Hid; rw [judgeE_core CP.out CQ.out]; exact hE
  have J2 : Hid (judgeE (qs.map LentM.out) (ps.map LentM.out) = E) := by unfold Hid; rw [judgeE_core CQ.out CP.out, judgeE_comm]; exact hE
  have J3 : Hid (judgeE as_ bs = E) := hE
  have J4 : Hid (judgeE bs as_ = E) := by unfold Hid; rw [judgeE_comm]; exact hE
  clear hE
  obtain ⟨⟨k1, s1, T1⟩, hz1⟩ : ∃ z, zJ as_ bs = z := ⟨_, rfl⟩
  obtain ⟨⟨k2, s2, T2⟩, hz2⟩ : ∃ z, zJ bs as_ = z := ⟨_, rfl⟩
  have hop : VOp (zJ bs as_) (zJ as_ bs) := zJ_op bs as_
  rw [hz1, hz2] at hop
  obtain ⟨o1, o2, o3⟩ := hop
  replace o1 : k2 = k1 := o1
  replace o2 : s2 = s1 := o2
  replace o3 : WOp T2 T1 := o3
  subst k2 s2
  have oa : apartJ T2 = apartJ T1 := apart_op o3
  have hng := neg_op o3
  obtain ⟨a1, ha1⟩ : ∃ a, apartJ T1 = a := ⟨_, rfl⟩
  obtain ⟨b1, hb1⟩ : ∃ b, bJ as_ bs = b := ⟨_, rfl⟩
  obtain ⟨b2, hb2⟩ : ∃ b, bJ bs as_ = b := ⟨_, rfl⟩
  have Q1 : Hid (∀ V, VerIs (ps.map LentM.out) (qs.map LentM.out) V → ∃ P, V = v6 a1 k1 s1 T1 b1 P ∧ absF P = pJ as_ bs) := fun V h => by
    have hf := ver_form h
    obtain ⟨e1, e2, e3⟩ := ver_core CP.out CQ.out
    rw [e1, e2, e3, hz1, hb1] at hf
    rw [← ha1]; exact hf
  have Q2 : Hid (∀ V, VerIs (qs.map LentM.out) (ps.map LentM.out) V → ∃ P, V = v6 a1 k1 s1 T2 b2 P ∧ absF P = pJ bs as_) := fun V h => by
    have hf := ver_form h
    obtain ⟨e1, e2, e3⟩ := ver_core CQ.out CP.out
    rw [e1, e2, e3, hz2, hb2] at hf
    rw [← ha1, ← oa]; exact hf
  have Q3 : Hid (∀ V, VerIs as_ bs V → ∃ P, V = v6 a1 k1 s1 T1 b1 P ∧ absF P = pJ as_ bs) := fun V h => by
    have hf := ver_form h
    rw [hz1, hb1] at hf
    rw [← ha1]; exact hf
  have Q4 : Hid (∀ V, VerIs bs as_ V → ∃ P, V = v6 a1 k1 s1 T2 b2 P ∧ absF P = pJ bs as_) := fun V h => by
    have hf := ver_form h
    rw [hz2, hb2] at hf
    rw [← ha1, ← oa]; exact hf
  have HNG := Lib.hid hng
  clear hz1 hz2 o3 oa hng ha1 hb1 hb2
  have hst := fun (a : Addr) (b : Nat) (m : Mode) (w : World) => run_store Try.prog w a (.float .f64 b) m rfl
  go_wp2_with fail
  refine (judge_a A1 n c1 (ps.map LentM.out) B1 m d1 (qs.map LentM.out) w3 (by have h := H.rd 0 rfl; rw [← outs_V] at h; exact h) (by have h := H.rd 3 rfl; rw [← outs_V] at h; exact h) (lent_ok H (k := 2) rfl HCP.out OA.out) (lent_ok H (k := 5) rfl HCQ.out OB.out) (by omega) (by omega)).mono ?_
  rintro e w4 ⟨V, rfl, HV, hb⟩
  obtain ⟨P1, hV, hp1⟩ := Q1.out V HV.out
  have HP1 := Lib.hid hp1
  rw [J1.out, hV]
  unfold v6
  replace H := H.call hb
  clear hb HV hV hp1
  have HA := (H.allocAt 6 rfl w4.heap.size rfl #[.bool a1, .int .u8 k1, .bool s1, .float .f64 T1, .int .i64 b1, .float .f64 P1] 45).push_mk rfl
  go_upto_region 8 with (fail)
  refine absorb_wp HA ?_
  clear H HA
  intro w5 H
  generalize w4.heap.size = g9 at H ⊢
  replace H : St w [] w5 (lay [.row 35 1 (.slice A1 n c1) n (ps.map LentM.outV), .row 35 1 (.slice A2 n c2) n (ps.map LentM.fullV), bigO LentM.own ps, .row 35 1 (.slice B1 m d1) m (qs.map LentM.outV), .row 35 1 (.slice B2 m d2) m (qs.map LentM.fullV), bigO LentM.own qs, .blk g9 45 [.bool a1, .int .u8 k1, .bool s1, .float .f64 T1, .int .i64 b1, .float .f64 P1]]) := H
  go_wp2_with fail
  refine (judge_a B1 m d1 (qs.map LentM.out) A1 n c1 (ps.map LentM.out) w5 (by have h := H.rd 3 rfl; rw [← outs_V] at h; exact h) (by have h := H.rd 0 rfl; rw [← outs_V] at h; exact h) (lent_ok H (k := 5) rfl HCQ.out OB.out) (lent_ok H (k := 2) rfl HCP.out OA.out) (by omega) (by omega)).mono ?_
  rintro e w6 ⟨V, rfl, HV, hb⟩
  obtain ⟨P2, hV, hp2⟩ := Q2.out V HV.out
  have HP2 := Lib.hid hp2
  rw [J2.out, hV]
  unfold v6
  replace H := H.call hb
  clear hb HV hV hp2
  have HA := (H.allocAt 7 rfl w6.heap.size rfl #[.bool a1, .int .u8 k1, .bool s1, .float .f64 T2, .int .i64 b2, .float .f64 P2] 45).push_mk rfl
  go_upto_region 9 with (fail)
  refine absorb_wp HA ?_
  clear H HA
  intro w7 H
  generalize w6.heap.size = g11 at H ⊢
  replace H : St w [] w7 (lay [.row 35 1 (.slice A1 n c1) n (ps.map LentM.outV), .row 35 1 (.slice A2 n c2) n (ps.map LentM.fullV), bigO LentM.own ps, .row 35 1 (.slice B1 m d1) m (qs.map LentM.outV), .row 35 1 (.slice B2 m d2) m (qs.map LentM.fullV), bigO LentM.own qs, .blk g9 45 [.bool a1, .int .u8 k1, .bool s1, .float .f64 T1, .int .i64 b1, .float .f64 P1], .blk g11 45 [.bool a1, .int .u8 k1, .bool s1, .float .f64 T2, .int .i64 b2, .float .f64 P2]]) := H
  go_wp2_with fail
  refine (refJudge_a A n c as_ B m d bs w7 (H.arg0 RA.out) (H.arg0 RB.out) (RowM.Ok.rows fun r hr => (OA.out r hr).st H) (RowM.Ok.rows fun r hr => (OB.out r hr).st H) (by omega) (by omega)).mono ?_
  rintro e w8 ⟨V, rfl, HV, hb⟩
  obtain ⟨P3, hV, hp3⟩ := Q3.out V HV.out
  have HP3 := Lib.hid hp3
  rw [J3.out, hV]
  unfold v6
  replace H := H.call hb
  clear hb HV hV hp3
  have HA := (H.allocAt 8 rfl w8.heap.size rfl #[.bool a1, .int .u8 k1, .bool s1, .float .f64 T1, .int .i64 b1, .float .f64 P3] 45).push_mk rfl
  go_upto_region 10 with (fail)
  refine absorb_wp HA ?_
  clear H HA
  intro w9 H
  generalize w8.heap.size = g13 at H ⊢
  replace H : St w [] w9 (lay [.row 35 1 (.slice A1 n c1) n (ps.map LentM.outV), .row 35 1 (.slice A2 n c2) n (ps.map LentM.fullV), bigO LentM.own ps, .row 35 1 (.slice B1 m d1) m (qs.map LentM.outV), .row 35 1 (.slice B2 m d2) m (qs.map LentM.fullV), bigO LentM.own qs, .blk g9 45 [.bool a1, .int .u8 k1, .bool s1, .float .f64 T1, .int .i64 b1, .float .f64 P1], .blk g11 45 [.bool a1, .int .u8 k1, .bool s1, .float .f64 T2, .int .i64 b2, .float .f64 P2], .blk g13 45 [.bool a1, .int .u8 k1, .bool s1, .float .f64 T1, .int .i64 b1, .float .f64 P3]]) := H
  go_wp2_with fail
  refine (refJudge_a B m d bs A n c as_ w9 (H.arg0 RB.out) (H.arg0 RA.out) (RowM.Ok.rows fun r hr => (OB.out r hr).st H) (RowM.Ok.rows fun r hr => (OA.out r hr).st H) (by omega) (by omega)).mono ?_
  rintro e w10 ⟨V, rfl, HV, hb⟩
  obtain ⟨P4, hV, hp4⟩ := Q4.out V HV.out
  have HP4 := Lib.hid hp4
  rw [J4.out, hV]
  unfold v6
  replace H := H.call hb
  clear hb HV hV hp4
  have HA := (H.allocAt 9 rfl w10.heap.size rfl #[.bool a1, .int .u8 k1, .bool s1, .float .f64 T2, .int .i64 b2, .float .f64 P4] 45).push_mk rfl
  go_upto_region 11 with (fail)
  refine absorb_wp HA ?_
  clear H HA
  intro w11 H
  generalize w10.heap.size = g15 at H ⊢
  replace H : St w [] w11 (lay [.row 35 1 (.slice A1 n c1) n (ps.map LentM.outV), .row 35 1 (.slice A2 n c2) n (ps.map LentM.fullV), bigO LentM.own ps, .row 35 1 (.slice B1 m d1) m (qs.map LentM.outV), .row 35 1 (.slice B2 m d2) m (qs.map LentM.fullV), bigO LentM.own qs, .blk g9 45 [.bool a1, .int .u8 k1, .bool s1, .float .f64 T1, .int .i64 b1, .float .f64 P1], .blk g11 45 [.bool a1, .int .u8 k1, .bool s1, .float .f64 T2, .int .i64 b2, .float .f64 P2], .blk g13 45 [.bool a1, .int .u8 k1, .bool s1, .float .f64 T1, .int .i64 b1, .float .f64 P3], .blk g15 45 [.bool a1, .int .u8 k1, .bool s1, .float .f64 T2, .int .i64 b2, .float .f64 P4]]) := H
  clear hst Q1 Q2 Q3 Q4 J1 J2 J3 J4
  have hee : (E != E) = false := by simp
  have hk9 := H.blk 6 rfl
  have hk11 := H.blk 7 rfl
  have hk13 := H.blk 8 rfl
  have hk15 := H.blk 9 rfl
  go_wp2_with (first | (refine load_guard_al (by rfl) 45 (.tmp 9) rfl g9 rfl _ _ _ _ hk9 Try.underlying45 rfl ver_size ?_) | (refine load_guard_al (by rfl) 45 (.tmp 13) rfl g13 rfl _ _ _ _ hk13 Try.underlying45 rfl ver_size ?_) | fail)
  refine (same_s a1 k1 s1 T1 b1 P1 P3 w11 (by rw [HP1.out, HP3.out])).mono ?_
  rintro e w12 ⟨rfl, hb⟩
  replace H := H.call hb
  clear hb hk9 hk11 hk13 hk15
  have hk11 := H.blk 7 rfl
  have hk15 := H.blk 9 rfl
  go_wp2_with (first | (refine load_guard_al (by rfl) 45 (.tmp 11) rfl g11 rfl _ _ _ _ hk11 Try.underlying45 rfl ver_size ?_) | (refine load_guard_al (by rfl) 45 (.tmp 15) rfl g15 rfl _ _ _ _ hk15 Try.underlying45 rfl ver_size ?_) | fail)
  refine (same_s a1 k1 s1 T2 b2 P2 P4 w12 (by rw [HP2.out, HP4.out])).mono ?_
  rintro e w13 ⟨rfl, hb⟩
  replace H := H.call hb
  clear hb hk11 hk15
  go_wp2_with fail
  refine (kept29_s A1 A2 A n c1 c2 c ps as_ w13 (H.rd 0 rfl) (H.rd 1 rfl) (H.arg0 RA.out) HCP.out (fun r hr => (OA.out r hr).st H) (fun p hp => by obtain ⟨i, hi⟩ := List.getElem?_of_mem hp; obtain ⟨G, hG⟩ := H.bigRow 2 rfl hi; exact LentM.full hG) (by omega)).mono ?_
  rintro e w14 ⟨rfl, hb⟩
  replace H := H.call hb
  clear hb
  go_wp2_with fail
  refine (kept29_s B1 B2 B m d1 d2 d qs bs w14 (H.rd 3 rfl) (H.rd 4 rfl) (H.arg0 RB.out) HCQ.out (fun r hr => (OB.out r hr).st H) (fun p hp => by obtain ⟨i, hi⟩ := List.getElem?_of_mem hp; obtain ⟨G, hG⟩ := H.bigRow 5 rfl hi; exact LentM.full hG) (by omega)).mono ?_
  rintro e w15 ⟨rfl, hb⟩
  replace H := H.call hb
  clear hb
  by_cases hE : E = 0
  · subst hE
    have v0 := H.cell 6 rfl (o := 0) (u := .bool a1) rfl
    have v1 := H.cell 6 rfl (o := 1) (u := .int .u8 k1) rfl
    have v2 := H.cell 6 rfl (o := 2) (u := .bool s1) rfl
    have v3 := H.cell 6 rfl (o := 3) (u := .float .f64 T1) rfl
    have u0 := H.cell 7 rfl (o := 0) (u := .bool a1) rfl
    have u1 := H.cell 7 rfl (o := 1) (u := .int .u8 k1) rfl
    have u2 := H.cell 7 rfl (o := 2) (u := .bool s1) rfl
    have u3 := H.cell 7 rfl (o := 3) (u := .float .f64 T2) rfl
    have ea : (a1 == a1) = true := by simp
    have es : (s1 == s1) = true := by simp
    have ek : (k1 == k1) = true := by simp
    have hneg := neg_floatM T1
    have hq := HNG.out
    go_wp2
    go_ret
    exact ⟨rfl, H.below⟩
  · have hne : (E != 0) = true := by simpa using hE
    clear hE
    go_wp2
    go_ret
    exact ⟨rfl, H.below⟩

end Go.Proofs.Ytpmgklmgaienhaa
