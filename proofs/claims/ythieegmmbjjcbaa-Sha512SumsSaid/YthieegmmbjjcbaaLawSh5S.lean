/- The law Sha512Sums, walked. -/
import Derived.Test.YthieegmmbjjcbaaSh5M
import Derived.Test.YthieegmmbjjcbaaSh5U
namespace Go.Proofs.Ythieegmmbjjcbaa
open Go.RowKit
set_option linter.unusedVariables false
set_option maxRecDepth 100000

attribute [local irreducible] comp5 hTo dig5 laid8 h5 padM5 lastN5 allN5

theorem Rd.frontB {w : World} {A : Option Addr} {n m : Nat} {l k : List UInt8} (h : Rd w 1 A m ((l ++ k).map vb)) (hn : l.length = n) (hm : n ≤ m) : Rd w 1 A n (l.map vb) := by
  have := h.take hm
  rw [List.take_left' hn] at this
  exact this

theorem allN5_le (n : Nat) : allN5 n ≤ n + 2 := by
  unfold allN5
  have := lastN5_le n
  omega

set_option maxHeartbeats 8000000 in
theorem sha512Sums_walk (A : Option Addr) (n c : Nat) (p : List UInt8) (w : World) (hA : Rd w 1 A n (p.map vb)) (hn : n ≤ 140737488351232) (hc : n ≤ c) :
    Calls Try.prog 3 #[.slice A n c] w fun e w' => e = .returned (.bool true) ∧ Below w.heap.size w w' := by
  have hlp : p.length = n := by simpa using hA.1
  have HLP := Lib.hid hlp
  have H0 := (St.start_lay w []).ledNil 0 rfl |>.push_mk rfl
  clear hlp
  go_enter Try.func3, Try.ntmps3
  go_wp2_with fail
  refine (ledger_new H0 1 rfl).mono ?_
  rintro e w1 ⟨l, rfl, H1⟩
  have H := H1.push_mk rfl
  clear H1 H0
  go_wp2_with fail
  refine (refLedger_new H 2 rfl).mono ?_
  rintro e w2 ⟨lr, rfl, H1⟩
  replace H := H1.push_mk rfl
  clear H1
  replace H : St w [] w2 (lay [led (.pointer none) none, led l (some []), ledR lr (some [])]) := H
  go_wp2_with fail
  refine (lentBytes_any A n c p w2 (H.arg0 hA) (by omega)).mono ?_
  rintro e w3 ⟨v0, rfl, ho, hb2⟩
  obtain ⟨gF, cF, rfl, hcF, -, -⟩ := ho.lent HLP.out
  obtain ⟨M0, hM0⟩ : ∃ M, p ++ marksB 7 0 6 = M := ⟨_, rfl⟩
  have HM0 : Hid (M0.length = n + 6) := by unfold Hid; rw [← hM0, List.length_append, marksB_length, HLP.out]
  unfold OwnB at ho
  rw [hM0, HM0.out] at ho
  have HMM := Lib.hid hM0
  clear hM0
  replace H := (H.pushRow 3 rfl hb2 ho).push_mk rfl
  clear ho hb2
  replace H : St w [] w3 (lay [led (.pointer none) none, led l (some []), ledR lr (some []), .row 5 1 (.slice (some ⟨gF, 0, none⟩) (n + 6) cF) (n + 6) (M0.map vb)]) := H
  have hcF2 : (n : Int) ≤ cF := by omega
  have hcF3 : n ≤ cF := by omega
  go_wp2_with fail
  refine (s5Fn_s l (some []) 0 0 (some ⟨gF, 0, none⟩) n cF p H 1 4 rfl rfl LW.nil (by omega) (by omega) (fun w' X h => Rd.frontB (k := marksB 7 0 6) (m := n + 6) (by rw [HMM.out]; exact h.rd 3 rfl) HLP.out (by omega)) hcF3 (by omega)).mono ?_
  rintro e w5 ⟨v5, rfl, H1⟩
  rw [upd_laid5 (by simp)] at H1
  replace H := H1.push_mk rfl
  clear H1
  obtain ⟨A5, c5, rfl, -, -⟩ := row_form (H.row 4 rfl)
  replace H : St w [] w5 (lay [led (.pointer none) none, led l (noteN (some []) 2 128 (allN5 n)), ledR lr (some []), .row 5 1 (.slice (some ⟨gF, 0, none⟩) (n + 6) cF) (n + 6) (M0.map vb), .row 5 1 (.slice A5 64 c5) 64 ((dig5 p).map vb)]) := H
  go_wp2_with fail
  refine (s5Fn_s (.pointer none) none 0 0 (some ⟨gF, 0, none⟩) n cF p H 0 5 rfl rfl (LW.none _ _) (by omega) (by omega) (fun w' X h => Rd.frontB (k := marksB 7 0 6) (m := n + 6) (by rw [HMM.out]; exact h.rd 3 rfl) HLP.out (by omega)) hcF3 (by omega)).mono ?_
  rintro e w6 ⟨v6, rfl, H1⟩
  rw [noteN_none', upd_laid5 (by simp)] at H1
  replace H := H1.push_mk rfl
  clear H1
  obtain ⟨A6, c6, rfl, -, -⟩ := row_form (H.row 5 rfl)
  replace H : St w [] w6 (lay [led (.pointer none) none, led l (noteN (some []) 2 128 (allN5 n)), ledR lr (some []), .row 5 1 (.slice (some ⟨gF, 0, none⟩) (n + 6) cF) (n + 6) (M0.map vb), .row 5 1 (.slice A5 64 c5) 64 ((dig5 p).map vb), .row 5 1 (.slice A6 64 c6) 64 ((dig5 p).map vb)]) := H
  go_wp2_with fail
  refine (refSum_s lr (some []) 0 0 A n c p H 2 6 rfl rfl LW.nil (by omega) (by omega) (fun w' X h => h.arg0 hA) (by omega)).mono ?_
  rintro e w7 ⟨v7, rfl, H1⟩
  rw [upd_laid5 (by simp)] at H1
  replace H := H1.push_mk rfl
  clear H1
  obtain ⟨A7, c7, rfl, -, -⟩ := row_form (H.row 6 rfl)
  rw [noteN_runs5] at H
  have hkb := allN5_le n
  obtain ⟨D, hD⟩ : ∃ D, dig5 p = D := ⟨_, rfl⟩
  have HDL : Hid (D.length = 64) := by unfold Hid; rw [← hD]; exact dig5_length p
  rw [hD] at H
  clear hD
  generalize allN5 n = K' at H hkb
  replace H : St w [] w7 (lay [led (.pointer none) none, led l (some (runsOf5 K')), ledR lr (some (runsOf5 K')), .row 5 1 (.slice (some ⟨gF, 0, none⟩) (n + 6) cF) (n + 6) (M0.map vb), .row 5 1 (.slice A5 64 c5) 64 (D.map vb), .row 5 1 (.slice A6 64 c6) 64 (D.map vb), .row 5 1 (.slice A7 64 c7) 64 (D.map vb)]) := H
  go_wp2_with fail
  refine (keptBytes_yes (some ⟨gF, 0, none⟩) A (n + 6) n cF c M0 p _ (H.rd 3 rfl) (H.arg0 hA) (by omega) (by omega) HMM.out.symm).mono ?_
  rintro e w8 ⟨rfl, hb⟩
  replace H := H.call hb
  clear hb
  go_wp2_with fail
  refine (over_st H 3 rfl (by omega)).mono ?_
  rintro e w9 ⟨rfl, H1⟩
  rw [upd_laid5 (by simp)] at H1
  obtain ⟨M1, hM1⟩ : ∃ M, marksB 9 0 (n + 6) = M := ⟨_, rfl⟩
  have HM1 : Hid (M1.length = n + 6) := by unfold Hid; rw [← hM1, marksB_length]
  rw [hM1] at H1
  clear hM1 H
  have H : St w [] w9 (lay [led (.pointer none) none, led l (some (runsOf5 K')), ledR lr (some (runsOf5 K')), .row 5 1 (.slice (some ⟨gF, 0, none⟩) (n + 6) cF) (n + 6) (M1.map vb), .row 5 1 (.slice A5 64 c5) 64 (D.map vb), .row 5 1 (.slice A6 64 c6) 64 (D.map vb), .row 5 1 (.slice A7 64 c7) 64 (D.map vb)]) := H1
  clear H1
  go_wp2_with fail
  refine (sameBytes_yes A5 A7 64 64 c5 c7 D D _ (H.rd 4 rfl) (H.rd 6 rfl) (by omega) (by omega) rfl).mono ?_
  rintro e wa ⟨rfl, hb⟩
  replace H := H.call hb
  clear hb
  go_wp2_with fail
  refine (sameBytes_yes A6 A7 64 64 c6 c7 D D _ (H.rd 5 rfl) (H.rd 6 rfl) (by omega) (by omega) rfl).mono ?_
  rintro e wb ⟨rfl, hb⟩
  replace H := H.call hb
  clear hb
  have hrl := runsOf5_len K'
  go_wp2_with fail
  refine (ledger_runs_w 1 K' H 1 rfl (runsOf5_lw K') (by omega) 7 rfl).mono ?_
  rintro e wc ⟨va, rfl, H1⟩
  replace H := H1.push_mk rfl
  clear H1
  obtain ⟨Aa, ca, rfl, -, -⟩ := row_shape (H.row 7 rfl)
  go_wp2_with fail
  refine (refRuns_w 1 K' H 2 rfl (runsOf5_lw K') (by omega) 8 rfl).mono ?_
  rintro e wd ⟨vd, rfl, H1⟩
  replace H := H1.push_mk rfl
  clear H1
  obtain ⟨Ad, cd, rfl, -, -⟩ := row_shape (H.row 8 rfl)
  go_wp2_with fail
  refine (sameRuns_any Aa Ad ca cd (runsOf5 K') (runsOf5 K') (H.rd 7 rfl) (H.rd 8 rfl) (by omega) (by omega)).mono ?_
  rintro e we ⟨rfl, kd, rfl⟩
  replace H := (H.drewN kd).front 7
  rw [decide_eq_true rfl]
  generalize wd.drewN kd = we at H ⊢
  replace H : St w [] we (lay [led (.pointer none) none, led l (some (runsOf5 K')), ledR lr (some (runsOf5 K')), .row 5 1 (.slice (some ⟨gF, 0, none⟩) (n + 6) cF) (n + 6) (M1.map vb), .row 5 1 (.slice A5 64 c5) 64 (D.map vb), .row 5 1 (.slice A6 64 c6) 64 (D.map vb), .row 5 1 (.slice A7 64 c7) 64 (D.map vb)]) := H
  replace H := H.shape_row 3 rfl HM1.out.symm rfl
  replace H := H.shape_row 4 rfl HDL.out.symm rfl
  replace H := H.shape_row 5 rfl HDL.out.symm rfl
  go_wp2_with fail
  refine (apart_st H [(.slice (some ⟨gF, 0, none⟩) (n + 6) cF, M1), (.slice A5 64 c5, D), (.slice A6 64 c6, D)] (fun i => [3, 4, 5].getD i 99) (fun i j hi hj => (by decide : ∀ i < 3, ∀ j < 3, [3, 4, 5].getD i 99 = [3, 4, 5].getD j 99 → i = j) i hi j hj) ?_ 3 rfl (by omega) ?_ _ rfl).mono ?_
  · intro i p hp
    match i, hp with
    | 0, hp => cases hp; rfl
    | 1, hp => cases hp; rfl
    | 2, hp => cases hp; rfl
    | i + 3, hp => simp at hp
  · intro p hp
    have h1 := HDL.out
    have h2 := HM1.out
    simp only [List.mem_cons, List.not_mem_nil, or_false] at hp
    rcases hp with rfl | rfl | rfl <;> simp only <;> omega
  rintro e wz ⟨rfl, hbz⟩
  go_wp2_with fail
  go_ret
  exact ⟨rfl, hbz⟩
end Go.Proofs.Ythieegmmbjjcbaa
