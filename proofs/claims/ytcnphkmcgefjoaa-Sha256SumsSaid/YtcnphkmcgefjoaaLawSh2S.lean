/- The law Sha256Sums, walked. -/
import Derived.Test.YtcnphkmcgefjoaaSh2M
import Derived.Test.YtcnphkmcgefjoaaLawSh2No
namespace Go.Proofs.Ytcnphkmcgefjoaa
open Go.RowKit
set_option linter.unusedVariables false
set_option maxRecDepth 100000

attribute [local irreducible] comp2 hTo dig2 laid4 h2 padM

theorem Rd.frontB {w : World} {A : Option Addr} {n m : Nat} {l k : List UInt8} (h : Rd w 1 A m ((l ++ k).map vb)) (hn : l.length = n) (hm : n ≤ m) : Rd w 1 A n (l.map vb) := by
  have := h.take hm
  rw [List.take_left' hn] at this
  exact this

theorem St.shape_row2 {w0 w : World} {F0 : List Nat} {L : List Own} {e : TypeId} {v : Value} {n n' : Nat} {xs xs' : List Value} (H : St w0 F0 w (lay L)) (k : Nat) (hk : L[k]? = some (.row e 1 v n xs)) (hn : n = n') (hx : xs = xs') : St w0 F0 w (lay (L.set k (.row e 1 v n' xs'))) := by
  subst hn hx
  have h := List.getElem?_eq_some_iff.1 hk
  obtain ⟨h1, h2⟩ := h
  rw [← h2, List.set_getElem_self]
  exact H

set_option maxHeartbeats 8000000 in
theorem sha256Sums_walk (A : Option Addr) (n c : Nat) (p : List UInt8) (w : World) (hA : Rd w 1 A n (p.map vb)) (hn0 : n ≤ 140737488351232) (hc : n ≤ c) :
    Calls Try.prog 3 #[.slice A n c] w fun e w' => e = .returned (.bool true) ∧ Below w.heap.size w w' := by
  have hlp : p.length = n := by simpa using hA.1
  have HLP := Lib.hid hlp
  have H0 := (St.start_lay w []).ledNil 0 rfl |>.push_mk rfl
  clear hlp
  by_cases hbig : 16384 < n
  · have hb : decide ((n : Int) > 16384) = true := by simp; omega
    clear hbig
    go_enter Try.func3, Try.ntmps3
    go_wp2_with fail
    refine (lives2_s w).mono ?_
    rintro e w1 ⟨rfl, hb1⟩
    go_wp2
    go_ret
    exact ⟨rfl, hb1⟩
  · have hb : decide ((n : Int) > 16384) = false := by simp; omega
    have hn : n ≤ 16384 := by omega
    clear hbig hn0
    go_enter Try.func3, Try.ntmps3
    go_wp2_with fail
    refine (lives2_s w).mono ?_
    rintro e w1 ⟨rfl, hb1⟩
    have H := H0.call hb1
    clear hb1 H0
    go_wp2_with fail
    refine (lentBytes_any A n c p w1 (H.arg0 hA) (by omega)).mono ?_
    rintro e w2 ⟨v0, rfl, ho, hb2⟩
    obtain ⟨gF, cF, rfl, hcF, -, -⟩ := ho.lent HLP.out
    obtain ⟨M0, hM0⟩ : ∃ M, p ++ marksB 7 0 6 = M := ⟨_, rfl⟩
    have HM0 : Hid (M0.length = n + 6) := by unfold Hid; rw [← hM0, List.length_append, marksB_length, HLP.out]
    unfold OwnB at ho
    rw [hM0, HM0.out] at ho
    have HMM := Lib.hid hM0
    clear hM0
    replace H := (H.pushRow 1 rfl hb2 ho).push_mk rfl
    clear ho hb2
    replace H : St w [] w2 (lay [led (.pointer none) none, .row 5 1 (.slice (some ⟨gF, 0, none⟩) (n + 6) cF) (n + 6) (M0.map vb)]) := H
    have hcF2 : (n : Int) ≤ cF := by omega
    have hcF3 : n ≤ cF := by omega
    go_wp2_with fail
    refine (ledger_new H 2 rfl).mono ?_
    rintro e w3 ⟨l, rfl, H1⟩
    replace H := H1.push_mk rfl
    clear H1
    go_wp2_with fail
    refine (refLedger_new H 3 rfl).mono ?_
    rintro e w4 ⟨lr, rfl, H1⟩
    replace H := H1.push_mk rfl
    clear H1
    replace H : St w [] w4 (lay [led (.pointer none) none, .row 5 1 (.slice (some ⟨gF, 0, none⟩) (n + 6) cF) (n + 6) (M0.map vb), led l (some []), ledR lr (some [])]) := H
    go_wp2_with fail
    refine (sh2Fn_s l (some []) 0 0 (some ⟨gF, 0, none⟩) n cF p H 2 4 rfl rfl LW.nil (by omega) (by omega) (fun w' X h => Rd.frontB (k := marksB 7 0 6) (m := n + 6) (by rw [HMM.out]; exact h.rd 1 rfl) HLP.out (by omega)) hcF3 (by omega)).mono ?_
    rintro e w5 ⟨v5, rfl, H1⟩
    rw [upd_laid2 (by simp)] at H1
    replace H := H1.push_mk rfl
    clear H1
    obtain ⟨A5, c5, rfl, -, -⟩ := row_form (H.row 4 rfl)
    replace H : St w [] w5 (lay [led (.pointer none) none, .row 5 1 (.slice (some ⟨gF, 0, none⟩) (n + 6) cF) (n + 6) (M0.map vb), led l (noteN (some []) 1 64 (allN n)), ledR lr (some []), .row 5 1 (.slice A5 32 c5) 32 ((dig2 p).map vb)]) := H
    go_wp2_with fail
    refine (sh2Fn_s (.pointer none) none 0 0 (some ⟨gF, 0, none⟩) n cF p H 0 5 rfl rfl (LW.none _ _) (by omega) (by omega) (fun w' X h => Rd.frontB (k := marksB 7 0 6) (m := n + 6) (by rw [HMM.out]; exact h.rd 1 rfl) HLP.out (by omega)) hcF3 (by omega)).mono ?_
    rintro e w6 ⟨v6, rfl, H1⟩
    rw [noteN_none', upd_laid2 (by simp)] at H1
    replace H := H1.push_mk rfl
    clear H1
    obtain ⟨A6, c6, rfl, -, -⟩ := row_form (H.row 5 rfl)
    replace H : St w [] w6 (lay [led (.pointer none) none, .row 5 1 (.slice (some ⟨gF, 0, none⟩) (n + 6) cF) (n + 6) (M0.map vb), led l (noteN (some []) 1 64 (allN n)), ledR lr (some []), .row 5 1 (.slice A5 32 c5) 32 ((dig2 p).map vb), .row 5 1 (.slice A6 32 c6) 32 ((dig2 p).map vb)]) := H
    go_wp2_with fail
    refine (refSum_s lr (some []) 0 0 A n c p H 3 6 rfl rfl LW.nil (by omega) (by omega) (fun w' X h => h.arg0 hA) (by omega)).mono ?_
    rintro e w7 ⟨v7, rfl, H1⟩
    rw [upd_laid2 (by simp)] at H1
    replace H := H1.push_mk rfl
    clear H1
    obtain ⟨A7, c7, rfl, -, -⟩ := row_form (H.row 6 rfl)
    have hrl : Hid (∃ rs, noteN (some []) 1 64 (allN n) = some rs ∧ rs.length ≤ 1) := by
      unfold Hid noteN
      split
      · exact ⟨[], rfl, by simp⟩
      · exact ⟨_, rfl, by simp [noted]⟩
    obtain ⟨rs, hrs, hrl1⟩ := hrl.out
    have hab : allN n ≤ n + 2 := by unfold allN; have := lastN_le n; omega
    have hlw : LW (some rs) 1 ((allN n : Nat) : Int) := by rw [← hrs]; exact (LW.nil.noteN 1 64 (allN n)).more (by omega) (by omega)
    rw [hrs] at H
    have HLW := Lib.hid hlw
    clear hrs hrl hlw
    obtain ⟨D, hD⟩ : ∃ D, dig2 p = D := ⟨_, rfl⟩
    have HDL : Hid (D.length = 32) := by unfold Hid; rw [← hD]; exact dig2_length p
    rw [hD] at H
    clear hD
    generalize allN n = K at HLW hab
    replace H : St w [] w7 (lay [led (.pointer none) none, .row 5 1 (.slice (some ⟨gF, 0, none⟩) (n + 6) cF) (n + 6) (M0.map vb), led l (some rs), ledR lr (some rs), .row 5 1 (.slice A5 32 c5) 32 (D.map vb), .row 5 1 (.slice A6 32 c6) 32 (D.map vb), .row 5 1 (.slice A7 32 c7) 32 (D.map vb)]) := H
    go_wp2_with fail
    refine (keptBytes_yes (some ⟨gF, 0, none⟩) A (n + 6) n cF c M0 p _ (H.rd 1 rfl) (H.arg0 hA) (by omega) (by omega) HMM.out.symm).mono ?_
    rintro e w8 ⟨rfl, hb⟩
    replace H := H.call hb
    clear hb
    go_wp2_with fail
    refine (sameBytes_yes A5 A7 32 32 c5 c7 D D _ (H.rd 4 rfl) (H.rd 6 rfl) (by omega) (by omega) rfl).mono ?_
    rintro e w9 ⟨rfl, hb⟩
    replace H := H.call hb
    clear hb
    go_wp2_with fail
    refine (sameBytes_yes A6 A7 32 32 c6 c7 D D _ (H.rd 5 rfl) (H.rd 6 rfl) (by omega) (by omega) rfl).mono ?_
    rintro e wa ⟨rfl, hb⟩
    replace H := H.call hb
    clear hb
    go_wp2_with fail
    refine (ledger_runs_w 1 _ H 2 rfl HLW.out (by omega) 7 rfl).mono ?_
    rintro e wb ⟨va, rfl, H1⟩
    replace H := H1.push_mk rfl
    clear H1
    obtain ⟨Aa, ca, rfl, -, -⟩ := row_shape (H.row 7 rfl)
    go_wp2_with fail
    refine (refRuns_w 1 _ H 3 rfl HLW.out (by omega) 8 rfl).mono ?_
    rintro e wc ⟨vd, rfl, H1⟩
    replace H := H1.push_mk rfl
    clear H1
    obtain ⟨Ad, cd, rfl, -, -⟩ := row_shape (H.row 8 rfl)
    go_wp2_with fail
    refine (sameRuns_any Aa Ad ca cd rs rs (H.rd 7 rfl) (H.rd 8 rfl) (by omega) (by omega)).mono ?_
    rintro e wd ⟨rfl, kd, rfl⟩
    replace H := (H.drewN kd).front 7
    rw [decide_eq_true rfl]
    generalize wc.drewN kd = wd at H ⊢
    replace H : St w [] wd (lay [led (.pointer none) none, .row 5 1 (.slice (some ⟨gF, 0, none⟩) (n + 6) cF) (n + 6) (M0.map vb), led l (some rs), ledR lr (some rs), .row 5 1 (.slice A5 32 c5) 32 (D.map vb), .row 5 1 (.slice A6 32 c6) 32 (D.map vb), .row 5 1 (.slice A7 32 c7) 32 (D.map vb)]) := H
    replace H := H.shape_row2 4 rfl HDL.out.symm rfl
    replace H := H.shape_row2 5 rfl HDL.out.symm rfl
    go_wp2_with fail
    refine (apart_st H [(.slice A5 32 c5, D), (.slice A6 32 c6, D)] (fun i => [4, 5].getD i 99) (fun i j hi hj => (by decide : ∀ i < 2, ∀ j < 2, [4, 5].getD i 99 = [4, 5].getD j 99 → i = j) i hi j hj) ?_ 2 rfl (by omega) ?_ _ rfl).mono ?_
    · intro i p hp
      match i, hp with
      | 0, hp => cases hp; rfl
      | 1, hp => cases hp; rfl
      | i + 2, hp => simp at hp
    · intro p hp
      have h1 := HDL.out
      simp only [List.mem_cons, List.not_mem_nil, or_false] at hp
      rcases hp with rfl | rfl <;> simp only <;> omega
    rintro e wz ⟨rfl, hbz⟩
    go_wp2_with fail
    go_ret
    exact ⟨rfl, hbz⟩
end Go.Proofs.Ytcnphkmcgefjoaa
