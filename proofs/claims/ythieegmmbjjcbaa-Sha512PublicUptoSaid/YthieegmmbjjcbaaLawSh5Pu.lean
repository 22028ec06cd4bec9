/- The law Sha512Public, walked. -/
import Derived.Test.YthieegmmbjjcbaaSh5U
namespace Go.Proofs.Ythieegmmbjjcbaa
open Go.RowKit
set_option linter.unusedVariables false
set_option maxRecDepth 100000

attribute [local irreducible] comp5 hTo dig5 laid8 h5 padM5 form5 lastN5 allN5 runsOf5

theorem min_nat (a b n : Nat) (h : min a b = n) : min (a : Int) (b : Int) = (n : Int) := by omega

set_option maxHeartbeats 8000000 in
theorem sha512Public_a (A : Option Addr) (np c : Nat) (xs : List UInt8) (B : Option Addr) (nq d : Nat) (ys : List UInt8) (C : Option Addr) (nc cp : Nat) (cs : List UInt8) (w : World) (hA : Rd w 1 A np (xs.map vb)) (hnp : np ≤ 1048576) (hc : np ≤ c) (hB : Rd w 1 B nq (ys.map vb)) (hnq : nq ≤ 1048576) (hd : nq ≤ d) (hC : Rd w 1 C nc (cs.map vb)) (hnc : nc ≤ 1048576) (hcp : nc ≤ cp) (hcase : ¬ nq < np) :
    Calls Try.prog 4 #[.slice A np c, .slice B nq d, .slice C nc cp] w fun e w' => e = .returned (.bool true) ∧ Below w.heap.size w w' := by
  have hn1 : np ≤ np := by omega
  have hn2 : np ≤ nq := by omega
  have hA1 := hA.take hn1
  have hB1 := hB.take hn2
  obtain ⟨x1, hx1⟩ : ∃ x, xs.take np = x := ⟨_, rfl⟩
  obtain ⟨y1, hy1⟩ : ∃ x, ys.take np = x := ⟨_, rfl⟩
  rw [hx1] at hA1
  rw [hy1] at hB1
  clear hx1 hy1 hA hB
  have hlx : x1.length = np := by simpa using hA1.1
  have hly : y1.length = np := by simpa using hB1.1
  have HLX := Lib.hid hlx
  have HLY := Lib.hid hly
  clear hlx hly
  have hgc : (np : Int) ≤ c := by omega
  have hgd : (np : Int) ≤ d := by omega
  have H0 := St.start_lay w []
  go_enter Try.func4, Try.ntmps4
  go_wp2_with fail
  refine (ledger_new H0 0 rfl).mono ?_
  rintro e w1 ⟨l, rfl, H1⟩
  have H := H1.push_mk rfl
  clear H1 H0
  go_wp2_with fail
  refine (ledger_new H 1 rfl).mono ?_
  rintro e w2 ⟨k, rfl, H1⟩
  replace H := H1.push_mk rfl
  clear H1
  go_wp2_with fail
  refine (s5New_s H 2 rfl).mono ?_
  rintro e w3 ⟨ga, rfl, H1⟩
  replace H := H1.push_mk rfl
  clear H1
  unfold lptr
  go_wp2_with fail
  refine (s5New_s H 3 rfl).mono ?_
  rintro e w4 ⟨gb, rfl, H1⟩
  replace H := H1.push_mk rfl
  clear H1
  unfold lptr
  go_wp2_with fail
  refine (awake5_s w4).mono ?_
  rintro e w5 ⟨rfl, hb⟩
  replace H := H.call hb
  clear hb
  replace H : St w [] w5 (lay [.blk ga 73 (s5S []), .blk gb 73 (s5S []), led l (some []), led k (some [])]) := H.permS [2, 3, 0, 1] 4 rfl (by decide) (fun i hi => by
    match i, hi with
    | 0, _ => rfl
    | 1, _ => rfl
    | 2, _ => rfl
    | 3, _ => rfl)
  go_upto_region 6 with fail
  refine wp_region_held_drew (S := fun w' : World => True) (by kernel_rfl) ?_ (fun hHeld => ?_)
  · exact trivial
  refine takeV 0 rfl (by intro w h; clear h; go_simp; try with_reducible rfl) (by kernel_rfl) (by kernel_rfl) (by kernel_rfl) (by exact fun _ _ _ h => h) (by rfl) (by assumption) ?_
  try simp only [Act.put, List.setIfInBounds_toArray, List.set_cons_zero, List.set_cons_succ]
  refine takeV 1 rfl (by intro w h; clear h; go_simp; try with_reducible rfl) (by kernel_rfl) (by kernel_rfl) (by kernel_rfl) (by exact fun _ _ _ h => h) (by rfl) (by assumption) ?_
  try simp only [Act.put, List.setIfInBounds_toArray, List.set_cons_zero, List.set_cons_succ]
  refine takeV 2 rfl (by intro w h; clear h; go_simp; try with_reducible rfl) (by kernel_rfl) (by kernel_rfl) (by kernel_rfl) (by exact fun _ _ _ h => h) (by rfl) (by assumption) ?_
  try simp only [Act.put, List.setIfInBounds_toArray, List.set_cons_zero, List.set_cons_succ]
  refine takeV 3 rfl (by intro w h; clear h; go_simp; try with_reducible rfl) (by kernel_rfl) (by kernel_rfl) (by kernel_rfl) (by exact fun _ _ _ h => h) (by rfl) (by assumption) ?_
  try simp only [Act.put, List.setIfInBounds_toArray, List.set_cons_zero, List.set_cons_succ]
  refine takeV 5 rfl (by intro w h; clear h; go_simp; try with_reducible rfl) (by kernel_rfl) (by kernel_rfl) (by kernel_rfl) (by exact fun _ _ _ h => h) (by rfl) (by assumption) ?_
  try simp only [Act.put, List.setIfInBounds_toArray, List.set_cons_zero, List.set_cons_succ]
  refine takeV 6 rfl (by intro w h; clear h; go_simp; try with_reducible rfl) (by kernel_rfl) (by kernel_rfl) (by kernel_rfl) (by exact fun _ _ _ h => h) (by rfl) (by assumption) ?_
  try simp only [Act.put, List.setIfInBounds_toArray, List.set_cons_zero, List.set_cons_succ]
  refine takeV 7 rfl (by intro w h; clear h; go_simp; try with_reducible rfl) (by kernel_rfl) (by kernel_rfl) (by kernel_rfl) (by exact fun _ _ _ h => h) (by rfl) (by assumption) ?_
  try simp only [Act.put, List.setIfInBounds_toArray, List.set_cons_zero, List.set_cons_succ]
  refine takeV 8 rfl (by intro w h; clear h; go_simp; try with_reducible rfl) (by kernel_rfl) (by kernel_rfl) (by kernel_rfl) (by exact fun _ _ _ h => h) (by rfl) (by assumption) ?_
  try simp only [Act.put, List.setIfInBounds_toArray, List.set_cons_zero, List.set_cons_succ]
  refine take_call 4 rfl (by kernel_rfl) (fun K hK => ?_)
  try go_simp
  refine (cutInto_s A np c x1 C nc cp cs _ (H.drew.arg0 hA1) (H.drew.arg0 hC) (by omega) (by omega) (by omega)).mono ?_
  rintro e w6 ⟨V, ps, rfl, hps, HN⟩
  replace H := H.drew.also HN
  clear HN
  have HPS := Lib.hid hps
  clear hps
  obtain ⟨AV, cV, rfl, -, hAV⟩ := row_form (H.row 4 rfl)
  refine hK.out _ _ ?_ (fun hHeld => ?_)
  · exact trivial
  clear hK K
  try simp only [Act.put, List.setIfInBounds_toArray, List.set_cons_zero, List.set_cons_succ]
  refine take_call 9 rfl (by kernel_rfl) (fun K hK => ?_)
  try go_simp
  refine (cutInto_s B np d y1 C nc cp cs _ (H.arg0 hB1) (H.arg0 hC) (by omega) (by omega) (by omega)).mono ?_
  rintro e w7 ⟨W, qs, rfl, hqs, HN⟩
  replace H := H.also HN
  clear HN
  have HQS := Lib.hid hqs
  clear hqs
  obtain ⟨AW, cW, rfl, -, hAW⟩ := row_form (H.row 6 rfl)
  refine hK.out _ _ ?_ (fun hHeld => ?_)
  · exact trivial
  clear hK K
  try simp only [Act.put, List.setIfInBounds_toArray, List.set_cons_zero, List.set_cons_succ]
  refine takeV 10 rfl (by intro w h; clear h; go_simp; try with_reducible rfl) (by kernel_rfl) (by kernel_rfl) (by kernel_rfl) (by exact fun _ _ _ h => h) (by rfl) (by assumption) ?_
  try simp only [Act.put, List.setIfInBounds_toArray, List.set_cons_zero, List.set_cons_succ]
  refine takeV 11 rfl (by intro w h; clear h; go_simp; try with_reducible rfl) (by kernel_rfl) (by kernel_rfl) (by kernel_rfl) (by exact fun _ _ _ h => h) (by rfl) (by assumption) ?_
  try simp only [Act.put, List.setIfInBounds_toArray, List.set_cons_zero, List.set_cons_succ]
  refine wpAnyH_done (by kernel_rfl) ?_ _
  have hpsl : ps.length ≤ 1048577 := by
    have h1 := congrArg List.length HPS.out
    have h2 := cutB_len cs x1
    have h3 : cs.length = nc := by simpa using hC.1
    rw [List.length_map] at h1
    omega
  have HAL : Hid ((ps.map Pc.l).map List.length = (qs.map Pc.l).map List.length) := by unfold Hid; rw [HPS.out, HQS.out]; exact cutB_alike cs x1 y1 (by rw [HLX.out, HLY.out])
  have hqp : qs.length = ps.length := by
    have h1 := congrArg List.length HAL.out
    simp only [List.length_map] at h1
    exact h1.symm
  have HQP := Lib.hid hqp
  clear hqp
  have HLP : Hid ((ps.map Pc.l).flatten = x1) := by unfold Hid; rw [HPS.out, cutB_flat]
  have HLQ : Hid ((qs.map Pc.l).flatten = y1) := by unfold Hid; rw [HQS.out, cutB_flat]
  have HF0 : Hid (runsOf5 ((flatTo (ps.map Pc.l) 0).length / 128) = []) := by unfold Hid; simp [runsOf5, flatTo]
  have HG0 : Hid (runsOf5 ((flatTo (qs.map Pc.l) 0).length / 128) = []) := by unfold Hid; simp [runsOf5, flatTo]
  replace H : St w [] w7 (lay [.blk ga 73 (s5S (flatTo (ps.map Pc.l) 0)), .blk gb 73 (s5S (flatTo (qs.map Pc.l) 0)), led l (some (runsOf5 ((flatTo (ps.map Pc.l) 0).length / 128))), led k (some (runsOf5 ((flatTo (qs.map Pc.l) 0).length / 128))), .row 22 1 (.slice AV ps.length cV) ps.length (ps.map Pc.v), bigO Pc.own ps, .row 22 1 (.slice AW qs.length cW) qs.length (qs.map Pc.v), bigO Pc.own qs]) := by rw [HF0.out, HG0.out]; exact H
  clear HF0 HG0
  go_wp2
  go_loopw [14] (fun i wr => ∃ j : Nat, j ≤ ps.length ∧ i = .int .i64 j ∧ St w [] wr (lay [.blk ga 73 (s5S (flatTo (ps.map Pc.l) j)), .blk gb 73 (s5S (flatTo (qs.map Pc.l) j)), led l (some (runsOf5 ((flatTo (ps.map Pc.l) j).length / 128))), led k (some (runsOf5 ((flatTo (qs.map Pc.l) j).length / 128))), .row 22 1 (.slice AV ps.length cV) ps.length (ps.map Pc.v), bigO Pc.own ps, .row 22 1 (.slice AW qs.length cW) qs.length (qs.map Pc.v), bigO Pc.own qs])) (fun i _ => ps.length - (intOf i).toNat)
  case atStart => exact ⟨0, Nat.zero_le _, rfl, H⟩
  case round =>
    clear H
    obtain ⟨j, hj, rfl, H⟩ := hrel
    by_cases hlt : j < ps.length
    · obtain ⟨pc, hpc⟩ : ∃ v, ps[j]? = some v := ⟨_, List.getElem?_eq_getElem hlt⟩
      obtain ⟨qc, hqc⟩ : ∃ v, qs[j]? = some v := ⟨_, List.getElem?_eq_getElem (by have := HQP.out; omega)⟩
      obtain ⟨gV, rfl, -⟩ := hAV (by omega)
      obtain ⟨gW, rfl, -⟩ := hAW (by have := HQP.out; omega)
      have c0 := World.ownsRow.cellAt (H.row 4 rfl) j (by omega)
      rw [List.getElem?_map, hpc] at c0
      simp only [Option.map_some, Pc.v] at c0
      have HCQ : Hid (∀ w' X, St w [] w' X → X 6 = some (.row 22 1 (.slice (some ⟨gW, 0, none⟩) qs.length cW) qs.length (qs.map Pc.v)) → w'.cell? ⟨gW, j, none⟩ = some (.slice qc.A qc.n qc.c)) := fun w' X h hX => by
        have d0 := World.ownsRow.cellAt (h.row 6 hX) j (by have := HQP.out; omega)
        rw [List.getElem?_map, hqc] at d0
        simpa only [Option.map_some, Pc.v] using d0
      have HPC := Lib.hid hpc
      have HQC := Lib.hid hqc
      have HFS := Lib.hid (flatTo_succ (L := ps.map Pc.l) (i := j) (x := pc.l) (by rw [List.getElem?_map, hpc]; rfl))
      have HGS := Lib.hid (flatTo_succ (L := qs.map Pc.l) (i := j) (x := qc.l) (by rw [List.getElem?_map, hqc]; rfl))
      have HAJ := Lib.hid (flatTo_alike HAL.out j)
      have HAJ1 := Lib.hid (flatTo_alike HAL.out (j + 1))
      have hle2 := flatTo_le (ps.map Pc.l) (j + 1)
      have hle3 := flatTo_le (qs.map Pc.l) (j + 1)
      rw [HLP.out, HLX.out] at hle2
      rw [HLQ.out, HLY.out] at hle3
      rw [HFS.out, List.length_append] at hle2
      rw [HGS.out, List.length_append] at hle3
      obtain ⟨G, hG⟩ := H.bigRow 5 rfl hpc
      obtain ⟨G', hG'⟩ := H.bigRow 7 rfl hqc
      have hpl : pc.l.length = pc.n := by
        have := hG.1.1
        simpa using this
      have hql : qc.l.length = qc.n := by
        have := hG'.1.1
        simpa using this
      have hpcap := Pc.cap hG
      have hqcap := Pc.cap hG'
      have HFL : Hid ((flatTo (ps.map Pc.l) (j + 1)).length = (flatTo (ps.map Pc.l) j).length + pc.n) := by unfold Hid; rw [HFS.out, List.length_append, hpl]
      have HGL : Hid ((flatTo (qs.map Pc.l) (j + 1)).length = (flatTo (qs.map Pc.l) j).length + qc.n) := by unfold Hid; rw [HGS.out, List.length_append, hql]
      have hpn : pc.n ≤ 1048576 := by rw [← hpl]; omega
      have hqn : qc.n ≤ 1048576 := by rw [← hql]; omega
      have hfl : (flatTo (ps.map Pc.l) j).length ≤ 1048576 := by omega
      have hgl : (flatTo (qs.map Pc.l) j).length ≤ 1048576 := by omega
      have hj1 : (j : Int) < ps.length := by omega
      have hj2 : (j : Int) < qs.length := by have := HQP.out; omega
      clear hpc hqc hpl hql hle2 hle3 hG hG'
      obtain ⟨m0, hm0⟩ : ∃ m, (flatTo (ps.map Pc.l) j) = m := ⟨_, rfl⟩
      obtain ⟨m1, hm1⟩ : ∃ m, (flatTo (ps.map Pc.l) (j + 1)) = m := ⟨_, rfl⟩
      obtain ⟨k0, hk0⟩ : ∃ m, (flatTo (qs.map Pc.l) j) = m := ⟨_, rfl⟩
      obtain ⟨k1, hk1⟩ : ∃ m, (flatTo (qs.map Pc.l) (j + 1)) = m := ⟨_, rfl⟩
      rw [hm0] at H HFS HFL hfl HAJ
      rw [hk0] at H HGS HGL hgl HAJ
      rw [hm1] at HFS HFL HAJ1
      rw [hk1] at HGS HGL HAJ1
      have HM1 := Lib.hid hm1
      have HK1 := Lib.hid hk1
      clear hm0 hm1 hk0 hk1
      have hd0 : m0.length / 128 ≤ 1048576 := by omega
      have hd1 : k0.length / 128 ≤ 1048576 := by omega
      have HDD : Hid (m0.length / 128 + ((m0.length + pc.n) / 128 - m0.length / 128) = m1.length / 128) := by
        unfold Hid
        rw [HFL.out]
        have := Nat.div_le_div_right (c := 128) (show m0.length ≤ m0.length + pc.n by omega)
        omega
      have HEE : Hid (k0.length / 128 + ((k0.length + qc.n) / 128 - k0.length / 128) = k1.length / 128) := by
        unfold Hid
        rw [HGL.out]
        have := Nat.div_le_div_right (c := 128) (show k0.length ≤ k0.length + qc.n by omega)
        omega
      have HN1 : Hid (noteN (some (runsOf5 (m0.length / 128))) 2 128 ((m0.length + pc.n) / 128 - m0.length / 128) = some (runsOf5 (m1.length / 128))) := by unfold Hid; rw [← noteN_runs5, noteN_noteN, HDD.out, noteN_runs5]
      have HN2 : Hid (noteN (some (runsOf5 (k0.length / 128))) 2 128 ((k0.length + qc.n) / 128 - k0.length / 128) = some (runsOf5 (k1.length / 128))) := by unfold Hid; rw [← noteN_runs5, noteN_noteN, HEE.out, noteN_runs5]
      have hm1b : m1.length / 128 ≤ 2097152 := by have := HFL.out; omega
      obtain ⟨z0, hz0⟩ : ∃ z, m0.length / 128 = z := ⟨_, rfl⟩
      obtain ⟨y0, hy0⟩ : ∃ z, k0.length / 128 = z := ⟨_, rfl⟩
      obtain ⟨z1, hz1⟩ : ∃ z, m1.length / 128 = z := ⟨_, rfl⟩
      have HZ1 := Lib.hid hz1
      have HY1 : Hid (k1.length / 128 = z1) := by unfold Hid; rw [← HAJ1.out]; exact hz1
      rw [hz0] at H hd0
      rw [hy0] at H hd1
      have HN3 : Hid (noteN (some (runsOf5 z0)) 2 128 ((m0.length + pc.n) / 128 - m0.length / 128) = some (runsOf5 z1)) := by unfold Hid; rw [← hz0, ← hz1]; exact HN1.out
      have HN4 : Hid (noteN (some (runsOf5 y0)) 2 128 ((k0.length + qc.n) / 128 - k0.length / 128) = some (runsOf5 z1)) := by unfold Hid; rw [← hy0, ← HY1.out]; exact HN2.out
      rw [hz1] at hm1b
      clear hz0 hy0 hz1 HN1 HN2 HDD HEE
      go_wp2_with fail
      refine (s5Write_s l (some (runsOf5 z0)) 1 (z0 : Int) ga m0 pc.A pc.n pc.c pc.l H 2 0 (by omega) rfl rfl (runsOf5_lw z0) (by omega) (by omega) (fun w' X Y h => by obtain ⟨G, hG⟩ := h.bigRow 5 rfl HPC.out; exact Rd.of_own hG.1) hpcap (by omega)).mono ?_
      rintro e w9 ⟨rfl, H6⟩
      rw [upd_laid5 (by simp), upd_laid5 (by simp), HN3.out, ← HFS.out] at H6
      replace H : St w [] w9 (lay [.blk ga 73 (s5S m1), .blk gb 73 (s5S k0), led l (some (runsOf5 z1)), led k (some (runsOf5 y0)), .row 22 1 (.slice (some ⟨gV, 0, none⟩) ps.length cV) ps.length (ps.map Pc.v), bigO Pc.own ps, .row 22 1 (.slice (some ⟨gW, 0, none⟩) qs.length cW) qs.length (qs.map Pc.v), bigO Pc.own qs]) := H6
      clear c0 H6
      have d0 := HCQ.out _ _ H rfl
      go_wp2_with fail
      refine (s5Write_s k (some (runsOf5 y0)) 1 (y0 : Int) gb k0 qc.A qc.n qc.c qc.l H 3 1 (by omega) rfl rfl (runsOf5_lw y0) (by omega) (by omega) (fun w' X Y h => by obtain ⟨G, hG⟩ := h.bigRow 7 rfl HQC.out; exact Rd.of_own hG.1) hqcap (by omega)).mono ?_
      rintro e wa ⟨rfl, H6⟩
      rw [upd_laid5 (by simp), upd_laid5 (by simp), HN4.out, ← HGS.out] at H6
      replace H : St w [] wa (lay [.blk ga 73 (s5S m1), .blk gb 73 (s5S k1), led l (some (runsOf5 z1)), led k (some (runsOf5 z1)), .row 22 1 (.slice (some ⟨gV, 0, none⟩) ps.length cV) ps.length (ps.map Pc.v), bigO Pc.own ps, .row 22 1 (.slice (some ⟨gW, 0, none⟩) qs.length cW) qs.length (qs.map Pc.v), bigO Pc.own qs]) := H6
      clear d0 H6
      go_wp2_with fail
      refine (ledger_runs_w 1 z1 H 2 rfl (runsOf5_lw z1) (by omega) 8 rfl).mono ?_
      rintro e wb ⟨vi, rfl, H1⟩
      replace H := H1.push_mk rfl
      clear H1
      obtain ⟨Ai, ci, rfl, -, -⟩ := row_shape (H.row 8 rfl)
      go_wp2_with fail
      refine (ledger_runs_w 1 z1 H 3 rfl (runsOf5_lw z1) (by omega) 9 rfl).mono ?_
      rintro e wc ⟨vj, rfl, H1⟩
      replace H := H1.push_mk rfl
      clear H1
      obtain ⟨Aj, cj, rfl, -, -⟩ := row_shape (H.row 9 rfl)
      have hrl := runsOf5_len z1
      go_wp2_with fail
      refine (sameRuns_any Ai Aj ci cj (runsOf5 z1) (runsOf5 z1) (H.rd 8 rfl) (H.rd 9 rfl) (by omega) (by omega)).mono ?_
      rintro e wd ⟨rfl, kd, rfl⟩
      replace H := (H.drewN kd).front 8
      rw [decide_eq_true rfl]
      generalize wc.drewN kd = wd at H ⊢
      replace H : St w [] wd (lay [.blk ga 73 (s5S (flatTo (ps.map Pc.l) (j + 1))), .blk gb 73 (s5S (flatTo (qs.map Pc.l) (j + 1))), led l (some (runsOf5 ((flatTo (ps.map Pc.l) (j + 1)).length / 128))), led k (some (runsOf5 ((flatTo (qs.map Pc.l) (j + 1)).length / 128))), .row 22 1 (.slice (some ⟨gV, 0, none⟩) ps.length cV) ps.length (ps.map Pc.v), bigO Pc.own ps, .row 22 1 (.slice (some ⟨gW, 0, none⟩) qs.length cW) qs.length (qs.map Pc.v), bigO Pc.own qs]) := by rw [HM1.out, HK1.out, HZ1.out, HY1.out]; exact H
      clear hrl
      go_wp2
      go_roundw
      case rel => exact ⟨j + 1, by omega, by go_num, H⟩
      case measure => simp [intOf]; omega
    · obtain rfl : j = ps.length := by omega
      have HE1 : Hid ((flatTo (ps.map Pc.l) ps.length) = x1) := by unfold Hid; rw [← List.length_map (f := Pc.l), flatTo_all]; exact HLP.out
      have HE2 : Hid ((flatTo (qs.map Pc.l) ps.length) = y1) := by unfold Hid; rw [← HQP.out, ← List.length_map (f := Pc.l), flatTo_all]; exact HLQ.out
      rw [HE1.out, HE2.out, HLX.out, HLY.out] at H
      replace H := H.front 4
      obtain ⟨q, hq⟩ : ∃ q, np / 128 = q := ⟨_, rfl⟩
      have hq1 : q ≤ 1048576 := by omega
      rw [hq] at H
      clear hq
      replace H : St w [] wr (lay [.blk ga 73 (s5S x1), .blk gb 73 (s5S y1), led l (some (runsOf5 q)), led k (some (runsOf5 q))]) := H
      have hj1 : ¬ ((ps.length : Int) < ps.length) := by omega
      go_wp2_with fail
      refine (s5Sum_s l (some (runsOf5 q)) 1 q ga x1 H 2 0 4 (by omega) rfl rfl rfl (runsOf5_lw q) (by omega) (by omega) (by rw [HLX.out]; omega)).mono ?_
      rintro e w9 ⟨v9, rfl, H1⟩
      rw [upd_laid5 (by simp), upd_laid5 (by simp), HLX.out] at H1
      replace H := (H1.push_mk rfl).front 4
      clear H1
      go_wp2_with fail
      refine (s5Sum_s k (some (runsOf5 q)) 1 q gb y1 H 3 1 4 (by omega) rfl rfl rfl (runsOf5_lw q) (by omega) (by omega) (by rw [HLY.out]; omega)).mono ?_
      rintro e wa ⟨va, rfl, H1⟩
      rw [upd_laid5 (by simp), upd_laid5 (by simp), HLY.out] at H1
      replace H := (H1.push_mk rfl).front 4
      clear H1
      have hz1 := lastN5_le np
      have hnz : noteN (some (runsOf5 q)) 2 128 (lastN5 np) = some (runsOf5 (q + lastN5 np)) := by rw [← noteN_runs5, noteN_noteN, noteN_runs5]
      replace H : St w [] wa (lay [.blk ga 73 (s5S x1), .blk gb 73 (s5S y1), led l (some (runsOf5 (q + lastN5 np))), led k (some (runsOf5 (q + lastN5 np)))]) := by rw [← hnz]; exact H
      clear hnz
      obtain ⟨z, hz⟩ : ∃ z, q + lastN5 np = z := ⟨_, rfl⟩
      rw [hz] at H
      have hzb : z ≤ 1048580 := by omega
      clear hz hz1
      go_wp2_with fail
      refine (s5Wipe_s l (some (runsOf5 z)) 1 z ga x1 H 2 0 (by omega) rfl rfl (runsOf5_lw z) (by omega) (by omega)).mono ?_
      rintro e wb ⟨rfl, H1⟩
      rw [upd_laid5 (by simp), upd_laid5 (by simp)] at H1
      replace H := H1
      clear H1
      go_wp2_with fail
      refine (s5Wipe_s k (some (runsOf5 z)) 1 z gb y1 H 3 1 (by omega) rfl rfl (runsOf5_lw z) (by omega) (by omega)).mono ?_
      rintro e wc ⟨rfl, H1⟩
      rw [upd_laid5 (by simp), upd_laid5 (by simp)] at H1
      have hlw0 : LW (noteN (some (runsOf5 z)) 8 200 1) 2 ((z : Int) + (1 : Nat)) := (runsOf5_lw z).noteN 8 200 1
      obtain ⟨rs, hrs⟩ : ∃ rs, noteN (some (runsOf5 z)) 8 200 1 = some rs := ⟨_, rfl⟩
      rw [hrs] at H1 hlw0
      have hrl : rs.length ≤ 2 := (hlw0 rs rfl).2.1
      have HLW := Lib.hid hlw0
      clear hrs hlw0
      replace H : St w [] wc (lay [.blk ga 73 s5Z, .blk gb 73 s5Z, led l (some rs), led k (some rs)]) := H1
      clear H1
      go_wp2_with fail
      refine (ledger_runs_w 2 _ H 2 rfl HLW.out (by omega) 4 rfl).mono ?_
      rintro e wd ⟨vi, rfl, H1⟩
      replace H := H1.push_mk rfl
      clear H1
      obtain ⟨Ai, ci, rfl, -, -⟩ := row_shape (H.row 4 rfl)
      go_wp2_with fail
      refine (ledger_runs_w 2 _ H 3 rfl HLW.out (by omega) 5 rfl).mono ?_
      rintro e we ⟨vj, rfl, H1⟩
      replace H := H1.push_mk rfl
      clear H1
      obtain ⟨Aj, cj, rfl, -, -⟩ := row_shape (H.row 5 rfl)
      go_wp2_with fail
      refine (sameRuns_any Ai Aj ci cj rs rs (H.rd 4 rfl) (H.rd 5 rfl) (by omega) (by omega)).mono ?_
      rintro e wf ⟨rfl, kd, rfl⟩
      replace H := H.drewN kd
      rw [decide_eq_true rfl]
      go_wp2
      go_ret
      exact ⟨rfl, H.below⟩

set_option maxHeartbeats 8000000 in
theorem sha512Public_b (A : Option Addr) (np c : Nat) (xs : List UInt8) (B : Option Addr) (nq d : Nat) (ys : List UInt8) (C : Option Addr) (nc cp : Nat) (cs : List UInt8) (w : World) (hA : Rd w 1 A np (xs.map vb)) (hnp : np ≤ 1048576) (hc : np ≤ c) (hB : Rd w 1 B nq (ys.map vb)) (hnq : nq ≤ 1048576) (hd : nq ≤ d) (hC : Rd w 1 C nc (cs.map vb)) (hnc : nc ≤ 1048576) (hcp : nc ≤ cp) (hcase : nq < np) :
    Calls Try.prog 4 #[.slice A np c, .slice B nq d, .slice C nc cp] w fun e w' => e = .returned (.bool true) ∧ Below w.heap.size w w' := by
  have hn1 : nq ≤ np := by omega
  have hn2 : nq ≤ nq := by omega
  have hA1 := hA.take hn1
  have hB1 := hB.take hn2
  obtain ⟨x1, hx1⟩ : ∃ x, xs.take nq = x := ⟨_, rfl⟩
  obtain ⟨y1, hy1⟩ : ∃ x, ys.take nq = x := ⟨_, rfl⟩
  rw [hx1] at hA1
  rw [hy1] at hB1
  clear hx1 hy1 hA hB
  have hlx : x1.length = nq := by simpa using hA1.1
  have hly : y1.length = nq := by simpa using hB1.1
  have HLX := Lib.hid hlx
  have HLY := Lib.hid hly
  clear hlx hly
  have hgc : (nq : Int) ≤ c := by omega
  have hgd : (nq : Int) ≤ d := by omega
  have H0 := St.start_lay w []
  go_enter Try.func4, Try.ntmps4
  go_wp2_with fail
  refine (ledger_new H0 0 rfl).mono ?_
  rintro e w1 ⟨l, rfl, H1⟩
  have H := H1.push_mk rfl
  clear H1 H0
  go_wp2_with fail
  refine (ledger_new H 1 rfl).mono ?_
  rintro e w2 ⟨k, rfl, H1⟩
  replace H := H1.push_mk rfl
  clear H1
  go_wp2_with fail
  refine (s5New_s H 2 rfl).mono ?_
  rintro e w3 ⟨ga, rfl, H1⟩
  replace H := H1.push_mk rfl
  clear H1
  unfold lptr
  go_wp2_with fail
  refine (s5New_s H 3 rfl).mono ?_
  rintro e w4 ⟨gb, rfl, H1⟩
  replace H := H1.push_mk rfl
  clear H1
  unfold lptr
  go_wp2_with fail
  refine (awake5_s w4).mono ?_
  rintro e w5 ⟨rfl, hb⟩
  replace H := H.call hb
  clear hb
  replace H : St w [] w5 (lay [.blk ga 73 (s5S []), .blk gb 73 (s5S []), led l (some []), led k (some [])]) := H.permS [2, 3, 0, 1] 4 rfl (by decide) (fun i hi => by
    match i, hi with
    | 0, _ => rfl
    | 1, _ => rfl
    | 2, _ => rfl
    | 3, _ => rfl)
  go_upto_region 6 with fail
  refine wp_region_held_drew (S := fun w' : World => True) (by kernel_rfl) ?_ (fun hHeld => ?_)
  · exact trivial
  refine takeV 0 rfl (by intro w h; clear h; go_simp; try with_reducible rfl) (by kernel_rfl) (by kernel_rfl) (by kernel_rfl) (by exact fun _ _ _ h => h) (by rfl) (by assumption) ?_
  try simp only [Act.put, List.setIfInBounds_toArray, List.set_cons_zero, List.set_cons_succ]
  refine takeV 1 rfl (by intro w h; clear h; go_simp; try with_reducible rfl) (by kernel_rfl) (by kernel_rfl) (by kernel_rfl) (by exact fun _ _ _ h => h) (by rfl) (by assumption) ?_
  try simp only [Act.put, List.setIfInBounds_toArray, List.set_cons_zero, List.set_cons_succ]
  refine takeV 2 rfl (by intro w h; clear h; go_simp; try with_reducible rfl) (by kernel_rfl) (by kernel_rfl) (by kernel_rfl) (by exact fun _ _ _ h => h) (by rfl) (by assumption) ?_
  try simp only [Act.put, List.setIfInBounds_toArray, List.set_cons_zero, List.set_cons_succ]
  refine takeV 3 rfl (by intro w h; clear h; go_simp; try with_reducible rfl) (by kernel_rfl) (by kernel_rfl) (by kernel_rfl) (by exact fun _ _ _ h => h) (by rfl) (by assumption) ?_
  try simp only [Act.put, List.setIfInBounds_toArray, List.set_cons_zero, List.set_cons_succ]
  refine takeV 5 rfl (by intro w h; clear h; go_simp; try with_reducible rfl) (by kernel_rfl) (by kernel_rfl) (by kernel_rfl) (by exact fun _ _ _ h => h) (by rfl) (by assumption) ?_
  try simp only [Act.put, List.setIfInBounds_toArray, List.set_cons_zero, List.set_cons_succ]
  refine takeV 6 rfl (by intro w h; clear h; go_simp; try with_reducible rfl) (by kernel_rfl) (by kernel_rfl) (by kernel_rfl) (by exact fun _ _ _ h => h) (by rfl) (by assumption) ?_
  try simp only [Act.put, List.setIfInBounds_toArray, List.set_cons_zero, List.set_cons_succ]
  refine takeV 7 rfl (by intro w h; clear h; go_simp; try with_reducible rfl) (by kernel_rfl) (by kernel_rfl) (by kernel_rfl) (by exact fun _ _ _ h => h) (by rfl) (by assumption) ?_
  try simp only [Act.put, List.setIfInBounds_toArray, List.set_cons_zero, List.set_cons_succ]
  refine takeV 8 rfl (by intro w h; clear h; go_simp; try with_reducible rfl) (by kernel_rfl) (by kernel_rfl) (by kernel_rfl) (by exact fun _ _ _ h => h) (by rfl) (by assumption) ?_
  try simp only [Act.put, List.setIfInBounds_toArray, List.set_cons_zero, List.set_cons_succ]
  refine take_call 4 rfl (by kernel_rfl) (fun K hK => ?_)
  try go_simp
  refine (cutInto_s A nq c x1 C nc cp cs _ (H.drew.arg0 hA1) (H.drew.arg0 hC) (by omega) (by omega) (by omega)).mono ?_
  rintro e w6 ⟨V, ps, rfl, hps, HN⟩
  replace H := H.drew.also HN
  clear HN
  have HPS := Lib.hid hps
  clear hps
  obtain ⟨AV, cV, rfl, -, hAV⟩ := row_form (H.row 4 rfl)
  refine hK.out _ _ ?_ (fun hHeld => ?_)
  · exact trivial
  clear hK K
  try simp only [Act.put, List.setIfInBounds_toArray, List.set_cons_zero, List.set_cons_succ]
  refine take_call 9 rfl (by kernel_rfl) (fun K hK => ?_)
  try go_simp
  refine (cutInto_s B nq d y1 C nc cp cs _ (H.arg0 hB1) (H.arg0 hC) (by omega) (by omega) (by omega)).mono ?_
  rintro e w7 ⟨W, qs, rfl, hqs, HN⟩
  replace H := H.also HN
  clear HN
  have HQS := Lib.hid hqs
  clear hqs
  obtain ⟨AW, cW, rfl, -, hAW⟩ := row_form (H.row 6 rfl)
  refine hK.out _ _ ?_ (fun hHeld => ?_)
  · exact trivial
  clear hK K
  try simp only [Act.put, List.setIfInBounds_toArray, List.set_cons_zero, List.set_cons_succ]
  refine takeV 10 rfl (by intro w h; clear h; go_simp; try with_reducible rfl) (by kernel_rfl) (by kernel_rfl) (by kernel_rfl) (by exact fun _ _ _ h => h) (by rfl) (by assumption) ?_
  try simp only [Act.put, List.setIfInBounds_toArray, List.set_cons_zero, List.set_cons_succ]
  refine takeV 11 rfl (by intro w h; clear h; go_simp; try with_reducible rfl) (by kernel_rfl) (by kernel_rfl) (by kernel_rfl) (by exact fun _ _ _ h => h) (by rfl) (by assumption) ?_
  try simp only [Act.put, List.setIfInBounds_toArray, List.set_cons_zero, List.set_cons_succ]
  refine wpAnyH_done (by kernel_rfl) ?_ _
  have hpsl : ps.length ≤ 1048577 := by
    have h1 := congrArg List.length HPS.out
    have h2 := cutB_len cs x1
    have h3 : cs.length = nc := by simpa using hC.1
    rw [List.length_map] at h1
    omega
  have HAL : Hid ((ps.map Pc.l).map List.length = (qs.map Pc.l).map List.length) := by unfold Hid; rw [HPS.out, HQS.out]; exact cutB_alike cs x1 y1 (by rw [HLX.out, HLY.out])
  have hqp : qs.length = ps.length := by
    have h1 := congrArg List.length HAL.out
    simp only [List.length_map] at h1
    exact h1.symm
  have HQP := Lib.hid hqp
  clear hqp
  have HLP : Hid ((ps.map Pc.l).flatten = x1) := by unfold Hid; rw [HPS.out, cutB_flat]
  have HLQ : Hid ((qs.map Pc.l).flatten = y1) := by unfold Hid; rw [HQS.out, cutB_flat]
  have HF0 : Hid (runsOf5 ((flatTo (ps.map Pc.l) 0).length / 128) = []) := by unfold Hid; simp [runsOf5, flatTo]
  have HG0 : Hid (runsOf5 ((flatTo (qs.map Pc.l) 0).length / 128) = []) := by unfold Hid; simp [runsOf5, flatTo]
  replace H : St w [] w7 (lay [.blk ga 73 (s5S (flatTo (ps.map Pc.l) 0)), .blk gb 73 (s5S (flatTo (qs.map Pc.l) 0)), led l (some (runsOf5 ((flatTo (ps.map Pc.l) 0).length / 128))), led k (some (runsOf5 ((flatTo (qs.map Pc.l) 0).length / 128))), .row 22 1 (.slice AV ps.length cV) ps.length (ps.map Pc.v), bigO Pc.own ps, .row 22 1 (.slice AW qs.length cW) qs.length (qs.map Pc.v), bigO Pc.own qs]) := by rw [HF0.out, HG0.out]; exact H
  clear HF0 HG0
  go_wp2
  go_loopw [14] (fun i wr => ∃ j : Nat, j ≤ ps.length ∧ i = .int .i64 j ∧ St w [] wr (lay [.blk ga 73 (s5S (flatTo (ps.map Pc.l) j)), .blk gb 73 (s5S (flatTo (qs.map Pc.l) j)), led l (some (runsOf5 ((flatTo (ps.map Pc.l) j).length / 128))), led k (some (runsOf5 ((flatTo (qs.map Pc.l) j).length / 128))), .row 22 1 (.slice AV ps.length cV) ps.length (ps.map Pc.v), bigO Pc.own ps, .row 22 1 (.slice AW qs.length cW) qs.length (qs.map Pc.v), bigO Pc.own qs])) (fun i _ => ps.length - (intOf i).toNat)
  case atStart => exact ⟨0, Nat.zero_le _, rfl, H⟩
  case round =>
    clear H
    obtain ⟨j, hj, rfl, H⟩ := hrel
    by_cases hlt : j < ps.length
    · obtain ⟨pc, hpc⟩ : ∃ v, ps[j]? = some v := ⟨_, List.getElem?_eq_getElem hlt⟩
      obtain ⟨qc, hqc⟩ : ∃ v, qs[j]? = some v := ⟨_, List.getElem?_eq_getElem (by have := HQP.out; omega)⟩
      obtain ⟨gV, rfl, -⟩ := hAV (by omega)
      obtain ⟨gW, rfl, -⟩ := hAW (by have := HQP.out; omega)
      have c0 := World.ownsRow.cellAt (H.row 4 rfl) j (by omega)
      rw [List.getElem?_map, hpc] at c0
      simp only [Option.map_some, Pc.v] at c0
      have HCQ : Hid (∀ w' X, St w [] w' X → X 6 = some (.row 22 1 (.slice (some ⟨gW, 0, none⟩) qs.length cW) qs.length (qs.map Pc.v)) → w'.cell? ⟨gW, j, none⟩ = some (.slice qc.A qc.n qc.c)) := fun w' X h hX => by
        have d0 := World.ownsRow.cellAt (h.row 6 hX) j (by have := HQP.out; omega)
        rw [List.getElem?_map, hqc] at d0
        simpa only [Option.map_some, Pc.v] using d0
      have HPC := Lib.hid hpc
      have HQC := Lib.hid hqc
      have HFS := Lib.hid (flatTo_succ (L := ps.map Pc.l) (i := j) (x := pc.l) (by rw [List.getElem?_map, hpc]; rfl))
      have HGS := Lib.hid (flatTo_succ (L := qs.map Pc.l) (i := j) (x := qc.l) (by rw [List.getElem?_map, hqc]; rfl))
      have HAJ := Lib.hid (flatTo_alike HAL.out j)
      have HAJ1 := Lib.hid (flatTo_alike HAL.out (j + 1))
      have hle2 := flatTo_le (ps.map Pc.l) (j + 1)
      have hle3 := flatTo_le (qs.map Pc.l) (j + 1)
      rw [HLP.out, HLX.out] at hle2
      rw [HLQ.out, HLY.out] at hle3
      rw [HFS.out, List.length_append] at hle2
      rw [HGS.out, List.length_append] at hle3
      obtain ⟨G, hG⟩ := H.bigRow 5 rfl hpc
      obtain ⟨G', hG'⟩ := H.bigRow 7 rfl hqc
      have hpl : pc.l.length = pc.n := by
        have := hG.1.1
        simpa using this
      have hql : qc.l.length = qc.n := by
        have := hG'.1.1
        simpa using this
      have hpcap := Pc.cap hG
      have hqcap := Pc.cap hG'
      have HFL : Hid ((flatTo (ps.map Pc.l) (j + 1)).length = (flatTo (ps.map Pc.l) j).length + pc.n) := by unfold Hid; rw [HFS.out, List.length_append, hpl]
      have HGL : Hid ((flatTo (qs.map Pc.l) (j + 1)).length = (flatTo (qs.map Pc.l) j).length + qc.n) := by unfold Hid; rw [HGS.out, List.length_append, hql]
      have hpn : pc.n ≤ 1048576 := by rw [← hpl]; omega
      have hqn : qc.n ≤ 1048576 := by rw [← hql]; omega
      have hfl : (flatTo (ps.map Pc.l) j).length ≤ 1048576 := by omega
      have hgl : (flatTo (qs.map Pc.l) j).length ≤ 1048576 := by omega
      have hj1 : (j : Int) < ps.length := by omega
      have hj2 : (j : Int) < qs.length := by have := HQP.out; omega
      clear hpc hqc hpl hql hle2 hle3 hG hG'
      obtain ⟨m0, hm0⟩ : ∃ m, (flatTo (ps.map Pc.l) j) = m := ⟨_, rfl⟩
      obtain ⟨m1, hm1⟩ : ∃ m, (flatTo (ps.map Pc.l) (j + 1)) = m := ⟨_, rfl⟩
      obtain ⟨k0, hk0⟩ : ∃ m, (flatTo (qs.map Pc.l) j) = m := ⟨_, rfl⟩
      obtain ⟨k1, hk1⟩ : ∃ m, (flatTo (qs.map Pc.l) (j + 1)) = m := ⟨_, rfl⟩
      rw [hm0] at H HFS HFL hfl HAJ
      rw [hk0] at H HGS HGL hgl HAJ
      rw [hm1] at HFS HFL HAJ1
      rw [hk1] at HGS HGL HAJ1
      have HM1 := Lib.hid hm1
      have HK1 := Lib.hid hk1
      clear hm0 hm1 hk0 hk1
      have hd0 : m0.length / 128 ≤ 1048576 := by omega
      have hd1 : k0.length / 128 ≤ 1048576 := by omega
      have HDD : Hid (m0.length / 128 + ((m0.length + pc.n) / 128 - m0.length / 128) = m1.length / 128) := by
        unfold Hid
        rw [HFL.out]
        have := Nat.div_le_div_right (c := 128) (show m0.length ≤ m0.length + pc.n by omega)
        omega
      have HEE : Hid (k0.length / 128 + ((k0.length + qc.n) / 128 - k0.length / 128) = k1.length / 128) := by
        unfold Hid
        rw [HGL.out]
        have := Nat.div_le_div_right (c := 128) (show k0.length ≤ k0.length + qc.n by omega)
        omega
      have HN1 : Hid (noteN (some (runsOf5 (m0.length / 128))) 2 128 ((m0.length + pc.n) / 128 - m0.length / 128) = some (runsOf5 (m1.length / 128))) := by unfold Hid; rw [← noteN_runs5, noteN_noteN, HDD.out, noteN_runs5]
      have HN2 : Hid (noteN (some (runsOf5 (k0.length / 128))) 2 128 ((k0.length + qc.n) / 128 - k0.length / 128) = some (runsOf5 (k1.length / 128))) := by unfold Hid; rw [← noteN_runs5, noteN_noteN, HEE.out, noteN_runs5]
      have hm1b : m1.length / 128 ≤ 2097152 := by have := HFL.out; omega
      obtain ⟨z0, hz0⟩ : ∃ z, m0.length / 128 = z := ⟨_, rfl⟩
      obtain ⟨y0, hy0⟩ : ∃ z, k0.length / 128 = z := ⟨_, rfl⟩
      obtain ⟨z1, hz1⟩ : ∃ z, m1.length / 128 = z := ⟨_, rfl⟩
      have HZ1 := Lib.hid hz1
      have HY1 : Hid (k1.length / 128 = z1) := by unfold Hid; rw [← HAJ1.out]; exact hz1
      rw [hz0] at H hd0
      rw [hy0] at H hd1
      have HN3 : Hid (noteN (some (runsOf5 z0)) 2 128 ((m0.length + pc.n) / 128 - m0.length / 128) = some (runsOf5 z1)) := by unfold Hid; rw [← hz0, ← hz1]; exact HN1.out
      have HN4 : Hid (noteN (some (runsOf5 y0)) 2 128 ((k0.length + qc.n) / 128 - k0.length / 128) = some (runsOf5 z1)) := by unfold Hid; rw [← hy0, ← HY1.out]; exact HN2.out
      rw [hz1] at hm1b
      clear hz0 hy0 hz1 HN1 HN2 HDD HEE
      go_wp2_with fail
      refine (s5Write_s l (some (runsOf5 z0)) 1 (z0 : Int) ga m0 pc.A pc.n pc.c pc.l H 2 0 (by omega) rfl rfl (runsOf5_lw z0) (by omega) (by omega) (fun w' X Y h => by obtain ⟨G, hG⟩ := h.bigRow 5 rfl HPC.out; exact Rd.of_own hG.1) hpcap (by omega)).mono ?_
      rintro e w9 ⟨rfl, H6⟩
      rw [upd_laid5 (by simp), upd_laid5 (by simp), HN3.out, ← HFS.out] at H6
      replace H : St w [] w9 (lay [.blk ga 73 (s5S m1), .blk gb 73 (s5S k0), led l (some (runsOf5 z1)), led k (some (runsOf5 y0)), .row 22 1 (.slice (some ⟨gV, 0, none⟩) ps.length cV) ps.length (ps.map Pc.v), bigO Pc.own ps, .row 22 1 (.slice (some ⟨gW, 0, none⟩) qs.length cW) qs.length (qs.map Pc.v), bigO Pc.own qs]) := H6
      clear c0 H6
      have d0 := HCQ.out _ _ H rfl
      go_wp2_with fail
      refine (s5Write_s k (some (runsOf5 y0)) 1 (y0 : Int) gb k0 qc.A qc.n qc.c qc.l H 3 1 (by omega) rfl rfl (runsOf5_lw y0) (by omega) (by omega) (fun w' X Y h => by obtain ⟨G, hG⟩ := h.bigRow 7 rfl HQC.out; exact Rd.of_own hG.1) hqcap (by omega)).mono ?_
      rintro e wa ⟨rfl, H6⟩
      rw [upd_laid5 (by simp), upd_laid5 (by simp), HN4.out, ← HGS.out] at H6
      replace H : St w [] wa (lay [.blk ga 73 (s5S m1), .blk gb 73 (s5S k1), led l (some (runsOf5 z1)), led k (some (runsOf5 z1)), .row 22 1 (.slice (some ⟨gV, 0, none⟩) ps.length cV) ps.length (ps.map Pc.v), bigO Pc.own ps, .row 22 1 (.slice (some ⟨gW, 0, none⟩) qs.length cW) qs.length (qs.map Pc.v), bigO Pc.own qs]) := H6
      clear d0 H6
      go_wp2_with fail
      refine (ledger_runs_w 1 z1 H 2 rfl (runsOf5_lw z1) (by omega) 8 rfl).mono ?_
      rintro e wb ⟨vi, rfl, H1⟩
      replace H := H1.push_mk rfl
      clear H1
      obtain ⟨Ai, ci, rfl, -, -⟩ := row_shape (H.row 8 rfl)
      go_wp2_with fail
      refine (ledger_runs_w 1 z1 H 3 rfl (runsOf5_lw z1) (by omega) 9 rfl).mono ?_
      rintro e wc ⟨vj, rfl, H1⟩
      replace H := H1.push_mk rfl
      clear H1
      obtain ⟨Aj, cj, rfl, -, -⟩ := row_shape (H.row 9 rfl)
      have hrl := runsOf5_len z1
      go_wp2_with fail
      refine (sameRuns_any Ai Aj ci cj (runsOf5 z1) (runsOf5 z1) (H.rd 8 rfl) (H.rd 9 rfl) (by omega) (by omega)).mono ?_
      rintro e wd ⟨rfl, kd, rfl⟩
      replace H := (H.drewN kd).front 8
      rw [decide_eq_true rfl]
      generalize wc.drewN kd = wd at H ⊢
      replace H : St w [] wd (lay [.blk ga 73 (s5S (flatTo (ps.map Pc.l) (j + 1))), .blk gb 73 (s5S (flatTo (qs.map Pc.l) (j + 1))), led l (some (runsOf5 ((flatTo (ps.map Pc.l) (j + 1)).length / 128))), led k (some (runsOf5 ((flatTo (qs.map Pc.l) (j + 1)).length / 128))), .row 22 1 (.slice (some ⟨gV, 0, none⟩) ps.length cV) ps.length (ps.map Pc.v), bigO Pc.own ps, .row 22 1 (.slice (some ⟨gW, 0, none⟩) qs.length cW) qs.length (qs.map Pc.v), bigO Pc.own qs]) := by rw [HM1.out, HK1.out, HZ1.out, HY1.out]; exact H
      clear hrl
      go_wp2
      go_roundw
      case rel => exact ⟨j + 1, by omega, by go_num, H⟩
      case measure => simp [intOf]; omega
    · obtain rfl : j = ps.length := by omega
      have HE1 : Hid ((flatTo (ps.map Pc.l) ps.length) = x1) := by unfold Hid; rw [← List.length_map (f := Pc.l), flatTo_all]; exact HLP.out
      have HE2 : Hid ((flatTo (qs.map Pc.l) ps.length) = y1) := by unfold Hid; rw [← HQP.out, ← List.length_map (f := Pc.l), flatTo_all]; exact HLQ.out
      rw [HE1.out, HE2.out, HLX.out, HLY.out] at H
      replace H := H.front 4
      obtain ⟨q, hq⟩ : ∃ q, nq / 128 = q := ⟨_, rfl⟩
      have hq1 : q ≤ 1048576 := by omega
      rw [hq] at H
      clear hq
      replace H : St w [] wr (lay [.blk ga 73 (s5S x1), .blk gb 73 (s5S y1), led l (some (runsOf5 q)), led k (some (runsOf5 q))]) := H
      have hj1 : ¬ ((ps.length : Int) < ps.length) := by omega
      go_wp2_with fail
      refine (s5Sum_s l (some (runsOf5 q)) 1 q ga x1 H 2 0 4 (by omega) rfl rfl rfl (runsOf5_lw q) (by omega) (by omega) (by rw [HLX.out]; omega)).mono ?_
      rintro e w9 ⟨v9, rfl, H1⟩
      rw [upd_laid5 (by simp), upd_laid5 (by simp), HLX.out] at H1
      replace H := (H1.push_mk rfl).front 4
      clear H1
      go_wp2_with fail
      refine (s5Sum_s k (some (runsOf5 q)) 1 q gb y1 H 3 1 4 (by omega) rfl rfl rfl (runsOf5_lw q) (by omega) (by omega) (by rw [HLY.out]; omega)).mono ?_
      rintro e wa ⟨va, rfl, H1⟩
      rw [upd_laid5 (by simp), upd_laid5 (by simp), HLY.out] at H1
      replace H := (H1.push_mk rfl).front 4
      clear H1
      have hz1 := lastN5_le nq
      have hnz : noteN (some (runsOf5 q)) 2 128 (lastN5 nq) = some (runsOf5 (q + lastN5 nq)) := by rw [← noteN_runs5, noteN_noteN, noteN_runs5]
      replace H : St w [] wa (lay [.blk ga 73 (s5S x1), .blk gb 73 (s5S y1), led l (some (runsOf5 (q + lastN5 nq))), led k (some (runsOf5 (q + lastN5 nq)))]) := by rw [← hnz]; exact H
      clear hnz
      obtain ⟨z, hz⟩ : ∃ z, q + lastN5 nq = z := ⟨_, rfl⟩
      rw [hz] at H
      have hzb : z ≤ 1048580 := by omega
      clear hz hz1
      go_wp2_with fail
      refine (s5Wipe_s l (some (runsOf5 z)) 1 z ga x1 H 2 0 (by omega) rfl rfl (runsOf5_lw z) (by omega) (by omega)).mono ?_
      rintro e wb ⟨rfl, H1⟩
      rw [upd_laid5 (by simp), upd_laid5 (by simp)] at H1
      replace H := H1
      clear H1
      go_wp2_with fail
      refine (s5Wipe_s k (some (runsOf5 z)) 1 z gb y1 H 3 1 (by omega) rfl rfl (runsOf5_lw z) (by omega) (by omega)).mono ?_
      rintro e wc ⟨rfl, H1⟩
      rw [upd_laid5 (by simp), upd_laid5 (by simp)] at H1
      have hlw0 : LW (noteN (some (runsOf5 z)) 8 200 1) 2 ((z : Int) + (1 : Nat)) := (runsOf5_lw z).noteN 8 200 1
      obtain ⟨rs, hrs⟩ : ∃ rs, noteN (some (runsOf5 z)) 8 200 1 = some rs := ⟨_, rfl⟩
      rw [hrs] at H1 hlw0
      have hrl : rs.length ≤ 2 := (hlw0 rs rfl).2.1
      have HLW := Lib.hid hlw0
      clear hrs hlw0
      replace H : St w [] wc (lay [.blk ga 73 s5Z, .blk gb 73 s5Z, led l (some rs), led k (some rs)]) := H1
      clear H1
      go_wp2_with fail
      refine (ledger_runs_w 2 _ H 2 rfl HLW.out (by omega) 4 rfl).mono ?_
      rintro e wd ⟨vi, rfl, H1⟩
      replace H := H1.push_mk rfl
      clear H1
      obtain ⟨Ai, ci, rfl, -, -⟩ := row_shape (H.row 4 rfl)
      go_wp2_with fail
      refine (ledger_runs_w 2 _ H 3 rfl HLW.out (by omega) 5 rfl).mono ?_
      rintro e we ⟨vj, rfl, H1⟩
      replace H := H1.push_mk rfl
      clear H1
      obtain ⟨Aj, cj, rfl, -, -⟩ := row_shape (H.row 5 rfl)
      go_wp2_with fail
      refine (sameRuns_any Ai Aj ci cj rs rs (H.rd 4 rfl) (H.rd 5 rfl) (by omega) (by omega)).mono ?_
      rintro e wf ⟨rfl, kd, rfl⟩
      replace H := H.drewN kd
      rw [decide_eq_true rfl]
      go_wp2
      go_ret
      exact ⟨rfl, H.below⟩

theorem sha512Public_walk (A : Option Addr) (np c : Nat) (xs : List UInt8) (B : Option Addr) (nq d : Nat) (ys : List UInt8) (C : Option Addr) (nc cp : Nat) (cs : List UInt8) (w : World) (hA : Rd w 1 A np (xs.map vb)) (hnp : np ≤ 1048576) (hc : np ≤ c) (hB : Rd w 1 B nq (ys.map vb)) (hnq : nq ≤ 1048576) (hd : nq ≤ d) (hC : Rd w 1 C nc (cs.map vb)) (hnc : nc ≤ 1048576) (hcp : nc ≤ cp) :
    Calls Try.prog 4 #[.slice A np c, .slice B nq d, .slice C nc cp] w fun e w' => e = .returned (.bool true) ∧ Below w.heap.size w w' := by
  by_cases h : nq < np
  · exact sha512Public_b A np c xs B nq d ys C nc cp cs w hA hnp hc hB hnq hd hC hnc hcp h
  · exact sha512Public_a A np c xs B nq d ys C nc cp cs w hA hnp hc hB hnq hd hC hnc hcp h
end Go.Proofs.Ythieegmmbjjcbaa
