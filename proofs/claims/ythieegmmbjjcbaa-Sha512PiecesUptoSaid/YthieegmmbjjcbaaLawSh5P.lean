/- The law Sha512Pieces, walked. -/
import Derived.Test.YthieegmmbjjcbaaSh5U
namespace Go.Proofs.Ythieegmmbjjcbaa
open Go.RowKit
set_option linter.unusedVariables false
set_option maxRecDepth 100000

theorem cutB_pos (p cs : List UInt8) : 0 < (cutB p cs).length := by
  cases cs with
  | nil => simp [cutB]
  | cons c cs =>
    unfold cutB
    split <;> simp

attribute [local irreducible] comp5 hTo dig5 laid8 h5 padM5 form5 lastN5 allN5 runsOf5

theorem stop_in (a : UInt8) (n : Nat) (h : 0 < n) : Int.tmod (a.toNat : Int) (n : Int) = ((a.toNat % n : Nat) : Int) := by
  rw [Int.tmod_eq_emod_of_nonneg (by omega)]; omega

set_option maxHeartbeats 8000000 in
theorem sha512Pieces_walk (A : Option Addr) (n c : Nat) (xs : List UInt8) (B : Option Addr) (nb d : Nat) (cs : List UInt8) (at' : UInt8) (w : World) (hA : Rd w 1 A n (xs.map vb)) (hn : n ≤ 1048576) (hc : n ≤ c) (hB : Rd w 1 B nb (cs.map vb)) (hnb : nb ≤ 1048576) (hcb : nb ≤ d) :
    Calls Try.prog 6 #[.slice A n c, .slice B nb d, .int .u8 (at'.toNat : Int)] w fun e w' => e = .returned (.bool true) ∧ Below w.heap.size w w' := by
  have hl : xs.length = n := by simpa using hA.1
  have HL := Lib.hid hl
  clear hl
  have H := (St.start_lay w []).ledNil 0 rfl |>.push_mk rfl
  go_enter Try.func6, Try.ntmps6
  go_wp2_with fail
  refine (s5New_s H 1 rfl).mono ?_
  rintro e w1 ⟨ga, rfl, H1⟩
  replace H := H1.push_mk rfl
  clear H1
  unfold lptr
  go_wp2_with fail
  refine (s5New_s H 2 rfl).mono ?_
  rintro e w2 ⟨gb, rfl, H1⟩
  replace H := H1.push_mk rfl
  clear H1
  unfold lptr
  go_wp2_with fail
  refine (ledger_new H 3 rfl).mono ?_
  rintro e w3 ⟨l, rfl, H1⟩
  replace H := H1.push_mk rfl
  clear H1
  go_wp2_with fail
  refine (ledger_new H 4 rfl).mono ?_
  rintro e w4 ⟨k, rfl, H1⟩
  replace H := H1.push_mk rfl
  clear H1
  go_wp2_with fail
  refine (awake5_s w4).mono ?_
  rintro e w5 ⟨rfl, hb⟩
  replace H := H.call hb
  clear hb
  replace H : St w [] w5 (lay [led (.pointer none) none, .blk ga 73 (s5S []), .blk gb 73 (s5S []), led l (some []), led k (some [])]) := H
  go_wp2_with fail
  refine (cutInto_s A n c xs B nb d cs w5 (H.arg0 hA) (H.arg0 hB) (by omega) (by omega) hc).mono ?_
  rintro e w6 ⟨V, ps, rfl, hps, HN⟩
  replace H := H.also HN
  clear HN
  have hpsl : ps.length ≤ 1048577 := by
    have h1 := congrArg List.length hps
    have h2 := cutB_len cs xs
    have h3 : cs.length = nb := by simpa using hB.1
    rw [List.length_map] at h1
    omega
  have hps0 : 0 < ps.length := by
    have h1 := congrArg List.length hps
    have h2 := cutB_pos xs cs
    rw [List.length_map] at h1
    omega
  have HP := Lib.hid hps
  clear hps
  obtain ⟨AV, cV, rfl, -, hAV⟩ := row_form (H.row 5 rfl)
  obtain ⟨gV, rfl, -⟩ := hAV hps0
  clear hAV
  have HLP : Hid ((ps.map Pc.l).flatten = xs) := by unfold Hid; rw [HP.out, cutB_flat]
  obtain ⟨stop, hst⟩ : ∃ s, at'.toNat % ps.length = s := ⟨_, rfl⟩
  have hsb : stop < ps.length := by rw [← hst]; exact Nat.mod_lt _ hps0
  have htm := stop_in at' ps.length hps0
  rw [hst] at htm
  have HTM := Lib.hid htm
  clear hst htm
  have hz0 : ¬ ((ps.length : Int) = 0) := by omega
  have HF0 : Hid (runsOf5 ((flatTo (ps.map Pc.l) 0).length / 128) = []) := by unfold Hid; simp [runsOf5, flatTo]
  replace H : St w [] w6 (lay [led (.pointer none) none, .blk ga 73 (s5S []), .blk gb 73 (s5S (flatTo (ps.map Pc.l) 0)), led l (some []), led k (some (runsOf5 ((flatTo (ps.map Pc.l) 0).length / 128))), .row 22 1 (.slice (some ⟨gV, 0, none⟩) ps.length cV) ps.length (ps.map Pc.v), bigO Pc.own ps]) := by rw [HF0.out]; exact H
  clear HF0
  have ha8 : at'.toNat < 256 := at'.toNat_lt
  have hemod : (at'.toNat : Int) % (ps.length : Int) = (stop : Int) := by rw [← HTM.out, Int.tmod_eq_emod_of_nonneg (by omega)]
  have HEM := Lib.hid hemod
  clear hemod
  go_upto_region 7 with fail
  try rw [HTM.out]
  try rw [HEM.out]
  clear hz0 ha8
  go_wp2
  go_loopw [13, 14] (fun cl i wr => ∃ j : Nat, j ≤ ps.length ∧ i = .int .i64 j ∧ ((j ≤ stop ∧ cl = .pointer none ∧ St w [] wr (lay [led (.pointer none) none, .blk ga 73 (s5S []), .blk gb 73 (s5S (flatTo (ps.map Pc.l) j)), led l (some []), led k (some (runsOf5 ((flatTo (ps.map Pc.l) j).length / 128))), .row 22 1 (.slice (some ⟨gV, 0, none⟩) ps.length cV) ps.length (ps.map Pc.v), bigO Pc.own ps])) ∨ (stop < j ∧ ∃ gc, cl = lptr gc ∧ St w [] wr (lay [led (.pointer none) none, .blk ga 73 (s5S []), .blk gb 73 (s5S (flatTo (ps.map Pc.l) j)), led l (some []), led k (some (runsOf5 ((flatTo (ps.map Pc.l) j).length / 128))), .row 22 1 (.slice (some ⟨gV, 0, none⟩) ps.length cV) ps.length (ps.map Pc.v), bigO Pc.own ps, .blk gc 73 (s5S (flatTo (ps.map Pc.l) stop))])))) (fun _ i _ => ps.length - (intOf i).toNat)
  case atStart => exact ⟨0, Nat.zero_le _, rfl, .inl ⟨Nat.zero_le _, rfl, H⟩⟩
  case round =>
    clear H
    obtain ⟨j, hj, rfl, hrel⟩ := hrel
    by_cases hlt : j < ps.length
    · obtain ⟨pc, hpc⟩ : ∃ v, ps[j]? = some v := ⟨_, List.getElem?_eq_getElem hlt⟩
      have HC : Hid (∀ w' X, St w [] w' X → X 5 = some (.row 22 1 (.slice (some ⟨gV, 0, none⟩) ps.length cV) ps.length (ps.map Pc.v)) → w'.cell? ⟨gV, j, none⟩ = some (.slice pc.A pc.n pc.c)) := fun w' X h hX => by
        have d0 := World.ownsRow.cellAt (h.row 5 hX) j (by omega)
        rw [List.getElem?_map, hpc] at d0
        simpa only [Option.map_some, Pc.v] using d0
      have HPC := Lib.hid hpc
      have HFS := Lib.hid (flatTo_succ (L := ps.map Pc.l) (i := j) (x := pc.l) (by rw [List.getElem?_map, hpc]; rfl))
      have HB6 : Hid (∀ w' X, St w [] w' X → X 6 = some (bigO Pc.own ps) → Rd w' 1 pc.A pc.n (pc.l.map vb) ∧ pc.n ≤ pc.c) := fun w' X h hX => by obtain ⟨G, hG⟩ := h.bigRow 6 hX hpc; exact ⟨Rd.of_own hG.1, Pc.cap hG⟩
      have hle2 := flatTo_le (ps.map Pc.l) (j + 1)
      rw [HLP.out, HL.out] at hle2
      rw [HFS.out, List.length_append] at hle2
      have hrd : Rd wr 1 pc.A pc.n (pc.l.map vb) ∧ pc.n ≤ pc.c := by
        rcases hrel with ⟨-, -, h⟩ | ⟨-, gc, -, h⟩
        · exact HB6.out _ _ h rfl
        · exact HB6.out _ _ h rfl
      have hpl : pc.l.length = pc.n := by
        have := hrd.1.1
        simpa using this
      have hpcap := hrd.2
      clear hrd
      have HFL : Hid ((flatTo (ps.map Pc.l) (j + 1)).length = (flatTo (ps.map Pc.l) j).length + pc.n) := by unfold Hid; rw [HFS.out, List.length_append, hpl]
      have hpn : pc.n ≤ 1048576 := by rw [← hpl]; omega
      have hfl : (flatTo (ps.map Pc.l) j).length ≤ 1048576 := by omega
      have hj1 : (j : Int) < ps.length := by omega
      clear hpc hpl hle2
      obtain ⟨m0, hm0⟩ : ∃ m, (flatTo (ps.map Pc.l) j) = m := ⟨_, rfl⟩
      obtain ⟨m1, hm1⟩ : ∃ m, (flatTo (ps.map Pc.l) (j + 1)) = m := ⟨_, rfl⟩
      rw [hm0] at hrel HFS HFL hfl
      rw [hm1] at HFS HFL
      have HM0 := Lib.hid hm0
      have HM1 := Lib.hid hm1
      clear hm0 hm1
      have hd0 : m0.length / 128 ≤ 1048576 := by omega
      obtain ⟨z0, hz0⟩ : ∃ z, m0.length / 128 = z := ⟨_, rfl⟩
      obtain ⟨z1, hz1⟩ : ∃ z, m1.length / 128 = z := ⟨_, rfl⟩
      have HN3 : Hid (noteN (some (runsOf5 z0)) 2 128 ((m0.length + pc.n) / 128 - m0.length / 128) = some (runsOf5 z1)) := by
        unfold Hid
        have e : z0 + ((m0.length + pc.n) / 128 - m0.length / 128) = z1 := by
          rw [← hz0, ← hz1, HFL.out]
          have := Nat.div_le_div_right (c := 128) (show m0.length ≤ m0.length + pc.n by omega)
          omega
        rw [← noteN_runs5, noteN_noteN, e, noteN_runs5]
      rw [hz0] at hrel hd0
      have HZ1 := Lib.hid hz1
      clear hz0 hz1
      rcases hrel with ⟨hjs, rfl, H⟩ | ⟨hjs, gc, rfl, H⟩
      · by_cases hjq : j = stop
        · have hje : ((j : Int) == (stop : Int)) = true := by simp; omega
          have hje2 : (j : Int) = (stop : Int) := by omega
          have HJQ := Lib.hid hjq
          clear hjq hje2
          go_wp2_with fail
          refine (s5Sum_s (.pointer none) none 0 0 gb m0 H 0 2 7 (by omega) rfl rfl rfl (LW.none _ _) (by omega) (by omega) (by omega)).mono ?_
          rintro e w7 ⟨v7, rfl, H1⟩
          rw [noteN_none', upd_laid5 (by simp), upd_laid5 (by simp)] at H1
          replace H : St w [] w7 (lay [led (.pointer none) none, .blk ga 73 (s5S []), .blk gb 73 (s5S m0), led l (some []), led k (some (runsOf5 z0)), .row 22 1 (.slice (some ⟨gV, 0, none⟩) ps.length cV) ps.length (ps.map Pc.v), bigO Pc.own ps]) := (H1.push_mk rfl).front 7
          clear H1
          go_wp2_with fail
          refine (s5Clone_s gb m0 H 2 7 rfl rfl).mono ?_
          rintro e w8 ⟨gc, rfl, H1⟩
          replace H : St w [] w8 (lay [led (.pointer none) none, .blk ga 73 (s5S []), .blk gb 73 (s5S m0), led l (some []), led k (some (runsOf5 z0)), .row 22 1 (.slice (some ⟨gV, 0, none⟩) ps.length cV) ps.length (ps.map Pc.v), bigO Pc.own ps, .blk gc 73 (s5S m0)]) := H1.push_mk rfl
          clear H1
          unfold lptr
          have d0 := HC.out _ _ H rfl
          go_wp2_with fail
          refine (s5Write_s k (some (runsOf5 z0)) 1 (z0 : Int) gb m0 pc.A pc.n pc.c pc.l H 4 2 (by omega) rfl rfl (runsOf5_lw z0) (by omega) (by omega) (fun w' X Y h => (HB6.out _ _ h rfl).1) hpcap (by omega)).mono ?_
          rintro e w9 ⟨rfl, H1⟩
          rw [upd_laid5 (by simp), upd_laid5 (by simp), HN3.out, ← HFS.out] at H1
          clear H d0
          have H : St w [] w9 (lay [led (.pointer none) none, .blk ga 73 (s5S []), .blk gb 73 (s5S (flatTo (ps.map Pc.l) (j + 1))), led l (some []), led k (some (runsOf5 ((flatTo (ps.map Pc.l) (j + 1)).length / 128))), .row 22 1 (.slice (some ⟨gV, 0, none⟩) ps.length cV) ps.length (ps.map Pc.v), bigO Pc.own ps, .blk gc 73 (s5S (flatTo (ps.map Pc.l) stop))]) := by rw [HM1.out, HZ1.out, ← HJQ.out, HM0.out]; exact H1
          clear H1 hje
          go_wp2
          go_roundw
          case rel => exact ⟨j + 1, by omega, by go_num, .inr ⟨by have := HJQ.out; omega, gc, rfl, H⟩⟩
          case measure => simp [intOf]; omega
        · have hje : ((j : Int) == (stop : Int)) = false := by simp; omega
          have hje2 : ¬ (j : Int) = (stop : Int) := by omega
          have d0 := HC.out _ _ H rfl
          go_wp2_with fail
          refine (s5Write_s k (some (runsOf5 z0)) 1 (z0 : Int) gb m0 pc.A pc.n pc.c pc.l H 4 2 (by omega) rfl rfl (runsOf5_lw z0) (by omega) (by omega) (fun w' X Y h => (HB6.out _ _ h rfl).1) hpcap (by omega)).mono ?_
          rintro e w9 ⟨rfl, H1⟩
          rw [upd_laid5 (by simp), upd_laid5 (by simp), HN3.out, ← HFS.out] at H1
          clear H d0
          have H : St w [] w9 (lay [led (.pointer none) none, .blk ga 73 (s5S []), .blk gb 73 (s5S (flatTo (ps.map Pc.l) (j + 1))), led l (some []), led k (some (runsOf5 ((flatTo (ps.map Pc.l) (j + 1)).length / 128))), .row 22 1 (.slice (some ⟨gV, 0, none⟩) ps.length cV) ps.length (ps.map Pc.v), bigO Pc.own ps]) := by rw [HM1.out, HZ1.out]; exact H1
          clear H1 hje hje2
          go_wp2
          go_roundw
          case rel => exact ⟨j + 1, by omega, by go_num, .inl ⟨by omega, rfl, H⟩⟩
          case measure => simp [intOf]; omega
      · have hje : ((j : Int) == (stop : Int)) = false := by simp; omega
        have hje2 : ¬ (j : Int) = (stop : Int) := by omega
        have d0 := HC.out _ _ H rfl
        unfold lptr
        go_wp2_with fail
        refine (s5Write_s k (some (runsOf5 z0)) 1 (z0 : Int) gb m0 pc.A pc.n pc.c pc.l H 4 2 (by omega) rfl rfl (runsOf5_lw z0) (by omega) (by omega) (fun w' X Y h => (HB6.out _ _ h rfl).1) hpcap (by omega)).mono ?_
        rintro e w9 ⟨rfl, H1⟩
        rw [upd_laid5 (by simp), upd_laid5 (by simp), HN3.out, ← HFS.out] at H1
        clear H d0
        have H : St w [] w9 (lay [led (.pointer none) none, .blk ga 73 (s5S []), .blk gb 73 (s5S (flatTo (ps.map Pc.l) (j + 1))), led l (some []), led k (some (runsOf5 ((flatTo (ps.map Pc.l) (j + 1)).length / 128))), .row 22 1 (.slice (some ⟨gV, 0, none⟩) ps.length cV) ps.length (ps.map Pc.v), bigO Pc.own ps, .blk gc 73 (s5S (flatTo (ps.map Pc.l) stop))]) := by rw [HM1.out, HZ1.out]; exact H1
        clear H1 hje hje2
        go_wp2
        go_roundw
        case rel => exact ⟨j + 1, by omega, by go_num, .inr ⟨by omega, gc, rfl, H⟩⟩
        case measure => simp [intOf]; omega
    · obtain rfl : j = ps.length := by omega
      rcases hrel with ⟨hjs, -, -⟩ | ⟨hjs, gc, rfl, H⟩
      · omega
      have hj1 : ¬ ((ps.length : Int) < ps.length) := by omega
      have HALL : Hid (flatTo (ps.map Pc.l) ps.length = xs) := by unfold Hid; rw [← List.length_map (f := Pc.l), flatTo_all]; exact HLP.out
      rw [HALL.out, HL.out] at H
      obtain ⟨q, hq⟩ : ∃ q, n / 128 = q := ⟨_, rfl⟩
      have hq1 : q ≤ 1048576 := by omega
      rw [hq] at H
      have HQ := Lib.hid hq
      clear hq hjs
      unfold lptr
      replace H : St w [] wr (lay [led (.pointer none) none, .blk ga 73 (s5S []), .blk gb 73 (s5S xs), led l (some []), led k (some (runsOf5 q)), .row 22 1 (.slice (some ⟨gV, 0, none⟩) ps.length cV) ps.length (ps.map Pc.v), bigO Pc.own ps, .blk gc 73 (s5S (flatTo (ps.map Pc.l) stop))]) := H
      go_wp2
      go_loopw [17] (fun i wr => ∃ j : Nat, stop ≤ j ∧ j ≤ ps.length ∧ i = .int .i64 j ∧ St w [] wr (lay [led (.pointer none) none, .blk ga 73 (s5S []), .blk gb 73 (s5S xs), led l (some []), led k (some (runsOf5 q)), .row 22 1 (.slice (some ⟨gV, 0, none⟩) ps.length cV) ps.length (ps.map Pc.v), bigO Pc.own ps, .blk gc 73 (s5S (flatTo (ps.map Pc.l) j))])) (fun i _ => ps.length - (intOf i).toNat)
      case atStart => exact ⟨stop, by omega, by omega, rfl, H⟩
      case round =>
        clear H
        obtain ⟨j, hjs, hj, rfl, H⟩ := hrel
        by_cases hlt : j < ps.length
        · obtain ⟨pc, hpc⟩ : ∃ v, ps[j]? = some v := ⟨_, List.getElem?_eq_getElem hlt⟩
          have c0 := World.ownsRow.cellAt (H.row 5 rfl) j (by omega)
          rw [List.getElem?_map, hpc] at c0
          simp only [Option.map_some, Pc.v] at c0
          have HFS := Lib.hid (flatTo_succ (L := ps.map Pc.l) (i := j) (x := pc.l) (by rw [List.getElem?_map, hpc]; rfl))
          have HB6 : Hid (∀ w' X, St w [] w' X → X 6 = some (bigO Pc.own ps) → Rd w' 1 pc.A pc.n (pc.l.map vb) ∧ pc.n ≤ pc.c) := fun w' X h hX => by obtain ⟨G, hG⟩ := h.bigRow 6 hX hpc; exact ⟨Rd.of_own hG.1, Pc.cap hG⟩
          have hle2 := flatTo_le (ps.map Pc.l) (j + 1)
          rw [HLP.out, HL.out] at hle2
          rw [HFS.out, List.length_append] at hle2
          have hrd := HB6.out _ _ H rfl
          have hpl : pc.l.length = pc.n := by
            have := hrd.1.1
            simpa using this
          have hpcap := hrd.2
          clear hrd
          have hpn : pc.n ≤ 1048576 := by rw [← hpl]; omega
          have hfl : (flatTo (ps.map Pc.l) j).length ≤ 1048576 := by omega
          have hj2 : (j : Int) < ps.length := by omega
          clear hpc hpl hle2
          obtain ⟨m0, hm0⟩ : ∃ m, (flatTo (ps.map Pc.l) j) = m := ⟨_, rfl⟩
          rw [hm0] at H HFS hfl
          clear hm0
          go_wp2_with fail
          refine (s5Write_s (.pointer none) none 0 0 gc m0 pc.A pc.n pc.c pc.l H 0 7 (by omega) rfl rfl (LW.none _ _) (by omega) (by omega) (fun w' X Y h => (HB6.out _ _ h rfl).1) hpcap (by omega)).mono ?_
          rintro e w9 ⟨rfl, H1⟩
          rw [noteN_none', upd_laid5 (by simp), upd_laid5 (by simp), ← HFS.out] at H1
          clear H c0
          have H : St w [] w9 (lay [led (.pointer none) none, .blk ga 73 (s5S []), .blk gb 73 (s5S xs), led l (some []), led k (some (runsOf5 q)), .row 22 1 (.slice (some ⟨gV, 0, none⟩) ps.length cV) ps.length (ps.map Pc.v), bigO Pc.own ps, .blk gc 73 (s5S (flatTo (ps.map Pc.l) (j + 1)))]) := H1
          clear H1
          go_wp2
          go_roundw
          case rel => exact ⟨j + 1, by omega, by omega, by go_num, H⟩
          case measure => simp [intOf]; omega
        · obtain rfl : j = ps.length := by omega
          rw [HALL.out] at H
          replace H := H.permS (L' := [led (.pointer none) none, .blk ga 73 (s5S []), .blk gb 73 (s5S xs), led l (some []), led k (some (runsOf5 q)), .blk gc 73 (s5S xs)]) [0, 1, 2, 3, 4, 7] 6 rfl (by decide) (fun i hi => by
            match i, hi with
            | 0, _ => rfl
            | 1, _ => rfl
            | 2, _ => rfl
            | 3, _ => rfl
            | 4, _ => rfl
            | 5, _ => rfl)
          go_wp2_with fail
          refine (s5Write_s l (some []) 0 0 ga [] A n c xs H 3 1 (by omega) rfl rfl LW.nil (by omega) (by omega) (fun w' X Y h => h.arg0 hA) hc (by rw [List.length_nil]; omega)).mono ?_
          rintro e y0 ⟨rfl, H1⟩
          rw [upd_laid5 (by simp), upd_laid5 (by simp), List.length_nil, Nat.zero_add, Nat.zero_div, Nat.sub_zero, List.nil_append, noteN_runs5, HQ.out] at H1
          replace H : St w [] y0 (lay [led (.pointer none) none, .blk ga 73 (s5S xs), .blk gb 73 (s5S xs), led l (some (runsOf5 q)), led k (some (runsOf5 q)), .blk gc 73 (s5S xs)]) := H1
          clear H1
          obtain ⟨z, hz⟩ : ∃ z, q + lastN5 n = z := ⟨_, rfl⟩
          have hnz : noteN (some (runsOf5 q)) 2 128 (lastN5 xs.length) = some (runsOf5 z) := by rw [← noteN_runs5, noteN_noteN, noteN_runs5, HL.out, hz]
          have HNZ := Lib.hid hnz
          have hzb : z ≤ 1048580 := by have := lastN5_le n; omega
          have HZI : Hid (((n : Int) + 16) / 128 + 1 = (z : Int)) := by unfold Hid; have := last_all5 n; have := HQ.out; omega
          clear hz hnz
          go_wp2_with fail
          refine (s5Sum_s l (some (runsOf5 q)) 1 q ga xs H 3 1 6 (by omega) rfl rfl rfl (runsOf5_lw q) (by omega) (by omega) (by rw [HL.out]; omega)).mono ?_
          rintro e y1 ⟨vva, rfl, H1⟩
          rw [upd_laid5 (by simp), upd_laid5 (by simp), HNZ.out] at H1
          replace H := H1.push_mk rfl
          clear H1
          obtain ⟨Aa, ca, rfl, -, -⟩ := row_form (H.row 6 rfl)
          replace H : St w [] y1 (lay [led (.pointer none) none, .blk ga 73 (s5S xs), .blk gb 73 (s5S xs), led l (some (runsOf5 z)), led k (some (runsOf5 q)), .blk gc 73 (s5S xs), .row 5 1 (.slice Aa 64 ca) 64 ((dig5 xs).map vb)]) := H
          go_wp2_with fail
          refine (s5Sum_s k (some (runsOf5 q)) 1 q gb xs H 4 2 7 (by omega) rfl rfl rfl (runsOf5_lw q) (by omega) (by omega) (by rw [HL.out]; omega)).mono ?_
          rintro e y2 ⟨vvb, rfl, H1⟩
          rw [upd_laid5 (by simp), upd_laid5 (by simp), HNZ.out] at H1
          replace H := H1.push_mk rfl
          clear H1
          obtain ⟨Ab, cb, rfl, -, -⟩ := row_form (H.row 7 rfl)
          replace H : St w [] y2 (lay [led (.pointer none) none, .blk ga 73 (s5S xs), .blk gb 73 (s5S xs), led l (some (runsOf5 z)), led k (some (runsOf5 z)), .blk gc 73 (s5S xs), .row 5 1 (.slice Aa 64 ca) 64 ((dig5 xs).map vb), .row 5 1 (.slice Ab 64 cb) 64 ((dig5 xs).map vb)]) := H
          go_wp2_with fail
          refine (s5Sum_s (.pointer none) none 0 0 gc xs H 0 5 8 (by omega) rfl rfl rfl (LW.none _ _) (by omega) (by omega) (by rw [HL.out]; omega)).mono ?_
          rintro e y3 ⟨vvc, rfl, H1⟩
          rw [noteN_none', upd_laid5 (by simp), upd_laid5 (by simp)] at H1
          replace H := H1.push_mk rfl
          clear H1
          obtain ⟨Ac, cc, rfl, -, -⟩ := row_form (H.row 8 rfl)
          replace H : St w [] y3 (lay [led (.pointer none) none, .blk ga 73 (s5S xs), .blk gb 73 (s5S xs), led l (some (runsOf5 z)), led k (some (runsOf5 z)), .blk gc 73 (s5S xs), .row 5 1 (.slice Aa 64 ca) 64 ((dig5 xs).map vb), .row 5 1 (.slice Ab 64 cb) 64 ((dig5 xs).map vb), .row 5 1 (.slice Ac 64 cc) 64 ((dig5 xs).map vb)]) := H
          go_wp2_with fail
          refine (sameBytes_yes Aa Ab 64 64 ca cb _ _ _ (H.rd 6 rfl) (H.rd 7 rfl) (by omega) (by omega) rfl).mono ?_
          rintro e y4 ⟨rfl, hb⟩
          replace H := (H.call hb)
          clear hb
          replace H : St w [] y4 (lay [led (.pointer none) none, .blk ga 73 (s5S xs), .blk gb 73 (s5S xs), led l (some (runsOf5 z)), led k (some (runsOf5 z)), .blk gc 73 (s5S xs), .row 5 1 (.slice Aa 64 ca) 64 ((dig5 xs).map vb), .row 5 1 (.slice Ab 64 cb) 64 ((dig5 xs).map vb), .row 5 1 (.slice Ac 64 cc) 64 ((dig5 xs).map vb)]) := H
          go_wp2_with fail
          refine (sameBytes_yes Aa Ac 64 64 ca cc _ _ _ (H.rd 6 rfl) (H.rd 8 rfl) (by omega) (by omega) rfl).mono ?_
          rintro e y5 ⟨rfl, hb⟩
          replace H := (H.call hb)
          clear hb
          replace H : St w [] y5 (lay [led (.pointer none) none, .blk ga 73 (s5S xs), .blk gb 73 (s5S xs), led l (some (runsOf5 z)), led k (some (runsOf5 z)), .blk gc 73 (s5S xs), .row 5 1 (.slice Aa 64 ca) 64 ((dig5 xs).map vb), .row 5 1 (.slice Ab 64 cb) 64 ((dig5 xs).map vb), .row 5 1 (.slice Ac 64 cc) 64 ((dig5 xs).map vb)]) := H
          go_wp2_with fail
          refine (s5Fn_s (.pointer none) none 0 0 A n c xs H 0 9 rfl rfl (LW.none _ _) (by omega) (by omega) (fun w' X h => h.arg0 hA) hc (by omega)).mono ?_
          rintro e y6 ⟨vvd, rfl, H1⟩
          rw [noteN_none', upd_laid5 (by simp)] at H1
          replace H := H1.push_mk rfl
          clear H1
          obtain ⟨Ad, cd, rfl, -, -⟩ := row_form (H.row 9 rfl)
          replace H : St w [] y6 (lay [led (.pointer none) none, .blk ga 73 (s5S xs), .blk gb 73 (s5S xs), led l (some (runsOf5 z)), led k (some (runsOf5 z)), .blk gc 73 (s5S xs), .row 5 1 (.slice Aa 64 ca) 64 ((dig5 xs).map vb), .row 5 1 (.slice Ab 64 cb) 64 ((dig5 xs).map vb), .row 5 1 (.slice Ac 64 cc) 64 ((dig5 xs).map vb), .row 5 1 (.slice Ad 64 cd) 64 ((dig5 xs).map vb)]) := H
          go_wp2_with fail
          refine (sameBytes_yes Aa Ad 64 64 ca cd _ _ _ (H.rd 6 rfl) (H.rd 9 rfl) (by omega) (by omega) rfl).mono ?_
          rintro e y7 ⟨rfl, hb⟩
          replace H := (H.call hb).front 6
          clear hb
          replace H : St w [] y7 (lay [led (.pointer none) none, .blk ga 73 (s5S xs), .blk gb 73 (s5S xs), led l (some (runsOf5 z)), led k (some (runsOf5 z)), .blk gc 73 (s5S xs)]) := H
          go_wp2_with fail
          refine (s5Form_s ga xs H 1 6 rfl rfl (by rw [HL.out]; omega)).mono ?_
          rintro e y8 ⟨vvf, rfl, H1⟩
          replace H := H1.push_mk rfl
          clear H1
          obtain ⟨Af, cf, rfl, -, -⟩ := row_form (H.row 6 rfl)
          replace H : St w [] y8 (lay [led (.pointer none) none, .blk ga 73 (s5S xs), .blk gb 73 (s5S xs), led l (some (runsOf5 z)), led k (some (runsOf5 z)), .blk gc 73 (s5S xs), .row 5 1 (.slice Af 200 cf) 200 ((form5 xs).map vb)]) := H
          go_wp2_with fail
          refine (s5Form_s gb xs H 2 7 rfl rfl (by rw [HL.out]; omega)).mono ?_
          rintro e y9 ⟨vvg, rfl, H1⟩
          replace H := H1.push_mk rfl
          clear H1
          obtain ⟨Ag, cg, rfl, -, -⟩ := row_form (H.row 7 rfl)
          replace H : St w [] y9 (lay [led (.pointer none) none, .blk ga 73 (s5S xs), .blk gb 73 (s5S xs), led l (some (runsOf5 z)), led k (some (runsOf5 z)), .blk gc 73 (s5S xs), .row 5 1 (.slice Af 200 cf) 200 ((form5 xs).map vb), .row 5 1 (.slice Ag 200 cg) 200 ((form5 xs).map vb)]) := H
          go_wp2_with fail
          refine (sameBytes_yes Af Ag 200 200 cf cg _ _ _ (H.rd 6 rfl) (H.rd 7 rfl) (by omega) (by omega) rfl).mono ?_
          rintro e y10 ⟨rfl, hb⟩
          replace H := (H.call hb).front 6
          clear hb
          replace H : St w [] y10 (lay [led (.pointer none) none, .blk ga 73 (s5S xs), .blk gb 73 (s5S xs), led l (some (runsOf5 z)), led k (some (runsOf5 z)), .blk gc 73 (s5S xs)]) := H
          go_wp2_with fail
          refine (s5Form_s ga xs H 1 6 rfl rfl (by rw [HL.out]; omega)).mono ?_
          rintro e y11 ⟨vvh, rfl, H1⟩
          replace H := H1.push_mk rfl
          clear H1
          obtain ⟨Ah, ch, rfl, -, -⟩ := row_form (H.row 6 rfl)
          replace H : St w [] y11 (lay [led (.pointer none) none, .blk ga 73 (s5S xs), .blk gb 73 (s5S xs), led l (some (runsOf5 z)), led k (some (runsOf5 z)), .blk gc 73 (s5S xs), .row 5 1 (.slice Ah 200 ch) 200 ((form5 xs).map vb)]) := H
          go_wp2_with fail
          refine (s5Form_s gc xs H 5 7 rfl rfl (by rw [HL.out]; omega)).mono ?_
          rintro e y12 ⟨vvi, rfl, H1⟩
          replace H := H1.push_mk rfl
          clear H1
          obtain ⟨Ai, ci, rfl, -, -⟩ := row_form (H.row 7 rfl)
          replace H : St w [] y12 (lay [led (.pointer none) none, .blk ga 73 (s5S xs), .blk gb 73 (s5S xs), led l (some (runsOf5 z)), led k (some (runsOf5 z)), .blk gc 73 (s5S xs), .row 5 1 (.slice Ah 200 ch) 200 ((form5 xs).map vb), .row 5 1 (.slice Ai 200 ci) 200 ((form5 xs).map vb)]) := H
          go_wp2_with fail
          refine (sameBytes_yes Ah Ai 200 200 ch ci _ _ _ (H.rd 6 rfl) (H.rd 7 rfl) (by omega) (by omega) rfl).mono ?_
          rintro e y13 ⟨rfl, hb⟩
          replace H := (H.call hb).front 6
          clear hb
          replace H : St w [] y13 (lay [led (.pointer none) none, .blk ga 73 (s5S xs), .blk gb 73 (s5S xs), led l (some (runsOf5 z)), led k (some (runsOf5 z)), .blk gc 73 (s5S xs)]) := H
          go_wp2_with fail
          refine (s5Len_s gb xs H 2 rfl (by rw [HL.out]; omega)).mono ?_
          rintro e wx ⟨rfl, rfl⟩
          rw [HL.out]
          have hnn : ((n : Int) != (n : Int)) = false := by simp
          have hrl := runsOf5_len z
          go_wp2_with fail
          refine (ledger_runs_w 1 z H 3 rfl (runsOf5_lw z) (by omega) 6 rfl).mono ?_
          rintro e y14 ⟨vvr, rfl, H1⟩
          replace H := H1.push_mk rfl
          clear H1
          obtain ⟨Ar, cr, rfl, -, -⟩ := row_shape (H.row 6 rfl)
          go_wp2_with fail
          refine (ledger_runs_w 1 z H 4 rfl (runsOf5_lw z) (by omega) 7 rfl).mono ?_
          rintro e y15 ⟨vvs, rfl, H1⟩
          replace H := H1.push_mk rfl
          clear H1
          obtain ⟨As, cs, rfl, -, -⟩ := row_shape (H.row 7 rfl)
          go_wp2_with fail
          refine (sameRuns_any Ar As cr cs (runsOf5 z) (runsOf5 z) (H.rd 6 rfl) (H.rd 7 rfl) (by omega) (by omega)).mono ?_
          rintro e y16' ⟨rfl, kd, y16q⟩
          replace H := H.drewN kd
          rw [← y16q] at H
          clear y16q
          rw [decide_eq_true rfl]
          replace H : St w [] y16' (lay [led (.pointer none) none, .blk ga 73 (s5S xs), .blk gb 73 (s5S xs), led l (some (runsOf5 z)), led k (some (runsOf5 z)), .blk gc 73 (s5S xs)]) := H.front 6
          go_wp2_with fail
          refine (ledger_runs_w 1 z H 3 rfl (runsOf5_lw z) (by omega) 6 rfl).mono ?_
          rintro e y17 ⟨vvt, rfl, H1⟩
          replace H := H1.push_mk rfl
          clear H1
          obtain ⟨At, ct, rfl, -, -⟩ := row_shape (H.row 6 rfl)
          go_wp2_with fail
          rw [HZI.out]
          refine (blocks_s z (by omega) H 7 rfl).mono ?_
          rintro e y18 ⟨vu, rfl, H1⟩
          replace H := H1.push_mk rfl
          clear H1
          obtain ⟨Au, cu, rfl, -, -⟩ := row_shape (H.row 7 rfl)
          go_wp2_with fail
          refine (sameRuns_any At Au ct cu (runsOf5 z) (runsOf5 z) (H.rd 6 rfl) (H.rd 7 rfl) (by omega) (by omega)).mono ?_
          rintro e y19' ⟨rfl, kd, y19q⟩
          replace H := H.drewN kd
          rw [← y19q] at H
          clear y19q
          rw [decide_eq_true rfl]
          replace H : St w [] y19' (lay [led (.pointer none) none, .blk ga 73 (s5S xs), .blk gb 73 (s5S xs), led l (some (runsOf5 z)), led k (some (runsOf5 z)), .blk gc 73 (s5S xs)]) := H.front 6
          clear hrl hnn
          go_wp2_with fail
          refine (s5Reset_s gb xs H 2 rfl).mono ?_
          rintro e yr ⟨rfl, H1⟩
          rw [upd_laid5 (by simp)] at H1
          replace H : St w [] yr (lay [led (.pointer none) none, .blk ga 73 (s5S xs), .blk gb 73 (s5S []), led l (some (runsOf5 z)), led k (some (runsOf5 z)), .blk gc 73 (s5S xs)]) := H1
          clear H1
          go_wp2_with fail
          refine (s5Len_s gb [] H 2 rfl (by simp)).mono ?_
          rintro e wx ⟨rfl, rfl⟩
          rw [show (([] : List UInt8).length : Int) = 0 from rfl]
          go_wp2_with fail
          refine (s5Form_s gb [] H 2 6 rfl rfl (by simp)).mono ?_
          rintro e y20 ⟨vvj, rfl, H1⟩
          replace H := H1.push_mk rfl
          clear H1
          obtain ⟨Aj, cj, rfl, -, -⟩ := row_form (H.row 6 rfl)
          replace H : St w [] y20 (lay [led (.pointer none) none, .blk ga 73 (s5S xs), .blk gb 73 (s5S []), led l (some (runsOf5 z)), led k (some (runsOf5 z)), .blk gc 73 (s5S xs), .row 5 1 (.slice Aj 200 cj) 200 ((form5 []).map vb)]) := H
          go_wp2_with fail
          refine (s5New_s H 7 rfl).mono ?_
          rintro e yn ⟨gn, rfl, H1⟩
          replace H : St w [] yn (lay [led (.pointer none) none, .blk ga 73 (s5S xs), .blk gb 73 (s5S []), led l (some (runsOf5 z)), led k (some (runsOf5 z)), .blk gc 73 (s5S xs), .row 5 1 (.slice Aj 200 cj) 200 ((form5 []).map vb), .blk gn 73 (s5S [])]) := H1.push_mk rfl
          clear H1
          unfold lptr
          go_wp2_with fail
          refine (s5Form_s gn [] H 7 8 rfl rfl (by simp)).mono ?_
          rintro e y21 ⟨vvk, rfl, H1⟩
          replace H := H1.push_mk rfl
          clear H1
          obtain ⟨Ak, ck, rfl, -, -⟩ := row_form (H.row 8 rfl)
          replace H : St w [] y21 (lay [led (.pointer none) none, .blk ga 73 (s5S xs), .blk gb 73 (s5S []), led l (some (runsOf5 z)), led k (some (runsOf5 z)), .blk gc 73 (s5S xs), .row 5 1 (.slice Aj 200 cj) 200 ((form5 []).map vb), .blk gn 73 (s5S []), .row 5 1 (.slice Ak 200 ck) 200 ((form5 []).map vb)]) := H
          go_wp2_with fail
          refine (sameBytes_yes Aj Ak 200 200 cj ck _ _ _ (H.rd 6 rfl) (H.rd 8 rfl) (by omega) (by omega) rfl).mono ?_
          rintro e y22 ⟨rfl, hb⟩
          replace H := (H.call hb).front 6
          clear hb
          replace H : St w [] y22 (lay [led (.pointer none) none, .blk ga 73 (s5S xs), .blk gb 73 (s5S []), led l (some (runsOf5 z)), led k (some (runsOf5 z)), .blk gc 73 (s5S xs)]) := H
          go_wp2_with fail
          refine (s5Form_s ga xs H 1 6 rfl rfl (by rw [HL.out]; omega)).mono ?_
          rintro e y23 ⟨vvl, rfl, H1⟩
          replace H := H1.push_mk rfl
          clear H1
          obtain ⟨Al, cl, rfl, -, -⟩ := row_form (H.row 6 rfl)
          replace H : St w [] y23 (lay [led (.pointer none) none, .blk ga 73 (s5S xs), .blk gb 73 (s5S []), led l (some (runsOf5 z)), led k (some (runsOf5 z)), .blk gc 73 (s5S xs), .row 5 1 (.slice Al 200 cl) 200 ((form5 xs).map vb)]) := H
          go_wp2_with fail
          refine (s5Form_s gc xs H 5 7 rfl rfl (by rw [HL.out]; omega)).mono ?_
          rintro e y24 ⟨vvm, rfl, H1⟩
          replace H := H1.push_mk rfl
          clear H1
          obtain ⟨Am, cm, rfl, -, -⟩ := row_form (H.row 7 rfl)
          replace H : St w [] y24 (lay [led (.pointer none) none, .blk ga 73 (s5S xs), .blk gb 73 (s5S []), led l (some (runsOf5 z)), led k (some (runsOf5 z)), .blk gc 73 (s5S xs), .row 5 1 (.slice Al 200 cl) 200 ((form5 xs).map vb), .row 5 1 (.slice Am 200 cm) 200 ((form5 xs).map vb)]) := H
          go_wp2_with fail
          refine (sameBytes_yes Al Am 200 200 cl cm _ _ _ (H.rd 6 rfl) (H.rd 7 rfl) (by omega) (by omega) rfl).mono ?_
          rintro e y25 ⟨rfl, hb⟩
          replace H := (H.call hb).front 6
          clear hb
          replace H : St w [] y25 (lay [led (.pointer none) none, .blk ga 73 (s5S xs), .blk gb 73 (s5S []), led l (some (runsOf5 z)), led k (some (runsOf5 z)), .blk gc 73 (s5S xs)]) := H
          go_wp2
          go_ret
          exact ⟨rfl, H.below⟩
end Go.Proofs.Ythieegmmbjjcbaa
