/- The law Sha256Pieces, walked. -/
import Derived.Test.YtcnphkmcgefjoaaLawSh2No
import Derived.Test.YtcnphkmcgefjoaaSh2T
import Derived.Test.YtcnphkmcgefjoaaCut
namespace Go.Proofs.Ytcnphkmcgefjoaa
open Go.RowKit
set_option linter.unusedVariables false
set_option maxRecDepth 100000

attribute [local irreducible] comp2 hTo dig2 laid4 h2 padM form2 lastN allN

/-- the first pieces, together -/
def flatTo (L : List (List UInt8)) (i : Nat) : List UInt8 := (L.take i).flatten

theorem flatTo_succ {L : List (List UInt8)} {i : Nat} {x : List UInt8} (h : L[i]? = some x) : flatTo L (i + 1) = flatTo L i ++ x := by
  unfold flatTo; rw [List.take_add_one, h]; simp

theorem flatTo_all (L : List (List UInt8)) : flatTo L L.length = L.flatten := by unfold flatTo; rw [List.take_length]

theorem flatTo_le (L : List (List UInt8)) (i : Nat) : (flatTo L i).length ≤ L.flatten.length := by
  have h : L.flatten = flatTo L i ++ (L.drop i).flatten := by unfold flatTo; rw [← List.flatten_append, List.take_append_drop]
  rw [h, List.length_append]; omega

/-- so many blocks, recorded -/
def runsOf2 (q : Nat) : List RunT := if q = 0 then [] else [(1, 64, q)]

theorem noteN_runs2 (q : Nat) : noteN (some []) 1 64 q = some (runsOf2 q) := by
  unfold noteN runsOf2
  split
  · rfl
  · simp [noted]

theorem total_runs2 (q : Nat) : total (runsOf2 q) = q := by
  unfold runsOf2
  split
  · rename_i h; subst h; rfl
  · simp [total]

theorem runsOf2_lw (q : Nat) : LW (some (runsOf2 q)) 1 q := by rw [← noteN_runs2]; exact (LW.nil.noteN 1 64 q).more (by omega) (by omega)
theorem runsOf2_len (q : Nat) : (runsOf2 q).length ≤ 1 := by unfold runsOf2; split <;> simp

theorem Pc.cap {w : World} {p : Pc} {G : List Nat} (h : p.own.holds w G) : p.n ≤ p.c := by
  have h1 : w.ownsRow 0 5 1 (.slice p.A p.n p.c) p.n (p.l.map vb) := h.1
  obtain ⟨A, c, e, hc, -⟩ := row_form h1
  injection e with e1 e2 e3
  omega

theorem last_all (n : Nat) : lastN n + n / 64 = (n + 9 + 63) / 64 := by
  have h : (119 - n % 64) % 64 = padZ n := rfl
  unfold lastN padZ
  omega

set_option maxHeartbeats 8000000 in
theorem sha256Pieces_walk (A : Option Addr) (n c : Nat) (xs : List UInt8) (B : Option Addr) (nb d : Nat) (cs : List UInt8) (C : Option Addr) (np cp : Nat) (qs : List UInt8) (w : World) (hA : Rd w 1 A n (xs.map vb)) (hn0 : n ≤ 1048576) (hc : n ≤ c) (hB : Rd w 1 B nb (cs.map vb)) (hnb : nb ≤ 1048576) (hcb : nb ≤ d) (hC : Rd w 1 C np (qs.map vb)) (hnp : np ≤ 1048576) (hcp : np ≤ cp) :
    Calls Try.prog 6 #[.slice A n c, .slice B nb d, .slice C np cp] w fun e w' => e = .returned (.bool true) ∧ Below w.heap.size w w' := by
  have hl : xs.length = n := by simpa using hA.1
  have HL := Lib.hid hl
  have hl2 : qs.length = np := by simpa using hC.1
  have HLQ := Lib.hid hl2
  clear hl hl2
  have H0 := (St.start_lay w []).ledNil 0 rfl |>.push_mk rfl
  by_cases hbig : 16384 < n + np
  · have hb : decide ((n : Int) + (np : Int) > 16384) = true := by simp; omega
    clear hbig
    go_enter Try.func6, Try.ntmps6
    go_wp2_with fail
    refine (lives2_s w).mono ?_
    rintro e w2 ⟨rfl, hb2⟩
    go_wp2
    go_ret
    exact ⟨rfl, hb2⟩
  · have hb : decide ((n : Int) + (np : Int) > 16384) = false := by simp; omega
    have hn : n + np ≤ 16384 := by omega
    clear hbig hn0 hnp
    go_enter Try.func6, Try.ntmps6
    go_wp2_with fail
    refine (lives2_s w).mono ?_
    rintro e w2 ⟨rfl, hb2⟩
    have H := H0.call hb2
    clear hb2 H0
    go_wp2_with fail
    refine (sh2New_s H 1 rfl).mono ?_
    rintro e w3 ⟨ga, rfl, H1⟩
    replace H := H1.push_mk rfl
    clear H1
    unfold lptr
    go_wp2_with fail
    refine (sh2New_s H 2 rfl).mono ?_
    rintro e w4 ⟨gb, rfl, H1⟩
    replace H := H1.push_mk rfl
    clear H1
    unfold lptr
    go_wp2_with fail
    refine (ledger_new H 3 rfl).mono ?_
    rintro e w5 ⟨l, rfl, H1⟩
    replace H := H1.push_mk rfl
    clear H1
    go_wp2_with fail
    refine (ledger_new H 4 rfl).mono ?_
    rintro e w6 ⟨k, rfl, H1⟩
    replace H := H1.push_mk rfl
    clear H1
    replace H : St w [] w6 (lay [led (.pointer none) none, .blk ga 77 (sh2S []), .blk gb 77 (sh2S []), led l (some []), led k (some [])]) := H
    go_wp2_with fail
    refine (sh2Write_s k (some []) 0 0 gb [] A n c xs H 4 2 (by omega) rfl rfl LW.nil (by omega) (by omega) (fun w' X Y h => h.arg0 hA) hc (by rw [List.length_nil]; omega)).mono ?_
    rintro e w7 ⟨rfl, H1⟩
    rw [upd_laid2 (by simp), upd_laid2 (by simp), List.length_nil, Nat.zero_add, Nat.zero_div, Nat.sub_zero, List.nil_append] at H1
    replace H : St w [] w7 (lay [led (.pointer none) none, .blk ga 77 (sh2S []), .blk gb 77 (sh2S xs), led l (some []), led k (noteN (some []) 1 64 (n / 64))]) := H1
    clear H1
    go_wp2_with fail
    refine (cutInto_s A n c xs B nb d cs w7 (H.arg0 hA) (H.arg0 hB) (by omega) (by omega) hc).mono ?_
    rintro e w8 ⟨V, ps, rfl, hps, HN⟩
    replace H := H.also HN
    clear HN
    have hpsl : ps.length ≤ 1048577 := by
      have h1 := congrArg List.length hps
      have h2 := cutB_len cs xs
      have h3 : cs.length = nb := by simpa using hB.1
      rw [List.length_map] at h1
      omega
    have HP := Lib.hid hps
    clear hps
    obtain ⟨AV, cV, rfl, -, hAV⟩ := row_form (H.row 5 rfl)
    have HLP : Hid ((ps.map Pc.l).flatten = xs) := by unfold Hid; rw [HP.out, cutB_flat]
    replace H : St w [] w8 (lay [led (.pointer none) none, .blk ga 77 (sh2S (flatTo (ps.map Pc.l) 0)), .blk gb 77 (sh2S xs), led l (noteN (some []) 1 64 ((flatTo (ps.map Pc.l) 0).length / 64)), led k (noteN (some []) 1 64 (n / 64)), .row 22 1 (.slice AV ps.length cV) ps.length (ps.map Pc.v), bigO Pc.own ps]) := by rw [show flatTo (ps.map Pc.l) 0 = [] from rfl]; exact H
    go_wp2
    go_loopw [12] (fun i wr => ∃ j : Nat, j ≤ ps.length ∧ i = .int .i64 j ∧ St w [] wr (lay [led (.pointer none) none, .blk ga 77 (sh2S (flatTo (ps.map Pc.l) j)), .blk gb 77 (sh2S xs), led l (noteN (some []) 1 64 ((flatTo (ps.map Pc.l) j).length / 64)), led k (noteN (some []) 1 64 (n / 64)), .row 22 1 (.slice AV ps.length cV) ps.length (ps.map Pc.v), bigO Pc.own ps])) (fun i _ => ps.length - (intOf i).toNat)
    case atStart => exact ⟨0, Nat.zero_le _, rfl, H⟩
    case round =>
      clear H
      obtain ⟨j, hj, rfl, H⟩ := hrel
      by_cases hlt : j < ps.length
      · obtain ⟨pc, hpc⟩ : ∃ v, ps[j]? = some v := ⟨_, List.getElem?_eq_getElem hlt⟩
        obtain ⟨gV, rfl, -⟩ := hAV (by omega)
        have c0 := World.ownsRow.cellAt (H.row 5 rfl) j (by omega)
        rw [List.getElem?_map, hpc] at c0
        simp only [Option.map_some, Pc.v] at c0
        have HPC := Lib.hid hpc
        have HFS := Lib.hid (flatTo_succ (L := ps.map Pc.l) (i := j) (x := pc.l) (by rw [List.getElem?_map, hpc]; rfl))
        have hle := flatTo_le (ps.map Pc.l) j
        have hle2 := flatTo_le (ps.map Pc.l) (j + 1)
        rw [HLP.out, HL.out] at hle hle2
        rw [HFS.out, List.length_append] at hle2
        obtain ⟨G, hG⟩ := H.bigRow 6 rfl hpc
        have hpl : pc.l.length = pc.n := by
          have := hG.1.1
          simpa using this
        have hpcap := Pc.cap hG
        have HFL : Hid ((flatTo (ps.map Pc.l) (j + 1)).length = (flatTo (ps.map Pc.l) j).length + pc.n) := by unfold Hid; rw [HFS.out, List.length_append, hpl]
        have hpn : pc.n ≤ 16384 := by rw [← hpl]; omega
        have hfl : (flatTo (ps.map Pc.l) j).length ≤ 16384 := by omega
        have hfl2 : (flatTo (ps.map Pc.l) (j + 1)).length ≤ 16384 := by rw [HFS.out, List.length_append]; omega
        have hj1 : (j : Int) < ps.length := by omega
        clear hpc hpl hle hle2 hG
        obtain ⟨m0, hm0⟩ : ∃ m, (flatTo (ps.map Pc.l) j) = m := ⟨_, rfl⟩
        obtain ⟨m1, hm1⟩ : ∃ m, (flatTo (ps.map Pc.l) (j + 1)) = m := ⟨_, rfl⟩
        rw [hm0] at H HFS HFL hfl
        rw [hm1] at HFS HFL hfl2
        have HM1 := Lib.hid hm1
        clear hm0 hm1
        have hd1 : m0.length / 64 ≤ 16384 := by omega
        have hd2 : m1.length / 64 ≤ 16384 := by omega
        have HDD : Hid (m0.length / 64 + ((m0.length + pc.n) / 64 - m0.length / 64) = m1.length / 64) := by
          unfold Hid
          rw [HFL.out]
          have := Nat.div_le_div_right (c := 64) (show m0.length ≤ m0.length + pc.n by omega)
          omega
        go_wp2_with fail
        refine (sh2Write_s l _ 1 ((m0.length / 64 : Nat) : Int) ga m0 pc.A pc.n pc.c pc.l H 3 1 (by omega) rfl rfl ((LW.nil.noteN 1 64 _).more (by omega) (by omega)) (by omega) (by omega) (fun w' X Y h => by obtain ⟨G, hG⟩ := h.bigRow 6 rfl HPC.out; exact Rd.of_own hG.1) hpcap (by omega)).mono ?_
        rintro e w9 ⟨rfl, H6⟩
        rw [upd_laid2 (by simp), upd_laid2 (by simp), noteN_noteN, HDD.out, ← HFS.out] at H6
        replace H : St w [] w9 (lay [led (.pointer none) none, .blk ga 77 (sh2S m1), .blk gb 77 (sh2S xs), led l (noteN (some []) 1 64 (m1.length / 64)), led k (noteN (some []) 1 64 (n / 64)), .row 22 1 (.slice (some ⟨gV, 0, none⟩) ps.length cV) ps.length (ps.map Pc.v), bigO Pc.own ps]) := H6
        clear c0 H6
        go_wp2_with fail
        refine (sh2Clone_s ga m1 H 1 7 rfl rfl).mono ?_
        rintro e wa ⟨gc, rfl, H6⟩
        replace H := H6.push_mk rfl
        clear H6
        unfold lptr
        go_wp2_with fail
        refine (sh2Write_s (.pointer none) none 0 0 gc m1 C np cp qs H 0 7 (by omega) rfl rfl (LW.none _ _) (by omega) (by omega) (fun w' X Y h => h.arg0 hC) hcp (by omega)).mono ?_
        rintro e wb ⟨rfl, H6⟩
        rw [noteN_none', upd_laid2 (by simp), upd_laid2 (by simp)] at H6
        replace H := H6
        clear H6
        go_wp2_with fail
        refine (sh2Wipe_s (.pointer none) none 0 0 gc _ H 0 7 (by omega) rfl rfl (LW.none _ _) (by omega) (by omega)).mono ?_
        rintro e wc ⟨rfl, H6⟩
        rw [noteN_none', upd_laid2 (by simp), upd_laid2 (by simp)] at H6
        replace H := H6.front 7
        replace H : St w [] wc (lay [led (.pointer none) none, .blk ga 77 (sh2S (flatTo (ps.map Pc.l) (j + 1))), .blk gb 77 (sh2S xs), led l (noteN (some []) 1 64 ((flatTo (ps.map Pc.l) (j + 1)).length / 64)), led k (noteN (some []) 1 64 (n / 64)), .row 22 1 (.slice (some ⟨gV, 0, none⟩) ps.length cV) ps.length (ps.map Pc.v), bigO Pc.own ps]) := by rw [HM1.out]; exact H
        clear H6
        go_wp2
        go_roundw
        case rel => exact ⟨j + 1, by omega, by go_num, H⟩
        case measure => simp [intOf]; omega
      · obtain rfl : j = ps.length := by omega
        rw [show flatTo (ps.map Pc.l) ps.length = xs by rw [← List.length_map (f := Pc.l), flatTo_all]; exact HLP.out, HL.out, noteN_runs2] at H
        obtain ⟨q, hq⟩ : ∃ q, n / 64 = q := ⟨_, rfl⟩
        have hq1 : q ≤ 16384 := by omega
        have hqi : (n : Int) / 64 = (q : Int) := by omega
        rw [hq] at H
        have HQ := Lib.hid hq
        clear hq
        replace H := H.front 5
        replace H : St w [] wr (lay [led (.pointer none) none, .blk ga 77 (sh2S xs), .blk gb 77 (sh2S xs), led l (some (runsOf2 q)), led k (some (runsOf2 q))]) := H
        have hnb : ((q : Int) != (q : Int)) = false := by simp
        have hj1 : ¬ ((ps.length : Int) < ps.length) := by omega
        go_wp2_with fail
        refine (ledger_len_w H 3 rfl).mono ?_
        rintro e wx ⟨rfl, rfl⟩
        rw [total_runs2]
        go_wp2_with fail
        refine (ledger_len_w H 4 rfl).mono ?_
        rintro e wx ⟨rfl, rfl⟩
        rw [total_runs2]
        go_wp2_with fail
        refine (sh2Form_s ga xs H 1 5 rfl rfl (by rw [HL.out]; omega)).mono ?_
        rintro e wa ⟨va, rfl, H1⟩
        replace H := H1.push_mk rfl
        clear H1
        obtain ⟨Aa, ca, rfl, -, -⟩ := row_form (H.row 5 rfl)
        go_wp2_with fail
        refine (sh2Form_s gb xs H 2 6 rfl rfl (by rw [HL.out]; omega)).mono ?_
        rintro e wb ⟨vb', rfl, H1⟩
        replace H := H1.push_mk rfl
        clear H1
        obtain ⟨Ab, cb, rfl, -, -⟩ := row_form (H.row 6 rfl)
        go_wp2_with fail
        refine (sameBytes_yes Aa Ab 104 104 ca cb _ _ _ (H.rd 5 rfl) (H.rd 6 rfl) (by omega) (by omega) rfl).mono ?_
        rintro e wc ⟨rfl, hb⟩
        replace H := (H.call hb).front 5
        clear hb
        replace H : St w [] wc (lay [led (.pointer none) none, .blk ga 77 (sh2S xs), .blk gb 77 (sh2S xs), led l (some (runsOf2 q)), led k (some (runsOf2 q))]) := H
        go_wp2_with fail
        refine (sh2Len_s ga xs H 1 rfl).mono ?_
        rintro e wx ⟨rfl, rfl⟩
        rw [HL.out]
        have hnn : ((n : Int) != (n : Int)) = false := by simp
        go_wp2_with fail
        refine (sh2Sum_s l (some (runsOf2 q)) 1 q ga xs H 3 1 5 (by omega) rfl rfl rfl (runsOf2_lw q) (by omega) (by omega) (by rw [HL.out]; omega)).mono ?_
        rintro e wd ⟨vd, rfl, H1⟩
        rw [upd_laid2 (by simp), upd_laid2 (by simp)] at H1
        replace H := H1.push_mk rfl
        clear H1
        obtain ⟨Ad, cd, rfl, -, -⟩ := row_form (H.row 5 rfl)
        go_wp2_with fail
        refine (sh2Sum_s k (some (runsOf2 q)) 1 q gb xs H 4 2 6 (by omega) rfl rfl rfl (runsOf2_lw q) (by omega) (by omega) (by rw [HL.out]; omega)).mono ?_
        rintro e we ⟨ve, rfl, H1⟩
        rw [upd_laid2 (by simp), upd_laid2 (by simp)] at H1
        replace H := H1.push_mk rfl
        clear H1
        obtain ⟨Ae, ce, rfl, -, -⟩ := row_form (H.row 6 rfl)
        go_wp2_with fail
        refine (sh2Fn_s (.pointer none) none 0 0 A n c xs H 0 7 rfl rfl (LW.none _ _) (by omega) (by omega) (fun w' X h => h.arg0 hA) hc (by omega)).mono ?_
        rintro e wf ⟨vf, rfl, H1⟩
        rw [noteN_none', upd_laid2 (by simp)] at H1
        replace H := H1.push_mk rfl
        clear H1
        obtain ⟨Af, cf, rfl, -, -⟩ := row_form (H.row 7 rfl)
        obtain ⟨z, hz⟩ : ∃ z, q + lastN n = z := ⟨_, rfl⟩
        have hnz : noteN (some (runsOf2 q)) 1 64 (lastN xs.length) = some (runsOf2 z) := by rw [← noteN_runs2, noteN_noteN, noteN_runs2, HL.out, hz]
        have hzi : ((n : Int) + 9 + 63) / 64 = (z : Int) := by have := last_all n; have := HQ.out; omega
        rw [hnz] at H
        clear hnz
        have hz1 : z ≤ 20000 := by have := lastN_le n; omega
        clear hz
        have hzz : ((z : Int) != (z : Int)) = false := by simp
        replace H : St w [] wf (lay [led (.pointer none) none, .blk ga 77 (sh2S xs), .blk gb 77 (sh2S xs), led l (some (runsOf2 z)), led k (some (runsOf2 z)), .row 5 1 (.slice Ad 32 cd) 32 ((dig2 xs).map vb), .row 5 1 (.slice Ae 32 ce) 32 ((dig2 xs).map vb), .row 5 1 (.slice Af 32 cf) 32 ((dig2 xs).map vb)]) := H
        go_wp2_with fail
        refine (sameBytes_yes Ad Ae 32 32 cd ce _ _ _ (H.rd 5 rfl) (H.rd 6 rfl) (by omega) (by omega) rfl).mono ?_
        rintro e wg ⟨rfl, hb⟩
        replace H := H.call hb
        clear hb
        go_wp2_with fail
        refine (sameBytes_yes Ad Af 32 32 cd cf _ _ _ (H.rd 5 rfl) (H.rd 7 rfl) (by omega) (by omega) rfl).mono ?_
        rintro e wh ⟨rfl, hb⟩
        replace H := H.call hb
        clear hb
        go_wp2_with fail
        refine (ledger_runs_w 1 z H 3 rfl (runsOf2_lw z) (by omega) 8 rfl).mono ?_
        rintro e wi ⟨vi, rfl, H1⟩
        replace H := H1.push_mk rfl
        clear H1
        obtain ⟨Ai, ci, rfl, -, -⟩ := row_shape (H.row 8 rfl)
        go_wp2_with fail
        refine (ledger_runs_w 1 z H 4 rfl (runsOf2_lw z) (by omega) 9 rfl).mono ?_
        rintro e wj ⟨vj, rfl, H1⟩
        replace H := H1.push_mk rfl
        clear H1
        obtain ⟨Aj, cj, rfl, -, -⟩ := row_shape (H.row 9 rfl)
        go_wp2_with fail
        have hrl := runsOf2_len z
        refine (sameRuns_any Ai Aj ci cj (runsOf2 z) (runsOf2 z) (H.rd 8 rfl) (H.rd 9 rfl) (by omega) (by omega)).mono ?_
        rintro e wk ⟨rfl, kd, rfl⟩
        replace H := (H.drewN kd).front 8
        rw [decide_eq_true rfl]
        generalize wj.drewN kd = wk at H ⊢
        replace H : St w [] wk (lay [led (.pointer none) none, .blk ga 77 (sh2S xs), .blk gb 77 (sh2S xs), led l (some (runsOf2 z)), led k (some (runsOf2 z)), .row 5 1 (.slice Ad 32 cd) 32 ((dig2 xs).map vb), .row 5 1 (.slice Ae 32 ce) 32 ((dig2 xs).map vb), .row 5 1 (.slice Af 32 cf) 32 ((dig2 xs).map vb)]) := H
        clear hrl
        go_wp2_with fail
        refine (ledger_len_w H 3 rfl).mono ?_
        rintro e wx ⟨rfl, rfl⟩
        rw [total_runs2]
        go_wp2_with fail
        refine (sh2Sum_s (.pointer none) none 0 0 ga xs H 0 1 8 (by omega) rfl rfl rfl (LW.none _ _) (by omega) (by omega) (by rw [HL.out]; omega)).mono ?_
        rintro e wm ⟨vm, rfl, H1⟩
        rw [noteN_none', upd_laid2 (by simp), upd_laid2 (by simp)] at H1
        replace H := H1.push_mk rfl
        clear H1
        obtain ⟨Am, cm, rfl, -, -⟩ := row_form (H.row 8 rfl)
        go_wp2_with fail
        refine (sameBytes_yes Am Af 32 32 cm cf _ _ _ (H.rd 8 rfl) (H.rd 7 rfl) (by omega) (by omega) rfl).mono ?_
        rintro e wn ⟨rfl, hb⟩
        replace H := (H.call hb).front 5
        clear hb
        replace H : St w [] wn (lay [led (.pointer none) none, .blk ga 77 (sh2S xs), .blk gb 77 (sh2S xs), led l (some (runsOf2 z)), led k (some (runsOf2 z))]) := H
        go_wp2_with fail
        refine (sh2Reset_s ga xs H 1 rfl).mono ?_
        rintro e wo ⟨rfl, H1⟩
        rw [upd_laid2 (by simp)] at H1
        replace H : St w [] wo (lay [led (.pointer none) none, .blk ga 77 (sh2S []), .blk gb 77 (sh2S xs), led l (some (runsOf2 z)), led k (some (runsOf2 z))]) := H1
        clear H1
        go_wp2_with fail
        refine (sh2Len_s ga [] H 1 rfl).mono ?_
        rintro e wx ⟨rfl, rfl⟩
        rw [show (([] : List UInt8).length : Int) = 0 from rfl]
        go_wp2_with fail
        refine (sh2Write_s (.pointer none) none 0 0 ga [] C np cp qs H 0 1 (by omega) rfl rfl (LW.none _ _) (by omega) (by omega) (fun w' X Y h => h.arg0 hC) hcp (by rw [List.length_nil]; omega)).mono ?_
        rintro e wp ⟨rfl, H1⟩
        rw [noteN_none', upd_laid2 (by simp), upd_laid2 (by simp), List.nil_append] at H1
        replace H : St w [] wp (lay [led (.pointer none) none, .blk ga 77 (sh2S qs), .blk gb 77 (sh2S xs), led l (some (runsOf2 z)), led k (some (runsOf2 z))]) := H1
        clear H1
        go_wp2_with fail
        refine (sh2Sum_s (.pointer none) none 0 0 ga qs H 0 1 5 (by omega) rfl rfl rfl (LW.none _ _) (by omega) (by omega) (by rw [HLQ.out]; omega)).mono ?_
        rintro e wq ⟨vq, rfl, H1⟩
        rw [noteN_none', upd_laid2 (by simp), upd_laid2 (by simp)] at H1
        replace H := H1.push_mk rfl
        clear H1
        obtain ⟨Aq, cq, rfl, -, -⟩ := row_form (H.row 5 rfl)
        go_wp2_with fail
        refine (sh2Fn_s (.pointer none) none 0 0 C np cp qs H 0 6 rfl rfl (LW.none _ _) (by omega) (by omega) (fun w' X h => h.arg0 hC) hcp (by omega)).mono ?_
        rintro e ws ⟨vs, rfl, H1⟩
        rw [noteN_none', upd_laid2 (by simp)] at H1
        replace H := H1.push_mk rfl
        clear H1
        obtain ⟨As, cs', rfl, -, -⟩ := row_form (H.row 6 rfl)
        go_wp2_with fail
        refine (sameBytes_yes Aq As 32 32 cq cs' _ _ _ (H.rd 5 rfl) (H.rd 6 rfl) (by omega) (by omega) rfl).mono ?_
        rintro e wt ⟨rfl, hb⟩
        replace H := H.call hb
        clear hb
        go_wp2
        go_ret
        exact ⟨rfl, H.below⟩
end Go.Proofs.Ytcnphkmcgefjoaa
