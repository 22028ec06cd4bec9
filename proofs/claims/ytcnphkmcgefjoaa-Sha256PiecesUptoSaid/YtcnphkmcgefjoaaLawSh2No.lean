/- The law Sha256None, walked. -/
import Derived.Test.YtcnphkmcgefjoaaSh2V
import Derived.Test.YtcnphkmcgefjoaaLedR
namespace Go.Proofs.Ytcnphkmcgefjoaa
open Go.RowKit
set_option linter.unusedVariables false
set_option maxRecDepth 100000

attribute [local irreducible] comp2 hTo dig2 laid4

theorem abcW_len : abcW.length = 8 := rfl
theorem abcV : (abcW.map u32v).toArray = #[.int .u32 3128432319, .int .u32 2399260650, .int .u32 1094795486, .int .u32 1571693091, .int .u32 2953011619, .int .u32 2518121116, .int .u32 3021012833, .int .u32 4060091821] := by kernel_rfl
theorem noteN_none' (k s : Int) (n : Nat) : noteN none k s n = none := by unfold noteN; split <;> rfl

set_option maxHeartbeats 1000000 in
theorem lives2_s (w : World) : Calls Try.prog 8 #[] w fun e w' => e = .returned (.bool true) ∧ Below w.heap.size w w' := by
  have H := (St.start_lay w []).ledNil 0 rfl |>.push_mk rfl
  have hcv := fun (w : World) (C : Array Value) (n c : Nat) => Lib.run_convert_bytes_const (P := Try.prog) w 22 5 C n c Try.underlying22 Try.underlying5
  have hl8 := laid4_length (l := abcW) (k := 8) (Nat.le_refl _)
  have HL8 := Lib.hid hl8
  clear hl8
  go_enter Try.func8, Try.ntmps8
  go_wp2_with fail
  refine absorb_calls (H.litAt 1 rfl w.heap.size rfl _ _ _ |>.push_mk rfl) ?_
  clear H
  intro w2 H
  generalize w.heap.size = g2 at H ⊢
  replace H : St w [] w2 (lay [led (.pointer none) none, .lit g2 5 (abcB.map vb) (3, 4)]) := H
  refine (sh2Fn_s (.pointer none) none 0 0 (some ⟨g2, 0, none⟩) 3 3 abcB H 0 2 rfl rfl (LW.none _ _) (by omega) (by omega) (fun w' X h => h.rdLit 1 rfl 1 3 rfl) (by omega) (by omega)).mono ?_
  rintro e w3 ⟨v3, rfl, H1⟩
  rw [noteN_none', upd_laid2 (by simp), abc_val] at H1
  replace H : St w [] w3 (lay [led (.pointer none) none, .lit g2 5 (abcB.map vb) (3, 4), .row 5 1 v3 32 ((laid4 abcW 8).map vb)]) := H1.push_mk rfl
  clear H1
  obtain ⟨A3, c3, rfl, -, -⟩ := row_form (H.row 2 rfl)
  go_wp2_with fail
  rw [← abcV]
  refine (wants_s abcW abcW_len w3).mono ?_
  rintro e w4 ⟨v4, rfl, ho, hb⟩
  unfold OwnB at ho
  rw [HL8.out] at ho
  replace H := (H.pushRow 3 rfl hb ho).push_mk rfl
  clear ho hb
  obtain ⟨A4, c4, rfl, -, -⟩ := row_form (H.row 3 rfl)
  go_wp2_with fail
  refine (sameBytes_yes A3 A4 _ _ c3 c4 _ _ _ (H.rd 2 rfl) (H.rd 3 rfl) (by omega) (by omega) rfl).mono ?_
  rintro e w5 ⟨rfl, hb⟩
  replace H := H.call hb
  go_wp2
  go_ret
  exact ⟨rfl, H.below⟩

set_option maxHeartbeats 1000000 in
theorem empty2_s (s v : Value) (hv : ∃ A n c, v = .slice A n c) (w : World) (h : Sh2No w s) : Calls Try.prog 36 #[s, v] w fun e w' => e = .returned (.bool true) ∧ Below w.heap.size w w' := by
  obtain ⟨A, n, c, rfl⟩ := hv
  have H0 := St.start_lay w []
  go_enter Try.func36, Try.ntmps36
  go_wp2_with fail
  refine (ledger_new H0 0 rfl).mono ?_
  rintro e w1 ⟨l, rfl, H1⟩
  have H := H1.push_mk rfl
  replace h := h.below H.below
  clear H0 H1
  go_wp2_with fail
  refine (sh2Sum_none l s h).mono ?_
  rintro e wx ⟨rfl, rfl⟩
  go_wp2_with fail
  refine (sh2Clone_none s h).mono ?_
  rintro e wx ⟨rfl, rfl⟩
  go_wp2_with fail
  refine (sh2Write_none l (.slice A n c) s h).mono ?_
  rintro e wx ⟨rfl, rfl⟩
  go_wp2_with fail
  refine (sh2Reset_none s h).mono ?_
  rintro e wx ⟨rfl, rfl⟩
  go_wp2_with fail
  refine (sh2Wipe_none l s h).mono ?_
  rintro e wx ⟨rfl, rfl⟩
  go_wp2_with fail
  refine (sh2Form_none s h).mono ?_
  rintro e wx ⟨rfl, rfl⟩
  go_wp2_with fail
  refine (sh2Len_none s h).mono ?_
  rintro e wx ⟨rfl, rfl⟩
  go_wp2_with fail
  refine (ledger_len_w H 0 rfl).mono ?_
  rintro e wx ⟨rfl, rfl⟩
  go_wp2
  go_ret
  exact ⟨rfl, H.below⟩

set_option maxHeartbeats 4000000 in
theorem sha256None_walk (A : Option Addr) (n c : Nat) (p : List UInt8) (w : World) (hA : Rd w 1 A n (p.map vb)) (hn0 : n ≤ 140737488351232) (hc : n ≤ c) :
    Calls Try.prog 7 #[.slice A n c] w fun e w' => e = .returned (.bool true) ∧ Below w.heap.size w w' := by
  by_cases hbig : 16384 < n
  · have hb : decide ((n : Int) > 16384) = true := by simp; omega
    clear hbig
    go_enter Try.func7, Try.ntmps7
    go_wp2
    go_ret
    exact ⟨rfl, Below.refl _ _⟩
  · have hb : decide ((n : Int) > 16384) = false := by simp; omega
    have hn : n ≤ 16384 := by omega
    clear hbig hn0
    have H := (St.start_lay w []).ledNil 0 rfl |>.push_mk rfl
    have hz0 := zero_sh
    go_enter Try.func7, Try.ntmps7
    go_wp2_with fail
    refine (sh2New_s H 1 rfl).mono ?_
    rintro e w1 ⟨g, rfl, H1⟩
    replace H := H1.push_mk rfl
    clear H1
    unfold lptr
    go_wp2_with fail
    refine (ledger_new H 2 rfl).mono ?_
    rintro e w2 ⟨l, rfl, H1⟩
    replace H := H1.push_mk rfl
    clear H1
    replace H : St w [] w2 (lay [led (.pointer none) none, .blk g 77 (sh2S []), led l (some [])]) := H
    go_wp2_with fail
    refine (sh2Write_s (.pointer none) none 0 0 g [] A n c p H 0 1 (by omega) rfl rfl (LW.none _ _) (by omega) (by omega) (fun w' X Y h => h.arg0 hA) hc (by rw [List.length_nil]; omega)).mono ?_
    rintro e w3 ⟨rfl, H1⟩
    rw [noteN_none', upd_laid2 (by simp), upd_laid2 (by simp), List.nil_append] at H1
    replace H : St w [] w3 (lay [led (.pointer none) none, .blk g 77 (sh2S p), led l (some [])]) := H1
    clear H1
    go_wp2_with fail
    refine (sh2Wipe_s l (some []) 0 0 g p H 2 1 (by omega) rfl rfl LW.nil (by omega) (by omega)).mono ?_
    rintro e w4 ⟨rfl, H1⟩
    rw [upd_laid2 (by simp), upd_laid2 (by simp)] at H1
    replace H : St w [] w4 (lay [led (.pointer none) none, .blk g 77 shZ, led l (some [((8, 104, 1) : RunT)])]) := H1
    clear H1
    go_wp2_with fail
    refine (ledger_runs_w 1 1 H 2 rfl (fun rs h => by injection h with h; subst h; exact ⟨by simp, by simp, by decide⟩) (by omega) 3 rfl).mono ?_
    rintro e w5 ⟨v5, rfl, H1⟩
    replace H := H1.push_mk rfl
    clear H1
    obtain ⟨A5, c5, rfl, -, -⟩ := row_shape (H.row 3 rfl)
    go_wp2_with fail
    refine absorb_calls (H.allocAt 4 rfl w5.heap.size rfl #[.int .u8 8, .int .i64 104, .int .i64 1] 45 |>.push_mk rfl) ?_
    clear H
    intro w6 H
    generalize w5.heap.size = gR at H ⊢
    refine (sameRuns_any A5 (some ⟨gR, 0, none⟩) c5 1 [(8, 104, 1)] [(8, 104, 1)] (H.rd 3 rfl) (H.rdBlk 4 rfl 3 1 rfl) (by simp) (by simp)).mono ?_
    rintro e w7 ⟨rfl, kd, rfl⟩
    replace H := H.drewN kd
    rw [decide_eq_true rfl]
    generalize w6.drewN kd = w7 at H ⊢
    go_wp2_with fail
    refine (lives2_s w7).mono ?_
    rintro e w8 ⟨rfl, hb2⟩
    replace H := H.call hb2
    clear hb2
    go_wp2_with fail
    refine (empty2_s (.pointer none) (.slice A n c) ⟨_, _, _, rfl⟩ w8 (.inl rfl)).mono ?_
    rintro e w9 ⟨rfl, hb2⟩
    replace H := H.call hb2
    clear hb2
    go_wp2_with fail
    refine absorb_calls (H.allocAt 5 rfl w9.heap.size rfl shZ.toArray 77 |>.push_mk rfl) ?_
    clear H
    intro wa H
    generalize w9.heap.size = gz at H ⊢
    refine (empty2_s (lptr gz) (.slice A n c) ⟨_, _, _, rfl⟩ wa (H.sh2No 5 rfl)).mono ?_
    rintro e wb ⟨rfl, hb2⟩
    replace H := H.call hb2
    clear hb2
    go_wp2_with fail
    refine (empty2_s (lptr g) (.slice A n c) ⟨_, _, _, rfl⟩ wb (H.sh2No 1 rfl)).mono ?_
    rintro e wc ⟨rfl, hb2⟩
    replace H := H.call hb2
    clear hb2
    go_wp2
    go_ret
    exact ⟨rfl, H.below⟩
end Go.Proofs.Ytcnphkmcgefjoaa
