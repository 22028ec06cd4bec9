/- The law Sha256Names, walked. -/
import Derived.Test.YtcnphkmcgefjoaaLawSh2No
import Derived.Test.YtcnphkmcgefjoaaSh2F
import Derived.Test.YtcnphkmcgefjoaaInts
import Derived.Deep.OwnRows
namespace Go.Proofs.Ytcnphkmcgefjoaa
open Go.RowKit
set_option linter.unusedVariables false
set_option maxRecDepth 100000

def longB : List UInt8 := [97, 98, 99, 100, 98, 99, 100, 101, 99, 100, 101, 102, 100, 101, 102, 103, 101, 102, 103, 104, 102, 103, 104, 105, 103, 104, 105, 106, 104, 105, 106, 107, 105, 106, 107, 108, 106, 107, 108, 109, 107, 108, 109, 110, 108, 109, 110, 111, 109, 110, 111, 112, 110, 111, 112, 113]
def noneW : List UInt32 := [0xe3b0c442, 0x98fc1c14, 0x9afbf4c8, 0x996fb924, 0x27ae41e4, 0x649b934c, 0xa495991b, 0x7852b855]
def longW : List UInt32 := [0x248d6a61, 0xd20638b8, 0xe5c02693, 0x0c3e6039, 0xa33ce459, 0x64ff2167, 0xf6ecedd4, 0x19db06c1]
theorem none_val : dig2 [] = laid4 noneW 8 := by decide +kernel
theorem long_val : dig2 longB = laid4 longW 8 := by decide +kernel
theorem noneV : (noneW.map u32v).toArray = #[.int .u32 3820012610, .int .u32 2566659092, .int .u32 2600203464, .int .u32 2574235940, .int .u32 665731556, .int .u32 1687917388, .int .u32 2761267483, .int .u32 2018687061] := by kernel_rfl
theorem longV : (longW.map u32v).toArray = #[.int .u32 613247585, .int .u32 3523623096, .int .u32 3854575251, .int .u32 205414457, .int .u32 2738676825, .int .u32 1694441831, .int .u32 4142722516, .int .u32 433784513] := by kernel_rfl
theorem all_0 : allN 0 = 1 := by decide +kernel
theorem all_56 : allN 56 = 2 := by decide +kernel
theorem form_take : (form2 []).take 8 = [106, 9, 230, 103, 187, 103, 174, 133] := by decide +kernel
theorem form_drop : (form2 []).drop 32 = List.replicate 72 0 := by decide +kernel

/-- the message's length ahead of each piece, and the pieces' lengths -/
def nmS (k : Nat) : Nat := [0, 63, 64, 129].getD k 0
def nmD (k : Nat) : Nat := [63, 1, 65].getD k 0
def nmI : List Int := [63, 1, 65]
def nmC (k : Nat) : List Int := ([0, 1, 2] : List Int).take k
theorem nm_facts : ∀ k < 3, nmS (k + 1) = nmS k + nmD k ∧ nmD k ≤ 65 ∧ nmS k ≤ 129 ∧ nmI[k]? = some ((nmD k : Nat) : Int) ∧ nmC (k + 1) = nmC k ++ [((nmS (k + 1) / 64 : Nat) : Int)] := by decide +kernel

theorem noteTot (c : Nat) : ∃ rs, noteN (some []) 1 64 c = some rs ∧ total rs = (c : Int) ∧ rs.length ≤ 1 := by
  unfold noteN
  split
  · rename_i h; exact ⟨[], rfl, by subst h; rfl, by simp⟩
  · exact ⟨_, rfl, by simp [noted, total], by simp [noted]⟩

theorem rep_add (a b : Nat) : List.replicate a (0 : UInt8) ++ List.replicate b 0 = List.replicate (a + b) 0 := List.replicate_append_replicate ..

attribute [local irreducible] comp2 hTo dig2 laid4 h2 padM nmS nmD nmC nmI form2 longB noneW longW lastN allN

theorem noneW_len : noneW.length = 8 := by unfold noneW; rfl
theorem longW_len : longW.length = 8 := by unfold longW; rfl
theorem longB_len : longB.length = 56 := by unfold longB; rfl
theorem nmS_0 : nmS 0 = 0 := by decide +kernel
theorem nmS_3 : nmS 3 = 129 := by decide +kernel
theorem nmC_0 : nmC 0 = [] := by decide +kernel
theorem nmC_3 : nmC 3 = [0, 1, 2] := by decide +kernel
theorem nmC_len (k : Nat) (h : k ≤ 3) : (nmC k).length = k := by
  unfold nmC
  rw [List.length_take]
  show min k 3 = k
  omega

set_option maxHeartbeats 8000000 in
theorem sha256Names_walk (w : World) : Calls Try.prog 4 #[] w fun e w' => e = .returned (.bool true) ∧ Below w.heap.size w w' := by
  have H0 := St.start_lay w []
  obtain ⟨i0, hi0, hz0, hz1, hz2⟩ := info_parts u8_info
  have HI0 := Lib.hid (⟨hi0, hz0, hz1, hz2⟩ : _ ∧ _ ∧ _ ∧ _)
  clear hi0 hz0 hz1 hz2
  obtain ⟨i1, hi0, hz0, hz1, hz2⟩ := info_parts int_info
  have HI1 := Lib.hid (⟨hi0, hz0, hz1, hz2⟩ : _ ∧ _ ∧ _ ∧ _)
  clear hi0 hz0 hz1 hz2
  have hcv := fun (w : World) (C : Array Value) (n c : Nat) => Lib.run_convert_bytes_const (P := Try.prog) w 22 5 C n c Try.underlying22 Try.underlying5
  have HW8 : Hid (∀ l : List UInt32, l.length = 8 → (laid4 l 8).length = 32) := fun l h => by rw [laid4_length (by omega)]
  go_enter Try.func4, Try.ntmps4
  go_wp2_with fail
  refine (ledger_new H0 0 rfl).mono ?_
  rintro e w1 ⟨l, rfl, H1⟩
  have H := H1.push_mk rfl
  clear H0 H1
  replace H : St w [] w1 (lay [led l (some [])]) := H
  go_wp2_with fail
  refine (sh2Fn_s l (some []) 0 0 none 0 0 [] H 0 1 rfl rfl LW.nil (by omega) (by omega) (fun w' X h => Rd.none_) (by omega) (by omega)).mono ?_
  rintro e w2 ⟨v2, rfl, H1⟩
  rw [all_0, upd_laid2 (by simp), none_val] at H1
  replace H : St w [] w2 (lay [led l (noteN (some []) 1 64 1), .row 5 1 v2 32 ((laid4 noneW 8).map vb)]) := H1.push_mk rfl
  clear H1
  obtain ⟨A2, c2, rfl, -, -⟩ := row_form (H.row 1 rfl)
  go_wp2_with fail
  refine absorb_calls (H.litAt 2 rfl w2.heap.size rfl _ _ _ |>.push_mk rfl) ?_
  clear H
  intro w3 H
  generalize w2.heap.size = gL at H ⊢
  replace H : St w [] w3 (lay [led l (noteN (some []) 1 64 1), .row 5 1 (.slice A2 32 c2) 32 ((laid4 noneW 8).map vb), .lit gL 5 (longB.map vb) (56, 57)]) := by unfold longB; exact H
  refine (sh2Fn_s l (noteN (some []) 1 64 1) 1 1 (some ⟨gL, 0, none⟩) 56 56 longB H 0 3 rfl rfl ((LW.nil.noteN 1 64 1).more (by omega) (by omega)) (by omega) (by omega) (fun w' X h => h.rdLit 2 rfl 1 56 (by rw [List.length_map, longB_len])) (by omega) (by omega)).mono ?_
  rintro e w4 ⟨v4, rfl, H1⟩
  rw [all_56, noteN_noteN, upd_laid2 (by simp), long_val] at H1
  replace H := H1.push_mk rfl
  clear H1
  obtain ⟨A4, c4, rfl, -, -⟩ := row_form (H.row 3 rfl)
  replace H := H.permS (L' := [led l (noteN (some []) 1 64 3), .row 5 1 (.slice A2 32 c2) 32 ((laid4 noneW 8).map vb), .row 5 1 (.slice A4 32 c4) 32 ((laid4 longW 8).map vb)]) [0, 1, 3] 3 rfl (by decide) (fun i hi => by
    match i, hi with
    | 0, _ => rfl
    | 1, _ => rfl
    | 2, _ => rfl)
  go_wp2_with fail
  rw [← noneV]
  refine (wants_s noneW noneW_len _).mono ?_
  rintro e w5 ⟨v5, rfl, ho, hb⟩
  unfold OwnB at ho
  rw [HW8.out _ noneW_len] at ho
  replace H := (H.pushRow 3 rfl hb ho).push_mk rfl
  clear ho hb
  obtain ⟨A5, c5, rfl, -, -⟩ := row_form (H.row 3 rfl)
  go_wp2_with fail
  refine (sameBytes_yes A2 A5 32 32 c2 c5 _ _ _ (H.rd 1 rfl) (H.rd 3 rfl) (by omega) (by omega) rfl).mono ?_
  rintro e w6 ⟨rfl, hb⟩
  replace H := (H.call hb).front 3
  clear hb
  replace H : St w [] w6 (lay [led l (noteN (some []) 1 64 3), .row 5 1 (.slice A2 32 c2) 32 ((laid4 noneW 8).map vb), .row 5 1 (.slice A4 32 c4) 32 ((laid4 longW 8).map vb)]) := H
  go_wp2_with fail
  rw [← longV]
  refine (wants_s longW longW_len _).mono ?_
  rintro e w7 ⟨v5, rfl, ho, hb⟩
  unfold OwnB at ho
  rw [HW8.out _ longW_len] at ho
  replace H := (H.pushRow 3 rfl hb ho).push_mk rfl
  clear ho hb
  obtain ⟨A5, c5, rfl, -, -⟩ := row_form (H.row 3 rfl)
  go_wp2_with fail
  refine (sameBytes_yes A4 A5 32 32 c4 c5 _ _ _ (H.rd 2 rfl) (H.rd 3 rfl) (by omega) (by omega) rfl).mono ?_
  rintro e w8 ⟨rfl, hb⟩
  replace H := (H.call hb).front 3
  clear hb
  replace H : St w [] w8 (lay [led l (noteN (some []) 1 64 3), .row 5 1 (.slice A2 32 c2) 32 ((laid4 noneW 8).map vb), .row 5 1 (.slice A4 32 c4) 32 ((laid4 longW 8).map vb)]) := H
  have hrs3 : noteN (some []) 1 64 3 = some [((1, 64, 3) : RunT)] := rfl
  rw [hrs3] at H
  clear hrs3
  replace H := H.front 1
  replace H : St w [] w8 (lay [led l (some [((1, 64, 3) : RunT)])]) := H
  go_wp2_with fail
  refine (ledger_runs_w 1 3 H 0 rfl (fun rs h => by injection h with h; subst h; exact ⟨by simp, by simp, by decide⟩) (by omega) 1 rfl).mono ?_
  rintro e w9 ⟨v9, rfl, H1⟩
  replace H := H1.push_mk rfl
  clear H1
  obtain ⟨A9, c9, rfl, -, -⟩ := row_shape (H.row 1 rfl)
  go_wp2_with fail
  refine absorb_calls (H.allocAt 2 rfl w9.heap.size rfl #[.int .u8 1, .int .i64 64, .int .i64 3] 45 |>.push_mk rfl) ?_
  clear H
  intro wa H
  generalize w9.heap.size = gR at H ⊢
  refine (sameRuns_any A9 (some ⟨gR, 0, none⟩) c9 1 [(1, 64, 3)] [(1, 64, 3)] (H.rd 1 rfl) (H.rdBlk 2 rfl 3 1 rfl) (by simp) (by simp)).mono ?_
  rintro e wb ⟨rfl, kd, rfl⟩
  replace H := (H.drewN kd).front 0
  rw [decide_eq_true rfl]
  generalize wa.drewN kd = wb at H ⊢
  replace H : St w [] wb (lay []) := H
  go_wp2_with fail
  refine (sh2New_s H 0 rfl).mono ?_
  rintro e wc ⟨g, rfl, H1⟩
  replace H := H1.push_mk rfl
  clear H1
  replace H : St w [] wc (lay [.blk g 77 (sh2S [])]) := H
  unfold lptr
  go_wp2_with fail
  refine (sh2Form_s g [] H 0 1 rfl rfl (by simp)).mono ?_
  rintro e wd ⟨vf, rfl, H1⟩
  replace H := H1.push_mk rfl
  clear H1
  obtain ⟨Af, cf, rfl, hcf, hAf⟩ := row_form (H.row 1 rfl)
  obtain ⟨gf, rfl, -⟩ := hAf (by omega)
  clear hAf
  go_wp2_with fail
  refine (ledger_new H 2 rfl).mono ?_
  rintro e we ⟨k, rfl, H1⟩
  replace H := H1.push_mk rfl
  clear H1
  replace H := H.nilRow 3 rfl 3 1 |>.push_mk rfl
  go_upto_region 14 with fail
  refine absorb_wp (H.allocAt 4 rfl we.heap.size rfl #[.int .i64 63, .int .i64 1, .int .i64 65] 3 |>.push_mk rfl) ?_
  clear H
  intro wf H
  generalize we.heap.size = gi at H ⊢
  replace H : St w [] wf (lay [.blk g 77 (sh2S (List.replicate (nmS 0) 0)), .row 5 1 (.slice (some ⟨gf, 0, none⟩) 104 cf) 104 ((form2 []).map vb), led k (noteN (some []) 1 64 (nmS 0 / 64)), .row 3 1 (.slice none 0 0) 0 ((nmC 0).map iv), .blk gi 3 (nmI.map iv)]) := by rw [nmS_0, nmC_0]; unfold nmI; exact H
  go_wp2
  go_loopw [10, 12] (fun cv i wr => ∃ q : Nat, q ≤ 3 ∧ i = .int .i64 q ∧ St w [] wr (lay [.blk g 77 (sh2S (List.replicate (nmS q) 0)), .row 5 1 (.slice (some ⟨gf, 0, none⟩) 104 cf) 104 ((form2 []).map vb), led k (noteN (some []) 1 64 (nmS q / 64)), .row 3 1 cv q ((nmC q).map iv), .blk gi 3 (nmI.map iv)])) (fun _ i _ => 3 - (intOf i).toNat)
  case atStart => exact ⟨0, by omega, rfl, H⟩
  case round =>
    clear H
    obtain ⟨q, hq, rfl, H⟩ := hrel
    obtain ⟨Ac, cc, rfl, -, -⟩ := row_form (H.row 3 rfl)
    by_cases hlt : q < 3
    · have hq1 : (q : Int) < 3 := by omega
      obtain ⟨f1, f2, f3, f4, f5⟩ := nm_facts q hlt
      have HF1 := Lib.hid f1
      have HF5 := Lib.hid f5
      have ci := H.cell 4 rfl (o := q) (u := .int .i64 ((nmD q : Nat) : Int)) (by rw [List.getElem?_map, f4]; rfl)
      clear f1 f4 f5
      generalize nmD q = d at HF1 f2 ci
      generalize nmS q = s at HF1 f3 H
      obtain ⟨s', hs'⟩ : ∃ s', nmS (q + 1) = s' := ⟨_, rfl⟩
      rw [hs'] at HF1 HF5
      have HSS := Lib.hid hs'
      clear hs'
      go_wp2_with (at_make; refine hold_here' ?_)
      refine Lib.hid ?_
      obtain ⟨hi0, hz0, hz1, hz2⟩ := HI0.out
      refine wpList_make_full _ rfl (.tmp 55) (.tmp 55) 22 rfl wr.heap.size 5 i0 (.int .u8 0) 1 Try.underlying22 hi0 hz0 hz1 .i64 .i64 _ _ d rfl rfl rfl rfl (by rw [hz2]; omega) (by simp only [maxLen]; omega) (Nat.le_refl _) ?_
      intro w6 ho6 hg6
      have hb6 : Below wr.heap.size wr w6 := (Below.refl _ _).grown hg6 (Nat.le_refl _) (fun _ h => by cases h)
      replace H := (H.pushRow 5 rfl hb6 (made0' ho6)).push_mk rfl
      clear ho6 hg6 hb6 hi0 hz0 hz1 hz2 ci
      generalize wr.heap.size = gp at H ⊢
      go_wp2_with fail
      refine (sh2Write_s k (noteN (some []) 1 64 (s / 64)) 1 ((s / 64 : Nat) : Int) g (List.replicate s 0) (some ⟨gp, 0, none⟩) d d (List.replicate d 0) H 2 0 (by omega) rfl rfl ((LW.nil.noteN 1 64 (s / 64)).more (by omega) (by omega)) (by omega) (by omega) (fun w' X Y h => h.rd 5 rfl) (Nat.le_refl _) (by rw [List.length_replicate]; omega)).mono ?_
      rintro e w7 ⟨rfl, H1⟩
      have hnn : s / 64 + ((s + d) / 64 - s / 64) = s' / 64 := by rw [HF1.out]; have := Nat.div_le_div_right (c := 64) (show s ≤ s + d by omega); omega
      rw [List.length_replicate, noteN_noteN, rep_add, hnn, ← HF1.out, upd_laid2 (by simp), upd_laid2 (by simp)] at H1
      replace H : St w [] w7 (lay [.blk g 77 (sh2S (List.replicate s' 0)), .row 5 1 (.slice (some ⟨gf, 0, none⟩) 104 cf) 104 ((form2 []).map vb), led k (noteN (some []) 1 64 (s' / 64)), .row 3 1 (.slice Ac q cc) q ((nmC q).map iv), .blk gi 3 (nmI.map iv)]) := H1.front 5
      clear H1 hnn
      have hs1 : s' / 64 ≤ 10 := by rw [HF1.out]; omega
      obtain ⟨z, hz⟩ : ∃ z, s' / 64 = z := ⟨_, rfl⟩
      rw [hz] at H HF5 hs1
      have HZ := Lib.hid hz
      clear hz
      obtain ⟨rs, hrs, htot, -⟩ := noteTot z
      rw [hrs] at H
      have HT := Lib.hid htot
      have HRS := Lib.hid hrs
      clear hrs htot
      go_wp2_with fail
      refine (ledger_len_w H 2 rfl).mono ?_
      rintro e w8 ⟨rfl, rfl⟩
      rw [HT.out]
      go_wp2_with (at_builtin; refine hold_here' ?_)
      refine Lib.hid ?_
      refine absorb_list (H.allocAt 5 rfl _ rfl #[.int .i64 (z : Int)] 3 |>.push_mk rfl) ?_
      clear H
      intro w9 H
      generalize w7.heap.size = gN at H ⊢
      obtain ⟨hi0, hz0, hz1, hz2⟩ := HI1.out
      refine wpList_append_any _ rfl (.tmp 60) (.tmp 63) _ rfl 0 3 i1 _ 1 8 Try.underlying49 hi0 hz0 hz1 hz2 rfl (by omega) (.slice Ac q cc) q ((nmC q).map iv) rfl (H.row 3 rfl) (some ⟨gN, 0, none⟩) 1 1 [.int .i64 (z : Int)] rfl (H.rdBlk 5 rfl 1 1 rfl) (by intro u hu; simp at hu; subst hu; rfl) (by simp only [maxLen]; omega) (by omega) (by omega) ?_
      intro v6 wx hown6 hg6 hat6
      replace H := ((H.grow 3 rfl hown6 hg6 hat6).upd_mk (by simp)).front 5
      clear hown6 hg6 hat6 hi0 hz0 hz1 hz2
      have H7 : St w [] wx (lay [.blk g 77 (sh2S (List.replicate (nmS (q + 1)) 0)), .row 5 1 (.slice (some ⟨gf, 0, none⟩) 104 cf) 104 ((form2 []).map vb), led k (noteN (some []) 1 64 (nmS (q + 1) / 64)), .row 3 1 v6 (q + 1) ((nmC (q + 1)).map iv), .blk gi 3 (nmI.map iv)]) := by rw [HF5.out, List.map_append, HSS.out, HZ.out, HRS.out]; exact H
      clear H
      go_wp2
      go_roundw
      case rel => exact ⟨q + 1, by omega, by go_num, H7⟩
      case measure => simp [intOf]; omega
    · obtain rfl : q = 3 := by omega
      rw [show ((3 : Nat) : Int) = 3 from rfl]
      rw [nmS_3, nmC_3] at H
      have hrs2 : noteN (some []) 1 64 (129 / 64) = some [((1, 64, 2) : RunT)] := rfl
      rw [hrs2] at H
      clear hrs2
      go_wp2_with fail
      refine (sh2Sum_s k (some [((1, 64, 2) : RunT)]) 1 2 g (List.replicate 129 0) H 2 0 5 (by omega) rfl rfl rfl (fun rs h => by injection h with h; subst h; exact ⟨by simp, by simp, by decide⟩) (by omega) (by omega) (by rw [List.length_replicate]; omega)).mono ?_
      rintro e w7 ⟨v7, rfl, H1⟩
      rw [List.length_replicate, show lastN 129 = 1 by decide +kernel, show noteN (some [((1, 64, 2) : RunT)]) 1 64 1 = some [((1, 64, 3) : RunT)] from rfl, upd_laid2 (by simp), upd_laid2 (by simp)] at H1
      replace H := H1.push_mk rfl
      clear H1
      obtain ⟨A7, c7, rfl, -, -⟩ := row_form (H.row 5 rfl)
      replace H : St w [] w7 (lay [.blk g 77 (sh2S (List.replicate 129 0)), .row 5 1 (.slice (some ⟨gf, 0, none⟩) 104 cf) 104 ((form2 []).map vb), led k (some [((1, 64, 3) : RunT)]), .row 3 1 (.slice Ac 3 cc) 3 (([0, 1, 2] : List Int).map iv), .blk gi 3 (nmI.map iv)]) := H.front 5
      go_wp2_with fail
      refine absorb_calls (H.allocAt 5 rfl w7.heap.size rfl #[.int .i64 0, .int .i64 1, .int .i64 2] 3 |>.push_mk rfl) ?_
      clear H
      intro w8 H
      generalize w7.heap.size = gJ at H ⊢
      refine (sameInts_any Ac (some ⟨gJ, 0, none⟩) 3 3 cc 3 [0, 1, 2] [0, 1, 2] w8 (H.rd 3 rfl) (H.rdBlk 5 rfl 1 3 rfl) (by omega) (by omega)).mono ?_
      rintro e w9 ⟨rfl, kd, rfl⟩
      replace H := (H.drewN kd).front 5
      rw [decide_eq_true rfl]
      generalize w8.drewN kd = w9 at H ⊢
      replace H : St w [] w9 (lay [.blk g 77 (sh2S (List.replicate 129 0)), .row 5 1 (.slice (some ⟨gf, 0, none⟩) 104 cf) 104 ((form2 []).map vb), led k (some [((1, 64, 3) : RunT)]), .row 3 1 (.slice Ac 3 cc) 3 (([0, 1, 2] : List Int).map iv), .blk gi 3 (nmI.map iv)]) := H
      have HLL : Hid ((List.replicate 129 (0 : UInt8)).length = 129) := List.length_replicate ..
      go_wp2_with fail
      refine (sh2Len_s g (List.replicate 129 0) H 0 rfl).mono ?_
      rintro e wx ⟨rfl, rfl⟩
      rw [HLL.out]
      go_wp2_with fail
      refine (ledger_len_w H 2 rfl).mono ?_
      rintro e wx ⟨rfl, rfl⟩
      rw [show total [((1, 64, 3) : RunT)] = 3 from rfl]
      replace H := H.front 2
      replace H : St w [] w9 (lay [.blk g 77 (sh2S (List.replicate 129 0)), .row 5 1 (.slice (some ⟨gf, 0, none⟩) 104 cf) 104 ((form2 []).map vb)]) := H
      go_upto_region 23 with fail
      have HT := Lib.hid form_take
      have HD := Lib.hid form_drop
      have hcf1 : (32 : Int) ≤ cf := by omega
      have hcf2 : (8 : Int) ≤ cf := by omega
      have hcf3 : (104 : Int) ≤ cf := by omega
      have hmk : ∀ w : World, (Instr.makeSlice 22 (.int .i64 72) (.int .i64 72)).run Try.prog w = .ok (.slice (some ⟨w.heap.size, 0, none⟩) 72 72) (w.alloc (.cells (madeCells #[.int .u8 0] 72) 5)) := fun w => run_make_row' (P := Try.prog) 22 5 (.int .u8 0) 1 Try.underlying22 u8_info rfl .i64 .i64 72 (by omega) (by omega) w
      have HMK := Lib.hid hmk
      clear hmk
      refine wp_region_held_drew (S := fun w' : World => True) (by kernel_rfl) ?_ (fun hHeld => ?_)
      · exact trivial
      refine takeV 0 rfl (by intro w h; clear h; go_simp; try with_reducible rfl) (by kernel_rfl) (by kernel_rfl) (by kernel_rfl) (by exact fun _ _ _ h => h) (by rfl) (by assumption) ?_
      try simp only [Act.put, List.setIfInBounds_toArray, List.set_cons_zero, List.set_cons_succ]
      refine takeV 1 rfl (by intro w h; clear h; go_simp; try with_reducible rfl) (by kernel_rfl) (by kernel_rfl) (by kernel_rfl) (by exact fun _ _ _ h => h) (by rfl) (by assumption) ?_
      try simp only [Act.put, List.setIfInBounds_toArray, List.set_cons_zero, List.set_cons_succ]
      refine takeV 2 rfl (by intro w h; clear h; go_simp; try with_reducible rfl) (by kernel_rfl) (by kernel_rfl) (by kernel_rfl) (by exact fun _ _ _ h => h) (by rfl) (by assumption) ?_
      try simp only [Act.put, List.setIfInBounds_toArray, List.set_cons_zero, List.set_cons_succ]
      refine takeV 3 rfl (by intro w h; clear h; go_simp; try with_reducible rfl) (by kernel_rfl) (by kernel_rfl) (by kernel_rfl) (by exact fun _ _ _ h => h) (by rfl) (by assumption) ?_
      try simp only [Act.put, List.setIfInBounds_toArray, List.set_cons_zero, List.set_cons_succ]
      refine takeV 4 rfl (by intro w h; clear h; go_simp; try with_reducible rfl) (by kernel_rfl) (by kernel_rfl) (by kernel_rfl) (by exact fun _ _ _ h => h) (by rfl) (by assumption) ?_
      try simp only [Act.put, List.setIfInBounds_toArray, List.set_cons_zero, List.set_cons_succ]
      refine takeV 5 rfl (by intro w h; clear h; go_simp; try with_reducible rfl) (by kernel_rfl) (by kernel_rfl) (by kernel_rfl) (by exact fun _ _ _ h => h) (by rfl) (by assumption) ?_
      try simp only [Act.put, List.setIfInBounds_toArray, List.set_cons_zero, List.set_cons_succ]
      refine take_call 6 rfl (by kernel_rfl) (fun K hK => ?_)
      try go_simp
      have H4 := ((H.allocAt 2 rfl w9.heap.size rfl #[.int .u8 106, .int .u8 9, .int .u8 230, .int .u8 103, .int .u8 187, .int .u8 103, .int .u8 174, .int .u8 133] 5).push_mk rfl).drew
      refine hK.out _ _ ?_ (fun hHeld => ?_)
      · exact trivial
      clear hK K
      try simp only [Act.put, List.setIfInBounds_toArray, List.set_cons_zero, List.set_cons_succ]
      clear H
      generalize (w9.alloc (.cells #[.int .u8 106, .int .u8 9, .int .u8 230, .int .u8 103, .int .u8 187, .int .u8 103, .int .u8 174, .int .u8 133] 5)).drew = wy at H4 ⊢
      generalize w9.heap.size = gq at H4 ⊢
      refine take_call 7 rfl (by kernel_rfl) (fun K hK => ?_)
      try go_simp
      refine (sameBytes_yes (some ⟨gf, 0, none⟩) (some ⟨gq, 0, none⟩) 8 8 cf 8 _ [106, 9, 230, 103, 187, 103, 174, 133] wy (Rd.take (H4.rd 1 rfl) (k := 8) (by omega)) (H4.rdBlk 2 rfl 1 8 rfl) (by omega) (by omega) HT.out).mono ?_
      rintro e wx ⟨rfl, hb⟩
      have H := (H4.call hb).front 2
      clear hb H4
      refine hK.out _ _ ?_ (fun hHeld => ?_)
      · exact trivial
      clear hK K
      try simp only [Act.put, List.setIfInBounds_toArray, List.set_cons_zero, List.set_cons_succ]
      refine takeV 8 rfl (by intro w h; clear h; go_simp; try with_reducible rfl) (by kernel_rfl) (by kernel_rfl) (by kernel_rfl) (by exact fun _ _ _ h => h) (by rfl) (by assumption) ?_
      try simp only [Act.put, List.setIfInBounds_toArray, List.set_cons_zero, List.set_cons_succ]
      refine takeV 9 rfl (by intro w h; clear h; go_simp; try with_reducible rfl) (by kernel_rfl) (by kernel_rfl) (by kernel_rfl) (by exact fun _ _ _ h => h) (by rfl) (by assumption) ?_
      try simp only [Act.put, List.setIfInBounds_toArray, List.set_cons_zero, List.set_cons_succ]
      refine takeV 10 rfl (by intro w h; clear h; go_simp; try with_reducible rfl) (by kernel_rfl) (by kernel_rfl) (by kernel_rfl) (by exact fun _ _ _ h => h) (by rfl) (by assumption) ?_
      try simp only [Act.put, List.setIfInBounds_toArray, List.set_cons_zero, List.set_cons_succ]
      refine takeV 11 rfl (by intro w h; clear h; go_simp; try with_reducible rfl) (by kernel_rfl) (by kernel_rfl) (by kernel_rfl) (by exact fun _ _ _ h => h) (by rfl) (by assumption) ?_
      try simp only [Act.put, List.setIfInBounds_toArray, List.set_cons_zero, List.set_cons_succ]
      replace H : St w [] wx (lay [.blk g 77 (sh2S (List.replicate 129 0)), .row 5 1 (.slice (some ⟨gf, 0, none⟩) 104 cf) 104 ((form2 []).map vb)]) := H
      refine take_call 12 rfl (by kernel_rfl) (fun K hK => ?_)
      try go_simp
      have hmk := HMK.out
      try go_simp
      clear hmk
      have H4 := (H.allocAt 2 rfl wx.heap.size rfl (madeCells #[.int .u8 0] 72) 5).push_mk rfl
      refine hK.out _ _ ?_ (fun hHeld => ?_)
      · exact trivial
      clear hK K
      try simp only [Act.put, List.setIfInBounds_toArray, List.set_cons_zero, List.set_cons_succ]
      clear H
      generalize wx.alloc (.cells (madeCells #[.int .u8 0] 72) 5) = wy at H4 ⊢
      generalize wx.heap.size = gq at H4 ⊢
      rw [toList_madeCells_one, ← show (List.replicate 72 (0 : UInt8)).map vb = List.replicate 72 (.int .u8 0) from List.map_replicate ..] at H4
      refine take_call 13 rfl (by kernel_rfl) (fun K hK => ?_)
      try go_simp
      refine (sameBytes_yes _ (some ⟨gq, 0, none⟩) 72 72 (cf - 32) 72 _ (List.replicate 72 0) wy (Rd.drop_if (H4.rd 1 rfl) (x := 32) (by omega) (by omega)) (H4.rdBlk 2 rfl 1 72 (by rw [List.length_map, List.length_replicate])) (by omega) (by omega) HD.out).mono ?_
      rintro e wx ⟨rfl, hb⟩
      have H := (H4.call hb).front 2
      clear hb H4
      refine hK.out _ _ ?_ (fun hHeld => ?_)
      · exact trivial
      clear hK K
      try simp only [Act.put, List.setIfInBounds_toArray, List.set_cons_zero, List.set_cons_succ]
      refine takeV 14 rfl (by intro w h; clear h; go_simp; try with_reducible rfl) (by kernel_rfl) (by kernel_rfl) (by kernel_rfl) (by exact fun _ _ _ h => h) (by rfl) (by assumption) ?_
      try simp only [Act.put, List.setIfInBounds_toArray, List.set_cons_zero, List.set_cons_succ]
      refine takeV 15 rfl (by intro w h; clear h; go_simp; try with_reducible rfl) (by kernel_rfl) (by kernel_rfl) (by kernel_rfl) (by exact fun _ _ _ h => h) (by rfl) (by assumption) ?_
      try simp only [Act.put, List.setIfInBounds_toArray, List.set_cons_zero, List.set_cons_succ]
      refine wpAnyH_done (by kernel_rfl) ?_ _
      go_wp2_with fail
      refine (lives2_s _).mono ?_
      rintro e wz ⟨rfl, hb⟩
      go_wp2
      go_ret
      exact ⟨rfl, (H.call hb).below⟩
end Go.Proofs.Ytcnphkmcgefjoaa
