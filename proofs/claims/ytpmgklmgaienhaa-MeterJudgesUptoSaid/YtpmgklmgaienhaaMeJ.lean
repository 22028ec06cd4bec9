/- meter.Judge: what it tells of any two heaps. -/
import Derived.Test.YtpmgklmgaienhaaMeAb
namespace Go.Proofs.Ytpmgklmgaienhaa
open Go.RowKit
set_option linter.unusedVariables false
set_option maxRecDepth 100000

theorem results_cell1 {P : Program} {fn : Func} {p q : Tmp} {ty : TypeId} (h : fn.results = #[.cell p ty, .tmp q]) (tmps : Array Value) (w : World) (g : Nat) (t : TypeId) (cs : Array Value) (fr : Nat × Nat) (d : TypeDesc)
    (hp : tmps.getD p undef = .pointer (some ⟨g, 0, none⟩)) (hg : w.heap[g]? = some (.cells cs t fr))
    (hu : P.underlying ty = some d) (hd : (match d with | .struct _ | .array _ _ => true | _ => false) = true) (hi : (P.info? ty).map (·.size) = some cs.size) :
    (results fn tmps).run P w = .ok (.tuple #[.agg cs, tmps.getD q undef]) w := by
  have hp' : tmps[p]?.getD undef = .pointer (some ⟨g, 0, none⟩) := by simpa using hp
  simp [results, h, hp', asAddr, run_loadVar_row w g t ty cs fr d hg hu hd hi, Result.andThen]

theorem ver_size : (Try.prog.info? 45).map (·.size) = some 6 := by kernel_rfl
theorem ver_one (a b c d e f : Value) (h : a.oneCell' = true ∧ b.oneCell' = true ∧ c.oneCell' = true ∧ d.oneCell' = true ∧ e.oneCell' = true ∧ f.oneCell' = true) : ∀ v ∈ [a, b, c, d, e, f], v.oneCell' = true := by
  intro v hv
  simp at hv
  rcases hv with rfl | rfl | rfl | rfl | rfl | rfl
  · exact h.1
  · exact h.2.1
  · exact h.2.2.1
  · exact h.2.2.2.1
  · exact h.2.2.2.2.1
  · exact h.2.2.2.2.2
theorem goodRows_pre {rs : List RowM} {j : Nat} : ∀ n, j ≤ n → goodRows rs n = true → goodRows rs j = true := by
  intro n
  induction n with
  | zero => intro h h2; obtain rfl : j = 0 := by omega
            exact h2
  | succ n ih =>
    intro h h2
    by_cases e : j = n + 1
    · subst e; exact h2
    · unfold goodRows at h2
      simp at h2
      exact ih (by omega) h2.1
theorem checkE_ne {l : List RunT} {n : Nat} (h : checkE l n ≠ 0) : goodTo l n = false ∧ checkE l n = 120 := by
  unfold checkE at h ⊢
  cases hg : goodTo l n with
  | true => rw [hg] at h; simp at h
  | false => exact ⟨rfl, rfl⟩
theorem checkE_eq {l : List RunT} {n : Nat} (h : checkE l n = 0) : goodTo l n = true := by
  unfold checkE at h
  cases hg : goodTo l n with
  | true => rfl
  | false => rw [hg] at h; simp at h
theorem verIs_bad {as_ bs : List RowM} (h : judgeE as_ bs ≠ 0) : VerIs as_ bs zeroV := by
  unfold VerIs; rw [if_neg (fun hh => h hh.1)]
theorem judgeE_len {as_ bs : List RowM} (h : as_.length < 2 ∨ bs.length < 2) : judgeE as_ bs = 2 := if_pos h
theorem judgeE_bad {as_ bs : List RowM} (h : ¬ (as_.length < 2 ∨ bs.length < 2)) (h2 : goodRows as_ as_.length = false ∨ goodRows bs bs.length = false) : judgeE as_ bs = 120 := by
  unfold judgeE
  rw [if_neg h, if_neg (fun hh => by rcases h2 with e | e <;> simp [e] at hh)]
theorem judgeE_ok {as_ bs : List RowM} (h : ¬ (as_.length < 2 ∨ bs.length < 2)) (h2 : goodRows as_ as_.length = true) (h3 : goodRows bs bs.length = true) : judgeE as_ bs = 0 := by
  unfold judgeE
  rw [if_neg h, if_pos ⟨h2, h3⟩]
theorem gt0_false (c : Nat) : gtW 0 (c % 2 ^ 63) = false := by
  have hy : c % 2 ^ 63 < 2 ^ 63 := Nat.mod_lt _ (by decide)
  generalize c % 2 ^ 63 = y at hy ⊢
  have h0 : Ieee.double.read 0 = .number false 0 (-1074) := by decide +kernel
  have hd : (y / 2 ^ 63 % 2 == 1) = false := by rw [Nat.div_eq_of_lt hy]; rfl
  have key : ∀ m e, -1074 ≤ e → (Ieee.Datum.number false 0 (-1074)).order (.number false m e) ≠ some Ordering.gt := fun m e he => by
    show some (compare (Ieee.signed false 0 (-1074 - min (-1074) e).toNat) (Ieee.signed false m (e - min (-1074) e).toNat)) ≠ _
    rw [signed_eq, signed_eq]
    intro h
    injection h with h
    have h2 : compare (sg false (0 * 2 ^ (-1074 - min (-1074) e).toNat)) (sg false (m * 2 ^ (e - min (-1074) e).toNat)) ≠ Ordering.gt := by
      simp only [sg, Nat.zero_mul]
      generalize m * 2 ^ (e - min (-1074) e).toNat = M
      rcases Nat.eq_zero_or_pos M with e0 | e0
      · subst e0; show compare (0 : Int) 0 ≠ _; rw [cmp_self]; decide
      · show compare ((0 : Nat) : Int) (M : Int) ≠ _; rw [cmp_lt (show ((0 : Nat) : Int) < (M : Int) by omega)]; decide
    exact h2 h
  have : FloatKind.f64.format.order 0 y ≠ some Ordering.gt := by
    show (Ieee.double.read 0).order (Ieee.double.read y) ≠ _
    rw [h0]
    unfold Ieee.Format.read
    rw [sw_eq, bin_eq, infR_eq, least_eq]
    simp only [hd]
    split
    · exact key _ _ (by omega)
    · split
      · exact key _ _ (by omega)
      · split
        · exact by decide
        · exact by simp [Ieee.Datum.order]
  unfold gtW
  simpa using this
theorem StOk.nonzero {st : VS} (h : StOk st) (h1 : st.1 ≠ 0) : st.2.2 < 2 ^ 64 ∧ absF st.2.2 = some st.2.2 ∧ st.2.2 % 2 ^ 63 ≠ 0 := by
  rcases h with h | ⟨-, -, h2, h3, c, h4⟩
  · rw [h] at h1; exact absurd rfl h1
  · refine ⟨h2, h3, fun e => ?_⟩
    rw [e, gt0_false] at h4
    cases h4
theorem StOk.lt {st : VS} (h : StOk st) : st.2.2 < 2 ^ 64 := by
  rcases h with h | ⟨-, -, h2, -⟩
  · rw [h]; show (0 : Nat) < 2 ^ 64; decide
  · exact h2
def verC (st : VS) : List Value := [.bool false, .int .u8 st.1, .bool st.2.1, .float .f64 st.2.2, .int .i64 0, .float .f64 0]
/-- the two heaps, in a row -/
theorem twoHeaps {T E : TypeId} {u v : Value} (hT : Try.prog.underlying T = some (.array 2 E)) (hs : (Try.prog.info? E).map (·.size) = some 1) (ha : ∀ w, (isAgg E).run Try.prog w = .ok false w) {k : Nat} (w : World) (h : k < 2) : (Instr.index T (.agg #[u, v]) (.int .i64 (k : Int))).run Try.prog w = .ok (if k = 0 then u else v) w :=
  run_index_agg T E 2 #[u, v] k _ hT hs ha h (by
    match k, h with
    | 0, _ => rfl
    | 1, _ => rfl) w

set_option maxHeartbeats 8000000 in
theorem judge_a (A : Option Addr) (n c : Nat) (as_ : List RowM) (B : Option Addr) (m d : Nat) (bs : List RowM) (w : World) (hA : Rd w 1 A n (as_.map rowMV)) (hB : Rd w 1 B m (bs.map rowMV)) (hoA : RowsOk w as_) (hoB : RowsOk w bs) (hn : n ≤ 100000) (hm : m ≤ 100000) :
    Calls Try.prog 27 #[.slice A n c, .slice B m d] w fun e w' => ∃ V, e = .returned (.tuple #[.agg V.toArray, .int .i64 (judgeE as_ bs)]) ∧ Hid (VerIs as_ bs V) ∧ Below w.heap.size w w' := by
  have hla : as_.length = n := by simpa using hA.1
  have hlb : bs.length = m := by simpa using hB.1
  have HLA := Lib.hid hla
  have HLB := Lib.hid hlb
  have RA := Lib.hid hA
  have RB := Lib.hid hB
  have OA := Lib.hid hoA
  have OB := Lib.hid hoB
  clear hA hB hoA hoB
  by_cases hlen : n < 2 ∨ m < 2
  · rw [judgeE_len (by rw [hla, hlb]; exact hlen)]
    have HV : Hid (VerIs as_ bs zeroV) := verIs_bad (by rw [judgeE_len (by rw [hla, hlb]; exact hlen)]; decide)
    clear hla hlb
    have H0 := St.start_lay w []
    have H := H0.allocAt 0 rfl w.heap.size rfl #[.bool false, .int .u8 0, .bool false, .float .f64 0, .int .i64 0, .float .f64 0] 45 |>.push_mk rfl
    clear H0
    by_cases h1 : n < 2
    · have hn2 : decide ((n : Int) < 2) = true := by simp; omega
      go_enter Try.func27, Try.ntmps27
      go_upto_region 2 with (fail)
      refine absorb_wp H ?_
      clear H
      intro w2 H
      generalize w.heap.size = g4 at H ⊢
      replace H : St w [] w2 (lay [.blk g4 45 [.bool false, .int .u8 0, .bool false, .float .f64 0, .int .i64 0, .float .f64 0]]) := H
      go_wp2_with (first | (refine wpList_store_mid rfl 45 (.tmp 4) (.tmp 25) rfl g4 0 #[.bool false, .int .u8 0, .bool false, .float .f64 0, .int .i64 0, .float .f64 0] (by rfl) (by rfl) (H.there 0 rfl) ver_size (all_oneCell_toArray (ver_one _ _ _ _ _ _ ⟨rfl, rfl, rfl, rfl, rfl, rfl⟩)) ?_) | fail)
      have HZ := (H.storeAll 0 rfl (vs := [.bool false, .int .u8 0, .bool false, .float .f64 0, .int .i64 0, .float .f64 0]) rfl).upd_mk (by simp)
      refine bodyPost_ret (results_cell1 rfl _ _ g4 45 _ _ _ rfl (HZ.blk 0 rfl) Try.underlying45 rfl ver_size) rfl ?_
      exact ⟨_, rfl, HV, HZ.below⟩
    · have h2 : m < 2 := by omega
      have hn2 : decide ((n : Int) < 2) = false := by simp; omega
      have hm2 : decide ((m : Int) < 2) = true := by simp; omega
      go_enter Try.func27, Try.ntmps27
      go_upto_region 2 with (fail)
      refine absorb_wp H ?_
      clear H
      intro w2 H
      generalize w.heap.size = g4 at H ⊢
      replace H : St w [] w2 (lay [.blk g4 45 [.bool false, .int .u8 0, .bool false, .float .f64 0, .int .i64 0, .float .f64 0]]) := H
      go_wp2_with (first | (refine wpList_store_mid rfl 45 (.tmp 4) (.tmp 25) rfl g4 0 #[.bool false, .int .u8 0, .bool false, .float .f64 0, .int .i64 0, .float .f64 0] (by rfl) (by rfl) (H.there 0 rfl) ver_size (all_oneCell_toArray (ver_one _ _ _ _ _ _ ⟨rfl, rfl, rfl, rfl, rfl, rfl⟩)) ?_) | fail)
      have HZ := (H.storeAll 0 rfl (vs := [.bool false, .int .u8 0, .bool false, .float .f64 0, .int .i64 0, .float .f64 0]) rfl).upd_mk (by simp)
      refine bodyPost_ret (results_cell1 rfl _ _ g4 45 _ _ _ rfl (HZ.blk 0 rfl) Try.underlying45 rfl ver_size) rfl ?_
      exact ⟨_, rfl, HV, HZ.below⟩
  have hn2 : decide ((n : Int) < 2) = false := by simp; omega
  have hm2 : decide ((m : Int) < 2) = false := by simp; omega
  have H0 := St.start_lay w []
  have H := H0.allocAt 0 rfl w.heap.size rfl #[.bool false, .int .u8 0, .bool false, .float .f64 0, .int .i64 0, .float .f64 0] 45 |>.push_mk rfl
  clear H0 hla hlb
  have HAL := HLA
  have HBL := HLB
  have HAR := RA
  have HBR := RB
  have hix0 : ∀ w, (Instr.index 67 (.agg #[.slice A n c, .slice B m d]) (.int .i64 0)).run Try.prog w = .ok (.slice A n c) w := fun w => twoHeaps Try.underlying67 (by kernel_rfl) (by intro w; kernel_rfl) (k := 0) w (by omega)
  have hix1 : ∀ w, (Instr.index 67 (.agg #[.slice A n c, .slice B m d]) (.int .i64 1)).run Try.prog w = .ok (.slice B m d) w := fun w => twoHeaps Try.underlying67 (by kernel_rfl) (by intro w; kernel_rfl) (k := 1) w (by omega)
  go_enter Try.func27, Try.ntmps27
  go_upto_region 3 with (fail)
  refine absorb_wp H ?_
  clear H
  intro w2 H
  generalize w.heap.size = g4 at H ⊢
  replace H : St w [] w2 (lay [.blk g4 45 [.bool false, .int .u8 0, .bool false, .float .f64 0, .int .i64 0, .float .f64 0]]) := H
  go_wp2
  go_loopw [29] (fun i wr => ∃ q : Int, (q = 0 ∨ q = 1 ∨ q = 2) ∧ i = .int .i64 q ∧ Hid (0 < q → goodRows as_ n = true) ∧ Hid (1 < q → goodRows bs m = true) ∧ St w [] wr (lay [.blk g4 45 [.bool false, .int .u8 0, .bool false, .float .f64 0, .int .i64 0, .float .f64 0]])) (fun i _ => 2 - (intOf i).toNat)
  case atStart => exact ⟨0, .inl rfl, rfl, fun h => by omega, fun h => by omega, H⟩
  case round =>
    clear H
    obtain ⟨q, hq3, rfl, HG1, HG2, H⟩ := hrel
    rcases hq3 with rfl | rfl | rfl
    · go_wp2
      go_loopw [34] (fun i wr => ∃ j : Nat, j ≤ n ∧ i = .int .i64 (j : Int) ∧ Hid (goodRows as_ j = true) ∧ St w [] wr (lay [.blk g4 45 [.bool false, .int .u8 0, .bool false, .float .f64 0, .int .i64 0, .float .f64 0]])) (fun i _ => n - (intOf i).toNat)
      case atStart => exact ⟨0, Nat.zero_le _, rfl, rfl, H⟩
      case round =>
        clear H
        obtain ⟨j, hj, rfl, HG, H⟩ := hrel
        by_cases hlt : j < n
        · obtain ⟨⟨XA, rn, rc, rl⟩, hx⟩ : ∃ x, as_[j]? = some x := ⟨_, List.getElem?_eq_getElem (by rw [HAL.out]; exact hlt)⟩
          have HX := Lib.hid hx
          have rr := H.arg0 HAR.out
          obtain ⟨g, o, he, -, -⟩ := rr.flat (by omega) (by omega)
          subst he
          have cx := heap_cell rr hx
          change wr.cell? ⟨g, o + j, none⟩ = some (.slice XA rn rc) at cx
          have HRow := Lib.hid ((OA.out.st H) _ (List.mem_of_getElem? hx))
          have hji : (j : Int) < n := by omega
          clear hx rr
          go_wp2_with fail
          refine (check_s XA rn rc rl wr HRow.out.1 (Nat.le_trans HRow.out.2.1 (by decide))).mono ?_
          rintro e w4 ⟨rfl, hb⟩
          replace H := H.call hb
          clear hb
          by_cases hc0 : checkE rl rn = 0
          · have HG2 := Lib.hid (goodRows_yes HG.out HX.out (checkE_eq hc0))
            rw [hc0]
            go_wp2
            go_roundw
            case rel => exact ⟨j + 1, by omega, by go_num, HG2, H⟩
            case measure => simp [intOf]; omega
          · obtain ⟨b1, b2⟩ := checkE_ne hc0
            have hbad := goodRows_no hlt HX.out b1
            rw [b2]
            have hje : judgeE as_ bs = 120 := judgeE_bad (by rw [HLA.out, HLB.out]; exact hlen) (by left; rw [HLA.out]; exact hbad)
            have HV : Hid (VerIs as_ bs zeroV) := verIs_bad (by rw [hje]; decide)
            have HJ := Lib.hid hje
            clear hc0 b1 b2 hbad hje
            go_wp2_with (first | (refine wpList_store_mid rfl 45 (.tmp 4) (.tmp 42) rfl g4 0 #[.bool false, .int .u8 0, .bool false, .float .f64 0, .int .i64 0, .float .f64 0] (by rfl) (by rfl) (H.there 0 rfl) ver_size (all_oneCell_toArray (ver_one _ _ _ _ _ _ ⟨rfl, rfl, rfl, rfl, rfl, rfl⟩)) ?_) | fail)
            have HZ := (H.storeAll 0 rfl (vs := [.bool false, .int .u8 0, .bool false, .float .f64 0, .int .i64 0, .float .f64 0]) rfl).upd_mk (by simp)
            refine bodyPost_ret (results_cell1 rfl _ _ g4 45 _ _ _ rfl (HZ.blk 0 rfl) Try.underlying45 rfl ver_size) rfl ?_
            exact ⟨_, by rw [HJ.out]; rfl, HV, HZ.below⟩
        · obtain rfl : j = n := by omega
          have hji : ¬ (j : Int) < j := by omega
          go_wp2
          go_roundw
          case rel => exact ⟨1, .inr (.inl rfl), rfl, fun _ => HG.out, fun h => by omega, H⟩
          case measure => simp [intOf]
    · go_wp2
      go_loopw [34] (fun i wr => ∃ j : Nat, j ≤ m ∧ i = .int .i64 (j : Int) ∧ Hid (goodRows bs j = true) ∧ St w [] wr (lay [.blk g4 45 [.bool false, .int .u8 0, .bool false, .float .f64 0, .int .i64 0, .float .f64 0]])) (fun i _ => m - (intOf i).toNat)
      case atStart => exact ⟨0, Nat.zero_le _, rfl, rfl, H⟩
      case round =>
        clear H
        obtain ⟨j, hj, rfl, HG, H⟩ := hrel
        by_cases hlt : j < m
        · obtain ⟨⟨XA, rn, rc, rl⟩, hx⟩ : ∃ x, bs[j]? = some x := ⟨_, List.getElem?_eq_getElem (by rw [HBL.out]; exact hlt)⟩
          have HX := Lib.hid hx
          have rr := H.arg0 HBR.out
          obtain ⟨g, o, he, -, -⟩ := rr.flat (by omega) (by omega)
          subst he
          have cx := heap_cell rr hx
          change wr.cell? ⟨g, o + j, none⟩ = some (.slice XA rn rc) at cx
          have HRow := Lib.hid ((OB.out.st H) _ (List.mem_of_getElem? hx))
          have hji : (j : Int) < m := by omega
          clear hx rr
          go_wp2_with fail
          refine (check_s XA rn rc rl wr HRow.out.1 (Nat.le_trans HRow.out.2.1 (by decide))).mono ?_
          rintro e w4 ⟨rfl, hb⟩
          replace H := H.call hb
          clear hb
          by_cases hc0 : checkE rl rn = 0
          · have HG2 := Lib.hid (goodRows_yes HG.out HX.out (checkE_eq hc0))
            rw [hc0]
            go_wp2
            go_roundw
            case rel => exact ⟨j + 1, by omega, by go_num, HG2, H⟩
            case measure => simp [intOf]; omega
          · obtain ⟨b1, b2⟩ := checkE_ne hc0
            have hbad := goodRows_no hlt HX.out b1
            rw [b2]
            have hje : judgeE as_ bs = 120 := judgeE_bad (by rw [HLA.out, HLB.out]; exact hlen) (by right; rw [HLB.out]; exact hbad)
            have HV : Hid (VerIs as_ bs zeroV) := verIs_bad (by rw [hje]; decide)
            have HJ := Lib.hid hje
            clear hc0 b1 b2 hbad hje
            go_wp2_with (first | (refine wpList_store_mid rfl 45 (.tmp 4) (.tmp 42) rfl g4 0 #[.bool false, .int .u8 0, .bool false, .float .f64 0, .int .i64 0, .float .f64 0] (by rfl) (by rfl) (H.there 0 rfl) ver_size (all_oneCell_toArray (ver_one _ _ _ _ _ _ ⟨rfl, rfl, rfl, rfl, rfl, rfl⟩)) ?_) | fail)
            have HZ := (H.storeAll 0 rfl (vs := [.bool false, .int .u8 0, .bool false, .float .f64 0, .int .i64 0, .float .f64 0]) rfl).upd_mk (by simp)
            refine bodyPost_ret (results_cell1 rfl _ _ g4 45 _ _ _ rfl (HZ.blk 0 rfl) Try.underlying45 rfl ver_size) rfl ?_
            exact ⟨_, by rw [HJ.out]; rfl, HV, HZ.below⟩
        · obtain rfl : j = m := by omega
          have hji : ¬ (j : Int) < j := by omega
          go_wp2
          go_roundw
          case rel => exact ⟨2, by omega, by go_num, fun _ => HG1.out (by omega), fun _ => HG.out, H⟩
          case measure => simp [intOf]
    · have HGA := Lib.hid (HG1.out (by omega))
      have HGB := Lib.hid (HG2.out (by omega))
      clear HG1 HG2 hix0 hix1
      have HA := H.allocAt 1 rfl wr.heap.size rfl #[.bool false, .int .u8 0, .bool false, .float .f64 0, .int .i64 0, .float .f64 0] 45 |>.push_mk rfl
      have hbx0 : ∀ w, (Instr.index 69 (.agg #[.bool false, .bool true]) (.int .i64 0)).run Try.prog w = .ok (.bool false) w := fun w => twoHeaps Try.underlying69 (by kernel_rfl) (by intro w; kernel_rfl) (k := 0) w (by omega)
      have hbx1 : ∀ w, (Instr.index 69 (.agg #[.bool false, .bool true]) (.int .i64 1)).run Try.prog w = .ok (.bool true) w := fun w => twoHeaps Try.underlying69 (by kernel_rfl) (by intro w; kernel_rfl) (k := 1) w (by omega)
      go_wp2
      refine absorb_wp HA ?_
      clear HA H
      intro w5 H
      generalize wr.heap.size = g11 at H ⊢
      replace H : St w [] w5 (lay [.blk g4 45 [.bool false, .int .u8 0, .bool false, .float .f64 0, .int .i64 0, .float .f64 0], .blk g11 45 (verC (stJ as_ bs (2 * (1 - 1))))]) := H
      go_loopw [12] (fun v wr => ∃ k : Nat, 1 ≤ k ∧ k ≤ 13 ∧ v = .int .u8 (k : Int) ∧ Hid (StOk (stJ as_ bs (2 * (k - 1)))) ∧ St w [] wr (lay [.blk g4 45 [.bool false, .int .u8 0, .bool false, .float .f64 0, .int .i64 0, .float .f64 0], .blk g11 45 (verC (stJ as_ bs (2 * (k - 1))))])) (fun v _ => 13 - (intOf v).toNat)
      case atStart => exact ⟨1, by omega, by omega, rfl, .inl rfl, H⟩
      case round =>
        clear H
        obtain ⟨k, hk1, hk13, rfl, HOK, H⟩ := hrel
        by_cases hk : k < 13
        · have hki : (k : Int) ≤ 12 := by omega
          go_wp2
          go_loopw [51] (fun i wr => ∃ q : Int, (q = 0 ∨ q = 1 ∨ q = 2) ∧ i = .int .i64 q ∧ Hid (StOk (stJ as_ bs (2 * (k - 1) + q.toNat))) ∧ St w [] wr (lay [.blk g4 45 [.bool false, .int .u8 0, .bool false, .float .f64 0, .int .i64 0, .float .f64 0], .blk g11 45 (verC (stJ as_ bs (2 * (k - 1) + q.toNat)))])) (fun i _ => 2 - (intOf i).toNat)
          case atStart => exact ⟨0, .inl rfl, rfl, HOK, H⟩
          case round =>
            clear H HOK
            obtain ⟨q, hq3, rfl, HOK, H⟩ := hrel
            rcases hq3 with rfl | rfl | rfl
            · have hN : stJ as_ bs (2 * (k - 1) + (1 : Int).toNat) = stepJ (tJ as_ bs (k : Int) false) (k : Int) false (stJ as_ bs (2 * (k - 1) + (0 : Int).toNat)) := by
                rw [show 2 * (k - 1) + (1 : Int).toNat = (2 * (k - 1) + (0 : Int).toNat) + 1 by omega]
                show stepJ _ _ _ _ = _
                rw [show (((2 * (k - 1) + (0 : Int).toNat) / 2 : Nat) : Int) + 1 = (k : Int) by omega, show ((2 * (k - 1) + (0 : Int).toNat) % 2 == 1) = false by rw [show (2 * (k - 1) + (0 : Int).toNat) % 2 = 0 by omega]; rfl]
              have HN := Lib.hid hN
              clear hN
              generalize stJ as_ bs (2 * (k - 1) + (0 : Int).toNat) = st at H HN HOK
              go_wp2_with fail
              refine (column_a A n c as_ (k : Int) false wr (H.arg0 RA.out) (OA.out.st H) hn).mono ?_
              rintro e w6 ⟨v1, X, rfl, ho, HX, hb⟩
              have hxl : X.length = n := by have h := congrArg List.length HX.out; simp [colO] at h; have := HLA.out; omega
              unfold OwnR at ho
              rw [hxl] at ho
              have HXL := Lib.hid hxl
              replace H := (H.pushRow 2 rfl hb ho).push_mk rfl
              clear hb ho hxl
              obtain ⟨A1, c1, rfl, -, -⟩ := row_form (H.row 2 rfl)
              go_wp2_with fail
              refine (column_a B m d bs (k : Int) false w6 (H.arg0 RB.out) (OB.out.st H) hm).mono ?_
              rintro e w7 ⟨v2, Y, rfl, ho, HY, hb⟩
              have hyl : Y.length = m := by have h := congrArg List.length HY.out; simp [colO] at h; have := HLB.out; omega
              unfold OwnR at ho
              rw [hyl] at ho
              have HYL := Lib.hid hyl
              replace H := (H.pushRow 3 rfl hb ho).push_mk rfl
              clear hb ho hyl
              obtain ⟨A2, c2, rfl, -, -⟩ := row_form (H.row 3 rfl)
              go_wp2_with fail
              refine (t_a A1 A2 n m c1 c2 X Y w7 (H.rd 2 rfl) (H.rd 3 rfl) (by omega) (by omega)).mono ?_
              rintro e w8 ⟨r, q1, rfl, HT, rfl⟩
              have hT : absF r = tJ as_ bs (k : Int) false := by
                have h := tJ_of (as_ := as_) (bs := bs) (kk := (k : Int)) (s := false) (X := X) (Y := Y) (by rw [HLA.out]; exact HX.out) (by rw [HLB.out]; exact HY.out)
                rw [HLA.out, HLB.out] at h
                rw [HT.out]; exact h
              have hlt0 : ∀ x, tJ as_ bs (k : Int) false = some x → x < 2 ^ 64 ∧ absF x = some x := fun x hx => by
                refine ⟨tA_lt hx, ?_⟩
                rw [hx] at hT
                obtain ⟨rfl, -⟩ := absF_s hT
                exact hT
              have HOK2 := Lib.hid (stepJ_ok (t := tJ as_ bs (k : Int) false) (k := (k : Int)) (s := false) HOK.out ⟨by omega, by omega⟩ hlt0)
              replace H := (H.drewN q1).front 2
              replace H : St w [] (w7.drewN q1) (lay [.blk g4 45 [.bool false, .int .u8 0, .bool false, .float .f64 0, .int .i64 0, .float .f64 0], .blk g11 45 (verC st)]) := H
              clear HT HX HY HXL HYL
              generalize tJ as_ bs (k : Int) false = o at hT hlt0 HN HOK2
              cases o with
              | none =>
                have o1 := ordN1 r (absF_n hT)
                have hlt : (0 : Nat) < 2 ^ 64 := by decide
                have hwt : wtO none = 0 % 2 ^ 63 := rfl
                have hgd : (none : Option Nat).getD 0 = 0 := rfl
                clear hT hlt0
                go_wp2
                clear o1
                have HW := H
                replace H := H.drew
                refine wp_region_held_drew (S := fun w' : World => w'.cell? ⟨g11, 3, none⟩ = some (.float .f64 st.2.2)) (by kernel_rfl) ?_ (fun hHeld => ?_)
                · exact H.cell 1 rfl (o := 3) (u := .float .f64 st.2.2) rfl
                refine takeV 0 rfl (by intro w h; clear h; go_simp; try with_reducible rfl) (by kernel_rfl) (by kernel_rfl) (by kernel_rfl) (by exact fun _ _ _ h => h) (by rfl) (by assumption) ?_
                try simp only [Act.put, List.setIfInBounds_toArray, List.set_cons_zero, List.set_cons_succ]
                refine takeV 2 rfl (by intro w h; clear h; go_simp; try with_reducible rfl) (by kernel_rfl) (by kernel_rfl) (by kernel_rfl) (by exact fun _ _ _ h => h) (by rfl) (by assumption) ?_
                try simp only [Act.put, List.setIfInBounds_toArray, List.set_cons_zero, List.set_cons_succ]
                refine takeV 3 rfl (by intro w h; have hc := h; clear h; go_simp; try with_reducible rfl) (by kernel_rfl) (by kernel_rfl) (by kernel_rfl) (by exact fun _ _ _ h => h) (by rfl) (by assumption) ?_
                try simp only [Act.put, List.setIfInBounds_toArray, List.set_cons_zero, List.set_cons_succ]
                refine take_call 1 rfl (by kernel_rfl) (fun K hK => ?_)
                try go_simp
                refine (abs_s 0 _ hlt).mono ?_
                rintro e wx ⟨rfl, rfl⟩
                refine hK.out _ _ ?_ (fun hHeld => ?_)
                · exact H.cell 1 rfl (o := 3) (u := .float .f64 st.2.2) rfl
                clear hK K
                try simp only [Act.put, List.setIfInBounds_toArray, List.set_cons_zero, List.set_cons_succ]
                refine take_call 4 rfl (by kernel_rfl) (fun K hK => ?_)
                try go_simp
                refine (abs_s st.2.2 _ HOK.out.lt).mono ?_
                rintro e wx ⟨rfl, rfl⟩
                refine hK.out _ _ ?_ (fun hHeld => ?_)
                · exact H.cell 1 rfl (o := 3) (u := .float .f64 st.2.2) rfl
                clear hK K
                try simp only [Act.put, List.setIfInBounds_toArray, List.set_cons_zero, List.set_cons_succ]
                by_cases hg : gtW (0 % 2 ^ 63) (st.2.2 % 2 ^ 63) = true
                · have hg2 := hg
                  unfold gtW at hg2
                  refine take_pure 5 (.bool true) rfl (by kernel_rfl) (by kernel_rfl) (by kernel_rfl) (fun _ _ _ h => h) rfl (by intro w hSw; go_simp; try with_reducible rfl) (by assumption) ?_
                  try simp only [Act.put, List.setIfInBounds_toArray, List.set_cons_zero, List.set_cons_succ]
                  refine wpAnyH_done (by kernel_rfl) ?_ _
                  clear hHeld hg2
                  have HNX : Hid (stJ as_ bs (2 * (k - 1) + (1 : Int).toNat) = ((k : Int), false, 0)) := by
                    unfold Hid; rw [HN.out]; unfold stepJ; rw [hwt, if_pos hg, hgd]
                  have HO2 : Hid (StOk ((k : Int), false, 0)) := by
                    have h := HOK2.out
                    rw [← HN.out, HNX.out] at h
                    exact h
                  clear hwt hgd hg
                  have HW2 : St w [] (w7.drewN (q1 + 1)) (lay [.blk g4 45 [.bool false, .int .u8 0, .bool false, .float .f64 0, .int .i64 0, .float .f64 0], .blk g11 45 (verC st)]) := HW.drew
                  clear HW H
                  go_upto_region 25 with (fail)
                  refine absorb_wp HW2 ?_
                  clear HW2
                  intro w9 HW
                  have HS := (HW.storeAll 1 rfl (vs := verC ((k : Int), false, 0)) rfl).upd_mk (by simp)
                  have hth : w9.there g11 0 6 := HW.there 1 rfl
                  clear HW
                  go_wp2_with (first | (refine wpList_store_mid (op := { dst := none, op := Op.store 45 (.tmp 11) (.tmp 78), type := _, pos := _, after := _, guard := none }) rfl 45 (.tmp 11) (.tmp 78) rfl g11 0 #[.bool false, .int .u8 (k : Int), .bool false, .float .f64 (0), .int .i64 0, .float .f64 0] (by rfl) (by rfl) hth ver_size (all_oneCell_toArray (ver_one _ _ _ _ _ _ ⟨rfl, rfl, rfl, rfl, rfl, rfl⟩)) ?_) | fail)
                  go_roundw
                  case rel => exact ⟨1, .inr (.inl rfl), rfl, by rw [HNX.out]; exact HO2, by rw [HNX.out]; exact HS⟩
                  case measure => simp [intOf]
                · have hg0 : gtW (0 % 2 ^ 63) (st.2.2 % 2 ^ 63) = false := by simpa using hg
                  have hg2 := hg0
                  unfold gtW at hg2
                  refine take_pure 5 (.bool false) rfl (by kernel_rfl) (by kernel_rfl) (by kernel_rfl) (fun _ _ _ h => h) rfl (by intro w hSw; go_simp; try with_reducible rfl) (by assumption) ?_
                  try simp only [Act.put, List.setIfInBounds_toArray, List.set_cons_zero, List.set_cons_succ]
                  refine wpAnyH_done (by kernel_rfl) ?_ _
                  clear hHeld hg2
                  have HNX : Hid (stJ as_ bs (2 * (k - 1) + (1 : Int).toNat) = st) := by
                    unfold Hid; rw [HN.out]; unfold stepJ; rw [hwt, if_neg hg]
                  clear hwt hgd hg hg0
                  go_wp2
                  go_roundw
                  case rel => exact ⟨1, .inr (.inl rfl), rfl, by rw [HNX.out]; exact HOK, by rw [HNX.out]; exact HW.drew⟩
                  case measure => simp [intOf]
              | some x =>
                obtain ⟨rfl, hnn⟩ := absF_s hT
                have o1 := ord_self hnn
                have hlt := (hlt0 r rfl).1
                have hwt : wtO (some r) = r % 2 ^ 63 := rfl
                have hgd : (some r).getD 0 = r := rfl
                clear hT hlt0 hnn
                go_wp2
                clear o1
                have HW := H
                replace H := H.drew
                refine wp_region_held_drew (S := fun w' : World => w'.cell? ⟨g11, 3, none⟩ = some (.float .f64 st.2.2)) (by kernel_rfl) ?_ (fun hHeld => ?_)
                · exact H.cell 1 rfl (o := 3) (u := .float .f64 st.2.2) rfl
                refine takeV 0 rfl (by intro w h; clear h; go_simp; try with_reducible rfl) (by kernel_rfl) (by kernel_rfl) (by kernel_rfl) (by exact fun _ _ _ h => h) (by rfl) (by assumption) ?_
                try simp only [Act.put, List.setIfInBounds_toArray, List.set_cons_zero, List.set_cons_succ]
                refine takeV 2 rfl (by intro w h; clear h; go_simp; try with_reducible rfl) (by kernel_rfl) (by kernel_rfl) (by kernel_rfl) (by exact fun _ _ _ h => h) (by rfl) (by assumption) ?_
                try simp only [Act.put, List.setIfInBounds_toArray, List.set_cons_zero, List.set_cons_succ]
                refine takeV 3 rfl (by intro w h; have hc := h; clear h; go_simp; try with_reducible rfl) (by kernel_rfl) (by kernel_rfl) (by kernel_rfl) (by exact fun _ _ _ h => h) (by rfl) (by assumption) ?_
                try simp only [Act.put, List.setIfInBounds_toArray, List.set_cons_zero, List.set_cons_succ]
                refine take_call 1 rfl (by kernel_rfl) (fun K hK => ?_)
                try go_simp
                refine (abs_s r _ hlt).mono ?_
                rintro e wx ⟨rfl, rfl⟩
                refine hK.out _ _ ?_ (fun hHeld => ?_)
                · exact H.cell 1 rfl (o := 3) (u := .float .f64 st.2.2) rfl
                clear hK K
                try simp only [Act.put, List.setIfInBounds_toArray, List.set_cons_zero, List.set_cons_succ]
                refine take_call 4 rfl (by kernel_rfl) (fun K hK => ?_)
                try go_simp
                refine (abs_s st.2.2 _ HOK.out.lt).mono ?_
                rintro e wx ⟨rfl, rfl⟩
                refine hK.out _ _ ?_ (fun hHeld => ?_)
                · exact H.cell 1 rfl (o := 3) (u := .float .f64 st.2.2) rfl
                clear hK K
                try simp only [Act.put, List.setIfInBounds_toArray, List.set_cons_zero, List.set_cons_succ]
                by_cases hg : gtW (r % 2 ^ 63) (st.2.2 % 2 ^ 63) = true
                · have hg2 := hg
                  unfold gtW at hg2
                  refine take_pure 5 (.bool true) rfl (by kernel_rfl) (by kernel_rfl) (by kernel_rfl) (fun _ _ _ h => h) rfl (by intro w hSw; go_simp; try with_reducible rfl) (by assumption) ?_
                  try simp only [Act.put, List.setIfInBounds_toArray, List.set_cons_zero, List.set_cons_succ]
                  refine wpAnyH_done (by kernel_rfl) ?_ _
                  clear hHeld hg2
                  have HNX : Hid (stJ as_ bs (2 * (k - 1) + (1 : Int).toNat) = ((k : Int), false, r)) := by
                    unfold Hid; rw [HN.out]; unfold stepJ; rw [hwt, if_pos hg, hgd]
                  have HO2 : Hid (StOk ((k : Int), false, r)) := by
                    have h := HOK2.out
                    rw [← HN.out, HNX.out] at h
                    exact h
                  clear hwt hgd hg
                  have HW2 : St w [] (w7.drewN (q1 + 1)) (lay [.blk g4 45 [.bool false, .int .u8 0, .bool false, .float .f64 0, .int .i64 0, .float .f64 0], .blk g11 45 (verC st)]) := HW.drew
                  clear HW H
                  go_upto_region 25 with (fail)
                  refine absorb_wp HW2 ?_
                  clear HW2
                  intro w9 HW
                  have HS := (HW.storeAll 1 rfl (vs := verC ((k : Int), false, r)) rfl).upd_mk (by simp)
                  have hth : w9.there g11 0 6 := HW.there 1 rfl
                  clear HW
                  go_wp2_with (first | (refine wpList_store_mid (op := { dst := none, op := Op.store 45 (.tmp 11) (.tmp 78), type := _, pos := _, after := _, guard := none }) rfl 45 (.tmp 11) (.tmp 78) rfl g11 0 #[.bool false, .int .u8 (k : Int), .bool false, .float .f64 (r), .int .i64 0, .float .f64 0] (by rfl) (by rfl) hth ver_size (all_oneCell_toArray (ver_one _ _ _ _ _ _ ⟨rfl, rfl, rfl, rfl, rfl, rfl⟩)) ?_) | fail)
                  go_roundw
                  case rel => exact ⟨1, .inr (.inl rfl), rfl, by rw [HNX.out]; exact HO2, by rw [HNX.out]; exact HS⟩
                  case measure => simp [intOf]
                · have hg0 : gtW (r % 2 ^ 63) (st.2.2 % 2 ^ 63) = false := by simpa using hg
                  have hg2 := hg0
                  unfold gtW at hg2
                  refine take_pure 5 (.bool false) rfl (by kernel_rfl) (by kernel_rfl) (by kernel_rfl) (fun _ _ _ h => h) rfl (by intro w hSw; go_simp; try with_reducible rfl) (by assumption) ?_
                  try simp only [Act.put, List.setIfInBounds_toArray, List.set_cons_zero, List.set_cons_succ]
                  refine wpAnyH_done (by kernel_rfl) ?_ _
                  clear hHeld hg2
                  have HNX : Hid (stJ as_ bs (2 * (k - 1) + (1 : Int).toNat) = st) := by
                    unfold Hid; rw [HN.out]; unfold stepJ; rw [hwt, if_neg hg]
                  clear hwt hgd hg hg0
                  go_wp2
                  go_roundw
                  case rel => exact ⟨1, .inr (.inl rfl), rfl, by rw [HNX.out]; exact HOK, by rw [HNX.out]; exact HW.drew⟩
                  case measure => simp [intOf]
            · have hN : stJ as_ bs (2 * (k - 1) + (2 : Int).toNat) = stepJ (tJ as_ bs (k : Int) true) (k : Int) true (stJ as_ bs (2 * (k - 1) + (1 : Int).toNat)) := by
                rw [show 2 * (k - 1) + (2 : Int).toNat = (2 * (k - 1) + (1 : Int).toNat) + 1 by omega]
                show stepJ _ _ _ _ = _
                rw [show (((2 * (k - 1) + (1 : Int).toNat) / 2 : Nat) : Int) + 1 = (k : Int) by omega, show ((2 * (k - 1) + (1 : Int).toNat) % 2 == 1) = true by rw [show (2 * (k - 1) + (1 : Int).toNat) % 2 = 1 by omega]; rfl]
              have HN := Lib.hid hN
              clear hN
              generalize stJ as_ bs (2 * (k - 1) + (1 : Int).toNat) = st at H HN HOK
              go_wp2_with fail
              refine (column_a A n c as_ (k : Int) true wr (H.arg0 RA.out) (OA.out.st H) hn).mono ?_
              rintro e w6 ⟨v1, X, rfl, ho, HX, hb⟩
              have hxl : X.length = n := by have h := congrArg List.length HX.out; simp [colO] at h; have := HLA.out; omega
              unfold OwnR at ho
              rw [hxl] at ho
              have HXL := Lib.hid hxl
              replace H := (H.pushRow 2 rfl hb ho).push_mk rfl
              clear hb ho hxl
              obtain ⟨A1, c1, rfl, -, -⟩ := row_form (H.row 2 rfl)
              go_wp2_with fail
              refine (column_a B m d bs (k : Int) true w6 (H.arg0 RB.out) (OB.out.st H) hm).mono ?_
              rintro e w7 ⟨v2, Y, rfl, ho, HY, hb⟩
              have hyl : Y.length = m := by have h := congrArg List.length HY.out; simp [colO] at h; have := HLB.out; omega
              unfold OwnR at ho
              rw [hyl] at ho
              have HYL := Lib.hid hyl
              replace H := (H.pushRow 3 rfl hb ho).push_mk rfl
              clear hb ho hyl
              obtain ⟨A2, c2, rfl, -, -⟩ := row_form (H.row 3 rfl)
              go_wp2_with fail
              refine (t_a A1 A2 n m c1 c2 X Y w7 (H.rd 2 rfl) (H.rd 3 rfl) (by omega) (by omega)).mono ?_
              rintro e w8 ⟨r, q1, rfl, HT, rfl⟩
              have hT : absF r = tJ as_ bs (k : Int) true := by
                have h := tJ_of (as_ := as_) (bs := bs) (kk := (k : Int)) (s := true) (X := X) (Y := Y) (by rw [HLA.out]; exact HX.out) (by rw [HLB.out]; exact HY.out)
                rw [HLA.out, HLB.out] at h
                rw [HT.out]; exact h
              have hlt0 : ∀ x, tJ as_ bs (k : Int) true = some x → x < 2 ^ 64 ∧ absF x = some x := fun x hx => by
                refine ⟨tA_lt hx, ?_⟩
                rw [hx] at hT
                obtain ⟨rfl, -⟩ := absF_s hT
                exact hT
              have HOK2 := Lib.hid (stepJ_ok (t := tJ as_ bs (k : Int) true) (k := (k : Int)) (s := true) HOK.out ⟨by omega, by omega⟩ hlt0)
              replace H := (H.drewN q1).front 2
              replace H : St w [] (w7.drewN q1) (lay [.blk g4 45 [.bool false, .int .u8 0, .bool false, .float .f64 0, .int .i64 0, .float .f64 0], .blk g11 45 (verC st)]) := H
              clear HT HX HY HXL HYL
              generalize tJ as_ bs (k : Int) true = o at hT hlt0 HN HOK2
              cases o with
              | none =>
                have o1 := ordN1 r (absF_n hT)
                have hlt : (0 : Nat) < 2 ^ 64 := by decide
                have hwt : wtO none = 0 % 2 ^ 63 := rfl
                have hgd : (none : Option Nat).getD 0 = 0 := rfl
                clear hT hlt0
                go_wp2
                clear o1
                have HW := H
                replace H := H.drew
                refine wp_region_held_drew (S := fun w' : World => w'.cell? ⟨g11, 3, none⟩ = some (.float .f64 st.2.2)) (by kernel_rfl) ?_ (fun hHeld => ?_)
                · exact H.cell 1 rfl (o := 3) (u := .float .f64 st.2.2) rfl
                refine takeV 0 rfl (by intro w h; clear h; go_simp; try with_reducible rfl) (by kernel_rfl) (by kernel_rfl) (by kernel_rfl) (by exact fun _ _ _ h => h) (by rfl) (by assumption) ?_
                try simp only [Act.put, List.setIfInBounds_toArray, List.set_cons_zero, List.set_cons_succ]
                refine takeV 2 rfl (by intro w h; clear h; go_simp; try with_reducible rfl) (by kernel_rfl) (by kernel_rfl) (by kernel_rfl) (by exact fun _ _ _ h => h) (by rfl) (by assumption) ?_
                try simp only [Act.put, List.setIfInBounds_toArray, List.set_cons_zero, List.set_cons_succ]
                refine takeV 3 rfl (by intro w h; have hc := h; clear h; go_simp; try with_reducible rfl) (by kernel_rfl) (by kernel_rfl) (by kernel_rfl) (by exact fun _ _ _ h => h) (by rfl) (by assumption) ?_
                try simp only [Act.put, List.setIfInBounds_toArray, List.set_cons_zero, List.set_cons_succ]
                refine take_call 1 rfl (by kernel_rfl) (fun K hK => ?_)
                try go_simp
                refine (abs_s 0 _ hlt).mono ?_
                rintro e wx ⟨rfl, rfl⟩
                refine hK.out _ _ ?_ (fun hHeld => ?_)
                · exact H.cell 1 rfl (o := 3) (u := .float .f64 st.2.2) rfl
                clear hK K
                try simp only [Act.put, List.setIfInBounds_toArray, List.set_cons_zero, List.set_cons_succ]
                refine take_call 4 rfl (by kernel_rfl) (fun K hK => ?_)
                try go_simp
                refine (abs_s st.2.2 _ HOK.out.lt).mono ?_
                rintro e wx ⟨rfl, rfl⟩
                refine hK.out _ _ ?_ (fun hHeld => ?_)
                · exact H.cell 1 rfl (o := 3) (u := .float .f64 st.2.2) rfl
                clear hK K
                try simp only [Act.put, List.setIfInBounds_toArray, List.set_cons_zero, List.set_cons_succ]
                by_cases hg : gtW (0 % 2 ^ 63) (st.2.2 % 2 ^ 63) = true
                · have hg2 := hg
                  unfold gtW at hg2
                  refine take_pure 5 (.bool true) rfl (by kernel_rfl) (by kernel_rfl) (by kernel_rfl) (fun _ _ _ h => h) rfl (by intro w hSw; go_simp; try with_reducible rfl) (by assumption) ?_
                  try simp only [Act.put, List.setIfInBounds_toArray, List.set_cons_zero, List.set_cons_succ]
                  refine wpAnyH_done (by kernel_rfl) ?_ _
                  clear hHeld hg2
                  have HNX : Hid (stJ as_ bs (2 * (k - 1) + (2 : Int).toNat) = ((k : Int), true, 0)) := by
                    unfold Hid; rw [HN.out]; unfold stepJ; rw [hwt, if_pos hg, hgd]
                  have HO2 : Hid (StOk ((k : Int), true, 0)) := by
                    have h := HOK2.out
                    rw [← HN.out, HNX.out] at h
                    exact h
                  clear hwt hgd hg
                  have HW2 : St w [] (w7.drewN (q1 + 1)) (lay [.blk g4 45 [.bool false, .int .u8 0, .bool false, .float .f64 0, .int .i64 0, .float .f64 0], .blk g11 45 (verC st)]) := HW.drew
                  clear HW H
                  go_upto_region 25 with (fail)
                  refine absorb_wp HW2 ?_
                  clear HW2
                  intro w9 HW
                  have HS := (HW.storeAll 1 rfl (vs := verC ((k : Int), true, 0)) rfl).upd_mk (by simp)
                  have hth : w9.there g11 0 6 := HW.there 1 rfl
                  clear HW
                  go_wp2_with (first | (refine wpList_store_mid (op := { dst := none, op := Op.store 45 (.tmp 11) (.tmp 78), type := _, pos := _, after := _, guard := none }) rfl 45 (.tmp 11) (.tmp 78) rfl g11 0 #[.bool false, .int .u8 (k : Int), .bool true, .float .f64 (0), .int .i64 0, .float .f64 0] (by rfl) (by rfl) hth ver_size (all_oneCell_toArray (ver_one _ _ _ _ _ _ ⟨rfl, rfl, rfl, rfl, rfl, rfl⟩)) ?_) | fail)
                  go_roundw
                  case rel => exact ⟨2, .inr (.inr rfl), rfl, by rw [HNX.out]; exact HO2, by rw [HNX.out]; exact HS⟩
                  case measure => simp [intOf]
                · have hg0 : gtW (0 % 2 ^ 63) (st.2.2 % 2 ^ 63) = false := by simpa using hg
                  have hg2 := hg0
                  unfold gtW at hg2
                  refine take_pure 5 (.bool false) rfl (by kernel_rfl) (by kernel_rfl) (by kernel_rfl) (fun _ _ _ h => h) rfl (by intro w hSw; go_simp; try with_reducible rfl) (by assumption) ?_
                  try simp only [Act.put, List.setIfInBounds_toArray, List.set_cons_zero, List.set_cons_succ]
                  refine wpAnyH_done (by kernel_rfl) ?_ _
                  clear hHeld hg2
                  have HNX : Hid (stJ as_ bs (2 * (k - 1) + (2 : Int).toNat) = st) := by
                    unfold Hid; rw [HN.out]; unfold stepJ; rw [hwt, if_neg hg]
                  clear hwt hgd hg hg0
                  go_wp2
                  go_roundw
                  case rel => exact ⟨2, .inr (.inr rfl), rfl, by rw [HNX.out]; exact HOK, by rw [HNX.out]; exact HW.drew⟩
                  case measure => simp [intOf]
              | some x =>
                obtain ⟨rfl, hnn⟩ := absF_s hT
                have o1 := ord_self hnn
                have hlt := (hlt0 r rfl).1
                have hwt : wtO (some r) = r % 2 ^ 63 := rfl
                have hgd : (some r).getD 0 = r := rfl
                clear hT hlt0 hnn
                go_wp2
                clear o1
                have HW := H
                replace H := H.drew
                refine wp_region_held_drew (S := fun w' : World => w'.cell? ⟨g11, 3, none⟩ = some (.float .f64 st.2.2)) (by kernel_rfl) ?_ (fun hHeld => ?_)
                · exact H.cell 1 rfl (o := 3) (u := .float .f64 st.2.2) rfl
                refine takeV 0 rfl (by intro w h; clear h; go_simp; try with_reducible rfl) (by kernel_rfl) (by kernel_rfl) (by kernel_rfl) (by exact fun _ _ _ h => h) (by rfl) (by assumption) ?_
                try simp only [Act.put, List.setIfInBounds_toArray, List.set_cons_zero, List.set_cons_succ]
                refine takeV 2 rfl (by intro w h; clear h; go_simp; try with_reducible rfl) (by kernel_rfl) (by kernel_rfl) (by kernel_rfl) (by exact fun _ _ _ h => h) (by rfl) (by assumption) ?_
                try simp only [Act.put, List.setIfInBounds_toArray, List.set_cons_zero, List.set_cons_succ]
                refine takeV 3 rfl (by intro w h; have hc := h; clear h; go_simp; try with_reducible rfl) (by kernel_rfl) (by kernel_rfl) (by kernel_rfl) (by exact fun _ _ _ h => h) (by rfl) (by assumption) ?_
                try simp only [Act.put, List.setIfInBounds_toArray, List.set_cons_zero, List.set_cons_succ]
                refine take_call 1 rfl (by kernel_rfl) (fun K hK => ?_)
                try go_simp
                refine (abs_s r _ hlt).mono ?_
                rintro e wx ⟨rfl, rfl⟩
                refine hK.out _ _ ?_ (fun hHeld => ?_)
                · exact H.cell 1 rfl (o := 3) (u := .float .f64 st.2.2) rfl
                clear hK K
                try simp only [Act.put, List.setIfInBounds_toArray, List.set_cons_zero, List.set_cons_succ]
                refine take_call 4 rfl (by kernel_rfl) (fun K hK => ?_)
                try go_simp
                refine (abs_s st.2.2 _ HOK.out.lt).mono ?_
                rintro e wx ⟨rfl, rfl⟩
                refine hK.out _ _ ?_ (fun hHeld => ?_)
                · exact H.cell 1 rfl (o := 3) (u := .float .f64 st.2.2) rfl
                clear hK K
                try simp only [Act.put, List.setIfInBounds_toArray, List.set_cons_zero, List.set_cons_succ]
                by_cases hg : gtW (r % 2 ^ 63) (st.2.2 % 2 ^ 63) = true
                · have hg2 := hg
                  unfold gtW at hg2
                  refine take_pure 5 (.bool true) rfl (by kernel_rfl) (by kernel_rfl) (by kernel_rfl) (fun _ _ _ h => h) rfl (by intro w hSw; go_simp; try with_reducible rfl) (by assumption) ?_
                  try simp only [Act.put, List.setIfInBounds_toArray, List.set_cons_zero, List.set_cons_succ]
                  refine wpAnyH_done (by kernel_rfl) ?_ _
                  clear hHeld hg2
                  have HNX : Hid (stJ as_ bs (2 * (k - 1) + (2 : Int).toNat) = ((k : Int), true, r)) := by
                    unfold Hid; rw [HN.out]; unfold stepJ; rw [hwt, if_pos hg, hgd]
                  have HO2 : Hid (StOk ((k : Int), true, r)) := by
                    have h := HOK2.out
                    rw [← HN.out, HNX.out] at h
                    exact h
                  clear hwt hgd hg
                  have HW2 : St w [] (w7.drewN (q1 + 1)) (lay [.blk g4 45 [.bool false, .int .u8 0, .bool false, .float .f64 0, .int .i64 0, .float .f64 0], .blk g11 45 (verC st)]) := HW.drew
                  clear HW H
                  go_upto_region 25 with (fail)
                  refine absorb_wp HW2 ?_
                  clear HW2
                  intro w9 HW
                  have HS := (HW.storeAll 1 rfl (vs := verC ((k : Int), true, r)) rfl).upd_mk (by simp)
                  have hth : w9.there g11 0 6 := HW.there 1 rfl
                  clear HW
                  go_wp2_with (first | (refine wpList_store_mid (op := { dst := none, op := Op.store 45 (.tmp 11) (.tmp 78), type := _, pos := _, after := _, guard := none }) rfl 45 (.tmp 11) (.tmp 78) rfl g11 0 #[.bool false, .int .u8 (k : Int), .bool true, .float .f64 (r), .int .i64 0, .float .f64 0] (by rfl) (by rfl) hth ver_size (all_oneCell_toArray (ver_one _ _ _ _ _ _ ⟨rfl, rfl, rfl, rfl, rfl, rfl⟩)) ?_) | fail)
                  go_roundw
                  case rel => exact ⟨2, .inr (.inr rfl), rfl, by rw [HNX.out]; exact HO2, by rw [HNX.out]; exact HS⟩
                  case measure => simp [intOf]
                · have hg0 : gtW (r % 2 ^ 63) (st.2.2 % 2 ^ 63) = false := by simpa using hg
                  have hg2 := hg0
                  unfold gtW at hg2
                  refine take_pure 5 (.bool false) rfl (by kernel_rfl) (by kernel_rfl) (by kernel_rfl) (fun _ _ _ h => h) rfl (by intro w hSw; go_simp; try with_reducible rfl) (by assumption) ?_
                  try simp only [Act.put, List.setIfInBounds_toArray, List.set_cons_zero, List.set_cons_succ]
                  refine wpAnyH_done (by kernel_rfl) ?_ _
                  clear hHeld hg2
                  have HNX : Hid (stJ as_ bs (2 * (k - 1) + (2 : Int).toNat) = st) := by
                    unfold Hid; rw [HN.out]; unfold stepJ; rw [hwt, if_neg hg]
                  clear hwt hgd hg hg0
                  go_wp2
                  go_roundw
                  case rel => exact ⟨2, .inr (.inr rfl), rfl, by rw [HNX.out]; exact HOK, by rw [HNX.out]; exact HW.drew⟩
                  case measure => simp [intOf]
            · have HK2 : Hid (StOk (stJ as_ bs (2 * (k + 1 - 1)))) := by
                have h := HOK.out
                rwa [show 2 * (k - 1) + (2 : Int).toNat = 2 * (k + 1 - 1) by omega] at h
              rw [show 2 * (k - 1) + (2 : Int).toNat = 2 * (k + 1 - 1) by omega] at H
              go_wp2
              go_roundw
              case rel => exact ⟨k + 1, by omega, by omega, by go_num, HK2, H⟩
              case measure => simp [intOf]; omega
        · obtain rfl : k = 13 := by omega
          have HJ : Hid (judgeE as_ bs = 0) := judgeE_ok (by rw [HLA.out, HLB.out]; exact hlen) (by rw [HLA.out]; exact HGA.out) (by rw [HLB.out]; exact HGB.out)
          have hki : ¬ ((13 : Nat) : Int) ≤ 12 := by omega
          change Hid (StOk (stJ as_ bs 24)) at HOK
          change St w [] wr (lay [.blk g4 45 [.bool false, .int .u8 0, .bool false, .float .f64 0, .int .i64 0, .float .f64 0], .blk g11 45 (verC (stJ as_ bs 24))]) at H
          obtain ⟨st, hst⟩ : ∃ st, stJ as_ bs 24 = st := ⟨_, rfl⟩
          rw [hst] at H HOK
          have HST := Lib.hid hst
          clear hst hbx0 hbx1
          by_cases hz : st.1 = 0
          · have h0 : st = (0, false, 0) := by
              rcases HOK.out with h | ⟨h, -⟩
              · exact h
              · omega
            have HV : Hid (VerIs as_ bs zeroV) := by
              unfold Hid VerIs; rw [if_neg (fun hh => hh.2 (by rw [HST.out]; exact hz))]
            subst h0
            have c3 := H.cell 1 rfl (o := 3) (u := .float .f64 0) rfl
            have q0 : FloatKind.f64.format.order 0 0 = some Ordering.eq := by decide +kernel
            clear hz
            go_wp2_with (first | (refine wpList_store_mid rfl 45 (.tmp 4) (.tmp 83) rfl g4 0 #[.bool false, .int .u8 0, .bool false, .float .f64 0, .int .i64 0, .float .f64 0] (by rfl) (by rfl) (H.there 0 rfl) ver_size (all_oneCell_toArray (ver_one _ _ _ _ _ _ ⟨rfl, rfl, rfl, rfl, rfl, rfl⟩)) ?_) | fail)
            have HZ := (H.storeAll 0 rfl (vs := [.bool false, .int .u8 0, .bool false, .float .f64 0, .int .i64 0, .float .f64 0]) rfl).upd_mk (by simp)
            refine bodyPost_ret (results_cell1 rfl _ _ g4 45 _ _ _ rfl (HZ.blk 0 rfl) Try.underlying45 rfl ver_size) rfl ?_
            exact ⟨_, by rw [HJ.out]; rfl, HV, HZ.below⟩
          · obtain ⟨ht1, ht2, ht3⟩ := HOK.out.nonzero hz
            obtain ⟨i0, hi0, hz0, hz1, hz2⟩ := info_parts real_info
            rcases ord_sign ht1 (absF_s ht2).2 with ⟨a, -⟩ | ⟨-, -, o1⟩ | ⟨-, -, o1⟩
            · exact absurd a ht3
            · have c3 := H.cell 1 rfl (o := 3) (u := .float .f64 st.2.2) rfl
              obtain ⟨b, hb⟩ : ∃ b, apartJ st.2.2 = b := ⟨_, rfl⟩
              have HBB := Lib.hid hb
              go_wp2_with fail
              refine (abs_s st.2.2 _ ht1).mono ?_
              rintro e w6 ⟨rfl, rfl⟩
              have hap : (FloatKind.f64.format.order (st.2.2 % 2 ^ 63) 4616752568008179712 == some Ordering.gt) = b := hb
              clear hb
              have c0 := H.cell 1 rfl (o := 0) (u := .bool false) rfl
              have f0 := H.free 1 rfl 0
              replace H := (H.store 1 rfl (o := 0) (u := .bool b)).upd_mk (by simp)
              go_upto_region 30 with (fail)
              refine absorb_wp H ?_
              clear H c0 f0 hap c3
              intro w7 H
              replace H : St w [] w7 (lay [.blk g4 45 [.bool false, .int .u8 0, .bool false, .float .f64 0, .int .i64 0, .float .f64 0], .blk g11 45 [.bool b, .int .u8 st.1, .bool st.2.1, .float .f64 st.2.2, .int .i64 0, .float .f64 0]]) := H
              replace H := H.drew
              refine wp_region_held_drew (S := fun w' : World => w'.cell? ⟨g11, 1, none⟩ = some (.int .u8 st.1) ∧ w'.cell? ⟨g11, 2, none⟩ = some (.bool st.2.1)) (by kernel_rfl) ?_ (fun hHeld => ?_)
              · exact ⟨H.cell 1 rfl (o := 1) (u := .int .u8 st.1) rfl, H.cell 1 rfl (o := 2) (u := .bool st.2.1) rfl⟩
              refine takeV 0 rfl (by intro w h; clear h; go_simp; try with_reducible rfl) (by kernel_rfl) (by kernel_rfl) (by kernel_rfl) (by exact fun _ _ _ h => h) (by rfl) (by assumption) ?_
              try simp only [Act.put, List.setIfInBounds_toArray, List.set_cons_zero, List.set_cons_succ]
              refine takeV 1 rfl (by intro w h; clear h; go_simp; try with_reducible rfl) (by kernel_rfl) (by kernel_rfl) (by kernel_rfl) (by exact fun _ _ _ h => h) (by rfl) (by assumption) ?_
              try simp only [Act.put, List.setIfInBounds_toArray, List.set_cons_zero, List.set_cons_succ]
              refine takeV 2 rfl (by intro w h; have hc := h.1; clear h; go_simp; try with_reducible rfl) (by kernel_rfl) (by kernel_rfl) (by kernel_rfl) (by exact fun _ _ _ h => h) (by rfl) (by assumption) ?_
              try simp only [Act.put, List.setIfInBounds_toArray, List.set_cons_zero, List.set_cons_succ]
              refine takeV 3 rfl (by intro w h; clear h; go_simp; try with_reducible rfl) (by kernel_rfl) (by kernel_rfl) (by kernel_rfl) (by exact fun _ _ _ h => h) (by rfl) (by assumption) ?_
              try simp only [Act.put, List.setIfInBounds_toArray, List.set_cons_zero, List.set_cons_succ]
              refine takeV 4 rfl (by intro w h; have hc := h.2; clear h; go_simp; try with_reducible rfl) (by kernel_rfl) (by kernel_rfl) (by kernel_rfl) (by exact fun _ _ _ h => h) (by rfl) (by assumption) ?_
              try simp only [Act.put, List.setIfInBounds_toArray, List.set_cons_zero, List.set_cons_succ]
              refine takeV 6 rfl (by intro w h; clear h; go_simp; try with_reducible rfl) (by kernel_rfl) (by kernel_rfl) (by kernel_rfl) (by exact fun _ _ _ h => h) (by rfl) (by assumption) ?_
              try simp only [Act.put, List.setIfInBounds_toArray, List.set_cons_zero, List.set_cons_succ]
              refine takeV 7 rfl (by intro w h; clear h; go_simp; try with_reducible rfl) (by kernel_rfl) (by kernel_rfl) (by kernel_rfl) (by exact fun _ _ _ h => h) (by rfl) (by assumption) ?_
              try simp only [Act.put, List.setIfInBounds_toArray, List.set_cons_zero, List.set_cons_succ]
              refine takeV 8 rfl (by intro w h; have hc := h.1; clear h; go_simp; try with_reducible rfl) (by kernel_rfl) (by kernel_rfl) (by kernel_rfl) (by exact fun _ _ _ h => h) (by rfl) (by assumption) ?_
              try simp only [Act.put, List.setIfInBounds_toArray, List.set_cons_zero, List.set_cons_succ]
              refine takeV 9 rfl (by intro w h; clear h; go_simp; try with_reducible rfl) (by kernel_rfl) (by kernel_rfl) (by kernel_rfl) (by exact fun _ _ _ h => h) (by rfl) (by assumption) ?_
              try simp only [Act.put, List.setIfInBounds_toArray, List.set_cons_zero, List.set_cons_succ]
              refine takeV 10 rfl (by intro w h; have hc := h.2; clear h; go_simp; try with_reducible rfl) (by kernel_rfl) (by kernel_rfl) (by kernel_rfl) (by exact fun _ _ _ h => h) (by rfl) (by assumption) ?_
              try simp only [Act.put, List.setIfInBounds_toArray, List.set_cons_zero, List.set_cons_succ]
              refine take_call 5 rfl (by kernel_rfl) (fun K hK => ?_)
              try go_simp
              refine (column_a A n c as_ st.1 st.2.1 _ (H.arg0 RA.out) (OA.out.st H) hn).mono ?_
              rintro e wx ⟨v1, X, rfl, ho, HX, hb⟩
              have hl0 : X.length = n := by have h := congrArg List.length HX.out; simp [colO] at h; have := HLA.out; omega
              unfold OwnR at ho
              rw [hl0] at ho
              have HXL := Lib.hid hl0
              replace H := (H.pushRow 2 rfl hb ho).push_mk rfl
              clear hb ho hl0
              refine hK.out _ _ ?_ (fun hHeld => ?_)
              · exact ⟨H.cell 1 rfl (o := 1) (u := .int .u8 st.1) rfl, H.cell 1 rfl (o := 2) (u := .bool st.2.1) rfl⟩
              clear hK K
              try simp only [Act.put, List.setIfInBounds_toArray, List.set_cons_zero, List.set_cons_succ]
              refine take_call 11 rfl (by kernel_rfl) (fun K hK => ?_)
              try go_simp
              refine (column_a B m d bs st.1 st.2.1 _ (H.arg0 RB.out) (OB.out.st H) hm).mono ?_
              rintro e wx ⟨v2, Y, rfl, ho, HY, hb⟩
              have hl0 : Y.length = m := by have h := congrArg List.length HY.out; simp [colO] at h; have := HLB.out; omega
              unfold OwnR at ho
              rw [hl0] at ho
              have HYL := Lib.hid hl0
              replace H := (H.pushRow 3 rfl hb ho).push_mk rfl
              clear hb ho hl0
              refine hK.out _ _ ?_ (fun hHeld => ?_)
              · exact ⟨H.cell 1 rfl (o := 1) (u := .int .u8 st.1) rfl, H.cell 1 rfl (o := 2) (u := .bool st.2.1) rfl⟩
              clear hK K
              try simp only [Act.put, List.setIfInBounds_toArray, List.set_cons_zero, List.set_cons_succ]
              have hf2 := row_form (H.row 3 rfl)
              obtain ⟨A2, c2, hv2, -, -⟩ := hf2
              subst hv2
              refine take_call 12 rfl (by kernel_rfl) (fun K hK => ?_)
              refine step_append_any _ rfl (.tmp 95) (.tmp 101) _ rfl 0 25 i0 _ 1 8 Try.underlying22 hi0 hz0 hz1 hz2 rfl (by omega) v1 n (X.map rv) rfl (H.row 2 rfl) A2 m c2 (Y.map rv) rfl (H.rd 3 rfl) (rv_one Y) (by simp only [maxLen]; omega) (by omega) (by omega) ?_
              intro v3 w9 hown hg hat
              replace H := (H.grow 2 rfl hown hg hat).upd_mk (by simp)
              refine hK.out _ _ ?_ (fun hHeld => ?_)
              · exact ⟨H.cell 1 rfl (o := 1) (u := .int .u8 st.1) rfl, H.cell 1 rfl (o := 2) (u := .bool st.2.1) rfl⟩
              clear hK K hown hg hat
              try simp only [Act.put, List.setIfInBounds_toArray, List.set_cons_zero, List.set_cons_succ]
              have hf3 := row_form (H.row 2 rfl)
              obtain ⟨A3, c3, hv3, -, -⟩ := hf3
              subst hv3
              have rP : Rd w9 1 A3 (n + m) ((X ++ Y).map fv) := by
                have h := H.rd 2 rfl
                rw [← List.map_append] at h
                exact h
              have C := peak_a A3 (n + m) c3 (X ++ Y) w9 rP (by omega)
              have hP := beatP_of (as_ := as_) (bs := bs) (kk := st.1) (s := st.2.1) (X := X) (Y := Y) (by rw [HLA.out]; exact HX.out) (by rw [HLB.out]; exact HY.out)
              rw [HLA.out, HLB.out] at hP
              rw [hP] at C
              clear hP rP
              have CC := Lib.hid C
              clear C
              obtain ⟨best, hbest⟩ : ∃ best : Nat, bestA (beatP as_ bs st.1 st.2.1) 5 = best := ⟨_, rfl⟩
              rw [hbest] at CC
              have HBE := Lib.hid hbest
              clear hbest
              refine take_call 13 rfl (by kernel_rfl) (fun K hK => ?_)
              try go_simp
              refine CC.out.mono ?_
              rintro e wx ⟨pw, rfl, HP, hb⟩
              replace H := (H.call hb).front 2
              replace H : St w [] wx (lay [.blk g4 45 [.bool false, .int .u8 0, .bool false, .float .f64 0, .int .i64 0, .float .f64 0], .blk g11 45 [.bool b, .int .u8 st.1, .bool st.2.1, .float .f64 st.2.2, .int .i64 0, .float .f64 0]]) := H
              clear hb
              refine hK.out _ _ ?_ (fun hHeld => ?_)
              · exact ⟨H.cell 1 rfl (o := 1) (u := .int .u8 st.1) rfl, H.cell 1 rfl (o := 2) (u := .bool st.2.1) rfl⟩
              clear hK K
              try simp only [Act.put, List.setIfInBounds_toArray, List.set_cons_zero, List.set_cons_succ]
              refine takeV 14 rfl (by intro w h; clear h; go_simp; try with_reducible rfl) (by kernel_rfl) (by kernel_rfl) (by kernel_rfl) (by exact fun _ _ _ h => h) (by rfl) (by assumption) ?_
              try simp only [Act.put, List.setIfInBounds_toArray, List.set_cons_zero, List.set_cons_succ]
              refine takeV 15 rfl (by intro w h; clear h; go_simp; try with_reducible rfl) (by kernel_rfl) (by kernel_rfl) (by kernel_rfl) (by exact fun _ _ _ h => h) (by rfl) (by assumption) ?_
              try simp only [Act.put, List.setIfInBounds_toArray, List.set_cons_zero, List.set_cons_succ]
              refine takeV 16 rfl (by intro w h; clear h; go_simp; try with_reducible rfl) (by kernel_rfl) (by kernel_rfl) (by kernel_rfl) (by exact fun _ _ _ h => h) (by rfl) (by assumption) ?_
              try simp only [Act.put, List.setIfInBounds_toArray, List.set_cons_zero, List.set_cons_succ]
              refine takeV 17 rfl (by intro w h; clear h; go_simp; try with_reducible rfl) (by kernel_rfl) (by kernel_rfl) (by kernel_rfl) (by exact fun _ _ _ h => h) (by rfl) (by assumption) ?_
              try simp only [Act.put, List.setIfInBounds_toArray, List.set_cons_zero, List.set_cons_succ]
              have c4 := H.cell 1 rfl (o := 4) (u := .int .i64 0) rfl
              have f4 := H.free 1 rfl 4
              refine take_call 18 rfl (by kernel_rfl) (fun K hK => ?_)
              go_simp
              replace H := (H.store 1 rfl (o := 4) (u := .int .i64 (best : Nat))).upd_mk (by simp)
              refine hK.out _ _ ?_ (fun hHeld => ?_)
              · exact ⟨H.cell 1 rfl (o := 1) (u := .int .u8 st.1) rfl, H.cell 1 rfl (o := 2) (u := .bool st.2.1) rfl⟩
              clear hK K c4 f4
              try simp only [Act.put, List.setIfInBounds_toArray, List.set_cons_zero, List.set_cons_succ]
              refine takeV 19 rfl (by intro w h; clear h; go_simp; try with_reducible rfl) (by kernel_rfl) (by kernel_rfl) (by kernel_rfl) (by exact fun _ _ _ h => h) (by rfl) (by assumption) ?_
              try simp only [Act.put, List.setIfInBounds_toArray, List.set_cons_zero, List.set_cons_succ]
              have c5 := H.cell 1 rfl (o := 5) (u := .float .f64 0) rfl
              have f5 := H.free 1 rfl 5
              have hst := fun (a : Addr) (b : Nat) (m : Mode) (w : World) => run_store Try.prog w a (.float .f64 b) m rfl
              refine take_call 20 rfl (by kernel_rfl) (fun K hK => ?_)
              go_simp
              replace H := (H.store 1 rfl (o := 5) (u := .float .f64 pw)).upd_mk (by simp)
              refine hK.out _ _ ?_ (fun hHeld => ?_)
              · exact ⟨H.cell 1 rfl (o := 1) (u := .int .u8 st.1) rfl, H.cell 1 rfl (o := 2) (u := .bool st.2.1) rfl⟩
              clear hK K c5 f5 hst
              try simp only [Act.put, List.setIfInBounds_toArray, List.set_cons_zero, List.set_cons_succ]
              refine wpAnyH_done (by kernel_rfl) ?_ _
              clear hHeld
              go_upto_region 31 with (fail)
              refine absorb_wp H ?_
              clear H
              intro w8 H
              replace H : St w [] w8 (lay [.blk g4 45 [.bool false, .int .u8 0, .bool false, .float .f64 0, .int .i64 0, .float .f64 0], .blk g11 45 [.bool b, .int .u8 st.1, .bool st.2.1, .float .f64 st.2.2, .int .i64 (best : Nat), .float .f64 pw]]) := H
              have hbk := H.blk 1 rfl
              have hth : w8.there g4 0 6 := H.there 0 rfl
              have HS := (H.storeAll 0 rfl (vs := [.bool b, .int .u8 st.1, .bool st.2.1, .float .f64 st.2.2, .int .i64 (best : Nat), .float .f64 pw]) rfl).upd_mk (by simp)
              go_wp2_with (first | (refine wpList_load_row rfl 45 (.tmp 11) rfl g11 rfl _ _ _ _ hbk Try.underlying45 rfl ver_size ?_) | (refine wpList_store_mid (op := { dst := none, op := Op.store 45 (.tmp 4) (.tmp 108), type := _, pos := _, after := _, guard := none }) rfl 45 (.tmp 4) (.tmp 108) rfl g4 0 #[.bool b, .int .u8 st.1, .bool st.2.1, .float .f64 st.2.2, .int .i64 (best : Nat), .float .f64 pw] (by rfl) (by rfl) hth ver_size (all_oneCell_toArray (ver_one _ _ _ _ _ _ ⟨rfl, rfl, rfl, rfl, rfl, rfl⟩)) ?_) | fail)
              refine bodyPost_ret (results_cell1 rfl _ _ g4 45 _ _ _ rfl (HS.blk 0 rfl) Try.underlying45 rfl ver_size) rfl ?_
              refine ⟨_, by rw [HJ.out]; rfl, ?_, HS.below⟩
              unfold Hid VerIs
              rw [HST.out, if_pos ⟨HJ.out, hz⟩]
              exact ⟨pw, by unfold verV; rw [HBB.out, HBE.out], by rw [HP.out, HBE.out]⟩
            · have c3 := H.cell 1 rfl (o := 3) (u := .float .f64 st.2.2) rfl
              obtain ⟨b, hb⟩ : ∃ b, apartJ st.2.2 = b := ⟨_, rfl⟩
              have HBB := Lib.hid hb
              go_wp2_with fail
              refine (abs_s st.2.2 _ ht1).mono ?_
              rintro e w6 ⟨rfl, rfl⟩
              have hap : (FloatKind.f64.format.order (st.2.2 % 2 ^ 63) 4616752568008179712 == some Ordering.gt) = b := hb
              clear hb
              have c0 := H.cell 1 rfl (o := 0) (u := .bool false) rfl
              have f0 := H.free 1 rfl 0
              replace H := (H.store 1 rfl (o := 0) (u := .bool b)).upd_mk (by simp)
              go_upto_region 30 with (fail)
              refine absorb_wp H ?_
              clear H c0 f0 hap c3
              intro w7 H
              replace H : St w [] w7 (lay [.blk g4 45 [.bool false, .int .u8 0, .bool false, .float .f64 0, .int .i64 0, .float .f64 0], .blk g11 45 [.bool b, .int .u8 st.1, .bool st.2.1, .float .f64 st.2.2, .int .i64 0, .float .f64 0]]) := H
              replace H := H.drew
              refine wp_region_held_drew (S := fun w' : World => w'.cell? ⟨g11, 1, none⟩ = some (.int .u8 st.1) ∧ w'.cell? ⟨g11, 2, none⟩ = some (.bool st.2.1)) (by kernel_rfl) ?_ (fun hHeld => ?_)
              · exact ⟨H.cell 1 rfl (o := 1) (u := .int .u8 st.1) rfl, H.cell 1 rfl (o := 2) (u := .bool st.2.1) rfl⟩
              refine takeV 0 rfl (by intro w h; clear h; go_simp; try with_reducible rfl) (by kernel_rfl) (by kernel_rfl) (by kernel_rfl) (by exact fun _ _ _ h => h) (by rfl) (by assumption) ?_
              try simp only [Act.put, List.setIfInBounds_toArray, List.set_cons_zero, List.set_cons_succ]
              refine takeV 1 rfl (by intro w h; clear h; go_simp; try with_reducible rfl) (by kernel_rfl) (by kernel_rfl) (by kernel_rfl) (by exact fun _ _ _ h => h) (by rfl) (by assumption) ?_
              try simp only [Act.put, List.setIfInBounds_toArray, List.set_cons_zero, List.set_cons_succ]
              refine takeV 2 rfl (by intro w h; have hc := h.1; clear h; go_simp; try with_reducible rfl) (by kernel_rfl) (by kernel_rfl) (by kernel_rfl) (by exact fun _ _ _ h => h) (by rfl) (by assumption) ?_
              try simp only [Act.put, List.setIfInBounds_toArray, List.set_cons_zero, List.set_cons_succ]
              refine takeV 3 rfl (by intro w h; clear h; go_simp; try with_reducible rfl) (by kernel_rfl) (by kernel_rfl) (by kernel_rfl) (by exact fun _ _ _ h => h) (by rfl) (by assumption) ?_
              try simp only [Act.put, List.setIfInBounds_toArray, List.set_cons_zero, List.set_cons_succ]
              refine takeV 4 rfl (by intro w h; have hc := h.2; clear h; go_simp; try with_reducible rfl) (by kernel_rfl) (by kernel_rfl) (by kernel_rfl) (by exact fun _ _ _ h => h) (by rfl) (by assumption) ?_
              try simp only [Act.put, List.setIfInBounds_toArray, List.set_cons_zero, List.set_cons_succ]
              refine takeV 6 rfl (by intro w h; clear h; go_simp; try with_reducible rfl) (by kernel_rfl) (by kernel_rfl) (by kernel_rfl) (by exact fun _ _ _ h => h) (by rfl) (by assumption) ?_
              try simp only [Act.put, List.setIfInBounds_toArray, List.set_cons_zero, List.set_cons_succ]
              refine takeV 7 rfl (by intro w h; clear h; go_simp; try with_reducible rfl) (by kernel_rfl) (by kernel_rfl) (by kernel_rfl) (by exact fun _ _ _ h => h) (by rfl) (by assumption) ?_
              try simp only [Act.put, List.setIfInBounds_toArray, List.set_cons_zero, List.set_cons_succ]
              refine takeV 8 rfl (by intro w h; have hc := h.1; clear h; go_simp; try with_reducible rfl) (by kernel_rfl) (by kernel_rfl) (by kernel_rfl) (by exact fun _ _ _ h => h) (by rfl) (by assumption) ?_
              try simp only [Act.put, List.setIfInBounds_toArray, List.set_cons_zero, List.set_cons_succ]
              refine takeV 9 rfl (by intro w h; clear h; go_simp; try with_reducible rfl) (by kernel_rfl) (by kernel_rfl) (by kernel_rfl) (by exact fun _ _ _ h => h) (by rfl) (by assumption) ?_
              try simp only [Act.put, List.setIfInBounds_toArray, List.set_cons_zero, List.set_cons_succ]
              refine takeV 10 rfl (by intro w h; have hc := h.2; clear h; go_simp; try with_reducible rfl) (by kernel_rfl) (by kernel_rfl) (by kernel_rfl) (by exact fun _ _ _ h => h) (by rfl) (by assumption) ?_
              try simp only [Act.put, List.setIfInBounds_toArray, List.set_cons_zero, List.set_cons_succ]
              refine take_call 5 rfl (by kernel_rfl) (fun K hK => ?_)
              try go_simp
              refine (column_a A n c as_ st.1 st.2.1 _ (H.arg0 RA.out) (OA.out.st H) hn).mono ?_
              rintro e wx ⟨v1, X, rfl, ho, HX, hb⟩
              have hl0 : X.length = n := by have h := congrArg List.length HX.out; simp [colO] at h; have := HLA.out; omega
              unfold OwnR at ho
              rw [hl0] at ho
              have HXL := Lib.hid hl0
              replace H := (H.pushRow 2 rfl hb ho).push_mk rfl
              clear hb ho hl0
              refine hK.out _ _ ?_ (fun hHeld => ?_)
              · exact ⟨H.cell 1 rfl (o := 1) (u := .int .u8 st.1) rfl, H.cell 1 rfl (o := 2) (u := .bool st.2.1) rfl⟩
              clear hK K
              try simp only [Act.put, List.setIfInBounds_toArray, List.set_cons_zero, List.set_cons_succ]
              refine take_call 11 rfl (by kernel_rfl) (fun K hK => ?_)
              try go_simp
              refine (column_a B m d bs st.1 st.2.1 _ (H.arg0 RB.out) (OB.out.st H) hm).mono ?_
              rintro e wx ⟨v2, Y, rfl, ho, HY, hb⟩
              have hl0 : Y.length = m := by have h := congrArg List.length HY.out; simp [colO] at h; have := HLB.out; omega
              unfold OwnR at ho
              rw [hl0] at ho
              have HYL := Lib.hid hl0
              replace H := (H.pushRow 3 rfl hb ho).push_mk rfl
              clear hb ho hl0
              refine hK.out _ _ ?_ (fun hHeld => ?_)
              · exact ⟨H.cell 1 rfl (o := 1) (u := .int .u8 st.1) rfl, H.cell 1 rfl (o := 2) (u := .bool st.2.1) rfl⟩
              clear hK K
              try simp only [Act.put, List.setIfInBounds_toArray, List.set_cons_zero, List.set_cons_succ]
              have hf2 := row_form (H.row 3 rfl)
              obtain ⟨A2, c2, hv2, -, -⟩ := hf2
              subst hv2
              refine take_call 12 rfl (by kernel_rfl) (fun K hK => ?_)
              refine step_append_any _ rfl (.tmp 95) (.tmp 101) _ rfl 0 25 i0 _ 1 8 Try.underlying22 hi0 hz0 hz1 hz2 rfl (by omega) v1 n (X.map rv) rfl (H.row 2 rfl) A2 m c2 (Y.map rv) rfl (H.rd 3 rfl) (rv_one Y) (by simp only [maxLen]; omega) (by omega) (by omega) ?_
              intro v3 w9 hown hg hat
              replace H := (H.grow 2 rfl hown hg hat).upd_mk (by simp)
              refine hK.out _ _ ?_ (fun hHeld => ?_)
              · exact ⟨H.cell 1 rfl (o := 1) (u := .int .u8 st.1) rfl, H.cell 1 rfl (o := 2) (u := .bool st.2.1) rfl⟩
              clear hK K hown hg hat
              try simp only [Act.put, List.setIfInBounds_toArray, List.set_cons_zero, List.set_cons_succ]
              have hf3 := row_form (H.row 2 rfl)
              obtain ⟨A3, c3, hv3, -, -⟩ := hf3
              subst hv3
              have rP : Rd w9 1 A3 (n + m) ((X ++ Y).map fv) := by
                have h := H.rd 2 rfl
                rw [← List.map_append] at h
                exact h
              have C := peak_a A3 (n + m) c3 (X ++ Y) w9 rP (by omega)
              have hP := beatP_of (as_ := as_) (bs := bs) (kk := st.1) (s := st.2.1) (X := X) (Y := Y) (by rw [HLA.out]; exact HX.out) (by rw [HLB.out]; exact HY.out)
              rw [HLA.out, HLB.out] at hP
              rw [hP] at C
              clear hP rP
              have CC := Lib.hid C
              clear C
              obtain ⟨best, hbest⟩ : ∃ best : Nat, bestA (beatP as_ bs st.1 st.2.1) 5 = best := ⟨_, rfl⟩
              rw [hbest] at CC
              have HBE := Lib.hid hbest
              clear hbest
              refine take_call 13 rfl (by kernel_rfl) (fun K hK => ?_)
              try go_simp
              refine CC.out.mono ?_
              rintro e wx ⟨pw, rfl, HP, hb⟩
              replace H := (H.call hb).front 2
              replace H : St w [] wx (lay [.blk g4 45 [.bool false, .int .u8 0, .bool false, .float .f64 0, .int .i64 0, .float .f64 0], .blk g11 45 [.bool b, .int .u8 st.1, .bool st.2.1, .float .f64 st.2.2, .int .i64 0, .float .f64 0]]) := H
              clear hb
              refine hK.out _ _ ?_ (fun hHeld => ?_)
              · exact ⟨H.cell 1 rfl (o := 1) (u := .int .u8 st.1) rfl, H.cell 1 rfl (o := 2) (u := .bool st.2.1) rfl⟩
              clear hK K
              try simp only [Act.put, List.setIfInBounds_toArray, List.set_cons_zero, List.set_cons_succ]
              refine takeV 14 rfl (by intro w h; clear h; go_simp; try with_reducible rfl) (by kernel_rfl) (by kernel_rfl) (by kernel_rfl) (by exact fun _ _ _ h => h) (by rfl) (by assumption) ?_
              try simp only [Act.put, List.setIfInBounds_toArray, List.set_cons_zero, List.set_cons_succ]
              refine takeV 15 rfl (by intro w h; clear h; go_simp; try with_reducible rfl) (by kernel_rfl) (by kernel_rfl) (by kernel_rfl) (by exact fun _ _ _ h => h) (by rfl) (by assumption) ?_
              try simp only [Act.put, List.setIfInBounds_toArray, List.set_cons_zero, List.set_cons_succ]
              refine takeV 16 rfl (by intro w h; clear h; go_simp; try with_reducible rfl) (by kernel_rfl) (by kernel_rfl) (by kernel_rfl) (by exact fun _ _ _ h => h) (by rfl) (by assumption) ?_
              try simp only [Act.put, List.setIfInBounds_toArray, List.set_cons_zero, List.set_cons_succ]
              refine takeV 17 rfl (by intro w h; clear h; go_simp; try with_reducible rfl) (by kernel_rfl) (by kernel_rfl) (by kernel_rfl) (by exact fun _ _ _ h => h) (by rfl) (by assumption) ?_
              try simp only [Act.put, List.setIfInBounds_toArray, List.set_cons_zero, List.set_cons_succ]
              have c4 := H.cell 1 rfl (o := 4) (u := .int .i64 0) rfl
              have f4 := H.free 1 rfl 4
              refine take_call 18 rfl (by kernel_rfl) (fun K hK => ?_)
              go_simp
              replace H := (H.store 1 rfl (o := 4) (u := .int .i64 (best : Nat))).upd_mk (by simp)
              refine hK.out _ _ ?_ (fun hHeld => ?_)
              · exact ⟨H.cell 1 rfl (o := 1) (u := .int .u8 st.1) rfl, H.cell 1 rfl (o := 2) (u := .bool st.2.1) rfl⟩
              clear hK K c4 f4
              try simp only [Act.put, List.setIfInBounds_toArray, List.set_cons_zero, List.set_cons_succ]
              refine takeV 19 rfl (by intro w h; clear h; go_simp; try with_reducible rfl) (by kernel_rfl) (by kernel_rfl) (by kernel_rfl) (by exact fun _ _ _ h => h) (by rfl) (by assumption) ?_
              try simp only [Act.put, List.setIfInBounds_toArray, List.set_cons_zero, List.set_cons_succ]
              have c5 := H.cell 1 rfl (o := 5) (u := .float .f64 0) rfl
              have f5 := H.free 1 rfl 5
              have hst := fun (a : Addr) (b : Nat) (m : Mode) (w : World) => run_store Try.prog w a (.float .f64 b) m rfl
              refine take_call 20 rfl (by kernel_rfl) (fun K hK => ?_)
              go_simp
              replace H := (H.store 1 rfl (o := 5) (u := .float .f64 pw)).upd_mk (by simp)
              refine hK.out _ _ ?_ (fun hHeld => ?_)
              · exact ⟨H.cell 1 rfl (o := 1) (u := .int .u8 st.1) rfl, H.cell 1 rfl (o := 2) (u := .bool st.2.1) rfl⟩
              clear hK K c5 f5 hst
              try simp only [Act.put, List.setIfInBounds_toArray, List.set_cons_zero, List.set_cons_succ]
              refine wpAnyH_done (by kernel_rfl) ?_ _
              clear hHeld
              go_upto_region 31 with (fail)
              refine absorb_wp H ?_
              clear H
              intro w8 H
              replace H : St w [] w8 (lay [.blk g4 45 [.bool false, .int .u8 0, .bool false, .float .f64 0, .int .i64 0, .float .f64 0], .blk g11 45 [.bool b, .int .u8 st.1, .bool st.2.1, .float .f64 st.2.2, .int .i64 (best : Nat), .float .f64 pw]]) := H
              have hbk := H.blk 1 rfl
              have hth : w8.there g4 0 6 := H.there 0 rfl
              have HS := (H.storeAll 0 rfl (vs := [.bool b, .int .u8 st.1, .bool st.2.1, .float .f64 st.2.2, .int .i64 (best : Nat), .float .f64 pw]) rfl).upd_mk (by simp)
              go_wp2_with (first | (refine wpList_load_row rfl 45 (.tmp 11) rfl g11 rfl _ _ _ _ hbk Try.underlying45 rfl ver_size ?_) | (refine wpList_store_mid (op := { dst := none, op := Op.store 45 (.tmp 4) (.tmp 108), type := _, pos := _, after := _, guard := none }) rfl 45 (.tmp 4) (.tmp 108) rfl g4 0 #[.bool b, .int .u8 st.1, .bool st.2.1, .float .f64 st.2.2, .int .i64 (best : Nat), .float .f64 pw] (by rfl) (by rfl) hth ver_size (all_oneCell_toArray (ver_one _ _ _ _ _ _ ⟨rfl, rfl, rfl, rfl, rfl, rfl⟩)) ?_) | fail)
              refine bodyPost_ret (results_cell1 rfl _ _ g4 45 _ _ _ rfl (HS.blk 0 rfl) Try.underlying45 rfl ver_size) rfl ?_
              refine ⟨_, by rw [HJ.out]; rfl, ?_, HS.below⟩
              unfold Hid VerIs
              rw [HST.out, if_pos ⟨HJ.out, hz⟩]
              exact ⟨pw, by unfold verV; rw [HBB.out, HBE.out], by rw [HP.out, HBE.out]⟩

end Go.Proofs.Ytpmgklmgaienhaa
