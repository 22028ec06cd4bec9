/- The document's Judge: what it tells of any two heaps. -/
import Derived.Test.YtpmgklmgaienhaaMeN

namespace Go.Proofs.Ytpmgklmgaienhaa
open Go.RowKit
set_option linter.unusedVariables false
set_option maxRecDepth 100000

def faultE (rs : List RowM) (n : Nat) : Int := if goodRows rs n = true then 0 else 120

theorem faultE_bad {rs : List RowM} {n j : Nat} {r : RowM} (hj : j < n) (hr : rs[j]? = some r) (hg : checkE r.l r.n ≠ 0) : faultE rs n = 120 := by
  unfold faultE; rw [goodRows_no hj hr (checkE_ne hg).1]; rfl

theorem faultE_ok {rs : List RowM} {n : Nat} (h : goodRows rs n = true) : faultE rs n = 0 := if_pos h

theorem faultE_no {rs : List RowM} {n : Nat} (h : goodRows rs n = false) : faultE rs n = 120 := by unfold faultE; rw [h]; rfl

set_option maxHeartbeats 2000000 in
theorem fault_s (A : Option Addr) (n c : Nat) (rs : List RowM) (w : World) (hR : Rd w 1 A n (rs.map rowMV)) (hok : RowsOk w rs) (hn : n ≤ 100000) :
    Calls Try.prog 50 #[.slice A n c] w fun e w' => e = .returned (.int .i64 (faultE rs n)) ∧ ∃ q, w' = w.drewN q := by
  have hl : rs.length = n := by simpa using hR.1
  have HL := Lib.hid hl
  have HR := Lib.hid hR
  have HOK := Lib.hid hok
  clear hl hR hok
  go_enter Try.func50, Try.ntmps50
  go_wp2
  go_loopw [3] (fun i wr => ∃ j q : Nat, j ≤ n ∧ i = .int .i64 (j : Int) ∧ Hid (goodRows rs j = true) ∧ wr = w.drewN q) (fun i _ => n - (intOf i).toNat)
  case atStart => exact ⟨0, 0, Nat.zero_le _, rfl, rfl, rfl⟩
  case round =>
    obtain ⟨j, q, hj, rfl, HG, rfl⟩ := hrel
    by_cases hlt : j < n
    · obtain ⟨⟨XA, rn, rc, rl⟩, hx⟩ : ∃ x, rs[j]? = some x := ⟨_, List.getElem?_eq_getElem (by rw [HL.out]; exact hlt)⟩
      have HX := Lib.hid hx
      have rr := HR.out.drewN q
      obtain ⟨g, o, he, -, -⟩ := rr.flat (by omega) (by omega)
      subst he
      have cx := heap_cell rr hx
      change (w.drewN q).cell? ⟨g, o + j, none⟩ = some (.slice XA rn rc) at cx
      have HRow := Lib.hid ((HOK.out.drewN q) _ (List.mem_of_getElem? hx))
      have hji : (j : Int) < n := by omega
      clear hx rr
      go_wp2_with fail
      refine (refCheck_s XA rn rc rl (w.drewN q) HRow.out.1 (Nat.le_trans HRow.out.2.1 (by decide))).mono ?_
      rintro e w4 ⟨rfl, q2, rfl⟩
      by_cases hc0 : checkE rl rn = 0
      · have HG2 := Lib.hid (goodRows_yes HG.out HX.out (checkE_eq hc0))
        rw [hc0]
        go_wp2
        go_roundw
        case rel => exact ⟨j + 1, q + q2, by omega, by go_num, HG2, by simp⟩
        case measure => simp [intOf]; omega
      · obtain ⟨b1, b2⟩ := checkE_ne hc0
        have hf := faultE_bad hlt HX.out hc0
        rw [b2]
        have HF := Lib.hid hf
        clear hc0 b1 b2 hf
        go_wp2
        go_ret
        exact ⟨by rw [HF.out]; rfl, q + q2, by simp⟩
    · obtain rfl : j = n := by omega
      have hji : ¬ (j : Int) < j := by omega
      have HF := Lib.hid (faultE_ok HG.out)
      go_wp2
      go_ret
      exact ⟨by rw [HF.out]; rfl, q, rfl⟩

def verR (st : VS) : List Value := [.bool (apartJ st.2.2), .int .u8 st.1, .bool st.2.1, .float .f64 st.2.2, .int .i64 0, .float .f64 0]

theorem verR_zero : verR (0, false, 0) = [.bool false, .int .u8 0, .bool false, .float .f64 0, .int .i64 0, .float .f64 0] := by
  have : apartJ 0 = false := by decide +kernel
  unfold verR; rw [this]

theorem StOk.wt {st : VS} (h : StOk st) : wtO (absF st.2.2) = st.2.2 % 2 ^ 63 := by
  rcases h with h | ⟨-, -, -, h3, -⟩
  · rw [h]; show wtO (absF 0) = 0 % 2 ^ 63; rw [absF_zero9]; rfl
  · rw [h3]; rfl

theorem StOk.abs_lt {st : VS} (h : StOk st) : ∀ x, absF st.2.2 = some x → x < 2 ^ 64 := fun x hx => by
  obtain ⟨e, -⟩ := absF_s hx
  rw [← e]; exact h.lt

theorem StOk.zero {st : VS} (h : StOk st) (h1 : st.1 = 0) : st = (0, false, 0) := by
  rcases h with h | ⟨h2, -⟩
  · exact h
  · omega

set_option maxHeartbeats 8000000 in
theorem refJudge_a (A : Option Addr) (n c : Nat) (as_ : List RowM) (B : Option Addr) (m d : Nat) (bs : List RowM) (w : World) (hA : Rd w 1 A n (as_.map rowMV)) (hB : Rd w 1 B m (bs.map rowMV)) (hoA : RowsOk w as_) (hoB : RowsOk w bs) (hn : n ≤ 100000) (hm : m ≤ 100000) :
    Calls Try.prog 28 #[.slice A n c, .slice B m d] w fun e w' => ∃ V, e = .returned (.tuple #[.agg V.toArray, .int .i64 (judgeE as_ bs)]) ∧ Hid (VerIs as_ bs V) ∧ Below w.heap.size w w' := by
  obtain ⟨i0, hi0, hz0, hz1, hz2⟩ := info_parts real_info
  have hla : as_.length = n := by simpa using hA.1
  have hlb : bs.length = m := by simpa using hB.1
  have HLA := Lib.hid hla
  have HLB := Lib.hid hlb
  have RA := Lib.hid hA
  have RB := Lib.hid hB
  have OA := Lib.hid hoA
  have OB := Lib.hid hoB
  clear hA hB hoA hoB
  have H0 := St.start_lay w []
  have H := H0.allocAt 0 rfl w.heap.size rfl #[.bool false, .int .u8 0, .bool false, .float .f64 0, .int .i64 0, .float .f64 0] 45 |>.push_mk rfl
  clear H0
  by_cases hlen : n < 2 ∨ m < 2
  · rw [judgeE_len (by rw [hla, hlb]; exact hlen)]
    have HV : Hid (VerIs as_ bs zeroV) := verIs_bad (by rw [judgeE_len (by rw [hla, hlb]; exact hlen)]; decide)
    clear hla hlb
    by_cases h1 : n < 2
    · have hn2 : decide ((n : Int) < 2) = true := by simp; omega
      go_enter Try.func28, Try.ntmps28
      go_upto_region 2 with (fail)
      refine absorb_wp H ?_
      clear H
      intro w2 H
      generalize w.heap.size = g4 at H ⊢
      replace H : St w [] w2 (lay [.blk g4 45 [.bool false, .int .u8 0, .bool false, .float .f64 0, .int .i64 0, .float .f64 0]]) := H
      go_wp2_with (first | (refine wpList_store_mid rfl 45 (.tmp 4) (.tmp 20) rfl g4 0 #[.bool false, .int .u8 0, .bool false, .float .f64 0, .int .i64 0, .float .f64 0] (by rfl) (by rfl) (H.there 0 rfl) ver_size (all_oneCell_toArray (ver_one _ _ _ _ _ _ ⟨rfl, rfl, rfl, rfl, rfl, rfl⟩)) ?_) | fail)
      have HZ := (H.storeAll 0 rfl (vs := [.bool false, .int .u8 0, .bool false, .float .f64 0, .int .i64 0, .float .f64 0]) rfl).upd_mk (by simp)
      refine bodyPost_ret (results_cell1 rfl _ _ g4 45 _ _ _ rfl (HZ.blk 0 rfl) Try.underlying45 rfl ver_size) rfl ?_
      exact ⟨_, rfl, HV, HZ.below⟩
    · have h2 : m < 2 := by omega
      have hn2 : decide ((n : Int) < 2) = false := by simp; omega
      have hm2 : decide ((m : Int) < 2) = true := by simp; omega
      go_enter Try.func28, Try.ntmps28
      go_upto_region 2 with (fail)
      refine absorb_wp H ?_
      clear H
      intro w2 H
      generalize w.heap.size = g4 at H ⊢
      replace H : St w [] w2 (lay [.blk g4 45 [.bool false, .int .u8 0, .bool false, .float .f64 0, .int .i64 0, .float .f64 0]]) := H
      go_wp2_with (first | (refine wpList_store_mid rfl 45 (.tmp 4) (.tmp 20) rfl g4 0 #[.bool false, .int .u8 0, .bool false, .float .f64 0, .int .i64 0, .float .f64 0] (by rfl) (by rfl) (H.there 0 rfl) ver_size (all_oneCell_toArray (ver_one _ _ _ _ _ _ ⟨rfl, rfl, rfl, rfl, rfl, rfl⟩)) ?_) | fail)
      have HZ := (H.storeAll 0 rfl (vs := [.bool false, .int .u8 0, .bool false, .float .f64 0, .int .i64 0, .float .f64 0]) rfl).upd_mk (by simp)
      refine bodyPost_ret (results_cell1 rfl _ _ g4 45 _ _ _ rfl (HZ.blk 0 rfl) Try.underlying45 rfl ver_size) rfl ?_
      exact ⟨_, rfl, HV, HZ.below⟩
  have hn2 : decide ((n : Int) < 2) = false := by simp; omega
  have hm2 : decide ((m : Int) < 2) = false := by simp; omega
  clear hla hlb
  go_enter Try.func28, Try.ntmps28
  go_upto_region 3 with (fail)
  refine absorb_wp H ?_
  clear H
  intro w2 H
  generalize w.heap.size = g4 at H ⊢
  replace H : St w [] w2 (lay [.blk g4 45 [.bool false, .int .u8 0, .bool false, .float .f64 0, .int .i64 0, .float .f64 0]]) := H
  by_cases hga : goodRows as_ n = true
  · have hfa := faultE_ok hga
    have HGA := Lib.hid hga
    clear hga
    by_cases hgb : goodRows bs m = true
    · have hfb := faultE_ok hgb
      have HGB := Lib.hid hgb
      clear hgb
      go_wp2_with fail
      refine (fault_s A n c as_ w2 (H.arg0 RA.out) (OA.out.st H) hn).mono ?_
      rintro e w3 ⟨rfl, q1, rfl⟩
      rw [hfa]
      replace H := H.drewN q1
      clear hfa
      go_wp2_with fail
      refine (fault_s B m d bs _ (H.arg0 RB.out) (OB.out.st H) hm).mono ?_
      rintro e w3 ⟨rfl, q2, rfl⟩
      rw [hfb]
      replace H := H.drewN q2
      clear hfb
      generalize (w2.drewN q1).drewN q2 = wr at H ⊢
      have HA := H.allocAt 1 rfl wr.heap.size rfl #[.bool false, .int .u8 0, .bool false, .float .f64 0, .int .i64 0, .float .f64 0] 45 |>.push_mk rfl
      go_upto_region 6 with (fail)
      refine absorb_wp HA ?_
      clear HA H
      intro w5 H
      generalize wr.heap.size = g6 at H ⊢
      replace H : St w [] w5 (lay [.blk g4 45 [.bool false, .int .u8 0, .bool false, .float .f64 0, .int .i64 0, .float .f64 0], .blk g6 45 [.bool false, .int .u8 0, .bool false, .float .f64 0, .int .i64 0, .float .f64 0]]) := H
      have H9 : St w [] w5 (lay [.blk g4 45 [.bool false, .int .u8 0, .bool false, .float .f64 0, .int .i64 0, .float .f64 0], .blk g6 45 (verR (stJ as_ bs (2 * (1 - 1))))]) := by show St w [] w5 (lay [_, .blk g6 45 (verR (0, false, 0))]); rw [verR_zero]; exact H
      clear H
      go_wp2
      go_loopw [7] (fun v wr => ∃ k : Nat, 1 ≤ k ∧ k ≤ 13 ∧ v = .int .u8 (k : Int) ∧ Hid (StOk (stJ as_ bs (2 * (k - 1)))) ∧ St w [] wr (lay [.blk g4 45 [.bool false, .int .u8 0, .bool false, .float .f64 0, .int .i64 0, .float .f64 0], .blk g6 45 (verR (stJ as_ bs (2 * (k - 1))))])) (fun v _ => 13 - (intOf v).toNat)
      case atStart => exact ⟨1, by omega, by omega, rfl, .inl rfl, H9⟩
      case round =>
        clear H9
        obtain ⟨k, hk1, hk13, rfl, HOK, H⟩ := hrel
        by_cases hk : k < 13
        · have hki : (k : Int) ≤ 12 := by omega
          go_wp2
          go_loopw [8] (fun i wr => ∃ q : Int, (q = 0 ∨ q = 1 ∨ q = 2) ∧ i = .int .i64 q ∧ Hid (StOk (stJ as_ bs (2 * (k - 1) + q.toNat))) ∧ St w [] wr (lay [.blk g4 45 [.bool false, .int .u8 0, .bool false, .float .f64 0, .int .i64 0, .float .f64 0], .blk g6 45 (verR (stJ as_ bs (2 * (k - 1) + q.toNat)))])) (fun i _ => 2 - (intOf i).toNat)
          case atStart => exact ⟨0, .inl rfl, rfl, HOK, H⟩
          case round =>
            clear H HOK
            obtain ⟨q, hq3, rfl, HOK, H⟩ := hrel
            rcases hq3 with rfl | rfl | rfl
            · have hN : stJ as_ bs (2 * (k - 1) + (1 : Int).toNat) = stepJ (tJ as_ bs (k : Int) false) (k : Int) false (stJ as_ bs (2 * (k - 1) + (0 : Int).toNat)) := by
                rw [show 2 * (k - 1) + (1 : Int).toNat = (2 * (k - 1) + (0 : Int).toNat) + 1 by omega]
                show stepJ _ _ _ _ = _
                rw [show (((2 * (k - 1) + (0 : Int).toNat) / 2 : Nat) : Int) + 1 = (k : Int) by omega, show ((2 * (k - 1) + (0 : Int).toNat) % 2 == 1) = false by rw [show (2 * (k - 1) + (0 : Int).toNat) % 2 = 0 by omega]; rfl]
              have HN := Lib.hid hN
              clear hN
              generalize stJ as_ bs (2 * (k - 1) + (0 : Int).toNat) = st at H HN HOK
              go_wp2_with fail
              refine (values_a A n c as_ (k : Int) false wr (H.arg0 RA.out) (OA.out.st H) hn).mono ?_
              rintro e w6 ⟨v1, X, rfl, ho, HX, hb⟩
              have hxl : X.length = n := by have h := congrArg List.length HX.out; simp [colO] at h; have := HLA.out; omega
              unfold OwnR at ho
              rw [hxl] at ho
              have HXL := Lib.hid hxl
              replace H := (H.pushRow 2 rfl hb ho).push_mk rfl
              clear hb ho hxl
              obtain ⟨A1, c1, rfl, -, -⟩ := row_form (H.row 2 rfl)
              go_wp2_with fail
              refine (values_a B m d bs (k : Int) false w6 (H.arg0 RB.out) (OB.out.st H) hm).mono ?_
              rintro e w7 ⟨v2, Y, rfl, ho, HY, hb⟩
              have hyl : Y.length = m := by have h := congrArg List.length HY.out; simp [colO] at h; have := HLB.out; omega
              unfold OwnR at ho
              rw [hyl] at ho
              have HYL := Lib.hid hyl
              replace H := (H.pushRow 3 rfl hb ho).push_mk rfl
              clear hb ho hyl
              obtain ⟨A2, c2, rfl, -, -⟩ := row_form (H.row 3 rfl)
              go_wp2_with fail
              refine (refT_a A1 A2 n m c1 c2 X Y w7 (H.rd 2 rfl) (H.rd 3 rfl) (by omega) (by omega)).mono ?_
              rintro e w8 ⟨r, q1, rfl, HT, rfl⟩
              have hT : absF r = tJ as_ bs (k : Int) false := by
                have h := tJ_of (as_ := as_) (bs := bs) (kk := (k : Int)) (s := false) (X := X) (Y := Y) (by rw [HLA.out]; exact HX.out) (by rw [HLB.out]; exact HY.out)
                rw [HLA.out, HLB.out] at h
                rw [HT.out]; exact h
              have hlt0 : ∀ x, tJ as_ bs (k : Int) false = some x → x < 2 ^ 64 ∧ absF x = some x := fun x hx => by
                refine ⟨tA_lt hx, ?_⟩
                rw [hx] at hT
                obtain ⟨rfl, -⟩ := absF_s hT
                exact hT
              have HOK2 := Lib.hid (stepJ_ok (t := tJ as_ bs (k : Int) false) (k := (k : Int)) (s := false) HOK.out ⟨by omega, by omega⟩ hlt0)
              replace H := (H.drewN q1).front 2
              replace H : St w [] (w7.drewN q1) (lay [.blk g4 45 [.bool false, .int .u8 0, .bool false, .float .f64 0, .int .i64 0, .float .f64 0], .blk g6 45 (verR st)]) := H
              clear HT HX HY HXL HYL
              generalize tJ as_ bs (k : Int) false = o at hT hlt0 HN HOK2
              have HWT := Lib.hid hT
              have hlr : Hid (∀ x, absF r = some x → x < 2 ^ 64) := fun x hx => (hlt0 x (by rw [← HWT.out]; exact hx)).1
              clear hT hlt0
              obtain ⟨wt, hwt⟩ : ∃ x, wtO o = x := ⟨_, rfl⟩
              have HW1 := Lib.hid hwt
              clear hwt
              have hsw := Lib.hid HOK.out.wt
              go_wp2
              have HW := H
              replace H := H.drew
              refine wp_region_held_drew (S := fun w' : World => w'.cell? ⟨g6, 3, none⟩ = some (.float .f64 st.2.2)) (by kernel_rfl) ?_ (fun hHeld => ?_)
              · exact H.cell 1 rfl (o := 3) (u := .float .f64 st.2.2) rfl
              refine takeV 0 rfl (by intro w h; clear h; go_simp; try with_reducible rfl) (by kernel_rfl) (by kernel_rfl) (by kernel_rfl) (by exact fun _ _ _ h => h) (by rfl) (by assumption) ?_
              try simp only [Act.put, List.setIfInBounds_toArray, List.set_cons_zero, List.set_cons_succ]
              refine takeV 2 rfl (by intro w h; clear h; go_simp; try with_reducible rfl) (by kernel_rfl) (by kernel_rfl) (by kernel_rfl) (by exact fun _ _ _ h => h) (by rfl) (by assumption) ?_
              try simp only [Act.put, List.setIfInBounds_toArray, List.set_cons_zero, List.set_cons_succ]
              refine takeV 3 rfl (by intro w h; have hc := h; clear h; go_simp; try with_reducible rfl) (by kernel_rfl) (by kernel_rfl) (by kernel_rfl) (by exact fun _ _ _ h => h) (by rfl) (by assumption) ?_
              try simp only [Act.put, List.setIfInBounds_toArray, List.set_cons_zero, List.set_cons_succ]
              refine take_call 1 rfl (by kernel_rfl) (fun K hK => ?_)
              try go_simp
              refine (weight_s r _ hlr.out).mono ?_
              rintro e wx ⟨rfl, rfl⟩
              rw [HWT.out, HW1.out]
              refine hK.out _ _ ?_ (fun hHeld => ?_)
              · exact H.cell 1 rfl (o := 3) (u := .float .f64 st.2.2) rfl
              clear hK K
              try simp only [Act.put, List.setIfInBounds_toArray, List.set_cons_zero, List.set_cons_succ]
              refine take_call 4 rfl (by kernel_rfl) (fun K hK => ?_)
              try go_simp
              refine (weight_s st.2.2 _ HOK.out.abs_lt).mono ?_
              rintro e wx ⟨rfl, rfl⟩
              rw [hsw.out]
              refine hK.out _ _ ?_ (fun hHeld => ?_)
              · exact H.cell 1 rfl (o := 3) (u := .float .f64 st.2.2) rfl
              clear hK K
              try simp only [Act.put, List.setIfInBounds_toArray, List.set_cons_zero, List.set_cons_succ]
              by_cases hg : gtW wt (st.2.2 % 2 ^ 63) = true
              · have hg2 := hg
                unfold gtW at hg2
                refine take_pure 5 (.bool true) rfl (by kernel_rfl) (by kernel_rfl) (by kernel_rfl) (fun _ _ _ h => h) rfl (by intro w hSw; go_simp; try with_reducible rfl) (by assumption) ?_
                try simp only [Act.put, List.setIfInBounds_toArray, List.set_cons_zero, List.set_cons_succ]
                refine wpAnyH_done (by kernel_rfl) ?_ _
                clear hHeld hg2
                obtain ⟨x, hx⟩ : ∃ x, o = some x := by
                  cases o with
                  | none => rw [← HW1.out] at hg; exact absurd hg (by show ¬ gtW 0 _ = true; rw [gt0_false]; decide)
                  | some x => exact ⟨x, rfl⟩
                have hrx : r = x := (absF_s (by rw [HWT.out]; exact hx)).1
                subst hrx
                have HNX : Hid (stJ as_ bs (2 * (k - 1) + (1 : Int).toNat) = ((k : Int), false, r)) := by
                  unfold Hid; rw [HN.out]; unfold stepJ; rw [HW1.out, if_pos hg, hx]; rfl
                have HO2 : Hid (StOk ((k : Int), false, r)) := by
                  have h := HOK2.out
                  rw [← HN.out, HNX.out] at h
                  exact h
                obtain ⟨b, hb⟩ : ∃ b, apartJ r = b := ⟨_, rfl⟩
                have HB := Lib.hid hb
                have hb2 : (FloatKind.f64.format.order wt 4616752568008179712 == some Ordering.gt) = b := by rw [← hb, ← HW1.out, hx]; rfl
                have HVR : Hid (verR ((k : Int), false, r) = [.bool b, .int .u8 (k : Int), .bool false, .float .f64 r, .int .i64 0, .float .f64 0]) := by unfold Hid verR; rw [hb]
                clear hb hx hg
                have HW2 : St w [] (w7.drewN (q1 + 1)) (lay [.blk g4 45 [.bool false, .int .u8 0, .bool false, .float .f64 0, .int .i64 0, .float .f64 0], .blk g6 45 (verR st)]) := HW.drew
                clear HW H
                go_wp2_with fail
                refine (weight_s r _ hlr.out).mono ?_
                rintro e wx ⟨rfl, rfl⟩
                rw [HWT.out, HW1.out]
                have HS := (HW2.storeAll 1 rfl (vs := [.bool b, .int .u8 (k : Int), .bool false, .float .f64 r, .int .i64 0, .float .f64 0]) rfl).upd_mk (by simp)
                have hth : (w7.drewN (q1 + 1)).there g6 0 6 := HW2.there 1 rfl
                clear HW2
                go_wp2_with (first | (refine wpList_store_mid (op := { dst := none, op := Op.store 45 (.tmp 6) (.tmp 65), type := _, pos := _, after := _, guard := none }) rfl 45 (.tmp 6) (.tmp 65) rfl g6 0 #[.bool b, .int .u8 (k : Int), .bool false, .float .f64 r, .int .i64 0, .float .f64 0] (by rfl) (by rfl) hth ver_size (all_oneCell_toArray (ver_one _ _ _ _ _ _ ⟨rfl, rfl, rfl, rfl, rfl, rfl⟩)) ?_) | fail)
                go_roundw
                case rel => exact ⟨1, .inr (.inl rfl), rfl, by rw [HNX.out]; exact HO2, by rw [HNX.out, HVR.out]; exact HS⟩
                case measure => simp [intOf]
              · have hg0 : gtW wt (st.2.2 % 2 ^ 63) = false := by simpa using hg
                have hg2 := hg0
                unfold gtW at hg2
                refine take_pure 5 (.bool false) rfl (by kernel_rfl) (by kernel_rfl) (by kernel_rfl) (fun _ _ _ h => h) rfl (by intro w hSw; go_simp; try with_reducible rfl) (by assumption) ?_
                try simp only [Act.put, List.setIfInBounds_toArray, List.set_cons_zero, List.set_cons_succ]
                refine wpAnyH_done (by kernel_rfl) ?_ _
                clear hHeld hg2
                have HNX : Hid (stJ as_ bs (2 * (k - 1) + (1 : Int).toNat) = st) := by
                  unfold Hid; rw [HN.out]; unfold stepJ; rw [HW1.out, if_neg hg]
                clear hg hg0
                go_wp2
                go_roundw
                case rel => exact ⟨1, .inr (.inl rfl), rfl, by rw [HNX.out]; exact HOK, by rw [HNX.out]; exact HW.drew⟩
                case measure => simp [intOf]
            · have hN : stJ as_ bs (2 * (k - 1) + (2 : Int).toNat) = stepJ (tJ as_ bs (k : Int) true) (k : Int) true (stJ as_ bs (2 * (k - 1) + (1 : Int).toNat)) := by
                rw [show 2 * (k - 1) + (2 : Int).toNat = (2 * (k - 1) + (1 : Int).toNat) + 1 by omega]
                show stepJ _ _ _ _ = _
                rw [show (((2 * (k - 1) + (1 : Int).toNat) / 2 : Nat) : Int) + 1 = (k : Int) by omega, show ((2 * (k - 1) + (1 : Int).toNat) % 2 == 1) = true by rw [show (2 * (k - 1) + (1 : Int).toNat) % 2 = 1 by omega]; rfl]
              have HN := Lib.hid hN
              clear hN
              generalize stJ as_ bs (2 * (k - 1) + (1 : Int).toNat) = st at H HN HOK
              go_wp2_with fail
              refine (values_a A n c as_ (k : Int) true wr (H.arg0 RA.out) (OA.out.st H) hn).mono ?_
              rintro e w6 ⟨v1, X, rfl, ho, HX, hb⟩
              have hxl : X.length = n := by have h := congrArg List.length HX.out; simp [colO] at h; have := HLA.out; omega
              unfold OwnR at ho
              rw [hxl] at ho
              have HXL := Lib.hid hxl
              replace H := (H.pushRow 2 rfl hb ho).push_mk rfl
              clear hb ho hxl
              obtain ⟨A1, c1, rfl, -, -⟩ := row_form (H.row 2 rfl)
              go_wp2_with fail
              refine (values_a B m d bs (k : Int) true w6 (H.arg0 RB.out) (OB.out.st H) hm).mono ?_
              rintro e w7 ⟨v2, Y, rfl, ho, HY, hb⟩
              have hyl : Y.length = m := by have h := congrArg List.length HY.out; simp [colO] at h; have := HLB.out; omega
              unfold OwnR at ho
              rw [hyl] at ho
              have HYL := Lib.hid hyl
              replace H := (H.pushRow 3 rfl hb ho).push_mk rfl
              clear hb ho hyl
              obtain ⟨A2, c2, rfl, -, -⟩ := row_form (H.row 3 rfl)
              go_wp2_with fail
              refine (refT_a A1 A2 n m c1 c2 X Y w7 (H.rd 2 rfl) (H.rd 3 rfl) (by omega) (by omega)).mono ?_
              rintro e w8 ⟨r, q1, rfl, HT, rfl⟩
              have hT : absF r = tJ as_ bs (k : Int) true := by
                have h := tJ_of (as_ := as_) (bs := bs) (kk := (k : Int)) (s := true) (X := X) (Y := Y) (by rw [HLA.out]; exact HX.out) (by rw [HLB.out]; exact HY.out)
                rw [HLA.out, HLB.out] at h
                rw [HT.out]; exact h
              have hlt0 : ∀ x, tJ as_ bs (k : Int) true = some x → x < 2 ^ 64 ∧ absF x = some x := fun x hx => by
                refine ⟨tA_lt hx, ?_⟩
                rw [hx] at hT
                obtain ⟨rfl, -⟩ := absF_s hT
                exact hT
              have HOK2 := Lib.hid (stepJ_ok (t := tJ as_ bs (k : Int) true) (k := (k : Int)) (s := true) HOK.out ⟨by omega, by omega⟩ hlt0)
              replace H := (H.drewN q1).front 2
              replace H : St w [] (w7.drewN q1) (lay [.blk g4 45 [.bool false, .int .u8 0, .bool false, .float .f64 0, .int .i64 0, .float .f64 0], .blk g6 45 (verR st)]) := H
              clear HT HX HY HXL HYL
              generalize tJ as_ bs (k : Int) true = o at hT hlt0 HN HOK2
              have HWT := Lib.hid hT
              have hlr : Hid (∀ x, absF r = some x → x < 2 ^ 64) := fun x hx => (hlt0 x (by rw [← HWT.out]; exact hx)).1
              clear hT hlt0
              obtain ⟨wt, hwt⟩ : ∃ x, wtO o = x := ⟨_, rfl⟩
              have HW1 := Lib.hid hwt
              clear hwt
              have hsw := Lib.hid HOK.out.wt
              go_wp2
              have HW := H
              replace H := H.drew
              refine wp_region_held_drew (S := fun w' : World => w'.cell? ⟨g6, 3, none⟩ = some (.float .f64 st.2.2)) (by kernel_rfl) ?_ (fun hHeld => ?_)
              · exact H.cell 1 rfl (o := 3) (u := .float .f64 st.2.2) rfl
              refine takeV 0 rfl (by intro w h; clear h; go_simp; try with_reducible rfl) (by kernel_rfl) (by kernel_rfl) (by kernel_rfl) (by exact fun _ _ _ h => h) (by rfl) (by assumption) ?_
              try simp only [Act.put, List.setIfInBounds_toArray, List.set_cons_zero, List.set_cons_succ]
              refine takeV 2 rfl (by intro w h; clear h; go_simp; try with_reducible rfl) (by kernel_rfl) (by kernel_rfl) (by kernel_rfl) (by exact fun _ _ _ h => h) (by rfl) (by assumption) ?_
              try simp only [Act.put, List.setIfInBounds_toArray, List.set_cons_zero, List.set_cons_succ]
              refine takeV 3 rfl (by intro w h; have hc := h; clear h; go_simp; try with_reducible rfl) (by kernel_rfl) (by kernel_rfl) (by kernel_rfl) (by exact fun _ _ _ h => h) (by rfl) (by assumption) ?_
              try simp only [Act.put, List.setIfInBounds_toArray, List.set_cons_zero, List.set_cons_succ]
              refine take_call 1 rfl (by kernel_rfl) (fun K hK => ?_)
              try go_simp
              refine (weight_s r _ hlr.out).mono ?_
              rintro e wx ⟨rfl, rfl⟩
              rw [HWT.out, HW1.out]
              refine hK.out _ _ ?_ (fun hHeld => ?_)
              · exact H.cell 1 rfl (o := 3) (u := .float .f64 st.2.2) rfl
              clear hK K
              try simp only [Act.put, List.setIfInBounds_toArray, List.set_cons_zero, List.set_cons_succ]
              refine take_call 4 rfl (by kernel_rfl) (fun K hK => ?_)
              try go_simp
              refine (weight_s st.2.2 _ HOK.out.abs_lt).mono ?_
              rintro e wx ⟨rfl, rfl⟩
              rw [hsw.out]
              refine hK.out _ _ ?_ (fun hHeld => ?_)
              · exact H.cell 1 rfl (o := 3) (u := .float .f64 st.2.2) rfl
              clear hK K
              try simp only [Act.put, List.setIfInBounds_toArray, List.set_cons_zero, List.set_cons_succ]
              by_cases hg : gtW wt (st.2.2 % 2 ^ 63) = true
              · have hg2 := hg
                unfold gtW at hg2
                refine take_pure 5 (.bool true) rfl (by kernel_rfl) (by kernel_rfl) (by kernel_rfl) (fun _ _ _ h => h) rfl (by intro w hSw; go_simp; try with_reducible rfl) (by assumption) ?_
                try simp only [Act.put, List.setIfInBounds_toArray, List.set_cons_zero, List.set_cons_succ]
                refine wpAnyH_done (by kernel_rfl) ?_ _
                clear hHeld hg2
                obtain ⟨x, hx⟩ : ∃ x, o = some x := by
                  cases o with
                  | none => rw [← HW1.out] at hg; exact absurd hg (by show ¬ gtW 0 _ = true; rw [gt0_false]; decide)
                  | some x => exact ⟨x, rfl⟩
                have hrx : r = x := (absF_s (by rw [HWT.out]; exact hx)).1
                subst hrx
                have HNX : Hid (stJ as_ bs (2 * (k - 1) + (2 : Int).toNat) = ((k : Int), true, r)) := by
                  unfold Hid; rw [HN.out]; unfold stepJ; rw [HW1.out, if_pos hg, hx]; rfl
                have HO2 : Hid (StOk ((k : Int), true, r)) := by
                  have h := HOK2.out
                  rw [← HN.out, HNX.out] at h
                  exact h
                obtain ⟨b, hb⟩ : ∃ b, apartJ r = b := ⟨_, rfl⟩
                have HB := Lib.hid hb
                have hb2 : (FloatKind.f64.format.order wt 4616752568008179712 == some Ordering.gt) = b := by rw [← hb, ← HW1.out, hx]; rfl
                have HVR : Hid (verR ((k : Int), true, r) = [.bool b, .int .u8 (k : Int), .bool true, .float .f64 r, .int .i64 0, .float .f64 0]) := by unfold Hid verR; rw [hb]
                clear hb hx hg
                have HW2 : St w [] (w7.drewN (q1 + 1)) (lay [.blk g4 45 [.bool false, .int .u8 0, .bool false, .float .f64 0, .int .i64 0, .float .f64 0], .blk g6 45 (verR st)]) := HW.drew
                clear HW H
                go_wp2_with fail
                refine (weight_s r _ hlr.out).mono ?_
                rintro e wx ⟨rfl, rfl⟩
                rw [HWT.out, HW1.out]
                have HS := (HW2.storeAll 1 rfl (vs := [.bool b, .int .u8 (k : Int), .bool true, .float .f64 r, .int .i64 0, .float .f64 0]) rfl).upd_mk (by simp)
                have hth : (w7.drewN (q1 + 1)).there g6 0 6 := HW2.there 1 rfl
                clear HW2
                go_wp2_with (first | (refine wpList_store_mid (op := { dst := none, op := Op.store 45 (.tmp 6) (.tmp 65), type := _, pos := _, after := _, guard := none }) rfl 45 (.tmp 6) (.tmp 65) rfl g6 0 #[.bool b, .int .u8 (k : Int), .bool true, .float .f64 r, .int .i64 0, .float .f64 0] (by rfl) (by rfl) hth ver_size (all_oneCell_toArray (ver_one _ _ _ _ _ _ ⟨rfl, rfl, rfl, rfl, rfl, rfl⟩)) ?_) | fail)
                go_roundw
                case rel => exact ⟨2, .inr (.inr rfl), rfl, by rw [HNX.out]; exact HO2, by rw [HNX.out, HVR.out]; exact HS⟩
                case measure => simp [intOf]
              · have hg0 : gtW wt (st.2.2 % 2 ^ 63) = false := by simpa using hg
                have hg2 := hg0
                unfold gtW at hg2
                refine take_pure 5 (.bool false) rfl (by kernel_rfl) (by kernel_rfl) (by kernel_rfl) (fun _ _ _ h => h) rfl (by intro w hSw; go_simp; try with_reducible rfl) (by assumption) ?_
                try simp only [Act.put, List.setIfInBounds_toArray, List.set_cons_zero, List.set_cons_succ]
                refine wpAnyH_done (by kernel_rfl) ?_ _
                clear hHeld hg2
                have HNX : Hid (stJ as_ bs (2 * (k - 1) + (2 : Int).toNat) = st) := by
                  unfold Hid; rw [HN.out]; unfold stepJ; rw [HW1.out, if_neg hg]
                clear hg hg0
                go_wp2
                go_roundw
                case rel => exact ⟨2, .inr (.inr rfl), rfl, by rw [HNX.out]; exact HOK, by rw [HNX.out]; exact HW.drew⟩
                case measure => simp [intOf]
            · have HO2 : Hid (StOk (stJ as_ bs (2 * (k + 1 - 1)))) := by
                have h := HOK.out
                rw [show 2 * (k - 1) + (2 : Int).toNat = 2 * (k + 1 - 1) by omega] at h
                exact h
              rw [show 2 * (k - 1) + (2 : Int).toNat = 2 * (k + 1 - 1) by omega] at H
              clear HOK
              go_wp2
              go_roundw
              case rel => exact ⟨k + 1, by omega, by omega, by go_num, HO2, H⟩
              case measure => simp [intOf]; omega
        · obtain rfl : k = 13 := by omega
          have hje : judgeE as_ bs = 0 := judgeE_ok (by rw [HLA.out, HLB.out]; exact hlen) (by rw [HLA.out]; exact HGA.out) (by rw [HLB.out]; exact HGB.out)
          have HJ := Lib.hid hje
          clear hje HGA HGB
          obtain ⟨st, hst0⟩ : ∃ st, stJ as_ bs (2 * (13 - 1)) = st := ⟨_, rfl⟩
          rw [hst0] at H HOK
          have HST : Hid (stJ as_ bs 24 = st) := hst0
          clear hst0
          by_cases hz : st.1 = 0
          · have hs0 := HOK.out.zero hz
            have HV : Hid (VerIs as_ bs zeroV) := by unfold Hid VerIs; rw [HST.out, if_neg (fun hh => hh.2 hz)]
            clear hz
            subst hs0
            rw [verR_zero] at H
            have hbk := H.blk 1 rfl
            have hth : wr.there g4 0 6 := H.there 0 rfl
            have c1 := H.cell 1 rfl (o := 1) (u := .int .u8 0) rfl
            have HS := (H.storeAll 0 rfl (vs := [.bool false, .int .u8 0, .bool false, .float .f64 0, .int .i64 0, .float .f64 0]) rfl).upd_mk (by simp)
            go_wp2_with (first | (refine wpList_load_row rfl 45 (.tmp 6) rfl g6 rfl _ _ _ _ hbk Try.underlying45 rfl ver_size ?_) | (refine wpList_store_mid (op := { dst := none, op := Op.store 45 (.tmp 4) (.tmp 69), type := _, pos := _, after := _, guard := none }) rfl 45 (.tmp 4) (.tmp 69) rfl g4 0 #[.bool false, .int .u8 0, .bool false, .float .f64 0, .int .i64 0, .float .f64 0] (by rfl) (by rfl) hth ver_size (all_oneCell_toArray (ver_one _ _ _ _ _ _ ⟨rfl, rfl, rfl, rfl, rfl, rfl⟩)) ?_) | fail)
            refine bodyPost_ret (results_cell1 rfl _ _ g4 45 _ _ _ rfl (HS.blk 0 rfl) Try.underlying45 rfl ver_size) rfl ?_
            exact ⟨_, by rw [HJ.out]; rfl, HV, HS.below⟩
          · have hzf : (st.1 == 0) = false := by simpa using hz
            obtain ⟨b, hb⟩ : ∃ b, apartJ st.2.2 = b := ⟨_, rfl⟩
            have HBB := Lib.hid hb
            unfold verR at H
            rw [hb] at H
            clear hb
            have c1 := H.cell 1 rfl (o := 1) (u := .int .u8 st.1) rfl
            go_wp2
            clear c1
            have HW := H
            replace H := H.drew
            refine wp_region_held_drew (S := fun w' : World => w'.cell? ⟨g6, 1, none⟩ = some (.int .u8 st.1) ∧ w'.cell? ⟨g6, 2, none⟩ = some (.bool st.2.1)) (by kernel_rfl) ?_ (fun hHeld => ?_)
            · exact ⟨H.cell 1 rfl (o := 1) (u := .int .u8 st.1) rfl, H.cell 1 rfl (o := 2) (u := .bool st.2.1) rfl⟩
            refine takeV 0 rfl (by intro w h; clear h; go_simp; try with_reducible rfl) (by kernel_rfl) (by kernel_rfl) (by kernel_rfl) (by exact fun _ _ _ h => h) (by rfl) (by assumption) ?_
            try simp only [Act.put, List.setIfInBounds_toArray, List.set_cons_zero, List.set_cons_succ]
            refine takeV 1 rfl (by intro w h; clear h; go_simp; try with_reducible rfl) (by kernel_rfl) (by kernel_rfl) (by kernel_rfl) (by exact fun _ _ _ h => h) (by rfl) (by assumption) ?_
            try simp only [Act.put, List.setIfInBounds_toArray, List.set_cons_zero, List.set_cons_succ]
            refine takeV 2 rfl (by intro w h; have hc := h.1; clear h; go_simp; try with_reducible rfl) (by kernel_rfl) (by kernel_rfl) (by kernel_rfl) (by exact fun _ _ _ h => h) (by rfl) (by assumption) ?_
            try simp only [Act.put, List.setIfInBounds_toArray, List.set_cons_zero, List.set_cons_succ]
            refine takeV 3 rfl (by intro w h; clear h; go_simp; try with_reducible rfl) (by kernel_rfl) (by kernel_rfl) (by kernel_rfl) (by exact fun _ _ _ h => h) (by rfl) (by assumption) ?_
            try simp only [Act.put, List.setIfInBounds_toArray, List.set_cons_zero, List.set_cons_succ]
            refine takeV 4 rfl (by intro w h; have hc := h.2; clear h; go_simp; try with_reducible rfl) (by kernel_rfl) (by kernel_rfl) (by kernel_rfl) (by exact fun _ _ _ h => h) (by rfl) (by assumption) ?_
            try simp only [Act.put, List.setIfInBounds_toArray, List.set_cons_zero, List.set_cons_succ]
            refine takeV 6 rfl (by intro w h; clear h; go_simp; try with_reducible rfl) (by kernel_rfl) (by kernel_rfl) (by kernel_rfl) (by exact fun _ _ _ h => h) (by rfl) (by assumption) ?_
            try simp only [Act.put, List.setIfInBounds_toArray, List.set_cons_zero, List.set_cons_succ]
            refine takeV 7 rfl (by intro w h; clear h; go_simp; try with_reducible rfl) (by kernel_rfl) (by kernel_rfl) (by kernel_rfl) (by exact fun _ _ _ h => h) (by rfl) (by assumption) ?_
            try simp only [Act.put, List.setIfInBounds_toArray, List.set_cons_zero, List.set_cons_succ]
            refine takeV 8 rfl (by intro w h; have hc := h.1; clear h; go_simp; try with_reducible rfl) (by kernel_rfl) (by kernel_rfl) (by kernel_rfl) (by exact fun _ _ _ h => h) (by rfl) (by assumption) ?_
            try simp only [Act.put, List.setIfInBounds_toArray, List.set_cons_zero, List.set_cons_succ]
            refine takeV 9 rfl (by intro w h; clear h; go_simp; try with_reducible rfl) (by kernel_rfl) (by kernel_rfl) (by kernel_rfl) (by exact fun _ _ _ h => h) (by rfl) (by assumption) ?_
            try simp only [Act.put, List.setIfInBounds_toArray, List.set_cons_zero, List.set_cons_succ]
            refine takeV 10 rfl (by intro w h; have hc := h.2; clear h; go_simp; try with_reducible rfl) (by kernel_rfl) (by kernel_rfl) (by kernel_rfl) (by exact fun _ _ _ h => h) (by rfl) (by assumption) ?_
            try simp only [Act.put, List.setIfInBounds_toArray, List.set_cons_zero, List.set_cons_succ]
            refine take_call 5 rfl (by kernel_rfl) (fun K hK => ?_)
            try go_simp
            refine (values_a A n c as_ st.1 st.2.1 _ (H.arg0 RA.out) (OA.out.st H) hn).mono ?_
            rintro e wx ⟨v1, X, rfl, ho, HX, hb⟩
            have hl0 : X.length = n := by have h := congrArg List.length HX.out; simp [colO] at h; have := HLA.out; omega
            unfold OwnR at ho
            rw [hl0] at ho
            have HXL := Lib.hid hl0
            replace H := (H.pushRow 2 rfl hb ho).push_mk rfl
            clear hb ho hl0
            refine hK.out _ _ ?_ (fun hHeld => ?_)
            · exact ⟨H.cell 1 rfl (o := 1) (u := .int .u8 st.1) rfl, H.cell 1 rfl (o := 2) (u := .bool st.2.1) rfl⟩
            clear hK K
            try simp only [Act.put, List.setIfInBounds_toArray, List.set_cons_zero, List.set_cons_succ]
            refine take_call 11 rfl (by kernel_rfl) (fun K hK => ?_)
            try go_simp
            refine (values_a B m d bs st.1 st.2.1 _ (H.arg0 RB.out) (OB.out.st H) hm).mono ?_
            rintro e wx ⟨v2, Y, rfl, ho, HY, hb⟩
            have hl0 : Y.length = m := by have h := congrArg List.length HY.out; simp [colO] at h; have := HLB.out; omega
            unfold OwnR at ho
            rw [hl0] at ho
            have HYL := Lib.hid hl0
            replace H := (H.pushRow 3 rfl hb ho).push_mk rfl
            clear hb ho hl0
            refine hK.out _ _ ?_ (fun hHeld => ?_)
            · exact ⟨H.cell 1 rfl (o := 1) (u := .int .u8 st.1) rfl, H.cell 1 rfl (o := 2) (u := .bool st.2.1) rfl⟩
            clear hK K
            try simp only [Act.put, List.setIfInBounds_toArray, List.set_cons_zero, List.set_cons_succ]
            have hf2 := row_form (H.row 3 rfl)
            obtain ⟨A2, c2, hv2, -, -⟩ := hf2
            subst hv2
            refine take_call 12 rfl (by kernel_rfl) (fun K hK => ?_)
            refine step_append_any _ rfl (.tmp 75) (.tmp 81) _ rfl 0 25 i0 _ 1 8 Try.underlying22 hi0 hz0 hz1 hz2 rfl (by omega) v1 n (X.map rv) rfl (H.row 2 rfl) A2 m c2 (Y.map rv) rfl (H.rd 3 rfl) (rv_one Y) (by simp only [maxLen]; omega) (by omega) (by omega) ?_
            intro v3 w9 hown hg hat
            replace H := (H.grow 2 rfl hown hg hat).upd_mk (by simp)
            refine hK.out _ _ ?_ (fun hHeld => ?_)
            · exact ⟨H.cell 1 rfl (o := 1) (u := .int .u8 st.1) rfl, H.cell 1 rfl (o := 2) (u := .bool st.2.1) rfl⟩
            clear hK K hown hg hat
            try simp only [Act.put, List.setIfInBounds_toArray, List.set_cons_zero, List.set_cons_succ]
            refine takeV 13 rfl (by intro w h; clear h; go_simp; try with_reducible rfl) (by kernel_rfl) (by kernel_rfl) (by kernel_rfl) (by exact fun _ _ _ h => h) (by rfl) (by assumption) ?_
            try simp only [Act.put, List.setIfInBounds_toArray, List.set_cons_zero, List.set_cons_succ]
            refine wpAnyH_done (by kernel_rfl) ?_ _
            clear hHeld
            have hf3 := row_form (H.row 2 rfl)
            obtain ⟨A3, c3, hv3, -, -⟩ := hf3
            subst hv3
            have rP : Rd w9 1 A3 (n + m) ((X ++ Y).map fv) := by
              have h := H.rd 2 rfl
              rw [← List.map_append] at h
              exact h
            have C := refPeak_a A3 (n + m) c3 (X ++ Y) w9 rP (by omega)
            have hP := beatP_of (as_ := as_) (bs := bs) (kk := st.1) (s := st.2.1) (X := X) (Y := Y) (by rw [HLA.out]; exact HX.out) (by rw [HLB.out]; exact HY.out)
            rw [HLA.out, HLB.out] at hP
            rw [hP] at C
            clear hP rP
            have CC := Lib.hid C
            clear C
            obtain ⟨best, hbest⟩ : ∃ best : Nat, bestA (beatP as_ bs st.1 st.2.1) 5 = best := ⟨_, rfl⟩
            rw [hbest] at CC
            have HBE := Lib.hid hbest
            clear hbest
            go_wp2_with fail
            refine CC.out.mono ?_
            rintro e wx ⟨pw, rfl, HP, hb⟩
            replace H := (H.call hb).front 2
            replace H : St w [] wx (lay [.blk g4 45 [.bool false, .int .u8 0, .bool false, .float .f64 0, .int .i64 0, .float .f64 0], .blk g6 45 [.bool b, .int .u8 st.1, .bool st.2.1, .float .f64 st.2.2, .int .i64 0, .float .f64 0]]) := H
            clear hb
            have c4 := H.cell 1 rfl (o := 4) (u := .int .i64 0) rfl
            have f4 := H.free 1 rfl 4
            have c5 := H.cell 1 rfl (o := 5) (u := .float .f64 0) rfl
            have f5 := H.free 1 rfl 5
            have hst := fun (a : Addr) (b : Nat) (m : Mode) (w : World) => run_store Try.prog w a (.float .f64 b) m rfl
            replace H := (H.store 1 rfl (o := 4) (u := .int .i64 (best : Nat))).upd_mk (by simp)
            replace H := (H.store 1 rfl (o := 5) (u := .float .f64 pw)).upd_mk (by simp)
            go_upto_region 19 with (fail)
            refine absorb_wp H ?_
            clear H c4 f4 c5 f5 hst
            intro w8 H
            replace H : St w [] w8 (lay [.blk g4 45 [.bool false, .int .u8 0, .bool false, .float .f64 0, .int .i64 0, .float .f64 0], .blk g6 45 [.bool b, .int .u8 st.1, .bool st.2.1, .float .f64 st.2.2, .int .i64 (best : Nat), .float .f64 pw]]) := H
            have hbk := H.blk 1 rfl
            have hth : w8.there g4 0 6 := H.there 0 rfl
            have HS := (H.storeAll 0 rfl (vs := [.bool b, .int .u8 st.1, .bool st.2.1, .float .f64 st.2.2, .int .i64 (best : Nat), .float .f64 pw]) rfl).upd_mk (by simp)
            go_wp2_with (first | (refine wpList_load_row rfl 45 (.tmp 6) rfl g6 rfl _ _ _ _ hbk Try.underlying45 rfl ver_size ?_) | (refine wpList_store_mid (op := { dst := none, op := Op.store 45 (.tmp 4) (.tmp 90), type := _, pos := _, after := _, guard := none }) rfl 45 (.tmp 4) (.tmp 90) rfl g4 0 #[.bool b, .int .u8 st.1, .bool st.2.1, .float .f64 st.2.2, .int .i64 (best : Nat), .float .f64 pw] (by rfl) (by rfl) hth ver_size (all_oneCell_toArray (ver_one _ _ _ _ _ _ ⟨rfl, rfl, rfl, rfl, rfl, rfl⟩)) ?_) | fail)
            refine bodyPost_ret (results_cell1 rfl _ _ g4 45 _ _ _ rfl (HS.blk 0 rfl) Try.underlying45 rfl ver_size) rfl ?_
            refine ⟨_, by rw [HJ.out]; rfl, ?_, HS.below⟩
            unfold Hid VerIs
            rw [HST.out, if_pos ⟨HJ.out, hz⟩]
            exact ⟨pw, by unfold verV; rw [HBB.out, HBE.out], by rw [HP.out, HBE.out]⟩
    · have hgb2 : goodRows bs m = false := by simpa using hgb
      have hje : judgeE as_ bs = 120 := judgeE_bad (by rw [HLA.out, HLB.out]; exact hlen) (by right; rw [HLB.out]; exact hgb2)
      have HV : Hid (VerIs as_ bs zeroV) := verIs_bad (by rw [hje]; decide)
      have HJ := Lib.hid hje
      clear hje
      have hfb := faultE_no hgb2
      go_wp2_with fail
      refine (fault_s A n c as_ w2 (H.arg0 RA.out) (OA.out.st H) hn).mono ?_
      rintro e w3 ⟨rfl, q1, rfl⟩
      rw [hfa]
      replace H := H.drewN q1
      clear hfa hgb hgb2
      go_wp2_with fail
      refine (fault_s B m d bs _ (H.arg0 RB.out) (OB.out.st H) hm).mono ?_
      rintro e w3 ⟨rfl, q2, rfl⟩
      rw [hfb]
      replace H := H.drewN q2
      clear hfb
      generalize (w2.drewN q1).drewN q2 = wz at H ⊢
      go_wp2_with (first | (refine wpList_store_mid rfl 45 (.tmp 4) (.tmp 29) rfl g4 0 #[.bool false, .int .u8 0, .bool false, .float .f64 0, .int .i64 0, .float .f64 0] (by rfl) (by rfl) (H.there 0 rfl) ver_size (all_oneCell_toArray (ver_one _ _ _ _ _ _ ⟨rfl, rfl, rfl, rfl, rfl, rfl⟩)) ?_) | fail)
      have HZ := (H.storeAll 0 rfl (vs := [.bool false, .int .u8 0, .bool false, .float .f64 0, .int .i64 0, .float .f64 0]) rfl).upd_mk (by simp)
      refine bodyPost_ret (results_cell1 rfl _ _ g4 45 _ _ _ rfl (HZ.blk 0 rfl) Try.underlying45 rfl ver_size) rfl ?_
      exact ⟨_, by rw [HJ.out]; rfl, HV, HZ.below⟩
  · have hga2 : goodRows as_ n = false := by simpa using hga
    have hje : judgeE as_ bs = 120 := judgeE_bad (by rw [HLA.out, HLB.out]; exact hlen) (by left; rw [HLA.out]; exact hga2)
    have HV : Hid (VerIs as_ bs zeroV) := verIs_bad (by rw [hje]; decide)
    have HJ := Lib.hid hje
    clear hje
    have hfa := faultE_no hga2
    go_wp2_with fail
    refine (fault_s A n c as_ w2 (H.arg0 RA.out) (OA.out.st H) hn).mono ?_
    rintro e w3 ⟨rfl, q1, rfl⟩
    rw [hfa]
    replace H := H.drewN q1
    clear hfa hga hga2
    go_wp2_with (first | (refine wpList_store_mid rfl 45 (.tmp 4) (.tmp 29) rfl g4 0 #[.bool false, .int .u8 0, .bool false, .float .f64 0, .int .i64 0, .float .f64 0] (by rfl) (by rfl) (H.there 0 rfl) ver_size (all_oneCell_toArray (ver_one _ _ _ _ _ _ ⟨rfl, rfl, rfl, rfl, rfl, rfl⟩)) ?_) | fail)
    have HZ := (H.storeAll 0 rfl (vs := [.bool false, .int .u8 0, .bool false, .float .f64 0, .int .i64 0, .float .f64 0]) rfl).upd_mk (by simp)
    refine bodyPost_ret (results_cell1 rfl _ _ g4 45 _ _ _ rfl (HZ.blk 0 rfl) Try.underlying45 rfl ver_size) rfl ?_
    exact ⟨_, by rw [HJ.out]; rfl, HV, HZ.below⟩

end Go.Proofs.Ytpmgklmgaienhaa
