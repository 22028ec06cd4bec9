/- Texts of this claim, merged: LentO, Plain, OpS, Skel, RowS, RowO, LawOSame, OpB, LawOBytes, Held2. -/
import Derived.Deep.Cut
import Derived.Laws.BytesArg
import Derived.Shelf.Bytes.SlSmallAll
import Derived.Test.YtgfhnbjpdhdhgaaRows
import Derived.Deep.Slices
import Derived.Test.YtgfhnbjpdhdhgaaMgB
set_option linter.unusedVariables false

namespace Go.Proofs.Ytgfhnbjpdhdhgaa
open Go.RowKit
set_option linter.unusedVariables false

theorem results_cells {P : Program} {fn : Func} {p q : Tmp} {ty ty' : TypeId} (h : fn.results = #[.cell p ty, .cell q ty']) (tmps : Array Value) (w : World) (g g' : Nat) (t t' : TypeId) (cs cs' : Array Value) (fr fr' : Nat × Nat) (d d' : TypeDesc)
    (hp : tmps.getD p undef = .pointer (some ⟨g, 0, none⟩)) (hg : w.heap[g]? = some (.cells cs t fr))
    (hu : P.underlying ty = some d) (hd : (match d with | .struct _ | .array _ _ => true | _ => false) = true) (hi : (P.info? ty).map (·.size) = some cs.size)
    (hp' : tmps.getD q undef = .pointer (some ⟨g', 0, none⟩)) (hg' : w.heap[g']? = some (.cells cs' t' fr'))
    (hu' : P.underlying ty' = some d') (hd' : (match d' with | .struct _ | .array _ _ => true | _ => false) = true) (hi' : (P.info? ty').map (·.size) = some cs'.size) :
    (results fn tmps).run P w = .ok (.tuple #[.agg cs, .agg cs']) w := by
  have h1 : tmps[p]?.getD undef = .pointer (some ⟨g, 0, none⟩) := by simpa using hp
  have h2 : tmps[q]?.getD undef = .pointer (some ⟨g', 0, none⟩) := by simpa using hp'
  simp [results, h, h1, h2, asAddr, run_loadVar_row w g t ty cs fr d hg hu hd hi, run_loadVar_row w g' t' ty' cs' fr' d' hg' hu' hd' hi', Sem.run_bind, Result.andThen]
theorem St.perm {w0 w : World} {F0 : List Nat} {L L' : List Own} (H : St w0 F0 w (lay L)) (p : List Nat) (n : Nat) (hn : L'.length = n) (hp : ∀ i, i < n → ∀ j, j < n → p.getD i 0 = p.getD j 0 → i = j) (h : ∀ i, i < n → L[p.getD i 0]? = L'[i]?) : St w0 F0 w (lay L') := by
  obtain ⟨lo, Fs, h1, h2⟩ := H
  have hl : ∀ i A, lay L' i = some A → i < n ∧ lay L (p.getD i 0) = some A := by
    intro i A hA
    have hi : i < n := by rw [← hn]; exact (List.getElem?_eq_some_iff.1 hA).1
    exact ⟨hi, (h i hi).trans hA⟩
  exact ⟨lo, fun k => Fs (p.getD k 0), fun i A hA => h1 _ A (hl i A hA).2, fun i j A B hij hA hB => h2 _ _ A B (fun e => hij (hp i (hl i A hA).1 j (hl j B hB).1 e)) (hl i A hA).2 (hl j B hB).2⟩
theorem two_size : (Try.prog.info? 47).map (·.size) = some 2 := by kernel_rfl

def fulls (A B : Value) : Value := .agg #[A, B]

set_option maxHeartbeats 2000000 in
theorem keptOp_yes (k : UInt8) (h : Int) (a : UInt8) (cn ou : Int) (A B A' B' : Option Addr) (n m c d n' m' c' d' : Nat) (xs ys : List UInt8) (w : World) (hA : Rd w 1 A n (xs.map vb)) (hB : Rd w 1 B m (ys.map vb)) (hA' : Rd w 1 A' n' ((xs ++ marksB 7 0 6).map vb)) (hB' : Rd w 1 B' m' ((ys ++ marksB 7 0 6).map vb))
    (hn : n ≤ 140737488355320) (hm : m ≤ 140737488355320) (hn' : n' ≤ 9223372036854775807) (hm' : m' ≤ 9223372036854775807) :
    Calls Try.prog 36 #[.agg #[.slice A' n' c', .slice B' m' d'], opV k h a cn ou (.slice A n c) (.slice B m d)] w fun e w' => e = .returned (.bool true) ∧ Below w.heap.size w w' := by
  generalize hX : xs ++ marksB 7 0 6 = X at hA'
  generalize hY : ys ++ marksB 7 0 6 = Y at hB'
  have HX := Lib.hid hX
  have HY := Lib.hid hY
  clear hX hY
  have H0 := St.start_lay w []
  go_enter Try.func36, Try.ntmps36
  go_wp2_with fail
  refine absorb_calls (H0.allocAt 0 rfl w.heap.size rfl _ _ |>.push_mk rfl |>.allocAt 1 rfl (w.heap.size + 1) (by simp) _ _ |>.push_mk rfl) ?_
  intro w1 H
  generalize w.heap.size + 1 = gb at H ⊢
  generalize hga : w.heap.size = ga at H ⊢
  clear hga H0
  refine (keptBytes_yes A' A n' n c' c X xs w1 (H.arg0 hA') (H.arg0 hA) hn' hn HX.out.symm).mono ?_
  rintro e w2 ⟨rfl, hb2⟩
  replace H := H.call hb2
  clear hb2
  have c0 := H.cell 0 rfl (o := 1) rfl
  have c1 := H.cell 1 rfl (o := 6) rfl
  go_wp2_with fail
  refine (keptBytes_yes B' B m' m d' d Y ys w2 (H.arg0 hB') (H.arg0 hB) hm' hm HY.out.symm).mono ?_
  rintro e w3 ⟨rfl, hb3⟩
  replace H := H.call hb3
  go_wp2_with fail
  go_ret
  exact ⟨rfl, H.below⟩

set_option maxHeartbeats 2000000 in
theorem overOp_st {w0 w : World} {F0 : List Nat} {E : Env} {g g' n m c d : Nat} {l l' : List UInt8} (H : St w0 F0 w E) (i j : Nat) (hij : i ≠ j) (hi : E i = some (.row 5 1 (.slice (some ⟨g, 0, none⟩) n c) n (l.map vb))) (hj : E j = some (.row 5 1 (.slice (some ⟨g', 0, none⟩) m d) m (l'.map vb))) (hn : n ≤ 140737488355328) (hm : m ≤ 140737488355328) :
    Calls Try.prog 37 #[.agg #[.slice (some ⟨g, 0, none⟩) n c, .slice (some ⟨g', 0, none⟩) m d]] w fun e w' => e = .returned (.tuple #[]) ∧ St w0 F0 w' (upd (upd E i (.row 5 1 (.slice (some ⟨g, 0, none⟩) n c) n ((marksB 9 0 n).map vb))) j (.row 5 1 (.slice (some ⟨g', 0, none⟩) m d) m ((marksB 9 0 m).map vb))) := by
  obtain ⟨F, HF, -, -, hback⟩ := H.frame2 i j hij hi hj
  have HB := Lib.hid hback
  clear hback H
  have H1 := HF.as2
  clear HF hi hj
  go_enter Try.func37, Try.ntmps37
  go_wp2_with fail
  refine absorb_calls (H1.allocAt 2 rfl w.heap.size rfl _ _ |>.push_mk rfl) ?_
  intro w1 H
  generalize w.heap.size = ga at H ⊢
  clear H1
  refine (over_st H 0 rfl hn).mono ?_
  rintro e w2 ⟨rfl, H'⟩
  replace H := H'.upd_mk (by simp)
  clear H'
  have c0 := H.cell 2 rfl (o := 1) rfl
  go_wp2_with fail
  refine (over_st H 1 rfl hm).mono ?_
  rintro e w3 ⟨rfl, H'⟩
  replace H := H'.upd_mk (by simp)
  clear H'
  go_wp2_with fail
  go_end0
  exact ⟨rfl, HB.out _ _ _ (H.to2 rfl rfl)⟩

set_option maxHeartbeats 4000000 in
theorem lentOp_s (k : UInt8) (h : Int) (a : UInt8) (cn ou : Int) (A B : Option Addr) (n m c d : Nat) (xs ys : List UInt8) (w : World) (hA : Rd w 1 A n (xs.map vb)) (hB : Rd w 1 B m (ys.map vb)) (hn : n ≤ 140737488355320) (hm : m ≤ 140737488355320) :
    Calls Try.prog 31 #[opV k h a cn ou (.slice A n c) (.slice B m d)] w fun e w' => ∃ g g' c1 d1 : Nat, n + 6 ≤ c1 ∧ m + 6 ≤ d1 ∧
      e = .returned (.tuple #[opV k h a cn ou (.slice (some ⟨g, 0, none⟩) n c1) (.slice (some ⟨g', 0, none⟩) m d1), .agg #[.slice (some ⟨g, 0, none⟩) (n + 6) c1, .slice (some ⟨g', 0, none⟩) (m + 6) d1]]) ∧
      St w [] w' (lay [.row 5 1 (.slice (some ⟨g, 0, none⟩) (n + 6) c1) (n + 6) ((xs ++ marksB 7 0 6).map vb), .row 5 1 (.slice (some ⟨g', 0, none⟩) (m + 6) d1) (m + 6) ((ys ++ marksB 7 0 6).map vb)]) := by
  have hlx : xs.length = n := by simpa using hA.1
  have hly : ys.length = m := by simpa using hB.1
  have Hx := Lib.hid hlx
  have Hy := Lib.hid hly
  clear hlx hly
  have H0 := St.start_lay w []
  go_enter Try.func31, Try.ntmps31
  go_wp2_with fail
  refine absorb_wp (H0.allocAt 0 rfl w.heap.size rfl _ _ |>.push_mk rfl |>.allocAt 1 rfl (w.heap.size + 1) (by simp) _ _ |>.push_mk rfl |>.allocAt 2 rfl (w.heap.size + 1 + 1) (by simp) _ _ |>.push_mk rfl) ?_
  intro w1 H
  generalize w.heap.size + 1 + 1 = g3 at H ⊢
  generalize w.heap.size + 1 = g2 at H ⊢
  generalize hga : w.heap.size = g1 at H ⊢
  clear hga H0
  obtain ⟨X, HX⟩ : ∃ X, Hid (xs ++ marksB 7 0 6 = X) := ⟨_, rfl⟩
  have HX1 := HX
  obtain ⟨Y, HY⟩ : ∃ Y, Hid (ys ++ marksB 7 0 6 = Y) := ⟨_, rfl⟩
  have HY1 := HY
  have LX : Hid (X.length = n + 6) := by unfold Hid; rw [← HX.out, List.length_append, marksB_length, Hx.out]
  have LY : Hid (Y.length = m + 6) := by unfold Hid; rw [← HY.out, List.length_append, marksB_length, Hy.out]
  replace H : St w [] w1 (lay [.blk g1 31 [.int .u8 (k.toNat : Int), .int .i64 h, .int .u8 (a.toNat : Int), .int .i64 cn, .int .i64 ou, .slice A n c, .slice B m d], .blk g2 31 [.int .u8 0, .int .i64 0, .int .u8 0, .int .i64 0, .int .i64 0, .slice none 0 0, .slice none 0 0], .blk g3 47 [.slice none 0 0, .slice none 0 0]]) := H
  go_cut [4] from 5 (fun v wr => ∃ g4 g5 g6 c5 c6, n + 6 ≤ c5 ∧ m + 6 ≤ c6 ∧ v = .pointer (some ⟨g4, 0, none⟩) ∧ St w [] wr (lay [.blk g1 31 [.int .u8 (k.toNat : Int), .int .i64 h, .int .u8 (a.toNat : Int), .int .i64 cn, .int .i64 ou, .slice A n c, .slice B m d], .blk g2 31 [.int .u8 0, .int .i64 0, .int .u8 0, .int .i64 0, .int .i64 0, .slice none 0 0, .slice none 0 0], .blk g3 47 [.slice none 0 0, .slice none 0 0], .blk g4 47 [.slice (some ⟨g5, 0, none⟩) (n + 6) c5, .slice (some ⟨g6, 0, none⟩) (m + 6) c6], .row 5 1 (.slice (some ⟨g5, 0, none⟩) (n + 6) c5) (n + 6) (X.map vb), .row 5 1 (.slice (some ⟨g6, 0, none⟩) (m + 6) c6) (m + 6) (Y.map vb)]))
  case first =>
    have H1 := H.drew
    have HA := ((H.allocAt 3 rfl w1.heap.size rfl #[.slice none 0 0, .slice none 0 0] 47).push_mk rfl).drew
    go_region_held3 (fun w' => w'.cell? ⟨g1, 5, none⟩ = some (.slice A n c) ∧ w'.cell? ⟨g1, 6, none⟩ = some (.slice B m d)) (first | with_reducible exact ⟨H8.cell 0 rfl rfl, H8.cell 0 rfl rfl⟩ | with_reducible exact ⟨H7.cell 0 rfl rfl, H7.cell 0 rfl rfl⟩ | with_reducible exact ⟨H6.cell 0 rfl rfl, H6.cell 0 rfl rfl⟩ | with_reducible exact ⟨(H6.call ((Below.refl _ _).alloc (Nat.le_refl _) _)).cell 0 rfl rfl, (H6.call ((Below.refl _ _).alloc (Nat.le_refl _) _)).cell 0 rfl rfl⟩ | with_reducible exact ⟨H5.cell 0 rfl rfl, H5.cell 0 rfl rfl⟩ | with_reducible exact ⟨(H5.call ((Below.refl _ _).alloc (Nat.le_refl _) _)).cell 0 rfl rfl, (H5.call ((Below.refl _ _).alloc (Nat.le_refl _) _)).cell 0 rfl rfl⟩ | with_reducible exact ⟨H1.cell 0 rfl rfl, H1.cell 0 rfl rfl⟩ | with_reducible exact ⟨HA.cell 0 rfl rfl, HA.cell 0 rfl rfl⟩) ((first
        | (go_at_call 20; first
          | (with_reducible refine (lentBytes_any B m d ys w5 (H5.arg0 hB) hm).mono ?_; rintro e w6 ⟨v6, rfl, ho6, hb6⟩; obtain ⟨g6, c6, rfl, hc6, -, -⟩ := ho6.lent Hy.out; rw [HY.out] at ho6; first
            | (have H6 := (H5.pushOwnB 5 rfl ho6 hb6).push_mk rfl; have f0 := H6.cell 3 rfl (o := 0) rfl; have f1 := H6.cell 3 rfl (o := 1) rfl; have e0 := H6.free 3 rfl 0; have e1 := H6.free 3 rfl 1; have H7 := H6.store 3 rfl (o := 0) (u := .slice (some ⟨g5, 0, none⟩) (n + 6) c5) |>.upd_mk (by simp); have H8 := H7.store 3 rfl (o := 1) (u := .slice (some ⟨g6, 0, none⟩) (m + 6) c6) |>.upd_mk (by simp))
            | (have H6 := (H5.pushOwnB 4 rfl ho6 hb6).push_mk rfl))
          | (with_reducible refine (lentBytes_any B m d ys (w5.alloc (.cells #[.slice none 0 0, .slice none 0 0] 47)) ((H5.call ((Below.refl _ _).alloc (Nat.le_refl _) _)).arg0 hB) hm).mono ?_; rintro e w6 ⟨v6, rfl, ho6, hb6⟩; obtain ⟨g6, c6, rfl, hc6, -, -⟩ := ho6.lent Hy.out; rw [HY.out] at ho6; have H6 := (((H5.allocAt 4 rfl w5.heap.size rfl _ _).push_mk rfl).pushOwnB 5 rfl ho6 hb6).push_mk rfl; have f0 := H6.cell 4 rfl (o := 0) rfl; have f1 := H6.cell 4 rfl (o := 1) rfl; have e0 := H6.free 4 rfl 0; have e1 := H6.free 4 rfl 1; have H7 := H6.store 4 rfl (o := 0) (u := .slice (some ⟨g5, 0, none⟩) (n + 6) c5) |>.upd_mk (by simp); have H8 := H7.store 4 rfl (o := 1) (u := .slice (some ⟨g6, 0, none⟩) (m + 6) c6) |>.upd_mk (by simp)))
        | (go_at_call 20; first
          | (with_reducible refine (lentBytes_any A n c xs w1.drew (H1.arg0 hA) hn).mono ?_; rintro e w5 ⟨v5, rfl, ho5, hb5⟩; obtain ⟨g5, c5, rfl, hc5, -, -⟩ := ho5.lent Hx.out; rw [HX.out] at ho5; have H5 := (H1.pushOwnB 3 rfl ho5 hb5).push_mk rfl)
          | (with_reducible refine (lentBytes_any A n c xs (w1.alloc (.cells #[.slice none 0 0, .slice none 0 0] 47)).drew (HA.arg0 hA) hn).mono ?_; rintro e w5 ⟨v5, rfl, ho5, hb5⟩; obtain ⟨g5, c5, rfl, hc5, -, -⟩ := ho5.lent Hx.out; rw [HX.out] at ho5; have H5 := (HA.pushOwnB 4 rfl ho5 hb5).push_mk rfl))))
    · go_wp2
      go_meet
      exact ⟨w6.heap.size, g5, g6, c5, c6, hc5, hc6, rfl, ((((H6.shape_row 3 rfl LX.out rfl).shape_row 4 rfl LY.out rfl).allocAt 5 rfl w6.heap.size rfl #[.slice (some ⟨g5, 0, none⟩) (n + 6) c5, .slice (some ⟨g6, 0, none⟩) (m + 6) c6] 47).push_mk rfl).perm [0, 1, 2, 5, 3, 4] 6 rfl (by decide) (by intro i hi; match i with | 0 => rfl | 1 => rfl | 2 => rfl | 3 => rfl | 4 => rfl | 5 => rfl | i + 6 => omega)⟩
    · go_wp2
      go_meet
      exact ⟨w5.heap.size, g5, g6, c5, c6, hc5, hc6, rfl, ((H8.shape_row 3 rfl LX.out rfl).shape_row 5 rfl LY.out rfl).perm [0, 1, 2, 4, 3, 5] 6 rfl (by decide) (by intro i hi; match i with | 0 => rfl | 1 => rfl | 2 => rfl | 3 => rfl | 4 => rfl | 5 => rfl | i + 6 => omega)⟩
    · go_wp2
      go_meet
      exact ⟨w1.heap.size, g5, g6, c5, c6, hc5, hc6, rfl, ((H8.shape_row 4 rfl LX.out rfl).shape_row 5 rfl LY.out rfl)⟩
  case rest =>
    clear H
    obtain ⟨g4, g5, g6, c5, c6, hc5, hc6, rfl, H⟩ := hcut
    have x0 := H.cell 3 rfl (o := 0) rfl
    have x1 := H.cell 3 rfl (o := 1) rfl
    have x5 := H.cell 0 rfl (o := 5) rfl
    have x6 := H.cell 0 rfl (o := 6) rfl
    have y5 := H.free 0 rfl 5
    have y6 := H.free 0 rfl 6
    have n43 := H.ne 3 0 rfl rfl (by omega)
    have kn : (n : Int) ≤ c5 := by omega
    have km : (m : Int) ≤ c6 := by omega
    have qn : ¬ c5 = 0 := by omega
    have qm : ¬ c6 = 0 := by omega
    go_wp2_with fail
    have HX : St w [] ((wc.setCell ⟨g1, 5, none⟩ (.slice (some ⟨g5, 0, none⟩) n c5)).setCell ⟨g1, 6, none⟩ (.slice (some ⟨g6, 0, none⟩) m c6)) (lay [.blk g1 31 [.int .u8 (k.toNat : Int), .int .i64 h, .int .u8 (a.toNat : Int), .int .i64 cn, .int .i64 ou, .slice (some ⟨g5, 0, none⟩) n c5, .slice (some ⟨g6, 0, none⟩) m c6], .blk g2 31 [.int .u8 0, .int .i64 0, .int .u8 0, .int .i64 0, .int .i64 0, .slice none 0 0, .slice none 0 0], .blk g3 47 [.slice none 0 0, .slice none 0 0], .blk g4 47 [.slice (some ⟨g5, 0, none⟩) (n + 6) c5, .slice (some ⟨g6, 0, none⟩) (m + 6) c6], .row 5 1 (.slice (some ⟨g5, 0, none⟩) (n + 6) c5) (n + 6) (X.map vb), .row 5 1 (.slice (some ⟨g6, 0, none⟩) (m + 6) c6) (m + 6) (Y.map vb)]) := ((H.store 0 rfl (o := 5) (u := .slice (some ⟨g5, 0, none⟩) n c5)).upd_mk (by simp) |>.store 0 rfl (o := 6) (u := .slice (some ⟨g6, 0, none⟩) m c6)).upd_mk (by simp)
    refine absorb_wp HX ?_
    clear HX H x0 x1 x5 x6 y5 y6 n43
    intro wx HX
    have a0 := HX.cell 0 rfl (o := 0) rfl
    have b0 := HX.cell 1 rfl (o := 0) rfl
    have c0 := HX.free 1 rfl 0
    have a1 := HX.cell 0 rfl (o := 1) rfl
    have b1 := HX.cell 1 rfl (o := 1) rfl
    have c1 := HX.free 1 rfl 1
    have a2 := HX.cell 0 rfl (o := 2) rfl
    have b2 := HX.cell 1 rfl (o := 2) rfl
    have c2 := HX.free 1 rfl 2
    have a3 := HX.cell 0 rfl (o := 3) rfl
    have b3 := HX.cell 1 rfl (o := 3) rfl
    have c3 := HX.free 1 rfl 3
    have a4 := HX.cell 0 rfl (o := 4) rfl
    have b4 := HX.cell 1 rfl (o := 4) rfl
    have c4 := HX.free 1 rfl 4
    have a5 := HX.cell 0 rfl (o := 5) rfl
    have b5 := HX.cell 1 rfl (o := 5) rfl
    have cc5 := HX.free 1 rfl 5
    have a6 := HX.cell 0 rfl (o := 6) rfl
    have b6 := HX.cell 1 rfl (o := 6) rfl
    have cc6 := HX.free 1 rfl 6
    have d0 := HX.cell 3 rfl (o := 0) rfl
    have e0 := HX.cell 2 rfl (o := 0) rfl
    have f0 := HX.free 2 rfl 0
    have d1 := HX.cell 3 rfl (o := 1) rfl
    have e1 := HX.cell 2 rfl (o := 1) rfl
    have f1 := HX.free 2 rfl 1
    have n1 := HX.ne 0 1 rfl rfl (by omega)
    have n2 := HX.ne 0 2 rfl rfl (by omega)
    have n3 := HX.ne 3 1 rfl rfl (by omega)
    have n4 := HX.ne 3 2 rfl rfl (by omega)
    have n5 := HX.ne 1 2 rfl rfl (by omega)
    go_region
    have HS := ((((((((((((((((((HX.store 1 rfl (o := 0) (u := .int .u8 (k.toNat : Int))).upd_mk (by simp)).store 1 rfl (o := 1) (u := .int .i64 h)).upd_mk (by simp)).store 1 rfl (o := 2) (u := .int .u8 (a.toNat : Int))).upd_mk (by simp)).store 1 rfl (o := 3) (u := .int .i64 cn)).upd_mk (by simp)).store 1 rfl (o := 4) (u := .int .i64 ou)).upd_mk (by simp)).store 1 rfl (o := 5) (u := .slice (some ⟨g5, 0, none⟩) n c5)).upd_mk (by simp)).store 1 rfl (o := 6) (u := .slice (some ⟨g6, 0, none⟩) m c6)).upd_mk (by simp)).store 2 rfl (o := 0) (u := .slice (some ⟨g5, 0, none⟩) (n + 6) c5)).upd_mk (by simp)).store 2 rfl (o := 1) (u := .slice (some ⟨g6, 0, none⟩) (m + 6) c6)).upd_mk (by simp)).drew
    go_wp2_with fail
    refine bodyPost_ret (results_cells rfl _ _ g2 g3 31 47 #[.int .u8 (k.toNat : Int), .int .i64 h, .int .u8 (a.toNat : Int), .int .i64 cn, .int .i64 ou, .slice (some ⟨g5, 0, none⟩) n c5, .slice (some ⟨g6, 0, none⟩) m c6] #[.slice (some ⟨g5, 0, none⟩) (n + 6) c5, .slice (some ⟨g6, 0, none⟩) (m + 6) c6] _ _ _ _ rfl (HS.blk 1 rfl) Try.underlying31 rfl op_size rfl (HS.blk 2 rfl) Try.underlying47 rfl two_size) rfl ?_
    refine ⟨g5, g6, c5, c6, hc5, hc6, rfl, ?_⟩
    rw [HX1.out, HY1.out]
    exact HS.perm [4, 5] 2 rfl (by decide) (by intro i hi; match i with | 0 => rfl | 1 => rfl | i + 2 => omega)
end Go.Proofs.Ytgfhnbjpdhdhgaa

namespace Go.Proofs.Ytgfhnbjpdhdhgaa
open Go.RowKit
set_option linter.unusedVariables false

def pI (c : Nat) (us : List Nat) (h : Int) : Int := if c ∈ us then h else 0
def pA (us : List Nat) (a : UInt8) : UInt8 := if 1 ∈ us then a else 0
def pL (c : Nat) (us : List Nat) (l : List UInt8) : List UInt8 := if c ∈ us then l else []
theorem pI_new (c : Nat) (us : List Nat) (h : Int) : pI c (us ++ [c]) h = h := by simp [pI]
theorem pI_old (c u : Nat) (us : List Nat) (h : Int) (hc : c ≠ u) : pI c (us ++ [u]) h = pI c us h := by simp [pI, hc]
theorem pA_new (us : List Nat) (a : UInt8) : pA (us ++ [1]) a = a := by simp [pA]
theorem pA_old (u : Nat) (us : List Nat) (a : UInt8) (hc : 1 ≠ u) : pA (us ++ [u]) a = pA us a := by simp [pA, hc]
theorem pL_new (c : Nat) (us : List Nat) (l : List UInt8) : pL c (us ++ [c]) l = l := by simp [pL]
theorem pL_old (c u : Nat) (us : List Nat) (l : List UInt8) (hc : c ≠ u) : pL c (us ++ [u]) l = pL c us l := by simp [pL, hc]
theorem pI_nil (c : Nat) (h : Int) : pI c [] h = 0 := by simp [pI]
theorem pA_nil (a : UInt8) : pA [] a = 0 := by simp [pA]
theorem pL_nil (c : Nat) (l : List UInt8) : pL c [] l = [] := by simp [pL]
theorem row_addr {w : World} {e : TypeId} {size n c : Nat} {A : Option Addr} {xs : List Value} (h : w.ownsRow 0 e size (.slice A n c) n xs) (hn : 0 < n) : ∃ g, A = some ⟨g, 0, none⟩ := by
  rcases h.2 with ⟨h', h2⟩ | ⟨g', cap', cur, h', _⟩
  · omega
  · injection h' with h4 _; exact ⟨g', h4⟩
theorem uses_le (k : UInt8) : ∀ u ∈ usesOf k, u ≤ 5 := by
  intro u hu
  unfold usesOf at hu
  repeat' split at hu
  all_goals simp at hu; try omega
theorem uses_len (k : UInt8) : (usesOf k).length ≤ 5 := by
  unfold usesOf
  repeat' split
  all_goals simp
/-- what a call of Plain tells -/
def PlainP (k : UInt8) (h : Int) (a : UInt8) (c o : Int) (xs ys : List UInt8) (w : World) (e : Ending) (w' : World) : Prop :=
  ∃ v5 v6, e = .returned (opV k (pI 0 (usesOf k) h) (pA (usesOf k) a) (pI 2 (usesOf k) c) (pI 3 (usesOf k) o) v5 v6) ∧
    St w [] w' (lay [.row 5 1 v5 (pL 4 (usesOf k) xs).length ((pL 4 (usesOf k) xs).map vb), .row 5 1 v6 (pL 5 (usesOf k) ys).length ((pL 5 (usesOf k) ys).map vb)])

set_option maxRecDepth 100000 in
set_option maxHeartbeats 4000000 in
theorem opPlain_s (k : UInt8) (h : Int) (a : UInt8) (cn ou : Int) (A B : Option Addr) (n m c d : Nat) (xs ys : List UInt8) (w : World) (hA : Rd w 1 A n (xs.map vb)) (hB : Rd w 1 B m (ys.map vb)) (hn : n ≤ 140737488355320) (hm : m ≤ 140737488355320) :
    Calls Try.prog 47 #[opV k h a cn ou (.slice A n c) (.slice B m d)] w (PlainP k h a cn ou xs ys w) := by
  obtain ⟨i0, hi0, hz0, hz1, hz2⟩ := info_parts u8_info
  have Hx := Lib.hid (show xs.length = n by simpa using hA.1)
  have Hy := Lib.hid (show ys.length = m by simpa using hB.1)
  have H0 := St.start_lay w []
  go_enter Try.func47, Try.ntmps47
  go_wp2_with fail
  refine absorb_calls (H0.allocAt 0 rfl w.heap.size rfl _ _ |>.push_mk rfl |>.allocAt 1 rfl (w.heap.size + 1) (by simp) _ _ |>.push_mk rfl |>.allocAt 2 rfl (w.heap.size + 1 + 1) (by simp) _ _ |>.push_mk rfl) ?_
  intro w1 H
  generalize w.heap.size + 1 + 1 = gP at H ⊢
  generalize w.heap.size + 1 = gR at H ⊢
  generalize hga : w.heap.size = gA at H ⊢
  clear hga H0
  refine (opUses_s k w1).mono ?_
  rintro e w2 ⟨vn, rfl, hon, hbn⟩
  replace H := (H.pushRow 3 rfl hbn hon).push_mk rfl
  clear hon hbn
  have hle := uses_le k
  have hll := uses_len k
  obtain ⟨us, hus⟩ : ∃ us, usesOf k = us := ⟨_, rfl⟩
  rw [hus] at hle hll H
  have HU := Lib.hid hus
  have HLE := Lib.hid hle
  clear hus hle
  replace H := ((H.nilRow 4 rfl 5 1).push_mk rfl).nilRow 5 rfl 5 1 |>.push_mk rfl
  obtain ⟨An, cN, rfl, -⟩ := row_form (H.row 3 rfl)
  go_wp2_with fail
  go_loopw [5, 13] (fun u5 i wr => ∃ (j : Nat) (A5 A6 : Option Addr) (d5 d6 : Nat), j ≤ us.length ∧ i = .int .i64 j ∧ St w [] wr (lay [.blk gA 31 [.int .u8 (k.toNat : Int), .int .i64 h, .int .u8 (a.toNat : Int), .int .i64 cn, .int .i64 ou, .slice A n c, .slice B m d], .blk gR 31 [.int .u8 0, .int .i64 0, .int .u8 0, .int .i64 0, .int .i64 0, .slice none 0 0, .slice none 0 0], .blk gP 31 [.int .u8 (k.toNat : Int), .int .i64 (pI 0 (us.take j) h), .int .u8 ((pA (us.take j) a).toNat : Int), .int .i64 (pI 2 (us.take j) cn), .int .i64 (pI 3 (us.take j) ou), (.slice A5 (pL 4 (us.take j) xs).length d5), (.slice A6 (pL 5 (us.take j) ys).length d6)], .row 9 1 (.slice An us.length cN) us.length (us.map nmV), .row 5 1 (.slice A5 (pL 4 (us.take j) xs).length d5) (pL 4 (us.take j) xs).length ((pL 4 (us.take j) xs).map vb), .row 5 1 (.slice A6 (pL 5 (us.take j) ys).length d6) (pL 5 (us.take j) ys).length ((pL 5 (us.take j) ys).map vb)])) (fun _ i _ => us.length - (intOf i).toNat)
  case atStart => exact ⟨0, none, none, 0, 0, Nat.zero_le _, rfl, by rw [List.take_zero]; simp only [pI_nil, pA_nil, pL_nil]; exact H⟩
  case round =>
    clear H
    obtain ⟨j, A5, A6, d5, d6, hj, rfl, H⟩ := hrel
    by_cases hlt : j < us.length
    · obtain ⟨u, hu⟩ : ∃ u, us[j]? = some u := ⟨_, List.getElem?_eq_getElem hlt⟩
      have hu5 := HLE.out u (List.mem_of_getElem? hu)
      have hT : us.take (j + 1) = us.take j ++ [u] := by rw [List.take_add_one, hu]; rfl
      obtain ⟨gN, rfl⟩ := row_addr (H.row 3 rfl) (by omega)
      have hc := World.ownsRow.cellAt (H.row 3 rfl) j (by omega)
      rw [List.getElem?_map, hu] at hc
      have HT := Lib.hid hT
      clear hT hu
      have hj1 : (j : Int) < us.length := by omega
      have hj2 : j < us.length := hlt
      generalize us.take j = T at *
      have hcases : u = 0 ∨ u = 1 ∨ u = 2 ∨ u = 3 ∨ u = 4 ∨ u = 5 := by omega
      clear hu5 hlt
      rcases hcases with rfl | rfl | rfl | rfl | rfl | rfl
      · have hc' : wr.cell? ⟨gN, j, none⟩ = some (.string (nm 0)) := hc
        clear hc
        unfold nm at hc'
        have x0 := H.cell 0 rfl (o := 1) rfl
        have x1 := H.cell 2 rfl (o := 1) rfl
        have x2 := H.free 2 rfl 1
        go_wp2
        go_roundw
        case rel => exact ⟨j + 1, A5, A6, d5, d6, by omega, by go_num, by rw [HT.out, pI_new 0, pI_old 2 0 _ _ (by omega), pI_old 3 0 _ _ (by omega), pA_old 0 _ _ (by omega), pL_old 4 0 _ _ (by omega), pL_old 5 0 _ _ (by omega)]; exact (H.store 2 rfl (o := 1) (u := .int .i64 h)).upd_mk (by simp)⟩
        case measure => first | (simp [intOf]; omega) | simp [intOf]
      · have hc' : wr.cell? ⟨gN, j, none⟩ = some (.string (nm 1)) := hc
        clear hc
        unfold nm at hc'
        have x0 := H.cell 0 rfl (o := 2) rfl
        have x1 := H.cell 2 rfl (o := 2) rfl
        have x2 := H.free 2 rfl 2
        go_wp2
        go_roundw
        case rel => exact ⟨j + 1, A5, A6, d5, d6, by omega, by go_num, by rw [HT.out, pI_old 0 1 _ _ (by omega), pI_old 2 1 _ _ (by omega), pI_old 3 1 _ _ (by omega), pA_new, pL_old 4 1 _ _ (by omega), pL_old 5 1 _ _ (by omega)]; exact (H.store 2 rfl (o := 2) (u := .int .u8 (a.toNat : Int))).upd_mk (by simp)⟩
        case measure => first | (simp [intOf]; omega) | simp [intOf]
      · have hc' : wr.cell? ⟨gN, j, none⟩ = some (.string (nm 2)) := hc
        clear hc
        unfold nm at hc'
        have x0 := H.cell 0 rfl (o := 3) rfl
        have x1 := H.cell 2 rfl (o := 3) rfl
        have x2 := H.free 2 rfl 3
        go_wp2
        go_roundw
        case rel => exact ⟨j + 1, A5, A6, d5, d6, by omega, by go_num, by rw [HT.out, pI_old 0 2 _ _ (by omega), pI_new 2, pI_old 3 2 _ _ (by omega), pA_old 2 _ _ (by omega), pL_old 4 2 _ _ (by omega), pL_old 5 2 _ _ (by omega)]; exact (H.store 2 rfl (o := 3) (u := .int .i64 cn)).upd_mk (by simp)⟩
        case measure => first | (simp [intOf]; omega) | simp [intOf]
      · have hc' : wr.cell? ⟨gN, j, none⟩ = some (.string (nm 3)) := hc
        clear hc
        unfold nm at hc'
        have x0 := H.cell 0 rfl (o := 4) rfl
        have x1 := H.cell 2 rfl (o := 4) rfl
        have x2 := H.free 2 rfl 4
        go_wp2
        go_roundw
        case rel => exact ⟨j + 1, A5, A6, d5, d6, by omega, by go_num, by rw [HT.out, pI_old 0 3 _ _ (by omega), pI_old 2 3 _ _ (by omega), pI_new 3, pA_old 3 _ _ (by omega), pL_old 4 3 _ _ (by omega), pL_old 5 3 _ _ (by omega)]; exact (H.store 2 rfl (o := 4) (u := .int .i64 ou)).upd_mk (by simp)⟩
        case measure => first | (simp [intOf]; omega) | simp [intOf]
      · have hc' : wr.cell? ⟨gN, j, none⟩ = some (.string (nm 4)) := hc
        clear hc
        unfold nm at hc'
        have x0 := H.cell 0 rfl (o := 5) rfl
        have lA := H.lt 0 rfl
        go_wp2_with (at_builtin; have H6 := (H.lit 6 rfl 5 #[] 0 rfl (by omega) wr.heap.size rfl).push_mk rfl; have hr6 := H6.row 6 rfl; refine wpList_append_any _ rfl (.tmp 40) (.tmp 42) _ rfl 0 5 i0 (.int .u8 0) 1 1 Try.underlying25 hi0 hz0 hz1 hz2 rfl (by omega) (.slice (some ⟨wr.heap.size, 0, none⟩) 0 0) 0 [] rfl hr6 A n c (xs.map vb) rfl (H6.arg0 hA) (vb_one _) (by simp only [maxLen]; omega) (by omega) (by omega) ?_; intro v7 w7 hown7 hg7 hat7; refine absorb_list ((H6.grow 6 rfl hown7 hg7 hat7).upd_mk (by simp)) ?_; clear hown7 hg7 hat7 H6 hr6; intro w7 H7; replace H7 := H7.shape_row 6 rfl (n' := xs.length) (xs' := xs.map vb) (by rw [Hx.out]; omega) (by simp); obtain ⟨A7, d7, rfl, -⟩ := row_form (H7.row 6 rfl); have x1 := H7.cell 2 rfl (o := 5) rfl; have x2 := H7.free 2 rfl 5)
        go_roundw
        case rel => exact ⟨j + 1, A7, A6, d7, d6, by omega, by go_num, by rw [HT.out, pI_old 0 4 _ _ (by omega), pI_old 2 4 _ _ (by omega), pI_old 3 4 _ _ (by omega), pA_old 4 _ _ (by omega), pL_new 4, pL_old 5 4 _ _ (by omega)]; exact ((H7.store 2 rfl (o := 5) (u := .slice A7 xs.length d7)).upd_mk (by simp)).perm [0, 1, 2, 3, 6, 5] 6 rfl (by decide) (by intro i hi; match i with | 0 => rfl | 1 => rfl | 2 => rfl | 3 => rfl | 4 => rfl | 5 => rfl | i + 6 => omega)⟩
        case measure => first | (simp [intOf]; omega) | simp [intOf]
      · have hc' : wr.cell? ⟨gN, j, none⟩ = some (.string (nm 5)) := hc
        clear hc
        unfold nm at hc'
        have x0 := H.cell 0 rfl (o := 6) rfl
        have lA := H.lt 0 rfl
        go_wp2_with (at_builtin; have H6 := (H.lit 6 rfl 5 #[] 0 rfl (by omega) wr.heap.size rfl).push_mk rfl; have hr6 := H6.row 6 rfl; refine wpList_append_any _ rfl (.tmp 47) (.tmp 49) _ rfl 0 5 i0 (.int .u8 0) 1 1 Try.underlying25 hi0 hz0 hz1 hz2 rfl (by omega) (.slice (some ⟨wr.heap.size, 0, none⟩) 0 0) 0 [] rfl hr6 B m d (ys.map vb) rfl (H6.arg0 hB) (vb_one _) (by simp only [maxLen]; omega) (by omega) (by omega) ?_; intro v7 w7 hown7 hg7 hat7; refine absorb_list ((H6.grow 6 rfl hown7 hg7 hat7).upd_mk (by simp)) ?_; clear hown7 hg7 hat7 H6 hr6; intro w7 H7; replace H7 := H7.shape_row 6 rfl (n' := ys.length) (xs' := ys.map vb) (by rw [Hy.out]; omega) (by simp); obtain ⟨A7, d7, rfl, -⟩ := row_form (H7.row 6 rfl); have x1 := H7.cell 2 rfl (o := 6) rfl; have x2 := H7.free 2 rfl 6)
        go_roundw
        case rel => exact ⟨j + 1, A5, A7, d5, d7, by omega, by go_num, by rw [HT.out, pI_old 0 5 _ _ (by omega), pI_old 2 5 _ _ (by omega), pI_old 3 5 _ _ (by omega), pA_old 5 _ _ (by omega), pL_old 4 5 _ _ (by omega), pL_new 5]; exact ((H7.store 2 rfl (o := 6) (u := .slice A7 ys.length d7)).upd_mk (by simp)).perm [0, 1, 2, 3, 4, 6] 6 rfl (by decide) (by intro i hi; match i with | 0 => rfl | 1 => rfl | 2 => rfl | 3 => rfl | 4 => rfl | 5 => rfl | i + 6 => omega)⟩
        case measure => first | (simp [intOf]; omega) | simp [intOf]
    · have hju : j = us.length := by omega
      subst hju
      rw [List.take_length] at H
      have hb := H.blk 2 rfl
      have ht := H.there 1 rfl
      go_wp2_with (first | (refine wpList_load_row rfl 31 (.tmp 3) rfl gP rfl _ _ _ _ hb Try.underlying31 rfl op_size ?_) | (refine wpList_store_mid rfl 31 (.tmp 2) (.tmp 53) rfl gR 0 (List.toArray [.int .u8 (k.toNat : Int), .int .i64 (pI 0 us h), .int .u8 ((pA us a).toNat : Int), .int .i64 (pI 2 us cn), .int .i64 (pI 3 us ou), .slice A5 (pL 4 us xs).length d5, .slice A6 (pL 5 us ys).length d6]) rfl rfl ht op_size (all_oneCell_toArray (by simp [Value.oneCell'])) ?_))
      have HY := (H.storeAll 1 rfl (vs := [.int .u8 (k.toNat : Int), .int .i64 (pI 0 us h), .int .u8 ((pA us a).toNat : Int), .int .i64 (pI 2 us cn), .int .i64 (pI 3 us ou), .slice A5 (pL 4 us xs).length d5, .slice A6 (pL 5 us ys).length d6]) rfl).upd_mk (by simp)
      refine bodyPost_ret (results_cell_row rfl _ _ gR 31 _ _ _ rfl (HY.blk 1 rfl) Try.underlying31 rfl op_size) rfl ?_
      unfold PlainP
      rw [HU.out]
      exact ⟨_, _, rfl, HY.perm [4, 5] 2 rfl (by decide) (by intro i hi; match i with | 0 => rfl | 1 => rfl | i + 2 => omega)⟩

set_option maxRecDepth 100000 in
set_option maxHeartbeats 4000000 in
theorem refPlain_s (k : UInt8) (h : Int) (a : UInt8) (cn ou : Int) (A B : Option Addr) (n m c d : Nat) (xs ys : List UInt8) (w : World) (hA : Rd w 1 A n (xs.map vb)) (hB : Rd w 1 B m (ys.map vb)) (hn : n ≤ 140737488355320) (hm : m ≤ 140737488355320) :
    Calls Try.prog 48 #[opV k h a cn ou (.slice A n c) (.slice B m d)] w (PlainP k h a cn ou xs ys w) := by
  obtain ⟨i0, hi0, hz0, hz1, hz2⟩ := info_parts u8_info
  have Hx := Lib.hid (show xs.length = n by simpa using hA.1)
  have Hy := Lib.hid (show ys.length = m by simpa using hB.1)
  have H0 := St.start_lay w []
  go_enter Try.func48, Try.ntmps48
  go_wp2_with fail
  refine absorb_calls (H0.allocAt 0 rfl w.heap.size rfl _ _ |>.push_mk rfl |>.allocAt 1 rfl (w.heap.size + 1) (by simp) _ _ |>.push_mk rfl |>.allocAt 2 rfl (w.heap.size + 1 + 1) (by simp) _ _ |>.push_mk rfl) ?_
  intro w1 H
  generalize w.heap.size + 1 + 1 = gP at H ⊢
  generalize w.heap.size + 1 = gR at H ⊢
  generalize hga : w.heap.size = gA at H ⊢
  clear hga H0
  refine (refUses_s k w1).mono ?_
  rintro e w2 ⟨vn, rfl, hon, hbn⟩
  replace H := (H.pushRow 3 rfl hbn hon).push_mk rfl
  clear hon hbn
  have hle := uses_le k
  have hll := uses_len k
  obtain ⟨us, hus⟩ : ∃ us, usesOf k = us := ⟨_, rfl⟩
  rw [hus] at hle hll H
  have HU := Lib.hid hus
  have HLE := Lib.hid hle
  clear hus hle
  replace H := ((H.nilRow 4 rfl 5 1).push_mk rfl).nilRow 5 rfl 5 1 |>.push_mk rfl
  obtain ⟨An, cN, rfl, -⟩ := row_form (H.row 3 rfl)
  go_wp2_with fail
  go_loopw [5] (fun i wr => ∃ (j : Nat) (A5 A6 : Option Addr) (d5 d6 : Nat), j ≤ us.length ∧ i = .int .i64 j ∧ St w [] wr (lay [.blk gA 31 [.int .u8 (k.toNat : Int), .int .i64 h, .int .u8 (a.toNat : Int), .int .i64 cn, .int .i64 ou, .slice A n c, .slice B m d], .blk gR 31 [.int .u8 0, .int .i64 0, .int .u8 0, .int .i64 0, .int .i64 0, .slice none 0 0, .slice none 0 0], .blk gP 31 [.int .u8 (k.toNat : Int), .int .i64 (pI 0 (us.take j) h), .int .u8 ((pA (us.take j) a).toNat : Int), .int .i64 (pI 2 (us.take j) cn), .int .i64 (pI 3 (us.take j) ou), (.slice A5 (pL 4 (us.take j) xs).length d5), (.slice A6 (pL 5 (us.take j) ys).length d6)], .row 9 1 (.slice An us.length cN) us.length (us.map nmV), .row 5 1 (.slice A5 (pL 4 (us.take j) xs).length d5) (pL 4 (us.take j) xs).length ((pL 4 (us.take j) xs).map vb), .row 5 1 (.slice A6 (pL 5 (us.take j) ys).length d6) (pL 5 (us.take j) ys).length ((pL 5 (us.take j) ys).map vb)])) (fun i _ => us.length - (intOf i).toNat)
  case atStart => exact ⟨0, none, none, 0, 0, Nat.zero_le _, rfl, by rw [List.take_zero]; simp only [pI_nil, pA_nil, pL_nil]; exact H⟩
  case round =>
    clear H
    obtain ⟨j, A5, A6, d5, d6, hj, rfl, H⟩ := hrel
    by_cases hlt : j < us.length
    · obtain ⟨u, hu⟩ : ∃ u, us[j]? = some u := ⟨_, List.getElem?_eq_getElem hlt⟩
      have hu5 := HLE.out u (List.mem_of_getElem? hu)
      have hT : us.take (j + 1) = us.take j ++ [u] := by rw [List.take_add_one, hu]; rfl
      obtain ⟨gN, rfl⟩ := row_addr (H.row 3 rfl) (by omega)
      have hc := World.ownsRow.cellAt (H.row 3 rfl) j (by omega)
      rw [List.getElem?_map, hu] at hc
      have HT := Lib.hid hT
      clear hT hu
      have hj1 : (j : Int) < us.length := by omega
      have hj2 : j < us.length := hlt
      generalize us.take j = T at *
      have hcases : u = 0 ∨ u = 1 ∨ u = 2 ∨ u = 3 ∨ u = 4 ∨ u = 5 := by omega
      clear hu5 hlt
      rcases hcases with rfl | rfl | rfl | rfl | rfl | rfl
      · have hc' : wr.cell? ⟨gN, j, none⟩ = some (.string (nm 0)) := hc
        clear hc
        unfold nm at hc'
        have x0 := H.cell 0 rfl (o := 1) rfl
        have x1 := H.cell 2 rfl (o := 1) rfl
        have x2 := H.free 2 rfl 1
        go_wp2
        go_roundw
        case rel => exact ⟨j + 1, A5, A6, d5, d6, by omega, by go_num, by rw [HT.out, pI_new 0, pI_old 2 0 _ _ (by omega), pI_old 3 0 _ _ (by omega), pA_old 0 _ _ (by omega), pL_old 4 0 _ _ (by omega), pL_old 5 0 _ _ (by omega)]; exact (H.store 2 rfl (o := 1) (u := .int .i64 h)).upd_mk (by simp)⟩
        case measure => first | (simp [intOf]; omega) | simp [intOf]
      · have hc' : wr.cell? ⟨gN, j, none⟩ = some (.string (nm 1)) := hc
        clear hc
        unfold nm at hc'
        have x0 := H.cell 0 rfl (o := 2) rfl
        have x1 := H.cell 2 rfl (o := 2) rfl
        have x2 := H.free 2 rfl 2
        go_wp2
        go_roundw
        case rel => exact ⟨j + 1, A5, A6, d5, d6, by omega, by go_num, by rw [HT.out, pI_old 0 1 _ _ (by omega), pI_old 2 1 _ _ (by omega), pI_old 3 1 _ _ (by omega), pA_new, pL_old 4 1 _ _ (by omega), pL_old 5 1 _ _ (by omega)]; exact (H.store 2 rfl (o := 2) (u := .int .u8 (a.toNat : Int))).upd_mk (by simp)⟩
        case measure => first | (simp [intOf]; omega) | simp [intOf]
      · have hc' : wr.cell? ⟨gN, j, none⟩ = some (.string (nm 2)) := hc
        clear hc
        unfold nm at hc'
        have x0 := H.cell 0 rfl (o := 3) rfl
        have x1 := H.cell 2 rfl (o := 3) rfl
        have x2 := H.free 2 rfl 3
        go_wp2
        go_roundw
        case rel => exact ⟨j + 1, A5, A6, d5, d6, by omega, by go_num, by rw [HT.out, pI_old 0 2 _ _ (by omega), pI_new 2, pI_old 3 2 _ _ (by omega), pA_old 2 _ _ (by omega), pL_old 4 2 _ _ (by omega), pL_old 5 2 _ _ (by omega)]; exact (H.store 2 rfl (o := 3) (u := .int .i64 cn)).upd_mk (by simp)⟩
        case measure => first | (simp [intOf]; omega) | simp [intOf]
      · have hc' : wr.cell? ⟨gN, j, none⟩ = some (.string (nm 3)) := hc
        clear hc
        unfold nm at hc'
        have x0 := H.cell 0 rfl (o := 4) rfl
        have x1 := H.cell 2 rfl (o := 4) rfl
        have x2 := H.free 2 rfl 4
        go_wp2
        go_roundw
        case rel => exact ⟨j + 1, A5, A6, d5, d6, by omega, by go_num, by rw [HT.out, pI_old 0 3 _ _ (by omega), pI_old 2 3 _ _ (by omega), pI_new 3, pA_old 3 _ _ (by omega), pL_old 4 3 _ _ (by omega), pL_old 5 3 _ _ (by omega)]; exact (H.store 2 rfl (o := 4) (u := .int .i64 ou)).upd_mk (by simp)⟩
        case measure => first | (simp [intOf]; omega) | simp [intOf]
      · have hc' : wr.cell? ⟨gN, j, none⟩ = some (.string (nm 4)) := hc
        clear hc
        unfold nm at hc'
        have x0 := H.cell 0 rfl (o := 5) rfl
        go_wp2_with fail
        refine (refCopied_any A n c xs wr (H.arg0 hA) (by omega)).mono ?_
        rintro e w7 ⟨v7, rfl, ho7, hb7⟩
        have H7 := (H.pushOwnB 6 rfl ho7 hb7).push_mk rfl
        clear ho7 hb7
        obtain ⟨A7, d7, rfl, -⟩ := row_form (H7.row 6 rfl)
        have x1 := H7.cell 2 rfl (o := 5) rfl
        have x2 := H7.free 2 rfl 5
        go_wp2
        go_roundw
        case rel => exact ⟨j + 1, A7, A6, d7, d6, by omega, by go_num, by rw [HT.out, pI_old 0 4 _ _ (by omega), pI_old 2 4 _ _ (by omega), pI_old 3 4 _ _ (by omega), pA_old 4 _ _ (by omega), pL_new 4, pL_old 5 4 _ _ (by omega)]; exact ((H7.store 2 rfl (o := 5) (u := .slice A7 xs.length d7)).upd_mk (by simp)).perm [0, 1, 2, 3, 6, 5] 6 rfl (by decide) (by intro i hi; match i with | 0 => rfl | 1 => rfl | 2 => rfl | 3 => rfl | 4 => rfl | 5 => rfl | i + 6 => omega)⟩
        case measure => first | (simp [intOf]; omega) | simp [intOf]
      · have hc' : wr.cell? ⟨gN, j, none⟩ = some (.string (nm 5)) := hc
        clear hc
        unfold nm at hc'
        have x0 := H.cell 0 rfl (o := 6) rfl
        go_wp2_with fail
        refine (refCopied_any B m d ys wr (H.arg0 hB) (by omega)).mono ?_
        rintro e w7 ⟨v7, rfl, ho7, hb7⟩
        have H7 := (H.pushOwnB 6 rfl ho7 hb7).push_mk rfl
        clear ho7 hb7
        obtain ⟨A7, d7, rfl, -⟩ := row_form (H7.row 6 rfl)
        have x1 := H7.cell 2 rfl (o := 6) rfl
        have x2 := H7.free 2 rfl 6
        go_wp2
        go_roundw
        case rel => exact ⟨j + 1, A5, A7, d5, d7, by omega, by go_num, by rw [HT.out, pI_old 0 5 _ _ (by omega), pI_old 2 5 _ _ (by omega), pI_old 3 5 _ _ (by omega), pA_old 5 _ _ (by omega), pL_old 4 5 _ _ (by omega), pL_new 5]; exact ((H7.store 2 rfl (o := 6) (u := .slice A7 ys.length d7)).upd_mk (by simp)).perm [0, 1, 2, 3, 4, 6] 6 rfl (by decide) (by intro i hi; match i with | 0 => rfl | 1 => rfl | 2 => rfl | 3 => rfl | 4 => rfl | 5 => rfl | i + 6 => omega)⟩
        case measure => first | (simp [intOf]; omega) | simp [intOf]
    · have hju : j = us.length := by omega
      subst hju
      rw [List.take_length] at H
      have hb := H.blk 2 rfl
      have ht := H.there 1 rfl
      go_wp2_with (first | (refine wpList_load_row rfl 31 (.tmp 3) rfl gP rfl _ _ _ _ hb Try.underlying31 rfl op_size ?_) | (refine wpList_store_mid rfl 31 (.tmp 2) (.tmp 54) rfl gR 0 (List.toArray [.int .u8 (k.toNat : Int), .int .i64 (pI 0 us h), .int .u8 ((pA us a).toNat : Int), .int .i64 (pI 2 us cn), .int .i64 (pI 3 us ou), .slice A5 (pL 4 us xs).length d5, .slice A6 (pL 5 us ys).length d6]) rfl rfl ht op_size (all_oneCell_toArray (by simp [Value.oneCell'])) ?_))
      have HY := (H.storeAll 1 rfl (vs := [.int .u8 (k.toNat : Int), .int .i64 (pI 0 us h), .int .u8 ((pA us a).toNat : Int), .int .i64 (pI 2 us cn), .int .i64 (pI 3 us ou), .slice A5 (pL 4 us xs).length d5, .slice A6 (pL 5 us ys).length d6]) rfl).upd_mk (by simp)
      refine bodyPost_ret (results_cell_row rfl _ _ gR 31 _ _ _ rfl (HY.blk 1 rfl) Try.underlying31 rfl op_size) rfl ?_
      unfold PlainP
      rw [HU.out]
      exact ⟨_, _, rfl, HY.perm [4, 5] 2 rfl (by decide) (by intro i hi; match i with | 0 => rfl | 1 => rfl | i + 2 => omega)⟩
end Go.Proofs.Ytgfhnbjpdhdhgaa

namespace Go.Proofs.Ytgfhnbjpdhdhgaa
open Go.RowKit
set_option linter.unusedVariables false

/-- bytes as a string -/
def strB (l : List UInt8) : ByteArray := ⟨l.toArray⟩
theorem conv_b {w : World} {A : Option Addr} {n c : Nat} {l : List UInt8} (h : Rd w 1 A n (l.map vb)) : (convert 25 9 (.slice A n c)).run Try.prog w = .ok (.string (strB l)) w := by
  have hl : l.length = n := by simpa using h.1
  by_cases h0 : n = 0
  · subst h0
    obtain rfl : l = [] := List.eq_nil_of_length_eq_zero hl
    exact Go.Proofs.run_convert_bytes_zero w 25 5 Try.underlying25 Try.underlying5 A c 9 Try.underlying9
  · obtain ⟨b, o, rfl, -, hc⟩ := h.flat (by omega) (by omega)
    have h1 := run_convert_bytes_arg (P := Try.prog) w 25 5 Try.underlying25 Try.underlying5 b o n c (l.map fun b => (b.toNat : Int)) (by simpa using hl) (fun i hi => by
      have := hc i (vb (l.getD i 0)) (by rw [List.getElem?_map, List.getD_eq_getElem?_getD, List.getElem?_eq_getElem (by omega)]; rfl)
      rw [this]
      simp [List.getD_eq_getElem?_getD, List.getElem?_map, List.getElem?_eq_getElem (show i < l.length by omega)]) 9 Try.underlying9
    rw [h1]
    unfold strOfNums strB
    rw [List.map_map]
    congr 4
    conv => rhs; rw [← List.map_id l]
    refine List.map_congr_left fun x _ => ?_
    simp
theorem str_eq (xs ys : List UInt8) : ((strB xs).toList == (strB ys).toList) = decide (xs = ys) := by
  unfold strB
  rw [ByteArray.toList_mk, ByteArray.toList_mk]
  by_cases h : xs = ys
  · subst h; simp
  · rw [decide_eq_false h]; simpa using h
theorem u8_beq (x y : UInt8) : ((x.toNat : Int) == (y.toNat : Int)) = decide (x = y) := by
  by_cases h : x = y
  · subst h; simp
  · rw [decide_eq_false h]
    simp only [beq_eq_false_iff_ne, ne_eq]
    exact fun e => h (UInt8.toNat_inj.1 (by omega))
theorem i_beq (x y : Int) : (x == y) = decide (x = y) := by
  by_cases h : x = y
  · subst h; simp
  · rw [decide_eq_false h]; simpa using h
theorem i_bne (x y : Int) : (x != y) = !decide (x = y) := by rw [bne, i_beq]
theorem u8_bne (x y : UInt8) : ((x.toNat : Int) != (y.toNat : Int)) = !decide (x = y) := by rw [bne, u8_beq]

set_option maxHeartbeats 400000 in
theorem refSameL_any (A B : Option Addr) (n m c d : Nat) (xs ys : List UInt8) (w : World) (ha : Rd w 1 A n (xs.map vb)) (hb : Rd w 1 B m (ys.map vb)) (hn : n ≤ 9223372036854775807) (hm : m ≤ 9223372036854775807) :
    Calls Try.prog 63 #[.slice A n c, .slice B m d] w fun e w' => e = .returned (.bool (decide (xs = ys))) ∧ ∃ k, w' = w.drewN k := by
  have hlx : xs.length = n := by simpa using ha.1
  have hly : ys.length = m := by simpa using hb.1
  have Hx := Lib.hid hlx
  have Hy := Lib.hid hly
  clear hlx hly
  by_cases hnm : n = m
  · subst hnm
    have h0 : ((n : Int) != n) = false := by simp
    go_enter Try.func63, Try.ntmps63
    go_wp2
    go_loopw [5] (fun i wr => ∃ k q : Nat, k ≤ n ∧ i = .int .i64 k ∧ wr = w.drewN q ∧ Hid (xs.take k = ys.take k)) (fun i _ => n - (intOf i).toNat)
    case atStart => exact ⟨0, 0, Nat.zero_le _, rfl, rfl, rfl⟩
    case round =>
      obtain ⟨k, q, hk, rfl, rfl, hpre⟩ := hrel
      by_cases hlt : k < n
      · obtain ⟨p, x, rfl, hx, hcx⟩ := ha.byteAt hlt
        obtain ⟨p', y, rfl, hy, hcy⟩ := hb.byteAt hlt
        have HX := Lib.hid hx
        have HY := Lib.hid hy
        clear hx hy
        go_wp2
        go_quiet (fail)
        by_cases hxy : x = y
        · subst hxy
          have h2 : ((x.toNat : Int) != (x.toNat : Int)) = false := by simp
          go_wp2
          go_roundw
          case rel => exact ⟨k + 1, q + nq, by omega, by go_num, by simp, take_succ_eq hpre.out HX.out HY.out⟩
          case measure => simp [intOf]; omega
        · have h2 : ((x.toNat : Int) != (y.toNat : Int)) = true := by
            simp only [bne_iff_ne, ne_eq]
            intro h; exact hxy (UInt8.toNat_inj.1 (by omega))
          go_wp2
          go_ret
          refine ⟨ret_bool ?_, q + nq, by simp⟩
          symm; simp only [decide_eq_false_iff_not]
          rintro rfl
          have a := HX.out
          have b := HY.out
          rw [a] at b
          exact hxy (Option.some.inj b)
      · go_wp2
        go_ret
        refine ⟨ret_bool ?_, q, rfl⟩
        symm; simp only [decide_eq_true_eq]
        have h := hpre.out
        have a := Hx.out
        have b := Hy.out
        rwa [List.take_of_length_le (by omega), List.take_of_length_le (by omega)] at h
  · have h0 : ((n : Int) != m) = true := by simp only [bne_iff_ne, ne_eq]; omega
    go_enter Try.func63, Try.ntmps63
    go_wp2
    go_ret
    refine ⟨ret_bool ?_, 0, rfl⟩
    symm; simp only [decide_eq_false_iff_not]
    rintro rfl
    exact hnm (Hx.out.symm.trans Hy.out)

set_option maxHeartbeats 2000000 in
theorem refSame_s (k k' : UInt8) (h h' : Int) (a a' : UInt8) (cn cn' ou ou' : Int) (A B A' B' : Option Addr) (n m c d n' m' c' d' : Nat) (xs ys xs' ys' : List UInt8) (w : World) (hA : Rd w 1 A n (xs.map vb)) (hB : Rd w 1 B m (ys.map vb)) (hA' : Rd w 1 A' n' (xs'.map vb)) (hB' : Rd w 1 B' m' (ys'.map vb))
    (hn : n ≤ 9223372036854775807) (hm : m ≤ 9223372036854775807) (hn' : n' ≤ 9223372036854775807) (hm' : m' ≤ 9223372036854775807) :
    Calls Try.prog 40 #[opV k h a cn ou (.slice A n c) (.slice B m d), opV k' h' a' cn' ou' (.slice A' n' c') (.slice B' m' d')] w fun e w' => e = .returned (.bool (decide (k = k' ∧ h = h' ∧ a = a' ∧ cn = cn' ∧ ou = ou' ∧ xs = xs' ∧ ys = ys'))) ∧ Below w.heap.size w w' := by
  have e0 := u8_beq k k'
  by_cases c0 : k = k'
  case neg =>
    rw [decide_eq_false c0] at e0
    have C := Lib.hid c0
    clear c0
    try simp only [Bool.not_false] at e0
    go_enter Try.func40, Try.ntmps40
    go_wp2
    go_ret
    exact ⟨ret_bool (by symm; rw [decide_eq_false_iff_not]; exact fun h => C.out h.1), ((Below.refl _ _).alloc (Nat.le_refl _) _).alloc (by simp) _⟩
  rw [decide_eq_true c0] at e0
  subst c0
  try simp only [Bool.not_true] at e0
  have e1 := i_beq h h'
  by_cases c1 : h = h'
  case neg =>
    rw [decide_eq_false c1] at e1
    have C := Lib.hid c1
    clear c1
    try simp only [Bool.not_false] at e1
    go_enter Try.func40, Try.ntmps40
    go_wp2
    go_ret
    exact ⟨ret_bool (by symm; rw [decide_eq_false_iff_not]; exact fun h => C.out h.2.1), ((Below.refl _ _).alloc (Nat.le_refl _) _).alloc (by simp) _⟩
  rw [decide_eq_true c1] at e1
  subst c1
  try simp only [Bool.not_true] at e1
  have e2 := u8_beq a a'
  by_cases c2 : a = a'
  case neg =>
    rw [decide_eq_false c2] at e2
    have C := Lib.hid c2
    clear c2
    try simp only [Bool.not_false] at e2
    go_enter Try.func40, Try.ntmps40
    go_wp2
    go_ret
    exact ⟨ret_bool (by symm; rw [decide_eq_false_iff_not]; exact fun h => C.out h.2.2.1), ((Below.refl _ _).alloc (Nat.le_refl _) _).alloc (by simp) _⟩
  rw [decide_eq_true c2] at e2
  subst c2
  try simp only [Bool.not_true] at e2
  have e3 := i_beq cn cn'
  by_cases c3 : cn = cn'
  case neg =>
    rw [decide_eq_false c3] at e3
    have C := Lib.hid c3
    clear c3
    try simp only [Bool.not_false] at e3
    go_enter Try.func40, Try.ntmps40
    go_wp2
    go_ret
    exact ⟨ret_bool (by symm; rw [decide_eq_false_iff_not]; exact fun h => C.out h.2.2.2.1), ((Below.refl _ _).alloc (Nat.le_refl _) _).alloc (by simp) _⟩
  rw [decide_eq_true c3] at e3
  subst c3
  try simp only [Bool.not_true] at e3
  have e4 := i_beq ou ou'
  by_cases c4 : ou = ou'
  case neg =>
    rw [decide_eq_false c4] at e4
    have C := Lib.hid c4
    clear c4
    try simp only [Bool.not_false] at e4
    go_enter Try.func40, Try.ntmps40
    go_wp2
    go_ret
    exact ⟨ret_bool (by symm; rw [decide_eq_false_iff_not]; exact fun h => C.out h.2.2.2.2.1), ((Below.refl _ _).alloc (Nat.le_refl _) _).alloc (by simp) _⟩
  rw [decide_eq_true c4] at e4
  subst c4
  try simp only [Bool.not_true] at e4
  have H0 := St.start_lay w []
  go_enter Try.func40, Try.ntmps40
  go_wp2_with fail
  refine absorb_calls (H0.allocAt 0 rfl w.heap.size rfl _ _ |>.push_mk rfl |>.allocAt 1 rfl (w.heap.size + 1) (by simp) _ _ |>.push_mk rfl) ?_
  intro w1 H
  generalize w.heap.size + 1 = gb at H ⊢
  generalize hga : w.heap.size = ga at H ⊢
  clear hga H0 e0 e1 e2 e3 e4
  refine (refSameL_any A A' n n' c c' xs xs' w1 (H.arg0 hA) (H.arg0 hA') hn hn').mono ?_
  rintro e w2 ⟨rfl, q, rfl⟩
  replace H := H.drewN q
  generalize w1.drewN q = w2 at H ⊢
  have c0 := H.cell 0 rfl (o := 6) rfl
  have c1 := H.cell 1 rfl (o := 6) rfl
  by_cases hx : xs = xs'
  · subst hx
    rw [decide_eq_true rfl]
    go_wp2_with fail
    refine (refSameL_any B B' m m' d d' ys ys' w2 (H.arg0 hB) (H.arg0 hB') hm hm').mono ?_
    rintro e w3 ⟨rfl, q', rfl⟩
    replace H := H.drewN q'
    go_wp2_with fail
    go_ret
    exact ⟨ret_bool (by simp), H.below⟩
  · rw [decide_eq_false hx]
    have C := Lib.hid hx
    clear hx
    go_wp2_with fail
    go_ret
    exact ⟨ret_bool (by symm; rw [decide_eq_false_iff_not]; exact fun h => C.out h.2.2.2.2.2.1), H.below⟩

set_option maxHeartbeats 2000000 in
theorem opSame_s (k k' : UInt8) (h h' : Int) (a a' : UInt8) (cn cn' ou ou' : Int) (A B A' B' : Option Addr) (n m c d n' m' c' d' : Nat) (xs ys xs' ys' : List UInt8) (w : World) (hA : Rd w 1 A n (xs.map vb)) (hB : Rd w 1 B m (ys.map vb)) (hA' : Rd w 1 A' n' (xs'.map vb)) (hB' : Rd w 1 B' m' (ys'.map vb))
    (hn : n ≤ 9223372036854775807) (hm : m ≤ 9223372036854775807) (hn' : n' ≤ 9223372036854775807) (hm' : m' ≤ 9223372036854775807) :
    Calls Try.prog 39 #[opV k h a cn ou (.slice A n c) (.slice B m d), opV k' h' a' cn' ou' (.slice A' n' c') (.slice B' m' d')] w fun e w' => e = .returned (.bool (decide (k = k' ∧ h = h' ∧ a = a' ∧ cn = cn' ∧ ou = ou' ∧ xs = xs' ∧ ys = ys'))) ∧ Below w.heap.size w w' := by
  have e0 := u8_bne k k'
  by_cases c0 : k = k'
  case neg =>
    rw [decide_eq_false c0] at e0
    have C := Lib.hid c0
    clear c0
    try simp only [Bool.not_false] at e0
    go_enter Try.func39, Try.ntmps39
    go_wp2
    go_ret
    exact ⟨ret_bool (by symm; rw [decide_eq_false_iff_not]; exact fun h => C.out h.1), ((Below.refl _ _).alloc (Nat.le_refl _) _).alloc (by simp) _⟩
  rw [decide_eq_true c0] at e0
  subst c0
  try simp only [Bool.not_true] at e0
  have e1 := i_bne h h'
  by_cases c1 : h = h'
  case neg =>
    rw [decide_eq_false c1] at e1
    have C := Lib.hid c1
    clear c1
    try simp only [Bool.not_false] at e1
    go_enter Try.func39, Try.ntmps39
    go_wp2
    go_ret
    exact ⟨ret_bool (by symm; rw [decide_eq_false_iff_not]; exact fun h => C.out h.2.1), ((Below.refl _ _).alloc (Nat.le_refl _) _).alloc (by simp) _⟩
  rw [decide_eq_true c1] at e1
  subst c1
  try simp only [Bool.not_true] at e1
  have e2 := u8_bne a a'
  by_cases c2 : a = a'
  case neg =>
    rw [decide_eq_false c2] at e2
    have C := Lib.hid c2
    clear c2
    try simp only [Bool.not_false] at e2
    go_enter Try.func39, Try.ntmps39
    go_wp2
    go_ret
    exact ⟨ret_bool (by symm; rw [decide_eq_false_iff_not]; exact fun h => C.out h.2.2.1), ((Below.refl _ _).alloc (Nat.le_refl _) _).alloc (by simp) _⟩
  rw [decide_eq_true c2] at e2
  subst c2
  try simp only [Bool.not_true] at e2
  have e3 := i_bne cn cn'
  by_cases c3 : cn = cn'
  case neg =>
    rw [decide_eq_false c3] at e3
    have C := Lib.hid c3
    clear c3
    try simp only [Bool.not_false] at e3
    go_enter Try.func39, Try.ntmps39
    go_wp2
    go_ret
    exact ⟨ret_bool (by symm; rw [decide_eq_false_iff_not]; exact fun h => C.out h.2.2.2.1), ((Below.refl _ _).alloc (Nat.le_refl _) _).alloc (by simp) _⟩
  rw [decide_eq_true c3] at e3
  subst c3
  try simp only [Bool.not_true] at e3
  have e4 := i_bne ou ou'
  by_cases c4 : ou = ou'
  case neg =>
    rw [decide_eq_false c4] at e4
    have C := Lib.hid c4
    clear c4
    try simp only [Bool.not_false] at e4
    go_enter Try.func39, Try.ntmps39
    go_wp2
    go_ret
    exact ⟨ret_bool (by symm; rw [decide_eq_false_iff_not]; exact fun h => C.out h.2.2.2.2.1), ((Below.refl _ _).alloc (Nat.le_refl _) _).alloc (by simp) _⟩
  rw [decide_eq_true c4] at e4
  subst c4
  try simp only [Bool.not_true] at e4
  have hb2 : Below w.heap.size w ((w.alloc (.cells #[.int .u8 (k.toNat : Int), .int .i64 h, .int .u8 (a.toNat : Int), .int .i64 cn, .int .i64 ou, .slice A n c, .slice B m d] 31)).alloc (.cells #[.int .u8 (k.toNat : Int), .int .i64 h, .int .u8 (a.toNat : Int), .int .i64 cn, .int .i64 ou, .slice A' n' c', .slice B' m' d'] 31)) := ((Below.refl _ _).alloc (Nat.le_refl _) _).alloc (by simp) _
  have q1 := conv_b (c := c) (hA.below hb2)
  have q2 := conv_b (c := c') (hA'.below hb2)
  have q3 := conv_b (c := d) (hB.below hb2)
  have q4 := conv_b (c := d') (hB'.below hb2)
  have s1 := str_eq xs xs'
  have s2 := str_eq ys ys'
  have HB := Lib.hid hb2
  clear hb2
  generalize strB xs = t1 at *
  generalize strB xs' = t2 at *
  generalize strB ys = t3 at *
  generalize strB ys' = t4 at *
  by_cases hx : xs = xs'
  · rw [decide_eq_true hx] at s1
    have C := Lib.hid hx
    clear hx
    by_cases hy : ys = ys'
    · rw [decide_eq_true hy] at s2
      have C2 := Lib.hid hy
      clear hy
      go_enter Try.func39, Try.ntmps39
      go_wp2
      go_ret
      exact ⟨ret_bool (by symm; rw [decide_eq_true_eq]; exact ⟨by simp, by simp, by simp, by simp, by simp, C.out, C2.out⟩), HB.out⟩
    · rw [decide_eq_false hy] at s2
      have C2 := Lib.hid hy
      clear hy
      go_enter Try.func39, Try.ntmps39
      go_wp2
      go_ret
      exact ⟨ret_bool (by symm; rw [decide_eq_false_iff_not]; exact fun h => C2.out h.2.2.2.2.2.2), HB.out⟩
  · rw [decide_eq_false hx] at s1
    have C := Lib.hid hx
    clear hx
    go_enter Try.func39, Try.ntmps39
    go_wp2
    go_ret
    exact ⟨ret_bool (by symm; rw [decide_eq_false_iff_not]; exact fun h => C.out h.2.2.2.2.2.1), HB.out⟩
end Go.Proofs.Ytgfhnbjpdhdhgaa

namespace Go.Proofs.Ytgfhnbjpdhdhgaa
open Go.RowKit
set_option linter.unusedVariables false

/-- kind, handle, alg, count, out, data, more -/
abbrev SkT := Int × Int × Int × Int × Int × Int × Int
instance : DecidableEq SkT := @instDecidableEqProd _ _ inferInstance (@instDecidableEqProd _ _ inferInstance (@instDecidableEqProd _ _ inferInstance (@instDecidableEqProd _ _ inferInstance (@instDecidableEqProd _ _ inferInstance (@instDecidableEqProd _ _ inferInstance inferInstance)))))
def skV (s : SkT) : List Value := [.int .u8 s.1, .int .i64 s.2.1, .int .u8 s.2.2.1, .int .i64 s.2.2.2.1, .int .i64 s.2.2.2.2.1, .int .i64 s.2.2.2.2.2.1, .int .i64 s.2.2.2.2.2.2]
def sksV (l : List SkT) : List Value := l.flatMap skV
theorem skV_length (s : SkT) : (skV s).length = 7 := rfl
theorem sksV_length (l : List SkT) : (sksV l).length = l.length * 7 := flat_length skV_length l
theorem sksV_append (a b : List SkT) : sksV (a ++ b) = sksV a ++ sksV b := by simp [sksV]
theorem sksV_get (l : List SkT) (i j : Nat) (a : SkT) (hi : l[i]? = some a) (hj : j < 7) : (sksV l)[i * 7 + j]? = (skV a)[j]? := flat_get skV_length l i j a hi hj
theorem sksV_one (l : List SkT) : ∀ u ∈ sksV l, u.oneCell' = true := flat_one (by intro a u hu; simp [skV] at hu; rcases hu with rfl | rfl | rfl | rfl | rfl | rfl | rfl <;> rfl) l
theorem sk_info : (Try.prog.info? 51).map (fun i => (i.zero, i.size, i.bytes)) = some (some (.agg #[.int .u8 0, .int .i64 0, .int .u8 0, .int .i64 0, .int .i64 0, .int .i64 0, .int .i64 0]), 7, 56) := by kernel_rfl

theorem sk_cells {w : World} {A : Option Addr} {n k : Nat} {l : List SkT} {x : SkT} (h : Rd w 7 A n (sksV l)) (hx : l[k]? = some x) : ∃ p o, A = some ⟨p, o, none⟩ ∧ w.cell? ⟨p, o + k * 7, none⟩ = some (.int .u8 x.1) ∧
    w.cell? ⟨p, o + k * 7 + 1, none⟩ = some (.int .i64 x.2.1) ∧ w.cell? ⟨p, o + k * 7 + 2, none⟩ = some (.int .u8 x.2.2.1) ∧ w.cell? ⟨p, o + k * 7 + 3, none⟩ = some (.int .i64 x.2.2.2.1) ∧
    w.cell? ⟨p, o + k * 7 + 4, none⟩ = some (.int .i64 x.2.2.2.2.1) ∧ w.cell? ⟨p, o + k * 7 + 5, none⟩ = some (.int .i64 x.2.2.2.2.2.1) ∧ w.cell? ⟨p, o + k * 7 + 6, none⟩ = some (.int .i64 x.2.2.2.2.2.2) := by
  have hl := h.1
  rw [sksV_length] at hl
  have hk : k < l.length := (List.getElem?_eq_some_iff.1 hx).1
  obtain ⟨p, o, rfl, -, hc⟩ := h.flat (by omega) (by omega)
  refine ⟨p, o, rfl, ?_, ?_, ?_, ?_, ?_, ?_, ?_⟩
  · have := hc (k * 7 + 0) _ (sksV_get l k 0 x hx (by omega)); exact this
  · have := hc (k * 7 + 1) _ (sksV_get l k 1 x hx (by omega)); rwa [← Nat.add_assoc] at this
  · have := hc (k * 7 + 2) _ (sksV_get l k 2 x hx (by omega)); rwa [← Nat.add_assoc] at this
  · have := hc (k * 7 + 3) _ (sksV_get l k 3 x hx (by omega)); rwa [← Nat.add_assoc] at this
  · have := hc (k * 7 + 4) _ (sksV_get l k 4 x hx (by omega)); rwa [← Nat.add_assoc] at this
  · have := hc (k * 7 + 5) _ (sksV_get l k 5 x hx (by omega)); rwa [← Nat.add_assoc] at this
  · have := hc (k * 7 + 6) _ (sksV_get l k 6 x hx (by omega)); rwa [← Nat.add_assoc] at this

theorem sk_differ {x y : SkT} (h : x ≠ y) : (x.1 == y.1) = false ∨ (x.1 = y.1 ∧ (x.2.1 == y.2.1) = false) ∨ (x.1 = y.1 ∧ x.2.1 = y.2.1 ∧ (x.2.2.1 == y.2.2.1) = false) ∨ (x.1 = y.1 ∧ x.2.1 = y.2.1 ∧ x.2.2.1 = y.2.2.1 ∧ (x.2.2.2.1 == y.2.2.2.1) = false) ∨
    (x.1 = y.1 ∧ x.2.1 = y.2.1 ∧ x.2.2.1 = y.2.2.1 ∧ x.2.2.2.1 = y.2.2.2.1 ∧ (x.2.2.2.2.1 == y.2.2.2.2.1) = false) ∨ (x.1 = y.1 ∧ x.2.1 = y.2.1 ∧ x.2.2.1 = y.2.2.1 ∧ x.2.2.2.1 = y.2.2.2.1 ∧ x.2.2.2.2.1 = y.2.2.2.2.1 ∧ (x.2.2.2.2.2.1 == y.2.2.2.2.2.1) = false) ∨
    (x.1 = y.1 ∧ x.2.1 = y.2.1 ∧ x.2.2.1 = y.2.2.1 ∧ x.2.2.2.1 = y.2.2.2.1 ∧ x.2.2.2.2.1 = y.2.2.2.2.1 ∧ x.2.2.2.2.2.1 = y.2.2.2.2.2.1 ∧ (x.2.2.2.2.2.2 == y.2.2.2.2.2.2) = false) := by
  obtain ⟨a, b, c, d, e, f, g⟩ := x
  obtain ⟨a', b', c', d', e', f', g'⟩ := y
  simp only [ne_eq, Prod.mk.injEq, beq_eq_false_iff_ne] at h ⊢
  grind

set_option maxHeartbeats 1000000 in
theorem sameSk_any (A B : Option Addr) (n m c d : Nat) (xs ys : List SkT) (w : World) (ha : Rd w 7 A n (sksV xs)) (hb : Rd w 7 B m (sksV ys)) (hn : n ≤ 9223372036854775807) (hm : m ≤ 9223372036854775807) :
    Calls Try.prog 15 #[.slice A n c, .slice B m d] w fun e w' => e = .returned (.bool (decide (xs = ys))) ∧ ∃ k, w' = w.drewN k := by
  have hlx : xs.length = n := by have := ha.1; rw [sksV_length] at this; omega
  have hly : ys.length = m := by have := hb.1; rw [sksV_length] at this; omega
  have Hx := Lib.hid hlx
  have Hy := Lib.hid hly
  clear hlx hly
  by_cases hnm : n = m
  · subst hnm
    have h0 : ((n : Int) != n) = false := by simp
    go_enter Try.func15, Try.ntmps15
    go_wp2
    go_loopw [5] (fun i wr => ∃ k q : Nat, k ≤ n ∧ i = .int .i64 k ∧ wr = w.drewN q ∧ Hid (xs.take k = ys.take k)) (fun i _ => n - (intOf i).toNat)
    case atStart => exact ⟨0, 0, Nat.zero_le _, rfl, rfl, rfl⟩
    case round =>
      obtain ⟨k, q, hk, rfl, rfl, hpre⟩ := hrel
      by_cases hlt : k < n
      · obtain ⟨⟨x1, x2, x3, x4, x5, x6, x7⟩, hx⟩ : ∃ r, xs[k]? = some r := ⟨_, List.getElem?_eq_getElem (by rw [Hx.out]; exact hlt)⟩
        obtain ⟨⟨y1, y2, y3, y4, y5, y6, y7⟩, hy⟩ : ∃ r, ys[k]? = some r := ⟨_, List.getElem?_eq_getElem (by rw [Hy.out]; exact hlt)⟩
        obtain ⟨p, o, rfl, a0, a1, a2, a3, a4, a5, a6⟩ := sk_cells ha hx
        obtain ⟨p', o', rfl, b0, b1, b2, b3, b4, b5, b6⟩ := sk_cells hb hy
        have HX := Lib.hid hx
        have HY := Lib.hid hy
        clear hx hy
        have hk1 : (k : Int) < n := by omega
        go_wp2
        by_cases hxy : (x1, x2, x3, x4, x5, x6, x7) = ((y1, y2, y3, y4, y5, y6, y7) : SkT)
        · simp only [Prod.mk.injEq] at hxy
          obtain ⟨rfl, rfl, rfl, rfl, rfl, rfl, rfl⟩ := hxy
          go_quiet (fail)
          clear hk1
          go_wp2
          go_roundw
          case rel => exact ⟨k + 1, q + nq, by omega, by go_num, by simp, take_succ_eq hpre.out HX.out HY.out⟩
          case measure => simp [intOf]; omega
        · have hq := sk_differ hxy
          simp only at hq
          rcases hq with hq | ⟨rfl, hq⟩ | ⟨rfl, rfl, hq⟩ | ⟨rfl, rfl, rfl, hq⟩ | ⟨rfl, rfl, rfl, rfl, hq⟩ | ⟨rfl, rfl, rfl, rfl, rfl, hq⟩ | ⟨rfl, rfl, rfl, rfl, rfl, rfl, hq⟩
          all_goals
            go_quiet (fail)
            clear hk1
            go_wp2
            go_ret
            refine ⟨ret_bool ?_, q + nq, by simp⟩
            symm; simp only [decide_eq_false_iff_not]
            rintro rfl
            have a := HX.out
            have b := HY.out
            rw [a] at b
            exact hxy (Option.some.inj b)
      · go_wp2
        go_ret
        refine ⟨ret_bool ?_, q, rfl⟩
        symm; simp only [decide_eq_true_eq]
        have h := hpre.out
        have a := Hx.out
        have b := Hy.out
        rwa [List.take_of_length_le (by omega), List.take_of_length_le (by omega)] at h
  · have h0 : ((n : Int) != m) = true := by simp only [bne_iff_ne, ne_eq]; omega
    go_enter Try.func15, Try.ntmps15
    go_wp2
    go_ret
    refine ⟨ret_bool ?_, 0, rfl⟩
    symm; simp only [decide_eq_false_iff_not]
    rintro rfl
    exact hnm (Hx.out.symm.trans Hy.out)

set_option maxHeartbeats 1000000 in
theorem skelSame_any (A B : Option Addr) (n m c d : Nat) (xs ys : List SkT) (w : World) (ha : Rd w 7 A n (sksV xs)) (hb : Rd w 7 B m (sksV ys)) (hn : n ≤ 9223372036854775807) (hm : m ≤ 9223372036854775807) :
    Calls Try.prog 16 #[.slice A n c, .slice B m d] w fun e w' => e = .returned (.bool (decide (xs = ys))) ∧ ∃ k, w' = w.drewN k := by
  have hlx : xs.length = n := by have := ha.1; rw [sksV_length] at this; omega
  have hly : ys.length = m := by have := hb.1; rw [sksV_length] at this; omega
  have Hx := Lib.hid hlx
  have Hy := Lib.hid hly
  clear hlx hly
  by_cases hnm : n = m
  · subst hnm
    have h0 : ((n : Int) != n) = false := by simp
    go_enter Try.func16, Try.ntmps16
    go_wp2
    go_loopw [5, 13] (fun _ i wr => ∃ k q : Nat, k ≤ n ∧ i = .int .i64 k ∧ wr = w.drewN q ∧ Hid (xs.take k = ys.take k)) (fun _ i _ => n - (intOf i).toNat)
    case atStart => exact ⟨0, 0, Nat.zero_le _, rfl, rfl, rfl⟩
    case round =>
      obtain ⟨k, q, hk, rfl, rfl, hpre⟩ := hrel
      by_cases hlt : k < n
      · obtain ⟨⟨x1, x2, x3, x4, x5, x6, x7⟩, hx⟩ : ∃ r, xs[k]? = some r := ⟨_, List.getElem?_eq_getElem (by rw [Hx.out]; exact hlt)⟩
        obtain ⟨⟨y1, y2, y3, y4, y5, y6, y7⟩, hy⟩ : ∃ r, ys[k]? = some r := ⟨_, List.getElem?_eq_getElem (by rw [Hy.out]; exact hlt)⟩
        obtain ⟨p, o, rfl, a0, a1, a2, a3, a4, a5, a6⟩ := sk_cells ha hx
        obtain ⟨p', o', rfl, b0, b1, b2, b3, b4, b5, b6⟩ := sk_cells hb hy
        have HX := Lib.hid hx
        have HY := Lib.hid hy
        clear hx hy
        have hk1 : (k : Int) < n := by omega
        go_wp2
        by_cases hxy : (x1, x2, x3, x4, x5, x6, x7) = ((y1, y2, y3, y4, y5, y6, y7) : SkT)
        · simp only [Prod.mk.injEq] at hxy
          obtain ⟨rfl, rfl, rfl, rfl, rfl, rfl, rfl⟩ := hxy
          go_quiet (fail)
          clear hk1
          go_wp2
          go_roundw
          case rel => exact ⟨k + 1, q + nq, by omega, by go_num, by simp, take_succ_eq hpre.out HX.out HY.out⟩
          case measure => simp [intOf]; omega
        · have hq := sk_differ hxy
          simp only at hq
          rcases hq with hq | ⟨rfl, hq⟩ | ⟨rfl, rfl, hq⟩ | ⟨rfl, rfl, rfl, hq⟩ | ⟨rfl, rfl, rfl, rfl, hq⟩ | ⟨rfl, rfl, rfl, rfl, rfl, hq⟩ | ⟨rfl, rfl, rfl, rfl, rfl, rfl, hq⟩
          all_goals
            go_quiet (fail)
            clear hk1
            go_wp2
            go_ret
            refine ⟨ret_bool ?_, q + nq, by simp⟩
            symm; simp only [decide_eq_false_iff_not]
            rintro rfl
            have a := HX.out
            have b := HY.out
            rw [a] at b
            exact hxy (Option.some.inj b)
      · go_wp2
        go_ret
        refine ⟨ret_bool ?_, q, rfl⟩
        symm; simp only [decide_eq_true_eq]
        have h := hpre.out
        have a := Hx.out
        have b := Hy.out
        rwa [List.take_of_length_le (by omega), List.take_of_length_le (by omega)] at h
  · have h0 : ((n : Int) != m) = true := by simp only [bne_iff_ne, ne_eq]; omega
    go_enter Try.func16, Try.ntmps16
    go_wp2
    go_ret
    refine ⟨ret_bool ?_, 0, rfl⟩
    symm; simp only [decide_eq_false_iff_not]
    rintro rfl
    exact hnm (Hx.out.symm.trans Hy.out)

/-- a row of skeletons of one's own -/
def OwnS (w : World) (base : Nat) (v : Value) (l : List SkT) : Prop := w.ownsRow base 51 7 v l.length (sksV l)
theorem OwnS.shape {w : World} {base : Nat} {v : Value} {l : List SkT} (h : OwnS w base v l) : ∃ A n c, v = .slice A n c ∧ Hid (n = l.length) ∧ Rd w 7 A n (sksV l) := by
  rcases h.2 with ⟨rfl, hn⟩ | ⟨g, cap, cur, rfl, h2, h3⟩
  · have : l = [] := List.length_eq_zero_iff.1 hn
    subst this
    exact ⟨none, 0, 0, rfl, rfl, Rd.none_⟩
  · exact ⟨_, _, _, rfl, rfl, Rd.of_own h⟩

set_option maxHeartbeats 400000 in
theorem copySk_any (A : Option Addr) (n c : Nat) (l : List SkT) (w : World) (h : Rd w 7 A n (sksV l)) (hn : n ≤ 2513169434916) :
    Calls Try.prog 17 #[.slice A n c] w fun e w' => ∃ v, e = .returned v ∧ OwnS w' w.heap.size v l ∧ Below w.heap.size w w' := by
  obtain ⟨i0, hi0, hz0, hz1, hz2⟩ := info_parts sk_info
  have hl : n = l.length := by have := h.1; rw [sksV_length] at this; omega
  subst hl
  go_enter Try.func17, Try.ntmps17
  go_wp2_with (at_builtin; refine wpList_append_any _ rfl (.tmp 4) (.tmp 5) _ rfl w.heap.size 51 i0 _ 7 56 Try.underlying22 hi0 hz0 hz1 hz2 rfl (by omega) (.slice none 0 0) 0 [] rfl ⟨by simp, .inl ⟨rfl, rfl⟩⟩ A l.length c (sksV l) rfl h (sksV_one l) (by simp only [maxLen]; omega) (by omega) (Nat.le_refl _) ?_; intro v1 w1 hown1 hg1 hat1; have hbw1 : Below w.heap.size w w1 := (Below.refl _ _).grown hg1 (Nat.le_refl _) (by simp [Value.ownBlock]))
  go_ret
  exact ⟨v1, rfl, by simpa [OwnS] using hown1, hbw1⟩

/-- The marks behind a lent list. -/
def markS (k i : Nat) : SkT := (0, -1000 * (k : Int) - i - 7, 0, 0, 0, 0, 0)
def marksS (k s n : Nat) : List SkT := (List.range n).map fun i => markS k (s + i)
theorem marksS_succ (k s n : Nat) : marksS k s (n + 1) = marksS k s n ++ [markS k (s + n)] := by
  simp [marksS, List.range_succ]
theorem marksS_length (k s n : Nat) : (marksS k s n).length = n := by simp [marksS]

set_option maxHeartbeats 400000 in
theorem markS_any (k i : Nat) (w : World) (h1 : k ≤ 100000) (h3 : i ≤ 1000000000000000000) {a b : Int} (ha : a = (k : Int)) (hb : b = (i : Int)) :
    Calls Try.prog 55 #[.int .i64 a, .int .i64 b] w fun e w' => e = .returned (.agg (skV (markS k i)).toArray) ∧ Below w.heap.size w w' := by
  subst ha hb
  go_enter Try.func55, Try.ntmps55
  go_wp2
  exact bodyPost_ret (results_cell_row rfl _ _ w.heap.size 51 (skV (markS k i)).toArray _ _ rfl (heap_alloc_new _ _) Try.underlying51 rfl (by kernel_rfl)) rfl ⟨rfl, (Below.refl _ _).alloc (Nat.le_refl _) _⟩

theorem markS_h (k i : Nat) (w : World) (h1 : k ≤ 100000) (h3 : i ≤ 1000000000000000000) {a b : Int} (ha : a = (k : Int)) (hb : b = (i : Int)) :
    Calls Try.prog 55 #[.int .i64 a, .int .i64 b] w fun e w' => ∃ x1 x2 x3 x4 x5 x6 x7, Hid ((x1, x2, x3, x4, x5, x6, x7) = markS k i) ∧ e = .returned (.agg #[.int .u8 x1, .int .i64 x2, .int .u8 x3, .int .i64 x4, .int .i64 x5, .int .i64 x6, .int .i64 x7]) ∧ Below w.heap.size w w' :=
  (markS_any k i w h1 h3 ha hb).mono fun _ _ h => ⟨_, _, _, _, _, _, _, rfl, h.1, h.2⟩

set_option maxHeartbeats 400000 in
theorem lentSk_any (A : Option Addr) (n c : Nat) (l : List SkT) (w : World) (h : Rd w 7 A n (sksV l)) (hn : n ≤ 2513169434900) :
    Calls Try.prog 14 #[.slice A n c] w fun e w' => ∃ v, e = .returned v ∧ OwnS w' w.heap.size v (l ++ marksS 7 0 6) ∧ Below w.heap.size w w' := by
  obtain ⟨i0, hi0, hz0, hz1, hz2⟩ := info_parts sk_info
  have hl : l.length = n := by have := h.1; rw [sksV_length] at this; omega
  have HL := Lib.hid hl
  clear hl
  go_enter Try.func14, Try.ntmps14
  go_wp2_with (go_at_call 17; refine (copySk_any A n c l _ h (by omega)).mono ?_; rintro e w1 ⟨v1, rfl, ho1, hb1⟩)
  have H1 := (St.start_lay w []).pushRow 0 rfl hb1 ho1
  go_loopw [3, 4] (fun v i wr => ∃ k : Nat, k ≤ 6 ∧ i = .int .i64 k ∧ St w [] wr (lay [.row 51 7 v (l ++ marksS 7 0 k).length (sksV (l ++ marksS 7 0 k))])) (fun _ i _ => 6 - (intOf i).toNat)
  case atStart => exact ⟨0, Nat.zero_le _, rfl, by simpa [marksS] using H1.push_mk rfl⟩
  case round =>
    clear H1 ho1 hb1
    obtain ⟨k, hk, rfl, H⟩ := hrel
    by_cases hlt : k < 6
    · have hm : (l ++ marksS 7 0 k).length ≤ n + 6 := by have := HL.out; simp [marksS_length]; omega
      go_wp2_with fail
      refine (markS_h 7 k _ (by omega) (by omega) rfl rfl).mono ?_
      rintro e w2 ⟨x1, x2, x3, x4, x5, x6, x7, HM, rfl, hb2⟩
      have H2 := H.call hb2
      have hr := H2.row 0 rfl
      go_wp2_with (at_builtin; refine wpList_append_any _ rfl (.tmp 11) (.tmp 14) _ rfl 0 51 i0 _ 7 56 Try.underlying22 hi0 hz0 hz1 hz2 rfl (by omega) u3 (l ++ marksS 7 0 k).length (sksV (l ++ marksS 7 0 k)) rfl (hr.alloc _) (some ⟨w2.heap.size, 0, none⟩) 1 1 (skV (x1, x2, x3, x4, x5, x6, x7)) rfl (rd_new0 w2 (skV (x1, x2, x3, x4, x5, x6, x7)) _ 7 rfl) (by simpa [sksV] using sksV_one [(x1, x2, x3, x4, x5, x6, x7)]) (by simp only [maxLen]; omega) (by omega) (by omega) ?_; intro v3 w3 hown3 hg3 hat3)
      have H3 := (((((H2.alloc 1 rfl #[.int .u8 x1, .int .i64 x2, .int .u8 x3, .int .i64 x4, .int .i64 x5, .int .i64 x6, .int .i64 x7] 51)).grow 0 rfl hown3 hg3 hat3)).sub (E' := lay [.row 51 7 v3 ((l ++ marksS 7 0 k).length + 1) (sksV (l ++ marksS 7 0 k) ++ skV (x1, x2, x3, x4, x5, x6, x7))]) (fun i A hA => by cases i with | zero => exact hA | succ i => simp [lay] at hA))
      rw [HM.out] at H3
      go_roundw
      case rel => exact ⟨k + 1, by omega, by go_num, by rw [marksS_succ, ← List.append_assoc]; simpa [sksV_append, sksV, Nat.add_assoc] using H3⟩
      case measure => simp [intOf]; omega
    · have hk6 : k = 6 := by omega
      subst hk6
      go_wp2
      go_ret
      exact ⟨_, rfl, H.ownRow 0 rfl, H.below⟩

theorem keptSk_any (A B : Option Addr) (n m c d : Nat) (xs ys : List SkT) (w : World) (ha : Rd w 7 A n (sksV xs)) (hb : Rd w 7 B m (sksV ys)) (hn : n ≤ 9223372036854775807) (hm : m ≤ 2513169434900) :
    Calls Try.prog 18 #[.slice A n c, .slice B m d] w fun e w' => e = .returned (.bool (decide (xs = ys ++ marksS 7 0 6))) ∧ Below w.heap.size w w' := by
  have hly : ys.length = m := by have := hb.1; rw [sksV_length] at this; omega
  have HY := Lib.hid hly
  clear hly
  go_enter Try.func18, Try.ntmps18
  go_wp2_with fail
  refine (lentSk_any B m d ys _ hb hm).mono ?_
  rintro e w1 ⟨v1, rfl, ho1, hb1⟩
  obtain ⟨A1, n1, c1, rfl, hn1, hr1⟩ := ho1.shape
  have hlen : n1 ≤ 9223372036854775807 := by rw [hn1.out, List.length_append, HY.out, marksS_length]; omega
  go_wp2_with fail
  refine (sameSk_any A A1 n _ c c1 xs _ w1 (ha.below hb1) hr1 hn hlen).mono ?_
  rintro e w2 ⟨rfl, q, rfl⟩
  go_wp2
  go_ret
  exact ⟨rfl, bdrewN hb1 q⟩
end Go.Proofs.Ytgfhnbjpdhdhgaa

namespace Go.Proofs.Ytgfhnbjpdhdhgaa
open Go.ChangeShapes Go.WideShapes Go.ChangeAt Go.RowKit
set_option linter.unusedVariables false

/-- whole numbers and bytes -/
def I64 (x : Int) : Prop := -9223372036854775808 ≤ x ∧ x ≤ 9223372036854775807
def U8 (x : Int) : Prop := 0 ≤ x ∧ x ≤ 255
structure SkOk (s : SkT) : Prop where
  kind : U8 s.1
  handle : I64 s.2.1
  alg : U8 s.2.2.1
  count : I64 s.2.2.2.1
  out : I64 s.2.2.2.2.1
  data : I64 s.2.2.2.2.2.1
  more : I64 s.2.2.2.2.2.2

theorem sk_cellsOf : Try.prog.cellsOf 51 = 7 := by kernel_rfl
theorem sk_bytesOf : Try.prog.bytesOf 51 = 56 := by kernel_rfl

theorem skel_of_trod {H : Type} {enc : TypeId × Value → H} {W : World} {b : Nat} {sp : Nat → Bool} {hd : Bool} {fuel : Nat} {cs : List Value} {x : DataW H × List MemPlace}
    (h : DataW.trod enc Try.prog W b sp hd fuel 51 cs = some x) : ∃ s : SkT, cs = skV s ∧ SkOk s := by
  obtain ⟨xs, k, hk, hxy, hlen, hxl, hf⟩ := DataW.trod_struct Try.underlying51 h
  rw [sk_cellsOf] at hlen
  match cs, hlen with
  | [c0, c1, c2, c3, c4, c5, c6], _ =>
    match xs, hxl with
    | [y0, y1, y2, y3, y4, y5, y6], _ =>
      have g0 := hf 0 _ rfl
      have g1 := hf 1 _ rfl
      have g2 := hf 2 _ rfl
      have g3 := hf 3 _ rfl
      have g4 := hf 4 _ rfl
      have g5 := hf 5 _ rfl
      have g6 := hf 6 _ rfl
      simp [List.drop, List.take, show Try.prog.cellsOf 3 = 1 by kernel_rfl, show Try.prog.cellsOf 28 = 1 by kernel_rfl, show Try.prog.cellsOf 29 = 1 by kernel_rfl] at g0 g1 g2 g3 g4 g5 g6
      obtain ⟨n0, e0, -, w0⟩ := DataW.trod_int Try.underlying28 g0
      obtain ⟨n1, e1, -, w1⟩ := DataW.trod_int Try.underlying3 g1
      obtain ⟨n2, e2, -, w2⟩ := DataW.trod_int Try.underlying29 g2
      obtain ⟨n3, e3, -, w3⟩ := DataW.trod_int Try.underlying3 g3
      obtain ⟨n4, e4, -, w4⟩ := DataW.trod_int Try.underlying3 g4
      obtain ⟨n5, e5, -, w5⟩ := DataW.trod_int Try.underlying3 g5
      obtain ⟨n6, e6, -, w6⟩ := DataW.trod_int Try.underlying3 g6
      simp only [List.cons.injEq, and_true] at e0 e1 e2 e3 e4 e5 e6
      subst e0 e1 e2 e3 e4 e5 e6
      exact ⟨(n0, n1, n2, n3, n4, n5, n6), rfl, ⟨bounds_u8 w0, i64_of w1, bounds_u8 w2, i64_of w3, i64_of w4, i64_of w5, i64_of w6⟩⟩

theorem open_skels {H : Type} {enc : TypeId × Value → H} {W : World} {ts : List TypeId} {ds : List (DataW H)} {d : DataW H} {p : List MemPlace} {j : Nat} {a : Option Addr} {len cap : Nat} {b : Nat} {sp : Nat → Bool} {hd : Bool}
    (hsz : (DataW.weightsEach Try.prog ts ds).all (· ≤ reachBytes) = true) (ht : ts[j]? = some 22) (hdj : ds[j]? = some d)
    (h : DataW.Trod enc Try.prog W b sp hd 22 (.slice a len cap) d p) : ∃ l : List SkT, Rd W 7 a len (sksV l) ∧ len ≤ 2513169434900 ∧ ∀ s ∈ l, SkOk s := by
  obtain ⟨fuel, hf⟩ := h
  rcases Go.Deep.open_slice Try.underlying22 hf with ⟨hcs, _⟩ | ⟨x, l, c, m, n, D, Pl, hcs, hb, hl, hm, hmm, hx, hel⟩
  · simp [Value.cells] at hcs
    obtain ⟨rfl, rfl, rfl⟩ := hcs
    exact ⟨[], Rd.none_, by omega, by simp⟩
  · simp [Value.cells] at hcs
    obtain ⟨rfl, rfl, rfl⟩ := hcs
    simp only [Prod.mk.injEq] at hx
    have hx1 := hx.1
    subst hx1
    have hs := sized_slice hsz ht hdj Try.underlying22
    rw [sk_bytesOf] at hs
    simp only [List.length_map, List.length_range, reachBytes] at hs
    have hlm : len ≤ m := by rw [hmm]; split <;> omega
    have each : ∀ i, i < len → ∃ s : SkT, SkOk s ∧ ∀ q, q < 7 → W.cell? (x.add (i * 7 + q)) = (skV s)[q]? := by
      intro i hi
      obtain ⟨cs', h1, h2⟩ := hel i (by omega)
      rw [sk_cellsOf] at h1
      obtain ⟨s, rfl, hok⟩ := skel_of_trod h2
      refine ⟨s, hok, fun q hq => ?_⟩
      have := (World.cells?_some h1).2.2 q hq
      rwa [add_of_add] at this
    haveI : Inhabited SkT := ⟨(0, 0, 0, 0, 0, 0, 0)⟩
    obtain ⟨f, hf'⟩ := Go.Deep.choose_lt each
    have hlen : ((List.range len).map f).length = len := by simp
    refine ⟨(List.range len).map f, ⟨by rw [sksV_length, hlen], fun hn => ⟨x, rfl, ?_, fun i u hu => ?_⟩⟩, by omega, ?_⟩
    · have h0 := (hf' 0 hn).2 0 (by omega)
      have := World.block_lt_of_cell? W _ (h0.trans rfl)
      rwa [block_of_add] at this
    · have hi : i < (sksV ((List.range len).map f)).length := (List.getElem?_eq_some_iff.1 hu).1
      rw [sksV_length, hlen] at hi
      have hq : i = (i / 7) * 7 + i % 7 := by omega
      have h7 : i / 7 < len := by omega
      have hg := sksV_get ((List.range len).map f) (i / 7) (i % 7) (f (i / 7)) (by simp [h7]) (by omega)
      rw [← hq, hu] at hg
      rw [hq, (hf' (i / 7) h7).2 (i % 7) (by omega), ← hg]
    · intro s hs
      obtain ⟨i, hi, rfl⟩ := List.mem_map.1 hs
      exact (hf' i (List.mem_range.1 hi)).1
end Go.Proofs.Ytgfhnbjpdhdhgaa

namespace Go.Proofs.Ytgfhnbjpdhdhgaa
open Go.ChangeShapes Go.WideShapes Go.ChangeAt Go.RowKit
set_option linter.unusedVariables false

theorem bytes_trod {H : Type} {enc : TypeId × Value → H} {W : World} {b : Nat} {sp : Nat → Bool} {hd : Bool} {fuel : Nat} {c : Value} {x : DataW H × List MemPlace}
    (hw : ∀ n ∈ DataW.weights Try.prog 25 x.1, n ≤ reachBytes) (hf : DataW.trod enc Try.prog W b sp hd fuel 25 [c] = some x) :
    ∃ (a : Option Addr) (len cap : Nat) (l : List UInt8), c = .slice a len cap ∧ Rd W 1 a len (l.map vb) ∧ len ≤ 140737488351232 ∧ len ≤ cap := by
  rcases open_ints Try.underlying25 Try.underlying5 rowCells hf with ⟨hcs, _⟩ | ⟨x', len, cap, zs, hcs, _, hl, hm, hz, hx, hcell, hwz⟩
  · simp at hcs
    exact ⟨none, 0, 0, [], hcs, Rd.none_, by omega, by omega⟩
  · simp only [List.cons.injEq, and_true] at hcs
    subst hcs
    subst hx
    have hs := hw ((((zs.take len).map fun n => (DataW.lit (.int .u8 n) : DataW H)).length + ((zs.drop len).map fun n => (DataW.lit (.int .u8 n) : DataW H)).length) * Try.prog.bytesOf 5) (by simp [DataW.weights, Try.underlying25, lits])
    rw [rowBytes] at hs
    simp only [List.length_map, List.length_take, List.length_drop, reachBytes] at hs
    have hlz : len ≤ zs.length := by rw [hz]; split <;> omega
    have hb : ∀ (i : Nat) (hi : i < zs.length), 0 ≤ zs[i] ∧ zs[i] ≤ 255 := fun i hi => bounds_u8 (hwz _ (List.getElem_mem hi))
    refine ⟨some x', len, cap, (zs.take len).map fun z => UInt8.ofNat z.toNat, rfl, ⟨by simp; omega, fun hn => ⟨x', rfl, ?_, fun i u hu => ?_⟩⟩, by omega, hl⟩
    · have h0 := hcell 0 (by omega)
      have := World.block_lt_of_cell? W _ h0
      rwa [block_of_add] at this
    · rw [List.map_map, List.getElem?_map, List.getElem?_take] at hu
      by_cases hi : i < len
      · rw [if_pos hi, List.getElem?_eq_getElem (by omega)] at hu
        simp only [Option.map_some, Function.comp, Option.some.injEq] at hu
        subst hu
        rw [hcell i (by omega), List.getD_eq_getElem?_getD, List.getElem?_eq_getElem (by omega)]
        have h2 := hb i (by omega)
        simp only [Option.getD_some, vb, UInt8.toNat_ofNat', Option.some.injEq, Value.int.injEq, true_and]
        omega
      · rw [if_neg hi] at hu; cases hu

theorem op_cellsOf : Try.prog.cellsOf 31 = 7 := by kernel_rfl
theorem op_of_trod {H : Type} {enc : TypeId × Value → H} {W : World} {b : Nat} {sp : Nat → Bool} {hd : Bool} {fuel : Nat} {cs : List Value} {x : DataW H × List MemPlace}
    (hw : ∀ n ∈ DataW.weights Try.prog 31 x.1, n ≤ reachBytes) (h : DataW.trod enc Try.prog W b sp hd fuel 31 cs = some x) :
    ∃ (k : UInt8) (hh : Int) (a : UInt8) (c o : Int) (A B : Option Addr) (n cA m cB : Nat) (l l' : List UInt8), cs = [.int .u8 (k.toNat : Int), .int .i64 hh, .int .u8 (a.toNat : Int), .int .i64 c, .int .i64 o, .slice A n cA, .slice B m cB] ∧
      Rd W 1 A n (l.map vb) ∧ Rd W 1 B m (l'.map vb) ∧ n ≤ 140737488351232 ∧ m ≤ 140737488351232 ∧ I64 hh ∧ I64 c ∧ I64 o := by
  obtain ⟨xs, k, hk, hxy, hlen, hxl, hf⟩ := DataW.trod_struct Try.underlying31 h
  rw [op_cellsOf] at hlen
  match cs, hlen with
  | [c0, c1, c2, c3, c4, c5, c6], _ =>
    match xs, hxl with
    | [y0, y1, y2, y3, y4, y5, y6], _ =>
      have g0 := hf 0 _ rfl
      have g1 := hf 1 _ rfl
      have g2 := hf 2 _ rfl
      have g3 := hf 3 _ rfl
      have g4 := hf 4 _ rfl
      have g5 := hf 5 _ rfl
      have g6 := hf 6 _ rfl
      simp [List.drop, List.take, show Try.prog.cellsOf 3 = 1 by kernel_rfl, show Try.prog.cellsOf 28 = 1 by kernel_rfl, show Try.prog.cellsOf 29 = 1 by kernel_rfl, show Try.prog.cellsOf 25 = 1 by kernel_rfl] at g0 g1 g2 g3 g4 g5 g6
      obtain ⟨n0, e0, -, w0⟩ := DataW.trod_int Try.underlying28 g0
      obtain ⟨n1, e1, -, w1⟩ := DataW.trod_int Try.underlying3 g1
      obtain ⟨n2, e2, -, w2⟩ := DataW.trod_int Try.underlying29 g2
      obtain ⟨n3, e3, -, w3⟩ := DataW.trod_int Try.underlying3 g3
      obtain ⟨n4, e4, -, w4⟩ := DataW.trod_int Try.underlying3 g4
      subst hxy
      obtain ⟨A, n, cA, l, rfl, r5, b5, q5⟩ := bytes_trod (fun n hn => hw n (by
        simp only [DataW.weights, Try.underlying31]
        exact DataW.weights_mem_each (j := 5) rfl rfl n hn)) g5
      obtain ⟨B, m, cB, l', rfl, r6, b6, q6⟩ := bytes_trod (fun n hn => hw n (by
        simp only [DataW.weights, Try.underlying31]
        exact DataW.weights_mem_each (j := 6) rfl rfl n hn)) g6
      simp only [List.cons.injEq, and_true] at e0 e1 e2 e3 e4
      subst e0 e1 e2 e3 e4
      obtain ⟨k, rfl⟩ := u8_of w0
      obtain ⟨a, rfl⟩ := u8_of w2
      exact ⟨k, n1, a, n3, n4, A, B, n, cA, m, cB, l, l', rfl, r5, r6, b5, b6, i64_of w1, i64_of w3, i64_of w4⟩

theorem open_op {H : Type} {enc : TypeId × Value → H} {W : World} {ts : List TypeId} {ds : List (DataW H)} {d : DataW H} {p : List MemPlace} {j : Nat} {v : Value} {b base : Nat} {sp : Nat → Bool} {hd : Bool} {r : Reach}
    (hsz : (DataW.weightsEach Try.prog ts ds).all (· ≤ reachBytes) = true) (ht : ts[j]? = some 31) (hdj : ds[j]? = some d)
    (hv : Value.okWide Try.prog W r base 31 v) (h : DataW.Trod enc Try.prog W b sp hd 31 v d p) :
    ∃ (k : UInt8) (hh : Int) (a : UInt8) (c o : Int) (A B : Option Addr) (n cA m cB : Nat) (l l' : List UInt8), v = opV k hh a c o (.slice A n cA) (.slice B m cB) ∧
      Rd W 1 A n (l.map vb) ∧ Rd W 1 B m (l'.map vb) ∧ n ≤ 140737488351232 ∧ m ≤ 140737488351232 ∧ I64 hh ∧ I64 c ∧ I64 o := by
  obtain ⟨cs, rfl, -⟩ := okWide_struct Try.underlying31 hv
  obtain ⟨fuel, hf⟩ := h
  obtain ⟨k, hh, a, c, o, A, B, n, cA, m, cB, l, l', e, h1⟩ := op_of_trod (fun n hn => by
    have := List.all_eq_true.1 hsz _ (DataW.weights_mem_each ht hdj n hn)
    simpa using this) hf
  refine ⟨k, hh, a, c, o, A, B, n, cA, m, cB, l, l', ?_, h1⟩
  simp [Value.cells] at e
  unfold opV
  rw [← e]
end Go.Proofs.Ytgfhnbjpdhdhgaa

namespace Go.Proofs.Ytgfhnbjpdhdhgaa
open Go.RowKit
set_option linter.unusedVariables false

set_option maxRecDepth 100000 in
set_option maxHeartbeats 4000000 in
theorem opSame_walk (k : UInt8) (h : Int) (a : UInt8) (cn ou : Int) (A B : Option Addr) (n c m d : Nat) (xs ys : List UInt8) (k' : UInt8) (h' : Int) (a' : UInt8) (cn' ou' : Int) (A' B' : Option Addr) (n' c' m' d' : Nat) (xs' ys' : List UInt8) (w : World) (hA : Rd w 1 A n (xs.map vb)) (hB : Rd w 1 B m (ys.map vb)) (hn : n ≤ 140737488351232) (hm : m ≤ 140737488351232) (_ : I64 h) (_ : I64 cn) (_ : I64 ou) (hA' : Rd w 1 A' n' (xs'.map vb)) (hB' : Rd w 1 B' m' (ys'.map vb)) (hn' : n' ≤ 140737488351232) (hm' : m' ≤ 140737488351232) (_ : I64 h') (_ : I64 cn') (_ : I64 ou') :
    Calls Try.prog 7 #[opV k h a cn ou (.slice A n c) (.slice B m d), opV k' h' a' cn' ou' (.slice A' n' c') (.slice B' m' d')] w fun e w' => e = .returned (.bool true) ∧ Below w.heap.size w w' := by
  have Hx := Lib.hid (show xs.length = n by simpa using hA.1)
  have Hy := Lib.hid (show ys.length = m by simpa using hB.1)
  have Hx' := Lib.hid (show xs'.length = n' by simpa using hA'.1)
  have Hy' := Lib.hid (show ys'.length = m' by simpa using hB'.1)
  have H0 := St.start_lay w []
  go_enter Try.func7, Try.ntmps7
  go_wp2_with fail
  refine absorb_calls (H0.allocAt 0 rfl w.heap.size rfl _ _ |>.push_mk rfl |>.allocAt 1 rfl (w.heap.size + 1) (by simp) _ _ |>.push_mk rfl) ?_
  intro w1 H
  generalize w.heap.size + 1 = gB at H ⊢
  generalize hga : w.heap.size = gA at H ⊢
  clear hga H0
  replace H : St w [] w1 (lay [.blk gA 31 [.int .u8 (k.toNat : Int), .int .i64 h, .int .u8 (a.toNat : Int), .int .i64 cn, .int .i64 ou, .slice A n c, .slice B m d], .blk gB 31 [.int .u8 (k'.toNat : Int), .int .i64 h', .int .u8 (a'.toNat : Int), .int .i64 cn', .int .i64 ou', .slice A' n' c', .slice B' m' d']]) := H
  refine (lentOp_s k h a cn ou A B n m c d xs ys _ (H.arg0 hA) (H.arg0 hB) (by omega) (by omega)).mono ?_
  rintro e wx ⟨g1, e1, c1, d1, lc1, ld1, rfl, HN⟩
  replace H := H.also HN
  clear HN
  generalize hX : xs ++ marksB 7 0 6 = X1 at H
  generalize hY : ys ++ marksB 7 0 6 = Y1 at H
  have HX1 := Lib.hid hX
  have HY1 := Lib.hid hY
  clear hX hY
  replace H : St w [] wx (lay [.blk gA 31 [.int .u8 (k.toNat : Int), .int .i64 h, .int .u8 (a.toNat : Int), .int .i64 cn, .int .i64 ou, .slice A n c, .slice B m d], .blk gB 31 [.int .u8 (k'.toNat : Int), .int .i64 h', .int .u8 (a'.toNat : Int), .int .i64 cn', .int .i64 ou', .slice A' n' c', .slice B' m' d'], .row 5 1 (.slice (some ⟨g1, 0, none⟩) (n + 6) c1) (n + 6) (X1.map vb), .row 5 1 (.slice (some ⟨e1, 0, none⟩) (m + 6) d1) (m + 6) (Y1.map vb)]) := H
  have HA := (H.allocAt 4 rfl wx.heap.size rfl #[.int .u8 (k.toNat : Int), .int .i64 h, .int .u8 (a.toNat : Int), .int .i64 cn, .int .i64 ou, .slice (some ⟨g1, 0, none⟩) n c1, .slice (some ⟨e1, 0, none⟩) m d1] 31 |>.push_mk rfl |>.allocAt 5 rfl (wx.heap.size + 1) (by simp) #[.slice (some ⟨g1, 0, none⟩) (n + 6) c1, .slice (some ⟨e1, 0, none⟩) (m + 6) d1] 47 |>.push_mk rfl)
  clear H
  have b1 := HA.cell 1 rfl (o := 0) rfl
  go_wp2_with (first | (refine load_guard (by rfl) 31 (.tmp 3) rfl gB rfl _ _ _ _ (HA.blk 1 rfl) Try.underlying31 rfl op_size ?_) | (refine wpList_load_row rfl 31 (.tmp 3) rfl gB rfl _ _ _ _ (HA.blk 1 rfl) Try.underlying31 rfl op_size ?_))
  refine absorb_calls HA ?_
  clear HA b1
  intro wy H
  generalize wx.heap.size + 1 = q1 at H ⊢
  generalize wx.heap.size = p1 at H ⊢
  replace H : St w [] wy (lay [.blk gA 31 [.int .u8 (k.toNat : Int), .int .i64 h, .int .u8 (a.toNat : Int), .int .i64 cn, .int .i64 ou, .slice A n c, .slice B m d], .blk gB 31 [.int .u8 (k'.toNat : Int), .int .i64 h', .int .u8 (a'.toNat : Int), .int .i64 cn', .int .i64 ou', .slice A' n' c', .slice B' m' d'], .row 5 1 (.slice (some ⟨g1, 0, none⟩) (n + 6) c1) (n + 6) (X1.map vb), .row 5 1 (.slice (some ⟨e1, 0, none⟩) (m + 6) d1) (m + 6) (Y1.map vb), .blk p1 31 [.int .u8 (k.toNat : Int), .int .i64 h, .int .u8 (a.toNat : Int), .int .i64 cn, .int .i64 ou, .slice (some ⟨g1, 0, none⟩) n c1, .slice (some ⟨e1, 0, none⟩) m d1], .blk q1 47 [.slice (some ⟨g1, 0, none⟩) (n + 6) c1, .slice (some ⟨e1, 0, none⟩) (m + 6) d1]]) := H
  refine (lentOp_s k' h' a' cn' ou' A' B' n' m' c' d' xs' ys' _ (H.arg0 hA') (H.arg0 hB') (by omega) (by omega)).mono ?_
  rintro e wx ⟨g2, e2, c2, d2, lc2, ld2, rfl, HN⟩
  replace H := H.also HN
  clear HN
  generalize hX : xs' ++ marksB 7 0 6 = X2 at H
  generalize hY : ys' ++ marksB 7 0 6 = Y2 at H
  have HX2 := Lib.hid hX
  have HY2 := Lib.hid hY
  clear hX hY
  replace H : St w [] wx (lay [.blk gA 31 [.int .u8 (k.toNat : Int), .int .i64 h, .int .u8 (a.toNat : Int), .int .i64 cn, .int .i64 ou, .slice A n c, .slice B m d], .blk gB 31 [.int .u8 (k'.toNat : Int), .int .i64 h', .int .u8 (a'.toNat : Int), .int .i64 cn', .int .i64 ou', .slice A' n' c', .slice B' m' d'], .row 5 1 (.slice (some ⟨g1, 0, none⟩) (n + 6) c1) (n + 6) (X1.map vb), .row 5 1 (.slice (some ⟨e1, 0, none⟩) (m + 6) d1) (m + 6) (Y1.map vb), .blk p1 31 [.int .u8 (k.toNat : Int), .int .i64 h, .int .u8 (a.toNat : Int), .int .i64 cn, .int .i64 ou, .slice (some ⟨g1, 0, none⟩) n c1, .slice (some ⟨e1, 0, none⟩) m d1], .blk q1 47 [.slice (some ⟨g1, 0, none⟩) (n + 6) c1, .slice (some ⟨e1, 0, none⟩) (m + 6) d1], .row 5 1 (.slice (some ⟨g2, 0, none⟩) (n' + 6) c2) (n' + 6) (X2.map vb), .row 5 1 (.slice (some ⟨e2, 0, none⟩) (m' + 6) d2) (m' + 6) (Y2.map vb)]) := H
  have HA := (H.allocAt 8 rfl wx.heap.size rfl #[.int .u8 (k'.toNat : Int), .int .i64 h', .int .u8 (a'.toNat : Int), .int .i64 cn', .int .i64 ou', .slice (some ⟨g2, 0, none⟩) n' c2, .slice (some ⟨e2, 0, none⟩) m' d2] 31 |>.push_mk rfl |>.allocAt 9 rfl (wx.heap.size + 1) (by simp) #[.slice (some ⟨g2, 0, none⟩) (n' + 6) c2, .slice (some ⟨e2, 0, none⟩) (m' + 6) d2] 47 |>.push_mk rfl)
  clear H
  go_wp2_with (first | (refine load_guard (by rfl) 31 (.tmp 5) rfl p1 rfl _ _ _ _ (HA.blk 4 rfl) Try.underlying31 rfl op_size ?_) | (refine wpList_load_row rfl 31 (.tmp 5) rfl p1 rfl _ _ _ _ (HA.blk 4 rfl) Try.underlying31 rfl op_size ?_) | (refine load_guard (by rfl) 31 (.tmp 7) rfl wx.heap.size rfl _ _ _ _ (HA.blk 8 rfl) Try.underlying31 rfl op_size ?_) | (refine wpList_load_row rfl 31 (.tmp 7) rfl wx.heap.size rfl _ _ _ _ (HA.blk 8 rfl) Try.underlying31 rfl op_size ?_))
  refine absorb_calls HA ?_
  clear HA
  intro wy H
  generalize wx.heap.size + 1 = q2 at H ⊢
  generalize wx.heap.size = p2 at H ⊢
  replace H : St w [] wy (lay [.blk gA 31 [.int .u8 (k.toNat : Int), .int .i64 h, .int .u8 (a.toNat : Int), .int .i64 cn, .int .i64 ou, .slice A n c, .slice B m d], .blk gB 31 [.int .u8 (k'.toNat : Int), .int .i64 h', .int .u8 (a'.toNat : Int), .int .i64 cn', .int .i64 ou', .slice A' n' c', .slice B' m' d'], .row 5 1 (.slice (some ⟨g1, 0, none⟩) (n + 6) c1) (n + 6) (X1.map vb), .row 5 1 (.slice (some ⟨e1, 0, none⟩) (m + 6) d1) (m + 6) (Y1.map vb), .blk p1 31 [.int .u8 (k.toNat : Int), .int .i64 h, .int .u8 (a.toNat : Int), .int .i64 cn, .int .i64 ou, .slice (some ⟨g1, 0, none⟩) n c1, .slice (some ⟨e1, 0, none⟩) m d1], .blk q1 47 [.slice (some ⟨g1, 0, none⟩) (n + 6) c1, .slice (some ⟨e1, 0, none⟩) (m + 6) d1], .row 5 1 (.slice (some ⟨g2, 0, none⟩) (n' + 6) c2) (n' + 6) (X2.map vb), .row 5 1 (.slice (some ⟨e2, 0, none⟩) (m' + 6) d2) (m' + 6) (Y2.map vb), .blk p2 31 [.int .u8 (k'.toNat : Int), .int .i64 h', .int .u8 (a'.toNat : Int), .int .i64 cn', .int .i64 ou', .slice (some ⟨g2, 0, none⟩) n' c2, .slice (some ⟨e2, 0, none⟩) m' d2], .blk q2 47 [.slice (some ⟨g2, 0, none⟩) (n' + 6) c2, .slice (some ⟨e2, 0, none⟩) (m' + 6) d2]]) := H
  refine (opSame_s k k' h h' a a' cn cn' ou ou' _ _ _ _ n m _ _ n' m' _ _ xs ys xs' ys' _ (Rd.front (k := marksB 7 0 6) (m := n + 6) (by rw [HX1.out]; exact H.rd 2 rfl) Hx.out (by omega)) (Rd.front (k := marksB 7 0 6) (m := m + 6) (by rw [HY1.out]; exact H.rd 3 rfl) Hy.out (by omega)) (Rd.front (k := marksB 7 0 6) (m := n' + 6) (by rw [HX2.out]; exact H.rd 6 rfl) Hx'.out (by omega)) (Rd.front (k := marksB 7 0 6) (m := m' + 6) (by rw [HY2.out]; exact H.rd 7 rfl) Hy'.out (by omega)) (by omega) (by omega) (by omega) (by omega)).mono ?_
  rintro e wx ⟨rfl, hb⟩
  replace H := H.call hb
  clear hb
  obtain ⟨s, HS⟩ : ∃ s, Hid (decide (k = k' ∧ h = h' ∧ a = a' ∧ cn = cn' ∧ ou = ou' ∧ xs = xs' ∧ ys = ys') = s) := ⟨_, rfl⟩
  have HS2 : Hid (decide (k' = k ∧ h' = h ∧ a' = a ∧ cn' = cn ∧ ou' = ou ∧ xs' = xs ∧ ys' = ys) = s) := by
    unfold Hid
    rw [← HS.out]
    exact decide_eq_decide.2 ⟨fun ⟨a, b, c, d, e, f, g⟩ => ⟨a.symm, b.symm, c.symm, d.symm, e.symm, f.symm, g.symm⟩, fun ⟨a, b, c, d, e, f, g⟩ => ⟨a.symm, b.symm, c.symm, d.symm, e.symm, f.symm, g.symm⟩⟩
  rw [HS.out]
  have hss : (s == s) = true := by simp
  go_wp2_with fail
  refine (lives_s wx).mono ?_
  rintro e wy ⟨rfl, hb⟩
  replace H := H.call hb
  clear hb
  go_wp2_with (first | (refine load_guard (by rfl) 31 (.tmp 2) rfl gA rfl _ _ _ _ (H.blk 0 rfl) Try.underlying31 rfl op_size ?_) | (refine wpList_load_row rfl 31 (.tmp 2) rfl gA rfl _ _ _ _ (H.blk 0 rfl) Try.underlying31 rfl op_size ?_) | (refine load_guard (by rfl) 31 (.tmp 3) rfl gB rfl _ _ _ _ (H.blk 1 rfl) Try.underlying31 rfl op_size ?_) | (refine wpList_load_row rfl 31 (.tmp 3) rfl gB rfl _ _ _ _ (H.blk 1 rfl) Try.underlying31 rfl op_size ?_) | (refine load_guard (by rfl) 31 (.tmp 5) rfl p1 rfl _ _ _ _ (H.blk 4 rfl) Try.underlying31 rfl op_size ?_) | (refine wpList_load_row rfl 31 (.tmp 5) rfl p1 rfl _ _ _ _ (H.blk 4 rfl) Try.underlying31 rfl op_size ?_) | (refine load_guard (by rfl) 31 (.tmp 7) rfl p2 rfl _ _ _ _ (H.blk 8 rfl) Try.underlying31 rfl op_size ?_) | (refine wpList_load_row rfl 31 (.tmp 7) rfl p2 rfl _ _ _ _ (H.blk 8 rfl) Try.underlying31 rfl op_size ?_) | (refine load_guard (by rfl) 47 (.tmp 6) rfl q1 rfl _ _ _ _ (H.blk 5 rfl) Try.underlying47 rfl two_size ?_) | (refine wpList_load_row rfl 47 (.tmp 6) rfl q1 rfl _ _ _ _ (H.blk 5 rfl) Try.underlying47 rfl two_size ?_) | (refine load_guard (by rfl) 47 (.tmp 8) rfl q2 rfl _ _ _ _ (H.blk 9 rfl) Try.underlying47 rfl two_size ?_) | (refine wpList_load_row rfl 47 (.tmp 8) rfl q2 rfl _ _ _ _ (H.blk 9 rfl) Try.underlying47 rfl two_size ?_))
  refine (refSame_s k k' h h' a a' cn cn' ou ou' A B A' B' n m c d n' m' c' d' xs ys xs' ys' _ (H.arg0 hA) (H.arg0 hB) (H.arg0 hA') (H.arg0 hB') (by omega) (by omega) (by omega) (by omega)).mono ?_
  rintro e wx ⟨rfl, hb⟩
  replace H := H.call hb
  clear hb
  rw [HS.out]
  go_wp2_with (first | (refine load_guard (by rfl) 31 (.tmp 2) rfl gA rfl _ _ _ _ (H.blk 0 rfl) Try.underlying31 rfl op_size ?_) | (refine wpList_load_row rfl 31 (.tmp 2) rfl gA rfl _ _ _ _ (H.blk 0 rfl) Try.underlying31 rfl op_size ?_) | (refine load_guard (by rfl) 31 (.tmp 3) rfl gB rfl _ _ _ _ (H.blk 1 rfl) Try.underlying31 rfl op_size ?_) | (refine wpList_load_row rfl 31 (.tmp 3) rfl gB rfl _ _ _ _ (H.blk 1 rfl) Try.underlying31 rfl op_size ?_) | (refine load_guard (by rfl) 31 (.tmp 5) rfl p1 rfl _ _ _ _ (H.blk 4 rfl) Try.underlying31 rfl op_size ?_) | (refine wpList_load_row rfl 31 (.tmp 5) rfl p1 rfl _ _ _ _ (H.blk 4 rfl) Try.underlying31 rfl op_size ?_) | (refine load_guard (by rfl) 31 (.tmp 7) rfl p2 rfl _ _ _ _ (H.blk 8 rfl) Try.underlying31 rfl op_size ?_) | (refine wpList_load_row rfl 31 (.tmp 7) rfl p2 rfl _ _ _ _ (H.blk 8 rfl) Try.underlying31 rfl op_size ?_) | (refine load_guard (by rfl) 47 (.tmp 6) rfl q1 rfl _ _ _ _ (H.blk 5 rfl) Try.underlying47 rfl two_size ?_) | (refine wpList_load_row rfl 47 (.tmp 6) rfl q1 rfl _ _ _ _ (H.blk 5 rfl) Try.underlying47 rfl two_size ?_) | (refine load_guard (by rfl) 47 (.tmp 8) rfl q2 rfl _ _ _ _ (H.blk 9 rfl) Try.underlying47 rfl two_size ?_) | (refine wpList_load_row rfl 47 (.tmp 8) rfl q2 rfl _ _ _ _ (H.blk 9 rfl) Try.underlying47 rfl two_size ?_))
  refine (opSame_s k' k h' h a' a cn' cn ou' ou _ _ _ _ n' m' _ _ n m _ _ xs' ys' xs ys _ (Rd.front (k := marksB 7 0 6) (m := n' + 6) (by rw [HX2.out]; exact H.rd 6 rfl) Hx'.out (by omega)) (Rd.front (k := marksB 7 0 6) (m := m' + 6) (by rw [HY2.out]; exact H.rd 7 rfl) Hy'.out (by omega)) (Rd.front (k := marksB 7 0 6) (m := n + 6) (by rw [HX1.out]; exact H.rd 2 rfl) Hx.out (by omega)) (Rd.front (k := marksB 7 0 6) (m := m + 6) (by rw [HY1.out]; exact H.rd 3 rfl) Hy.out (by omega)) (by omega) (by omega) (by omega) (by omega)).mono ?_
  rintro e wy ⟨rfl, hb⟩
  replace H := H.call hb
  clear hb
  rw [HS2.out]
  go_wp2_with (first | (refine load_guard (by rfl) 31 (.tmp 2) rfl gA rfl _ _ _ _ (H.blk 0 rfl) Try.underlying31 rfl op_size ?_) | (refine wpList_load_row rfl 31 (.tmp 2) rfl gA rfl _ _ _ _ (H.blk 0 rfl) Try.underlying31 rfl op_size ?_) | (refine load_guard (by rfl) 31 (.tmp 3) rfl gB rfl _ _ _ _ (H.blk 1 rfl) Try.underlying31 rfl op_size ?_) | (refine wpList_load_row rfl 31 (.tmp 3) rfl gB rfl _ _ _ _ (H.blk 1 rfl) Try.underlying31 rfl op_size ?_) | (refine load_guard (by rfl) 31 (.tmp 5) rfl p1 rfl _ _ _ _ (H.blk 4 rfl) Try.underlying31 rfl op_size ?_) | (refine wpList_load_row rfl 31 (.tmp 5) rfl p1 rfl _ _ _ _ (H.blk 4 rfl) Try.underlying31 rfl op_size ?_) | (refine load_guard (by rfl) 31 (.tmp 7) rfl p2 rfl _ _ _ _ (H.blk 8 rfl) Try.underlying31 rfl op_size ?_) | (refine wpList_load_row rfl 31 (.tmp 7) rfl p2 rfl _ _ _ _ (H.blk 8 rfl) Try.underlying31 rfl op_size ?_) | (refine load_guard (by rfl) 47 (.tmp 6) rfl q1 rfl _ _ _ _ (H.blk 5 rfl) Try.underlying47 rfl two_size ?_) | (refine wpList_load_row rfl 47 (.tmp 6) rfl q1 rfl _ _ _ _ (H.blk 5 rfl) Try.underlying47 rfl two_size ?_) | (refine load_guard (by rfl) 47 (.tmp 8) rfl q2 rfl _ _ _ _ (H.blk 9 rfl) Try.underlying47 rfl two_size ?_) | (refine wpList_load_row rfl 47 (.tmp 8) rfl q2 rfl _ _ _ _ (H.blk 9 rfl) Try.underlying47 rfl two_size ?_))
  refine (opSame_s k k h h a a cn cn ou ou _ _ _ _ n m _ _ n m _ _ xs ys xs ys _ (Rd.front (k := marksB 7 0 6) (m := n + 6) (by rw [HX1.out]; exact H.rd 2 rfl) Hx.out (by omega)) (Rd.front (k := marksB 7 0 6) (m := m + 6) (by rw [HY1.out]; exact H.rd 3 rfl) Hy.out (by omega)) (Rd.front (k := marksB 7 0 6) (m := n + 6) (by rw [HX1.out]; exact H.rd 2 rfl) Hx.out (by omega)) (Rd.front (k := marksB 7 0 6) (m := m + 6) (by rw [HY1.out]; exact H.rd 3 rfl) Hy.out (by omega)) (by omega) (by omega) (by omega) (by omega)).mono ?_
  rintro e wx ⟨rfl, hb⟩
  replace H := H.call hb
  clear hb
  rw [decide_eq_true ⟨rfl, rfl, rfl, rfl, rfl, rfl, rfl⟩]
  go_wp2_with (first | (refine load_guard (by rfl) 31 (.tmp 2) rfl gA rfl _ _ _ _ (H.blk 0 rfl) Try.underlying31 rfl op_size ?_) | (refine wpList_load_row rfl 31 (.tmp 2) rfl gA rfl _ _ _ _ (H.blk 0 rfl) Try.underlying31 rfl op_size ?_) | (refine load_guard (by rfl) 31 (.tmp 3) rfl gB rfl _ _ _ _ (H.blk 1 rfl) Try.underlying31 rfl op_size ?_) | (refine wpList_load_row rfl 31 (.tmp 3) rfl gB rfl _ _ _ _ (H.blk 1 rfl) Try.underlying31 rfl op_size ?_) | (refine load_guard (by rfl) 31 (.tmp 5) rfl p1 rfl _ _ _ _ (H.blk 4 rfl) Try.underlying31 rfl op_size ?_) | (refine wpList_load_row rfl 31 (.tmp 5) rfl p1 rfl _ _ _ _ (H.blk 4 rfl) Try.underlying31 rfl op_size ?_) | (refine load_guard (by rfl) 31 (.tmp 7) rfl p2 rfl _ _ _ _ (H.blk 8 rfl) Try.underlying31 rfl op_size ?_) | (refine wpList_load_row rfl 31 (.tmp 7) rfl p2 rfl _ _ _ _ (H.blk 8 rfl) Try.underlying31 rfl op_size ?_) | (refine load_guard (by rfl) 47 (.tmp 6) rfl q1 rfl _ _ _ _ (H.blk 5 rfl) Try.underlying47 rfl two_size ?_) | (refine wpList_load_row rfl 47 (.tmp 6) rfl q1 rfl _ _ _ _ (H.blk 5 rfl) Try.underlying47 rfl two_size ?_) | (refine load_guard (by rfl) 47 (.tmp 8) rfl q2 rfl _ _ _ _ (H.blk 9 rfl) Try.underlying47 rfl two_size ?_) | (refine wpList_load_row rfl 47 (.tmp 8) rfl q2 rfl _ _ _ _ (H.blk 9 rfl) Try.underlying47 rfl two_size ?_))
  refine (keptOp_yes k h a cn ou A B _ _ n m c d (n + 6) (m + 6) _ _ xs ys _ (H.arg0 hA) (H.arg0 hB) (by rw [HX1.out]; exact H.rd 2 rfl) (by rw [HY1.out]; exact H.rd 3 rfl) (by omega) (by omega) (by omega) (by omega)).mono ?_
  rintro e wy ⟨rfl, hb⟩
  replace H := H.call hb
  clear hb
  go_wp2_with (first | (refine load_guard (by rfl) 31 (.tmp 2) rfl gA rfl _ _ _ _ (H.blk 0 rfl) Try.underlying31 rfl op_size ?_) | (refine wpList_load_row rfl 31 (.tmp 2) rfl gA rfl _ _ _ _ (H.blk 0 rfl) Try.underlying31 rfl op_size ?_) | (refine load_guard (by rfl) 31 (.tmp 3) rfl gB rfl _ _ _ _ (H.blk 1 rfl) Try.underlying31 rfl op_size ?_) | (refine wpList_load_row rfl 31 (.tmp 3) rfl gB rfl _ _ _ _ (H.blk 1 rfl) Try.underlying31 rfl op_size ?_) | (refine load_guard (by rfl) 31 (.tmp 5) rfl p1 rfl _ _ _ _ (H.blk 4 rfl) Try.underlying31 rfl op_size ?_) | (refine wpList_load_row rfl 31 (.tmp 5) rfl p1 rfl _ _ _ _ (H.blk 4 rfl) Try.underlying31 rfl op_size ?_) | (refine load_guard (by rfl) 31 (.tmp 7) rfl p2 rfl _ _ _ _ (H.blk 8 rfl) Try.underlying31 rfl op_size ?_) | (refine wpList_load_row rfl 31 (.tmp 7) rfl p2 rfl _ _ _ _ (H.blk 8 rfl) Try.underlying31 rfl op_size ?_) | (refine load_guard (by rfl) 47 (.tmp 6) rfl q1 rfl _ _ _ _ (H.blk 5 rfl) Try.underlying47 rfl two_size ?_) | (refine wpList_load_row rfl 47 (.tmp 6) rfl q1 rfl _ _ _ _ (H.blk 5 rfl) Try.underlying47 rfl two_size ?_) | (refine load_guard (by rfl) 47 (.tmp 8) rfl q2 rfl _ _ _ _ (H.blk 9 rfl) Try.underlying47 rfl two_size ?_) | (refine wpList_load_row rfl 47 (.tmp 8) rfl q2 rfl _ _ _ _ (H.blk 9 rfl) Try.underlying47 rfl two_size ?_))
  refine (keptOp_yes k' h' a' cn' ou' A' B' _ _ n' m' c' d' (n' + 6) (m' + 6) _ _ xs' ys' _ (H.arg0 hA') (H.arg0 hB') (by rw [HX2.out]; exact H.rd 6 rfl) (by rw [HY2.out]; exact H.rd 7 rfl) (by omega) (by omega) (by omega) (by omega)).mono ?_
  rintro e wx ⟨rfl, hb⟩
  replace H := H.call hb
  clear hb
  go_wp2_with fail
  go_ret
  exact ⟨rfl, H.below⟩
end Go.Proofs.Ytgfhnbjpdhdhgaa

namespace Go.Proofs.Ytgfhnbjpdhdhgaa
open Go.RowKit
set_option linter.unusedVariables false

theorem leL_cons (n x : Nat) : leL (n + 1) x = UInt8.ofNat x :: leL n (x / 256) := by
  unfold leL
  rw [List.range_succ_eq_map, List.map_cons, List.map_map]
  simp only [Nat.pow_zero, Nat.div_one, List.cons.injEq, true_and]
  refine List.map_congr_left fun i _ => ?_
  simp only [Function.comp, Nat.pow_succ, Nat.div_div_eq_div_mul, Nat.mul_comm]
theorem tk_beL (n : Nat) : ∀ x, tk (beL n x) = x % 256 ^ n := by
  induction n with
  | zero => intro x; simp [beL, leL, tk, Nat.mod_one]
  | succ n ih =>
    intro x
    have h := ih (x / 256)
    unfold beL at h ⊢
    rw [leL_cons, List.reverse_cons, tk_snoc, h, UInt8.toNat_ofNat', show 256 ^ (n + 1) = 256 * 256 ^ n by rw [Nat.pow_succ, Nat.mul_comm], Nat.mod_mul]
    omega
theorem i64_u64 (h : Int) (h1 : -9223372036854775808 ≤ h) (h2 : h ≤ 9223372036854775807) : i64N (tk (beL 8 (u64N h))) = h := by
  rw [tk_beL, Nat.mod_eq_of_lt (by have := u64N_le h; omega)]
  unfold i64N u64N
  rw [IntWalk.i64_left]
  unfold wrap64
  omega
theorem fld_mid (p q r : List UInt8) (a n : Nat) (ha : p.length = a) (hn : q.length = n) : fld (p ++ q ++ r) a n = q := by
  unfold fld
  rw [List.append_assoc, List.drop_left' ha, List.take_left' hn]

section
variable (k : UInt8) (h : Int) (a : UInt8) (c o : Int) (d m rest : List UInt8)
theorem encB_length : (encB k h a c o d m).length = 32 + d.length + m.length := by simp [encB, beL_length]; omega
theorem enc_h : fld (encB k h a c o d m ++ rest) 2 8 = beL 8 (u64N h) := by
  rw [show encB k h a c o d m ++ rest = [k, a] ++ beL 8 (u64N h) ++ (beL 8 (u64N c) ++ beL 8 (u64N o) ++ beL 3 d.length ++ beL 3 m.length ++ d ++ m ++ rest) by simp [encB]]
  exact fld_mid _ _ _ _ _ rfl (beL_length _ _)
theorem enc_c : fld (encB k h a c o d m ++ rest) 10 8 = beL 8 (u64N c) := by
  rw [show encB k h a c o d m ++ rest = ([k, a] ++ beL 8 (u64N h)) ++ beL 8 (u64N c) ++ (beL 8 (u64N o) ++ beL 3 d.length ++ beL 3 m.length ++ d ++ m ++ rest) by simp [encB]]
  exact fld_mid _ _ _ _ _ (by simp [beL_length]) (beL_length _ _)
theorem enc_o : fld (encB k h a c o d m ++ rest) 18 8 = beL 8 (u64N o) := by
  rw [show encB k h a c o d m ++ rest = ([k, a] ++ beL 8 (u64N h) ++ beL 8 (u64N c)) ++ beL 8 (u64N o) ++ (beL 3 d.length ++ beL 3 m.length ++ d ++ m ++ rest) by simp [encB]]
  exact fld_mid _ _ _ _ _ (by simp [beL_length]) (beL_length _ _)
theorem enc_nD (hd : d.length ≤ 16777215) : nD (encB k h a c o d m ++ rest) = d.length := by
  unfold nD
  rw [show encB k h a c o d m ++ rest = ([k, a] ++ beL 8 (u64N h) ++ beL 8 (u64N c) ++ beL 8 (u64N o)) ++ beL 3 d.length ++ (beL 3 m.length ++ d ++ m ++ rest) by simp [encB]]
  rw [fld_mid _ _ _ _ _ (by simp [beL_length]) (beL_length _ _), tk_beL]
  omega
theorem enc_nM (hm : m.length ≤ 16777215) : nM (encB k h a c o d m ++ rest) = m.length := by
  unfold nM
  rw [show encB k h a c o d m ++ rest = ([k, a] ++ beL 8 (u64N h) ++ beL 8 (u64N c) ++ beL 8 (u64N o) ++ beL 3 d.length) ++ beL 3 m.length ++ (d ++ m ++ rest) by simp [encB]]
  rw [fld_mid _ _ _ _ _ (by simp [beL_length]) (beL_length _ _), tk_beL]
  omega
theorem enc_d : fld (encB k h a c o d m ++ rest) 32 d.length = d := by
  rw [show encB k h a c o d m ++ rest = ([k, a] ++ beL 8 (u64N h) ++ beL 8 (u64N c) ++ beL 8 (u64N o) ++ beL 3 d.length ++ beL 3 m.length) ++ d ++ (m ++ rest) by simp [encB]]
  exact fld_mid _ _ _ _ _ (by simp [beL_length]) rfl
theorem enc_m : fld (encB k h a c o d m ++ rest) (32 + d.length) m.length = m := by
  rw [show encB k h a c o d m ++ rest = ([k, a] ++ beL 8 (u64N h) ++ beL 8 (u64N c) ++ beL 8 (u64N o) ++ beL 3 d.length ++ beL 3 m.length ++ d) ++ m ++ rest by simp [encB]]
  exact fld_mid _ _ _ _ _ (by simp [beL_length]; omega) rfl
/-- whatever stands behind -/
theorem next_enc (hh : -9223372036854775808 ≤ h ∧ h ≤ 9223372036854775807) (hc : -9223372036854775808 ≤ c ∧ c ≤ 9223372036854775807) (ho : -9223372036854775808 ≤ o ∧ o ≤ 9223372036854775807) (hd : d.length ≤ 16777215) (hm : m.length ≤ 16777215) :
    nextR (encB k h a c o d m ++ rest) = ⟨k, h, a, c, o, d, m, 32 + d.length + m.length, 0⟩ := by
  unfold nextR
  rw [enc_nD _ _ _ _ _ _ _ _ hd, enc_nM _ _ _ _ _ _ _ _ hm, if_pos (by rw [List.length_append, encB_length]; omega), enc_h, enc_c, enc_o, enc_d, enc_m, i64_u64 _ hh.1 hh.2, i64_u64 _ hc.1 hc.2, i64_u64 _ ho.1 ho.2]
  rfl
theorem dec_enc (hh : -9223372036854775808 ≤ h ∧ h ≤ 9223372036854775807) (hc : -9223372036854775808 ≤ c ∧ c ≤ 9223372036854775807) (ho : -9223372036854775808 ≤ o ∧ o ≤ 9223372036854775807) (hd : d.length ≤ 16777215) (hm : m.length ≤ 16777215) :
    decR (encB k h a c o d m) = ⟨k, h, a, c, o, d, m, 32 + d.length + m.length, 0⟩ := by
  have hn := next_enc k h a c o d m [] hh hc ho hd hm
  rw [List.append_nil] at hn
  unfold decR
  rw [hn, if_pos ⟨rfl, (encB_length _ _ _ _ _ _ _).symm⟩]
/-- cut off anywhere: refused -/
theorem next_cut (j : Nat) (hd : d.length ≤ 16777215) (hm : m.length ≤ 16777215) (hj : j < 32 + d.length + m.length) : nextR ((encB k h a c o d m ++ rest).take j) = noNext := by
  unfold nextR
  rw [if_neg]
  rintro ⟨h1, h2⟩
  have hj2 : ((encB k h a c o d m ++ rest).take j).length = j := by rw [List.length_take, List.length_append, encB_length]; omega
  rw [hj2] at h1 h2
  have e1 : nD ((encB k h a c o d m ++ rest).take j) = d.length := by
    rw [← enc_nD k h a c o d m rest hd]
    unfold nD fld
    rw [List.drop_take, List.take_take, Nat.min_eq_left (by omega)]
  have e2 : nM ((encB k h a c o d m ++ rest).take j) = m.length := by
    rw [← enc_nM k h a c o d m rest hm]
    unfold nM fld
    rw [List.drop_take, List.take_take, Nat.min_eq_left (by omega)]
  rw [e1, e2] at h2
  omega
end
end Go.Proofs.Ytgfhnbjpdhdhgaa

namespace Go.Proofs.Ytgfhnbjpdhdhgaa
open Go.RowKit
set_option linter.unusedVariables false

/-- an operation's bytes, or the error -/
def encR (k : UInt8) (h : Int) (a : UInt8) (c o : Int) (d m : List UInt8) : List UInt8 × Int := if d.length ≤ 16777215 ∧ m.length ≤ 16777215 then (encB k h a c o d m, 0) else ([], 9)
theorem encR_le (k : UInt8) (h : Int) (a : UInt8) (c o : Int) (d m : List UInt8) : (encR k h a c o d m).1.length ≤ 100000000 := by
  unfold encR
  split
  · rename_i h1; simp only; rw [encB_length]; omega
  · simp
theorem encode_any (k : UInt8) (h : Int) (al : UInt8) (cn ou : Int) (A : Option Addr) (n c : Nat) (B : Option Addr) (m d : Nat) (xs ys : List UInt8) (w : World) (hd : Rd w 1 A n (xs.map vb)) (hm : Rd w 1 B m (ys.map vb)) :
    Calls Try.prog 29 #[opV k h al cn ou (.slice A n c) (.slice B m d)] w fun e w' => ∃ v, e = .returned (.tuple #[v, .int .i64 (encR k h al cn ou xs ys).2]) ∧ w'.ownsRow w.heap.size 5 1 v (encR k h al cn ou xs ys).1.length ((encR k h al cn ou xs ys).1.map vb) ∧ Below w.heap.size w w' := by
  have hlx : xs.length = n := by simpa using hd.1
  have hly : ys.length = m := by simpa using hm.1
  unfold encR
  by_cases hc : xs.length ≤ 16777215 ∧ ys.length ≤ 16777215
  · rw [if_pos hc]
    exact encode_s k h al cn ou A n c B m d xs ys w hd hm (by omega) (by omega)
  · rw [if_neg hc]
    refine (encode_long k h al cn ou A n c B m d w (by omega)).mono ?_
    rintro e w' ⟨rfl, hb⟩
    exact ⟨_, rfl, World.ownsRow_nil _ _ _ _, hb⟩
theorem refEncode_any (k : UInt8) (h : Int) (al : UInt8) (cn ou : Int) (A : Option Addr) (n c : Nat) (B : Option Addr) (m d : Nat) (xs ys : List UInt8) (w : World) (hd : Rd w 1 A n (xs.map vb)) (hm : Rd w 1 B m (ys.map vb)) :
    Calls Try.prog 46 #[opV k h al cn ou (.slice A n c) (.slice B m d)] w fun e w' => ∃ v, e = .returned (.tuple #[v, .int .i64 (encR k h al cn ou xs ys).2]) ∧ w'.ownsRow w.heap.size 5 1 v (encR k h al cn ou xs ys).1.length ((encR k h al cn ou xs ys).1.map vb) ∧ Below w.heap.size w w' := by
  have hlx : xs.length = n := by simpa using hd.1
  have hly : ys.length = m := by simpa using hm.1
  unfold encR
  by_cases hc : xs.length ≤ 16777215 ∧ ys.length ≤ 16777215
  · rw [if_pos hc]
    exact refEncode_s k h al cn ou A n c B m d xs ys w hd hm (by omega) (by omega)
  · rw [if_neg hc]
    refine (refEncode_long k h al cn ou A n c B m d w (by omega)).mono ?_
    rintro e w' ⟨rfl, hb⟩
    exact ⟨_, rfl, World.ownsRow_nil _ _ _ _, hb⟩
theorem upd_lay {L : List Own} {k : Nat} {A : Own} (h : k < L.length) : upd (lay L) k A = lay (L.set k A) := by
  funext i
  simp only [lay, upd]
  by_cases hi : i = k
  · subst hi; simp [h]
  · rw [List.getElem?_set_ne (fun e => hi e.symm), if_neg hi]
theorem pL_le (c : Nat) (us : List Nat) (l : List UInt8) : (pL c us l).length ≤ l.length := by unfold pL; split <;> simp

set_option maxRecDepth 100000 in
set_option maxHeartbeats 8000000 in
theorem opBytes_walk (k : UInt8) (h : Int) (a : UInt8) (cn ou : Int) (A B : Option Addr) (n c m d : Nat) (xs ys : List UInt8) (w : World) (hA : Rd w 1 A n (xs.map vb)) (hB : Rd w 1 B m (ys.map vb)) (hn : n ≤ 140737488351232) (hm : m ≤ 140737488351232) (_ : I64 h) (_ : I64 cn) (_ : I64 ou) :
    Calls Try.prog 10 #[opV k h a cn ou (.slice A n c) (.slice B m d)] w fun e w' => e = .returned (.bool true) ∧ Below w.heap.size w w' := by
  have Hx := Lib.hid (show xs.length = n by simpa using hA.1)
  have Hy := Lib.hid (show ys.length = m by simpa using hB.1)
  have H := St.start_lay w []
  obtain ⟨L, ee, hR⟩ : ∃ L ee, Hid (encR k h a cn ou xs ys = (L, ee)) := ⟨_, _, rfl⟩
  have hLL : L.length ≤ 100000000 := by have := encR_le k h a cn ou xs ys; rw [hR.out] at this; exact this
  have HLL := Lib.hid hLL
  clear hLL
  obtain ⟨ph, pa, pc, po, pd, pm, hP⟩ : ∃ ph pa pc po pd pm, Hid (pI 0 (usesOf k) h = ph ∧ pA (usesOf k) a = pa ∧ pI 2 (usesOf k) cn = pc ∧ pI 3 (usesOf k) ou = po ∧ pL 4 (usesOf k) xs = pd ∧ pL 5 (usesOf k) ys = pm) := ⟨_, _, _, _, _, _, rfl, rfl, rfl, rfl, rfl, rfl⟩
  have hpl : pd.length ≤ 140737488351232 ∧ pm.length ≤ 140737488351232 := by
    have h1 := pL_le 4 (usesOf k) xs
    have h2 := pL_le 5 (usesOf k) ys
    rw [hP.out.2.2.2.2.1, Hx.out] at h1
    rw [hP.out.2.2.2.2.2, Hy.out] at h2
    omega
  have HPL := Lib.hid hpl
  clear hpl
  go_enter Try.func10, Try.ntmps10
  go_wp2_with fail
  refine absorb_calls (H.allocAt 0 rfl w.heap.size rfl _ _ |>.push_mk rfl) ?_
  clear H
  intro w1 H
  generalize hga : w.heap.size = gA at H ⊢
  clear hga
  replace H : St w [] w1 (lay [.blk gA 31 [.int .u8 (k.toNat : Int), .int .i64 h, .int .u8 (a.toNat : Int), .int .i64 cn, .int .i64 ou, .slice A n c, .slice B m d]]) := H
  refine (lives_s w1).mono ?_
  rintro e w2 ⟨rfl, hb⟩
  replace H := H.call hb
  clear hb
  have c0 := H.cell 0 rfl (o := 0) rfl
  go_wp2_with (first | (refine load_guard (by rfl) 31 (.tmp 1) rfl gA rfl _ _ _ _ (H.blk 0 rfl) Try.underlying31 rfl op_size ?_) | (refine wpList_load_row rfl 31 (.tmp 1) rfl gA rfl _ _ _ _ (H.blk 0 rfl) Try.underlying31 rfl op_size ?_))
  clear c0
  refine (lentOp_s k h a cn ou A B n m c d xs ys _ (H.arg0 hA) (H.arg0 hB) (by omega) (by omega)).mono ?_
  rintro e wx ⟨g1, e1, c1, d1, lc1, ld1, rfl, HN⟩
  replace H := H.also HN
  clear HN
  generalize hX : xs ++ marksB 7 0 6 = X at H
  generalize hY : ys ++ marksB 7 0 6 = Y at H
  have HX := Lib.hid hX
  have HY := Lib.hid hY
  clear hX hY
  replace H : St w [] wx (lay [.blk gA 31 [.int .u8 (k.toNat : Int), .int .i64 h, .int .u8 (a.toNat : Int), .int .i64 cn, .int .i64 ou, .slice A n c, .slice B m d], .row 5 1 (.slice (some ⟨g1, 0, none⟩) (n + 6) c1) (n + 6) (X.map vb), .row 5 1 (.slice (some ⟨e1, 0, none⟩) (m + 6) d1) (m + 6) (Y.map vb)]) := H
  have HA := (H.allocAt 3 rfl wx.heap.size rfl #[.int .u8 (k.toNat : Int), .int .i64 h, .int .u8 (a.toNat : Int), .int .i64 cn, .int .i64 ou, .slice (some ⟨g1, 0, none⟩) n c1, .slice (some ⟨e1, 0, none⟩) m d1] 31 |>.push_mk rfl |>.allocAt 4 rfl (wx.heap.size + 1) (by simp) #[.slice (some ⟨g1, 0, none⟩) (n + 6) c1, .slice (some ⟨e1, 0, none⟩) (m + 6) d1] 47 |>.push_mk rfl)
  clear H
  go_wp2_with (first | (refine load_guard (by rfl) 31 (.tmp 3) rfl wx.heap.size rfl _ _ _ _ (HA.blk 3 rfl) Try.underlying31 rfl op_size ?_) | (refine wpList_load_row rfl 31 (.tmp 3) rfl wx.heap.size rfl _ _ _ _ (HA.blk 3 rfl) Try.underlying31 rfl op_size ?_))
  refine absorb_calls HA ?_
  clear HA
  intro wy H
  generalize wx.heap.size + 1 = q1 at H ⊢
  generalize wx.heap.size = p1 at H ⊢
  replace H : St w [] wy (lay [.blk gA 31 [.int .u8 (k.toNat : Int), .int .i64 h, .int .u8 (a.toNat : Int), .int .i64 cn, .int .i64 ou, .slice A n c, .slice B m d], .row 5 1 (.slice (some ⟨g1, 0, none⟩) (n + 6) c1) (n + 6) (X.map vb), .row 5 1 (.slice (some ⟨e1, 0, none⟩) (m + 6) d1) (m + 6) (Y.map vb), .blk p1 31 [.int .u8 (k.toNat : Int), .int .i64 h, .int .u8 (a.toNat : Int), .int .i64 cn, .int .i64 ou, .slice (some ⟨g1, 0, none⟩) n c1, .slice (some ⟨e1, 0, none⟩) m d1], .blk q1 47 [.slice (some ⟨g1, 0, none⟩) (n + 6) c1, .slice (some ⟨e1, 0, none⟩) (m + 6) d1]]) := H
  refine (encode_any k h a cn ou _ n _ _ m _ xs ys _ (Rd.front (k := marksB 7 0 6) (m := n + 6) (by rw [HX.out]; exact H.rd 1 rfl) Hx.out (by omega)) (Rd.front (k := marksB 7 0 6) (m := m + 6) (by rw [HY.out]; exact H.rd 2 rfl) Hy.out (by omega))).mono ?_
  rintro e wx ⟨v, rfl, ho, hb⟩
  rw [hR.out] at ho ⊢
  simp only at ho ⊢
  replace H := (H.pushRow 5 rfl hb ho).push_mk rfl
  clear ho hb
  obtain ⟨AE, cE, rfl, -⟩ := row_form (H.row 5 rfl)
  replace H : St w [] wx (lay [.blk gA 31 [.int .u8 (k.toNat : Int), .int .i64 h, .int .u8 (a.toNat : Int), .int .i64 cn, .int .i64 ou, .slice A n c, .slice B m d], .row 5 1 (.slice (some ⟨g1, 0, none⟩) (n + 6) c1) (n + 6) (X.map vb), .row 5 1 (.slice (some ⟨e1, 0, none⟩) (m + 6) d1) (m + 6) (Y.map vb), .blk p1 31 [.int .u8 (k.toNat : Int), .int .i64 h, .int .u8 (a.toNat : Int), .int .i64 cn, .int .i64 ou, .slice (some ⟨g1, 0, none⟩) n c1, .slice (some ⟨e1, 0, none⟩) m d1], .blk q1 47 [.slice (some ⟨g1, 0, none⟩) (n + 6) c1, .slice (some ⟨e1, 0, none⟩) (m + 6) d1], .row 5 1 (.slice AE L.length cE) L.length (L.map vb)]) := H
  go_wp2_with (first | (refine load_guard (by rfl) 31 (.tmp 1) rfl gA rfl _ _ _ _ (H.blk 0 rfl) Try.underlying31 rfl op_size ?_) | (refine wpList_load_row rfl 31 (.tmp 1) rfl gA rfl _ _ _ _ (H.blk 0 rfl) Try.underlying31 rfl op_size ?_) | (refine load_guard (by rfl) 31 (.tmp 3) rfl p1 rfl _ _ _ _ (H.blk 3 rfl) Try.underlying31 rfl op_size ?_) | (refine wpList_load_row rfl 31 (.tmp 3) rfl p1 rfl _ _ _ _ (H.blk 3 rfl) Try.underlying31 rfl op_size ?_) | (refine load_guard (by rfl) 47 (.tmp 4) rfl q1 rfl _ _ _ _ (H.blk 4 rfl) Try.underlying47 rfl two_size ?_) | (refine wpList_load_row rfl 47 (.tmp 4) rfl q1 rfl _ _ _ _ (H.blk 4 rfl) Try.underlying47 rfl two_size ?_))
  refine (encode_any k h a cn ou _ n _ _ m _ xs ys _ (Rd.front (k := marksB 7 0 6) (m := n + 6) (by rw [HX.out]; exact H.rd 1 rfl) Hx.out (by omega)) (Rd.front (k := marksB 7 0 6) (m := m + 6) (by rw [HY.out]; exact H.rd 2 rfl) Hy.out (by omega))).mono ?_
  rintro e wx ⟨v, rfl, ho, hb⟩
  rw [hR.out] at ho ⊢
  simp only at ho ⊢
  replace H := (H.pushRow 6 rfl hb ho).push_mk rfl
  clear ho hb
  obtain ⟨AF, cF, rfl, -⟩ := row_form (H.row 6 rfl)
  replace H : St w [] wx (lay [.blk gA 31 [.int .u8 (k.toNat : Int), .int .i64 h, .int .u8 (a.toNat : Int), .int .i64 cn, .int .i64 ou, .slice A n c, .slice B m d], .row 5 1 (.slice (some ⟨g1, 0, none⟩) (n + 6) c1) (n + 6) (X.map vb), .row 5 1 (.slice (some ⟨e1, 0, none⟩) (m + 6) d1) (m + 6) (Y.map vb), .blk p1 31 [.int .u8 (k.toNat : Int), .int .i64 h, .int .u8 (a.toNat : Int), .int .i64 cn, .int .i64 ou, .slice (some ⟨g1, 0, none⟩) n c1, .slice (some ⟨e1, 0, none⟩) m d1], .blk q1 47 [.slice (some ⟨g1, 0, none⟩) (n + 6) c1, .slice (some ⟨e1, 0, none⟩) (m + 6) d1], .row 5 1 (.slice AE L.length cE) L.length (L.map vb), .row 5 1 (.slice AF L.length cF) L.length (L.map vb)]) := H
  go_wp2_with (first | (refine load_guard (by rfl) 31 (.tmp 1) rfl gA rfl _ _ _ _ (H.blk 0 rfl) Try.underlying31 rfl op_size ?_) | (refine wpList_load_row rfl 31 (.tmp 1) rfl gA rfl _ _ _ _ (H.blk 0 rfl) Try.underlying31 rfl op_size ?_) | (refine load_guard (by rfl) 31 (.tmp 3) rfl p1 rfl _ _ _ _ (H.blk 3 rfl) Try.underlying31 rfl op_size ?_) | (refine wpList_load_row rfl 31 (.tmp 3) rfl p1 rfl _ _ _ _ (H.blk 3 rfl) Try.underlying31 rfl op_size ?_) | (refine load_guard (by rfl) 47 (.tmp 4) rfl q1 rfl _ _ _ _ (H.blk 4 rfl) Try.underlying47 rfl two_size ?_) | (refine wpList_load_row rfl 47 (.tmp 4) rfl q1 rfl _ _ _ _ (H.blk 4 rfl) Try.underlying47 rfl two_size ?_))
  refine (refEncode_any k h a cn ou _ n _ _ m _ xs ys _ (H.arg0 hA) (H.arg0 hB)).mono ?_
  rintro e wx ⟨v, rfl, ho, hb⟩
  rw [hR.out] at ho ⊢
  simp only at ho ⊢
  replace H := (H.pushRow 7 rfl hb ho).push_mk rfl
  clear ho hb
  obtain ⟨AG, cG, rfl, -⟩ := row_form (H.row 7 rfl)
  replace H : St w [] wx (lay [.blk gA 31 [.int .u8 (k.toNat : Int), .int .i64 h, .int .u8 (a.toNat : Int), .int .i64 cn, .int .i64 ou, .slice A n c, .slice B m d], .row 5 1 (.slice (some ⟨g1, 0, none⟩) (n + 6) c1) (n + 6) (X.map vb), .row 5 1 (.slice (some ⟨e1, 0, none⟩) (m + 6) d1) (m + 6) (Y.map vb), .blk p1 31 [.int .u8 (k.toNat : Int), .int .i64 h, .int .u8 (a.toNat : Int), .int .i64 cn, .int .i64 ou, .slice (some ⟨g1, 0, none⟩) n c1, .slice (some ⟨e1, 0, none⟩) m d1], .blk q1 47 [.slice (some ⟨g1, 0, none⟩) (n + 6) c1, .slice (some ⟨e1, 0, none⟩) (m + 6) d1], .row 5 1 (.slice AE L.length cE) L.length (L.map vb), .row 5 1 (.slice AF L.length cF) L.length (L.map vb), .row 5 1 (.slice AG L.length cG) L.length (L.map vb)]) := H
  go_wp2_with (first | (refine load_guard (by rfl) 31 (.tmp 1) rfl gA rfl _ _ _ _ (H.blk 0 rfl) Try.underlying31 rfl op_size ?_) | (refine wpList_load_row rfl 31 (.tmp 1) rfl gA rfl _ _ _ _ (H.blk 0 rfl) Try.underlying31 rfl op_size ?_) | (refine load_guard (by rfl) 31 (.tmp 3) rfl p1 rfl _ _ _ _ (H.blk 3 rfl) Try.underlying31 rfl op_size ?_) | (refine wpList_load_row rfl 31 (.tmp 3) rfl p1 rfl _ _ _ _ (H.blk 3 rfl) Try.underlying31 rfl op_size ?_) | (refine load_guard (by rfl) 47 (.tmp 4) rfl q1 rfl _ _ _ _ (H.blk 4 rfl) Try.underlying47 rfl two_size ?_) | (refine wpList_load_row rfl 47 (.tmp 4) rfl q1 rfl _ _ _ _ (H.blk 4 rfl) Try.underlying47 rfl two_size ?_))
  refine (opPlain_s k h a cn ou _ _ n m _ _ xs ys _ (Rd.front (k := marksB 7 0 6) (m := n + 6) (by rw [HX.out]; exact H.rd 1 rfl) Hx.out (by omega)) (Rd.front (k := marksB 7 0 6) (m := m + 6) (by rw [HY.out]; exact H.rd 2 rfl) Hy.out (by omega)) (by omega) (by omega)).mono ?_
  rintro e wx ⟨v5, v6, rfl, HN⟩
  replace H := H.also HN
  clear HN
  rw [hP.out.1, hP.out.2.1, hP.out.2.2.1, hP.out.2.2.2.1]
  rw [hP.out.2.2.2.2.1, hP.out.2.2.2.2.2] at H
  obtain ⟨AP, cP, rfl, -⟩ := row_form (H.row 8 rfl)
  obtain ⟨BP, dP, rfl, -⟩ := row_form (H.row 9 rfl)
  replace H : St w [] wx (lay [.blk gA 31 [.int .u8 (k.toNat : Int), .int .i64 h, .int .u8 (a.toNat : Int), .int .i64 cn, .int .i64 ou, .slice A n c, .slice B m d], .row 5 1 (.slice (some ⟨g1, 0, none⟩) (n + 6) c1) (n + 6) (X.map vb), .row 5 1 (.slice (some ⟨e1, 0, none⟩) (m + 6) d1) (m + 6) (Y.map vb), .blk p1 31 [.int .u8 (k.toNat : Int), .int .i64 h, .int .u8 (a.toNat : Int), .int .i64 cn, .int .i64 ou, .slice (some ⟨g1, 0, none⟩) n c1, .slice (some ⟨e1, 0, none⟩) m d1], .blk q1 47 [.slice (some ⟨g1, 0, none⟩) (n + 6) c1, .slice (some ⟨e1, 0, none⟩) (m + 6) d1], .row 5 1 (.slice AE L.length cE) L.length (L.map vb), .row 5 1 (.slice AF L.length cF) L.length (L.map vb), .row 5 1 (.slice AG L.length cG) L.length (L.map vb), .row 5 1 (.slice AP pd.length cP) pd.length (pd.map vb), .row 5 1 (.slice BP pm.length dP) pm.length (pm.map vb)]) := H
  have HA := (H.allocAt 10 rfl wx.heap.size rfl #[.int .u8 (k.toNat : Int), .int .i64 ph, .int .u8 (pa.toNat : Int), .int .i64 pc, .int .i64 po, .slice AP pd.length cP, .slice BP pm.length dP] 31).push_mk rfl
  clear H
  have y1 := HA.lt 0 rfl
  have y2 := HA.lt 3 rfl
  go_wp2_with (first | (refine load_guard (by rfl) 31 (.tmp 1) rfl gA rfl _ _ _ _ (HA.blk 0 rfl) Try.underlying31 rfl op_size ?_) | (refine wpList_load_row rfl 31 (.tmp 1) rfl gA rfl _ _ _ _ (HA.blk 0 rfl) Try.underlying31 rfl op_size ?_) | (refine load_guard (by rfl) 31 (.tmp 3) rfl p1 rfl _ _ _ _ (HA.blk 3 rfl) Try.underlying31 rfl op_size ?_) | (refine wpList_load_row rfl 31 (.tmp 3) rfl p1 rfl _ _ _ _ (HA.blk 3 rfl) Try.underlying31 rfl op_size ?_))
  refine absorb_calls HA ?_
  clear HA y1 y2
  intro wy H
  generalize wx.heap.size = bP at H ⊢
  replace H : St w [] wy (lay [.blk gA 31 [.int .u8 (k.toNat : Int), .int .i64 h, .int .u8 (a.toNat : Int), .int .i64 cn, .int .i64 ou, .slice A n c, .slice B m d], .row 5 1 (.slice (some ⟨g1, 0, none⟩) (n + 6) c1) (n + 6) (X.map vb), .row 5 1 (.slice (some ⟨e1, 0, none⟩) (m + 6) d1) (m + 6) (Y.map vb), .blk p1 31 [.int .u8 (k.toNat : Int), .int .i64 h, .int .u8 (a.toNat : Int), .int .i64 cn, .int .i64 ou, .slice (some ⟨g1, 0, none⟩) n c1, .slice (some ⟨e1, 0, none⟩) m d1], .blk q1 47 [.slice (some ⟨g1, 0, none⟩) (n + 6) c1, .slice (some ⟨e1, 0, none⟩) (m + 6) d1], .row 5 1 (.slice AE L.length cE) L.length (L.map vb), .row 5 1 (.slice AF L.length cF) L.length (L.map vb), .row 5 1 (.slice AG L.length cG) L.length (L.map vb), .row 5 1 (.slice AP pd.length cP) pd.length (pd.map vb), .row 5 1 (.slice BP pm.length dP) pm.length (pm.map vb), .blk bP 31 [.int .u8 (k.toNat : Int), .int .i64 ph, .int .u8 (pa.toNat : Int), .int .i64 pc, .int .i64 po, .slice AP pd.length cP, .slice BP pm.length dP]]) := H
  refine (opPlain_s k h a cn ou _ _ n m _ _ xs ys _ (Rd.front (k := marksB 7 0 6) (m := n + 6) (by rw [HX.out]; exact H.rd 1 rfl) Hx.out (by omega)) (Rd.front (k := marksB 7 0 6) (m := m + 6) (by rw [HY.out]; exact H.rd 2 rfl) Hy.out (by omega)) (by omega) (by omega)).mono ?_
  rintro e wx ⟨v5, v6, rfl, HN⟩
  replace H := H.also HN
  clear HN
  rw [hP.out.1, hP.out.2.1, hP.out.2.2.1, hP.out.2.2.2.1]
  rw [hP.out.2.2.2.2.1, hP.out.2.2.2.2.2] at H
  obtain ⟨AQ, cQ, rfl, -⟩ := row_form (H.row 11 rfl)
  obtain ⟨BQ, dQ, rfl, -⟩ := row_form (H.row 12 rfl)
  replace H : St w [] wx (lay [.blk gA 31 [.int .u8 (k.toNat : Int), .int .i64 h, .int .u8 (a.toNat : Int), .int .i64 cn, .int .i64 ou, .slice A n c, .slice B m d], .row 5 1 (.slice (some ⟨g1, 0, none⟩) (n + 6) c1) (n + 6) (X.map vb), .row 5 1 (.slice (some ⟨e1, 0, none⟩) (m + 6) d1) (m + 6) (Y.map vb), .blk p1 31 [.int .u8 (k.toNat : Int), .int .i64 h, .int .u8 (a.toNat : Int), .int .i64 cn, .int .i64 ou, .slice (some ⟨g1, 0, none⟩) n c1, .slice (some ⟨e1, 0, none⟩) m d1], .blk q1 47 [.slice (some ⟨g1, 0, none⟩) (n + 6) c1, .slice (some ⟨e1, 0, none⟩) (m + 6) d1], .row 5 1 (.slice AE L.length cE) L.length (L.map vb), .row 5 1 (.slice AF L.length cF) L.length (L.map vb), .row 5 1 (.slice AG L.length cG) L.length (L.map vb), .row 5 1 (.slice AP pd.length cP) pd.length (pd.map vb), .row 5 1 (.slice BP pm.length dP) pm.length (pm.map vb), .blk bP 31 [.int .u8 (k.toNat : Int), .int .i64 ph, .int .u8 (pa.toNat : Int), .int .i64 pc, .int .i64 po, .slice AP pd.length cP, .slice BP pm.length dP], .row 5 1 (.slice AQ pd.length cQ) pd.length (pd.map vb), .row 5 1 (.slice BQ pm.length dQ) pm.length (pm.map vb)]) := H
  have HA := (H.allocAt 13 rfl wx.heap.size rfl #[.int .u8 (k.toNat : Int), .int .i64 ph, .int .u8 (pa.toNat : Int), .int .i64 pc, .int .i64 po, .slice AQ pd.length cQ, .slice BQ pm.length dQ] 31).push_mk rfl
  clear H
  have y1 := HA.lt 0 rfl
  have y2 := HA.lt 3 rfl
  go_wp2_with (first | (refine load_guard (by rfl) 31 (.tmp 1) rfl gA rfl _ _ _ _ (HA.blk 0 rfl) Try.underlying31 rfl op_size ?_) | (refine wpList_load_row rfl 31 (.tmp 1) rfl gA rfl _ _ _ _ (HA.blk 0 rfl) Try.underlying31 rfl op_size ?_) | (refine load_guard (by rfl) 31 (.tmp 3) rfl p1 rfl _ _ _ _ (HA.blk 3 rfl) Try.underlying31 rfl op_size ?_) | (refine wpList_load_row rfl 31 (.tmp 3) rfl p1 rfl _ _ _ _ (HA.blk 3 rfl) Try.underlying31 rfl op_size ?_))
  refine absorb_calls HA ?_
  clear HA y1 y2
  intro wy H
  generalize wx.heap.size = bQ at H ⊢
  replace H : St w [] wy (lay [.blk gA 31 [.int .u8 (k.toNat : Int), .int .i64 h, .int .u8 (a.toNat : Int), .int .i64 cn, .int .i64 ou, .slice A n c, .slice B m d], .row 5 1 (.slice (some ⟨g1, 0, none⟩) (n + 6) c1) (n + 6) (X.map vb), .row 5 1 (.slice (some ⟨e1, 0, none⟩) (m + 6) d1) (m + 6) (Y.map vb), .blk p1 31 [.int .u8 (k.toNat : Int), .int .i64 h, .int .u8 (a.toNat : Int), .int .i64 cn, .int .i64 ou, .slice (some ⟨g1, 0, none⟩) n c1, .slice (some ⟨e1, 0, none⟩) m d1], .blk q1 47 [.slice (some ⟨g1, 0, none⟩) (n + 6) c1, .slice (some ⟨e1, 0, none⟩) (m + 6) d1], .row 5 1 (.slice AE L.length cE) L.length (L.map vb), .row 5 1 (.slice AF L.length cF) L.length (L.map vb), .row 5 1 (.slice AG L.length cG) L.length (L.map vb), .row 5 1 (.slice AP pd.length cP) pd.length (pd.map vb), .row 5 1 (.slice BP pm.length dP) pm.length (pm.map vb), .blk bP 31 [.int .u8 (k.toNat : Int), .int .i64 ph, .int .u8 (pa.toNat : Int), .int .i64 pc, .int .i64 po, .slice AP pd.length cP, .slice BP pm.length dP], .row 5 1 (.slice AQ pd.length cQ) pd.length (pd.map vb), .row 5 1 (.slice BQ pm.length dQ) pm.length (pm.map vb), .blk bQ 31 [.int .u8 (k.toNat : Int), .int .i64 ph, .int .u8 (pa.toNat : Int), .int .i64 pc, .int .i64 po, .slice AQ pd.length cQ, .slice BQ pm.length dQ]]) := H
  refine (refPlain_s k h a cn ou _ _ n m _ _ xs ys _ (H.arg0 hA) (H.arg0 hB) (by omega) (by omega)).mono ?_
  rintro e wx ⟨v5, v6, rfl, HN⟩
  replace H := H.also HN
  clear HN
  rw [hP.out.1, hP.out.2.1, hP.out.2.2.1, hP.out.2.2.2.1]
  rw [hP.out.2.2.2.2.1, hP.out.2.2.2.2.2] at H
  obtain ⟨AR, cR, rfl, -⟩ := row_form (H.row 14 rfl)
  obtain ⟨BR, dR, rfl, -⟩ := row_form (H.row 15 rfl)
  replace H : St w [] wx (lay [.blk gA 31 [.int .u8 (k.toNat : Int), .int .i64 h, .int .u8 (a.toNat : Int), .int .i64 cn, .int .i64 ou, .slice A n c, .slice B m d], .row 5 1 (.slice (some ⟨g1, 0, none⟩) (n + 6) c1) (n + 6) (X.map vb), .row 5 1 (.slice (some ⟨e1, 0, none⟩) (m + 6) d1) (m + 6) (Y.map vb), .blk p1 31 [.int .u8 (k.toNat : Int), .int .i64 h, .int .u8 (a.toNat : Int), .int .i64 cn, .int .i64 ou, .slice (some ⟨g1, 0, none⟩) n c1, .slice (some ⟨e1, 0, none⟩) m d1], .blk q1 47 [.slice (some ⟨g1, 0, none⟩) (n + 6) c1, .slice (some ⟨e1, 0, none⟩) (m + 6) d1], .row 5 1 (.slice AE L.length cE) L.length (L.map vb), .row 5 1 (.slice AF L.length cF) L.length (L.map vb), .row 5 1 (.slice AG L.length cG) L.length (L.map vb), .row 5 1 (.slice AP pd.length cP) pd.length (pd.map vb), .row 5 1 (.slice BP pm.length dP) pm.length (pm.map vb), .blk bP 31 [.int .u8 (k.toNat : Int), .int .i64 ph, .int .u8 (pa.toNat : Int), .int .i64 pc, .int .i64 po, .slice AP pd.length cP, .slice BP pm.length dP], .row 5 1 (.slice AQ pd.length cQ) pd.length (pd.map vb), .row 5 1 (.slice BQ pm.length dQ) pm.length (pm.map vb), .blk bQ 31 [.int .u8 (k.toNat : Int), .int .i64 ph, .int .u8 (pa.toNat : Int), .int .i64 pc, .int .i64 po, .slice AQ pd.length cQ, .slice BQ pm.length dQ], .row 5 1 (.slice AR pd.length cR) pd.length (pd.map vb), .row 5 1 (.slice BR pm.length dR) pm.length (pm.map vb)]) := H
  have HA := (H.allocAt 16 rfl wx.heap.size rfl #[.int .u8 (k.toNat : Int), .int .i64 ph, .int .u8 (pa.toNat : Int), .int .i64 pc, .int .i64 po, .slice AR pd.length cR, .slice BR pm.length dR] 31).push_mk rfl
  clear H
  have y1 := HA.lt 0 rfl
  have y2 := HA.lt 3 rfl
  have f1 := b_bne ee
  go_wp2_with fail
  refine absorb_calls HA ?_
  clear HA y1 y2
  intro wy H
  generalize wx.heap.size = bR at H ⊢
  replace H : St w [] wy (lay [.blk gA 31 [.int .u8 (k.toNat : Int), .int .i64 h, .int .u8 (a.toNat : Int), .int .i64 cn, .int .i64 ou, .slice A n c, .slice B m d], .row 5 1 (.slice (some ⟨g1, 0, none⟩) (n + 6) c1) (n + 6) (X.map vb), .row 5 1 (.slice (some ⟨e1, 0, none⟩) (m + 6) d1) (m + 6) (Y.map vb), .blk p1 31 [.int .u8 (k.toNat : Int), .int .i64 h, .int .u8 (a.toNat : Int), .int .i64 cn, .int .i64 ou, .slice (some ⟨g1, 0, none⟩) n c1, .slice (some ⟨e1, 0, none⟩) m d1], .blk q1 47 [.slice (some ⟨g1, 0, none⟩) (n + 6) c1, .slice (some ⟨e1, 0, none⟩) (m + 6) d1], .row 5 1 (.slice AE L.length cE) L.length (L.map vb), .row 5 1 (.slice AF L.length cF) L.length (L.map vb), .row 5 1 (.slice AG L.length cG) L.length (L.map vb), .row 5 1 (.slice AP pd.length cP) pd.length (pd.map vb), .row 5 1 (.slice BP pm.length dP) pm.length (pm.map vb), .blk bP 31 [.int .u8 (k.toNat : Int), .int .i64 ph, .int .u8 (pa.toNat : Int), .int .i64 pc, .int .i64 po, .slice AP pd.length cP, .slice BP pm.length dP], .row 5 1 (.slice AQ pd.length cQ) pd.length (pd.map vb), .row 5 1 (.slice BQ pm.length dQ) pm.length (pm.map vb), .blk bQ 31 [.int .u8 (k.toNat : Int), .int .i64 ph, .int .u8 (pa.toNat : Int), .int .i64 pc, .int .i64 po, .slice AQ pd.length cQ, .slice BQ pm.length dQ], .row 5 1 (.slice AR pd.length cR) pd.length (pd.map vb), .row 5 1 (.slice BR pm.length dR) pm.length (pm.map vb), .blk bR 31 [.int .u8 (k.toNat : Int), .int .i64 ph, .int .u8 (pa.toNat : Int), .int .i64 pc, .int .i64 po, .slice AR pd.length cR, .slice BR pm.length dR]]) := H
  refine (sameBytes_yes AE AG L.length L.length cE cG L L _ (H.rd 5 rfl) (H.rd 7 rfl) (by have := HLL.out; omega) (by have := HLL.out; omega) rfl).mono ?_
  rintro e wx ⟨rfl, hb⟩
  replace H := H.call hb
  clear hb
  go_wp2_with (first | (refine load_guard (by rfl) 31 (.tmp 11) rfl bP rfl _ _ _ _ (H.blk 10 rfl) Try.underlying31 rfl op_size ?_) | (refine wpList_load_row rfl 31 (.tmp 11) rfl bP rfl _ _ _ _ (H.blk 10 rfl) Try.underlying31 rfl op_size ?_) | (refine load_guard (by rfl) 31 (.tmp 13) rfl bR rfl _ _ _ _ (H.blk 16 rfl) Try.underlying31 rfl op_size ?_) | (refine wpList_load_row rfl 31 (.tmp 13) rfl bR rfl _ _ _ _ (H.blk 16 rfl) Try.underlying31 rfl op_size ?_) | (refine load_guard (by rfl) 31 (.tmp 12) rfl bQ rfl _ _ _ _ (H.blk 13 rfl) Try.underlying31 rfl op_size ?_) | (refine wpList_load_row rfl 31 (.tmp 12) rfl bQ rfl _ _ _ _ (H.blk 13 rfl) Try.underlying31 rfl op_size ?_) | (refine load_guard (by rfl) 47 (.tmp 4) rfl q1 rfl _ _ _ _ (H.blk 4 rfl) Try.underlying47 rfl two_size ?_) | (refine wpList_load_row rfl 47 (.tmp 4) rfl q1 rfl _ _ _ _ (H.blk 4 rfl) Try.underlying47 rfl two_size ?_) | (refine load_guard (by rfl) 31 (.tmp 1) rfl gA rfl _ _ _ _ (H.blk 0 rfl) Try.underlying31 rfl op_size ?_) | (refine wpList_load_row rfl 31 (.tmp 1) rfl gA rfl _ _ _ _ (H.blk 0 rfl) Try.underlying31 rfl op_size ?_))
  refine (sameBytes_yes AF AG L.length L.length cF cG L L _ (H.rd 6 rfl) (H.rd 7 rfl) (by have := HLL.out; omega) (by have := HLL.out; omega) rfl).mono ?_
  rintro e wx ⟨rfl, hb⟩
  replace H := H.call hb
  clear hb
  go_wp2_with (first | (refine load_guard (by rfl) 31 (.tmp 11) rfl bP rfl _ _ _ _ (H.blk 10 rfl) Try.underlying31 rfl op_size ?_) | (refine wpList_load_row rfl 31 (.tmp 11) rfl bP rfl _ _ _ _ (H.blk 10 rfl) Try.underlying31 rfl op_size ?_) | (refine load_guard (by rfl) 31 (.tmp 13) rfl bR rfl _ _ _ _ (H.blk 16 rfl) Try.underlying31 rfl op_size ?_) | (refine wpList_load_row rfl 31 (.tmp 13) rfl bR rfl _ _ _ _ (H.blk 16 rfl) Try.underlying31 rfl op_size ?_) | (refine load_guard (by rfl) 31 (.tmp 12) rfl bQ rfl _ _ _ _ (H.blk 13 rfl) Try.underlying31 rfl op_size ?_) | (refine wpList_load_row rfl 31 (.tmp 12) rfl bQ rfl _ _ _ _ (H.blk 13 rfl) Try.underlying31 rfl op_size ?_) | (refine load_guard (by rfl) 47 (.tmp 4) rfl q1 rfl _ _ _ _ (H.blk 4 rfl) Try.underlying47 rfl two_size ?_) | (refine wpList_load_row rfl 47 (.tmp 4) rfl q1 rfl _ _ _ _ (H.blk 4 rfl) Try.underlying47 rfl two_size ?_) | (refine load_guard (by rfl) 31 (.tmp 1) rfl gA rfl _ _ _ _ (H.blk 0 rfl) Try.underlying31 rfl op_size ?_) | (refine wpList_load_row rfl 31 (.tmp 1) rfl gA rfl _ _ _ _ (H.blk 0 rfl) Try.underlying31 rfl op_size ?_))
  refine (sameOp_yes k ph pa pc po AP BP AR BR pd.length pm.length cP dP pd.length pm.length cR dR pd pm _ (H.rd 8 rfl) (H.rd 9 rfl) (H.rd 14 rfl) (H.rd 15 rfl) (by have := HPL.out; omega) (by have := HPL.out; omega)).mono ?_
  rintro e wx ⟨rfl, hb⟩
  replace H := H.call hb
  clear hb
  go_wp2_with (first | (refine load_guard (by rfl) 31 (.tmp 11) rfl bP rfl _ _ _ _ (H.blk 10 rfl) Try.underlying31 rfl op_size ?_) | (refine wpList_load_row rfl 31 (.tmp 11) rfl bP rfl _ _ _ _ (H.blk 10 rfl) Try.underlying31 rfl op_size ?_) | (refine load_guard (by rfl) 31 (.tmp 13) rfl bR rfl _ _ _ _ (H.blk 16 rfl) Try.underlying31 rfl op_size ?_) | (refine wpList_load_row rfl 31 (.tmp 13) rfl bR rfl _ _ _ _ (H.blk 16 rfl) Try.underlying31 rfl op_size ?_) | (refine load_guard (by rfl) 31 (.tmp 12) rfl bQ rfl _ _ _ _ (H.blk 13 rfl) Try.underlying31 rfl op_size ?_) | (refine wpList_load_row rfl 31 (.tmp 12) rfl bQ rfl _ _ _ _ (H.blk 13 rfl) Try.underlying31 rfl op_size ?_) | (refine load_guard (by rfl) 47 (.tmp 4) rfl q1 rfl _ _ _ _ (H.blk 4 rfl) Try.underlying47 rfl two_size ?_) | (refine wpList_load_row rfl 47 (.tmp 4) rfl q1 rfl _ _ _ _ (H.blk 4 rfl) Try.underlying47 rfl two_size ?_) | (refine load_guard (by rfl) 31 (.tmp 1) rfl gA rfl _ _ _ _ (H.blk 0 rfl) Try.underlying31 rfl op_size ?_) | (refine wpList_load_row rfl 31 (.tmp 1) rfl gA rfl _ _ _ _ (H.blk 0 rfl) Try.underlying31 rfl op_size ?_))
  refine (sameOp_yes k ph pa pc po AQ BQ AR BR pd.length pm.length cQ dQ pd.length pm.length cR dR pd pm _ (H.rd 11 rfl) (H.rd 12 rfl) (H.rd 14 rfl) (H.rd 15 rfl) (by have := HPL.out; omega) (by have := HPL.out; omega)).mono ?_
  rintro e wx ⟨rfl, hb⟩
  replace H := H.call hb
  clear hb
  go_wp2_with (first | (refine load_guard (by rfl) 31 (.tmp 11) rfl bP rfl _ _ _ _ (H.blk 10 rfl) Try.underlying31 rfl op_size ?_) | (refine wpList_load_row rfl 31 (.tmp 11) rfl bP rfl _ _ _ _ (H.blk 10 rfl) Try.underlying31 rfl op_size ?_) | (refine load_guard (by rfl) 31 (.tmp 13) rfl bR rfl _ _ _ _ (H.blk 16 rfl) Try.underlying31 rfl op_size ?_) | (refine wpList_load_row rfl 31 (.tmp 13) rfl bR rfl _ _ _ _ (H.blk 16 rfl) Try.underlying31 rfl op_size ?_) | (refine load_guard (by rfl) 31 (.tmp 12) rfl bQ rfl _ _ _ _ (H.blk 13 rfl) Try.underlying31 rfl op_size ?_) | (refine wpList_load_row rfl 31 (.tmp 12) rfl bQ rfl _ _ _ _ (H.blk 13 rfl) Try.underlying31 rfl op_size ?_) | (refine load_guard (by rfl) 47 (.tmp 4) rfl q1 rfl _ _ _ _ (H.blk 4 rfl) Try.underlying47 rfl two_size ?_) | (refine wpList_load_row rfl 47 (.tmp 4) rfl q1 rfl _ _ _ _ (H.blk 4 rfl) Try.underlying47 rfl two_size ?_) | (refine load_guard (by rfl) 31 (.tmp 1) rfl gA rfl _ _ _ _ (H.blk 0 rfl) Try.underlying31 rfl op_size ?_) | (refine wpList_load_row rfl 31 (.tmp 1) rfl gA rfl _ _ _ _ (H.blk 0 rfl) Try.underlying31 rfl op_size ?_))
  refine (keptOp_yes k h a cn ou A B _ _ n m c d (n + 6) (m + 6) _ _ xs ys _ (H.arg0 hA) (H.arg0 hB) (by rw [HX.out]; exact H.rd 1 rfl) (by rw [HY.out]; exact H.rd 2 rfl) (by omega) (by omega) (by omega) (by omega)).mono ?_
  rintro e wx ⟨rfl, hb⟩
  replace H := H.call hb
  clear hb
  go_wp2_with (first | (refine load_guard (by rfl) 31 (.tmp 11) rfl bP rfl _ _ _ _ (H.blk 10 rfl) Try.underlying31 rfl op_size ?_) | (refine wpList_load_row rfl 31 (.tmp 11) rfl bP rfl _ _ _ _ (H.blk 10 rfl) Try.underlying31 rfl op_size ?_) | (refine load_guard (by rfl) 31 (.tmp 13) rfl bR rfl _ _ _ _ (H.blk 16 rfl) Try.underlying31 rfl op_size ?_) | (refine wpList_load_row rfl 31 (.tmp 13) rfl bR rfl _ _ _ _ (H.blk 16 rfl) Try.underlying31 rfl op_size ?_) | (refine load_guard (by rfl) 31 (.tmp 12) rfl bQ rfl _ _ _ _ (H.blk 13 rfl) Try.underlying31 rfl op_size ?_) | (refine wpList_load_row rfl 31 (.tmp 12) rfl bQ rfl _ _ _ _ (H.blk 13 rfl) Try.underlying31 rfl op_size ?_) | (refine load_guard (by rfl) 47 (.tmp 4) rfl q1 rfl _ _ _ _ (H.blk 4 rfl) Try.underlying47 rfl two_size ?_) | (refine wpList_load_row rfl 47 (.tmp 4) rfl q1 rfl _ _ _ _ (H.blk 4 rfl) Try.underlying47 rfl two_size ?_) | (refine load_guard (by rfl) 31 (.tmp 1) rfl gA rfl _ _ _ _ (H.blk 0 rfl) Try.underlying31 rfl op_size ?_) | (refine wpList_load_row rfl 31 (.tmp 1) rfl gA rfl _ _ _ _ (H.blk 0 rfl) Try.underlying31 rfl op_size ?_))
  refine (overOp_st H 1 2 (by omega) rfl rfl (by omega) (by omega)).mono ?_
  rintro e wx ⟨rfl, H'⟩
  rw [upd_lay (by simp), upd_lay (by simp)] at H'
  replace H := H'
  clear H'
  have HM1 : Hid ((marksB 9 0 (n + 6)).length = n + 6) := marksB_length _ _ _
  have HM2 : Hid ((marksB 9 0 (m + 6)).length = m + 6) := marksB_length _ _ _
  replace H := (H.shape_row 1 rfl (n' := (marksB 9 0 (n + 6)).length) (xs' := (marksB 9 0 (n + 6)).map vb) HM1.out.symm rfl).shape_row 2 rfl (n' := (marksB 9 0 (m + 6)).length) (xs' := (marksB 9 0 (m + 6)).map vb) HM2.out.symm rfl
  generalize marksB 9 0 (n + 6) = M1 at H HM1
  generalize marksB 9 0 (m + 6) = M2 at H HM2
  replace H : St w [] wx (lay [.blk gA 31 [.int .u8 (k.toNat : Int), .int .i64 h, .int .u8 (a.toNat : Int), .int .i64 cn, .int .i64 ou, .slice A n c, .slice B m d], .row 5 1 (.slice (some ⟨g1, 0, none⟩) (n + 6) c1) M1.length (M1.map vb), .row 5 1 (.slice (some ⟨e1, 0, none⟩) (m + 6) d1) M2.length (M2.map vb), .blk p1 31 [.int .u8 (k.toNat : Int), .int .i64 h, .int .u8 (a.toNat : Int), .int .i64 cn, .int .i64 ou, .slice (some ⟨g1, 0, none⟩) n c1, .slice (some ⟨e1, 0, none⟩) m d1], .blk q1 47 [.slice (some ⟨g1, 0, none⟩) (n + 6) c1, .slice (some ⟨e1, 0, none⟩) (m + 6) d1], .row 5 1 (.slice AE L.length cE) L.length (L.map vb), .row 5 1 (.slice AF L.length cF) L.length (L.map vb), .row 5 1 (.slice AG L.length cG) L.length (L.map vb), .row 5 1 (.slice AP pd.length cP) pd.length (pd.map vb), .row 5 1 (.slice BP pm.length dP) pm.length (pm.map vb), .blk bP 31 [.int .u8 (k.toNat : Int), .int .i64 ph, .int .u8 (pa.toNat : Int), .int .i64 pc, .int .i64 po, .slice AP pd.length cP, .slice BP pm.length dP], .row 5 1 (.slice AQ pd.length cQ) pd.length (pd.map vb), .row 5 1 (.slice BQ pm.length dQ) pm.length (pm.map vb), .blk bQ 31 [.int .u8 (k.toNat : Int), .int .i64 ph, .int .u8 (pa.toNat : Int), .int .i64 pc, .int .i64 po, .slice AQ pd.length cQ, .slice BQ pm.length dQ], .row 5 1 (.slice AR pd.length cR) pd.length (pd.map vb), .row 5 1 (.slice BR pm.length dR) pm.length (pm.map vb), .blk bR 31 [.int .u8 (k.toNat : Int), .int .i64 ph, .int .u8 (pa.toNat : Int), .int .i64 pc, .int .i64 po, .slice AR pd.length cR, .slice BR pm.length dR]]) := H
  go_wp2_with (first | (refine load_guard (by rfl) 31 (.tmp 11) rfl bP rfl _ _ _ _ (H.blk 10 rfl) Try.underlying31 rfl op_size ?_) | (refine wpList_load_row rfl 31 (.tmp 11) rfl bP rfl _ _ _ _ (H.blk 10 rfl) Try.underlying31 rfl op_size ?_) | (refine load_guard (by rfl) 31 (.tmp 13) rfl bR rfl _ _ _ _ (H.blk 16 rfl) Try.underlying31 rfl op_size ?_) | (refine wpList_load_row rfl 31 (.tmp 13) rfl bR rfl _ _ _ _ (H.blk 16 rfl) Try.underlying31 rfl op_size ?_) | (refine load_guard (by rfl) 31 (.tmp 12) rfl bQ rfl _ _ _ _ (H.blk 13 rfl) Try.underlying31 rfl op_size ?_) | (refine wpList_load_row rfl 31 (.tmp 12) rfl bQ rfl _ _ _ _ (H.blk 13 rfl) Try.underlying31 rfl op_size ?_) | (refine load_guard (by rfl) 47 (.tmp 4) rfl q1 rfl _ _ _ _ (H.blk 4 rfl) Try.underlying47 rfl two_size ?_) | (refine wpList_load_row rfl 47 (.tmp 4) rfl q1 rfl _ _ _ _ (H.blk 4 rfl) Try.underlying47 rfl two_size ?_) | (refine load_guard (by rfl) 31 (.tmp 1) rfl gA rfl _ _ _ _ (H.blk 0 rfl) Try.underlying31 rfl op_size ?_) | (refine wpList_load_row rfl 31 (.tmp 1) rfl gA rfl _ _ _ _ (H.blk 0 rfl) Try.underlying31 rfl op_size ?_))
  refine (sameBytes_yes AE AG L.length L.length cE cG L L _ (H.rd 5 rfl) (H.rd 7 rfl) (by have := HLL.out; omega) (by have := HLL.out; omega) rfl).mono ?_
  rintro e wx ⟨rfl, hb⟩
  replace H := H.call hb
  clear hb
  go_wp2_with (first | (refine load_guard (by rfl) 31 (.tmp 11) rfl bP rfl _ _ _ _ (H.blk 10 rfl) Try.underlying31 rfl op_size ?_) | (refine wpList_load_row rfl 31 (.tmp 11) rfl bP rfl _ _ _ _ (H.blk 10 rfl) Try.underlying31 rfl op_size ?_) | (refine load_guard (by rfl) 31 (.tmp 13) rfl bR rfl _ _ _ _ (H.blk 16 rfl) Try.underlying31 rfl op_size ?_) | (refine wpList_load_row rfl 31 (.tmp 13) rfl bR rfl _ _ _ _ (H.blk 16 rfl) Try.underlying31 rfl op_size ?_) | (refine load_guard (by rfl) 31 (.tmp 12) rfl bQ rfl _ _ _ _ (H.blk 13 rfl) Try.underlying31 rfl op_size ?_) | (refine wpList_load_row rfl 31 (.tmp 12) rfl bQ rfl _ _ _ _ (H.blk 13 rfl) Try.underlying31 rfl op_size ?_) | (refine load_guard (by rfl) 47 (.tmp 4) rfl q1 rfl _ _ _ _ (H.blk 4 rfl) Try.underlying47 rfl two_size ?_) | (refine wpList_load_row rfl 47 (.tmp 4) rfl q1 rfl _ _ _ _ (H.blk 4 rfl) Try.underlying47 rfl two_size ?_) | (refine load_guard (by rfl) 31 (.tmp 1) rfl gA rfl _ _ _ _ (H.blk 0 rfl) Try.underlying31 rfl op_size ?_) | (refine wpList_load_row rfl 31 (.tmp 1) rfl gA rfl _ _ _ _ (H.blk 0 rfl) Try.underlying31 rfl op_size ?_))
  refine (sameOp_yes k ph pa pc po AP BP AR BR pd.length pm.length cP dP pd.length pm.length cR dR pd pm _ (H.rd 8 rfl) (H.rd 9 rfl) (H.rd 14 rfl) (H.rd 15 rfl) (by have := HPL.out; omega) (by have := HPL.out; omega)).mono ?_
  rintro e wx ⟨rfl, hb⟩
  replace H := H.call hb
  clear hb
  have x1 := H.cell 10 rfl (o := 5) rfl
  have x2 := H.cell 10 rfl (o := 6) rfl
  have x3 := H.cell 13 rfl (o := 5) rfl
  have x4 := H.cell 13 rfl (o := 6) rfl
  have x5 := H.cell 4 rfl (o := 0) rfl
  have x6 := H.cell 4 rfl (o := 1) rfl
  go_wp2_with fail
  refine (apart_st H [(.slice AE L.length cE, L), (.slice AF L.length cF, L), (.slice AP pd.length cP, pd), (.slice BP pm.length dP, pm), (.slice AQ pd.length cQ, pd), (.slice BQ pm.length dQ, pm), (.slice (some ⟨g1, 0, none⟩) (n + 6) c1, M1), (.slice (some ⟨e1, 0, none⟩) (m + 6) d1, M2)] (fun i => [5, 6, 8, 9, 11, 12, 1, 2].getD i 99) (fun i j hi hj => (by decide : ∀ i < 8, ∀ j < 8, [5, 6, 8, 9, 11, 12, 1, 2].getD i 99 = [5, 6, 8, 9, 11, 12, 1, 2].getD j 99 → i = j) i hi j hj) ?_ 8 rfl (by omega) ?_ _ rfl).mono ?_
  · intro i p hp
    match i, hp with
    | 0, hp => cases hp; rfl
    | 1, hp => cases hp; rfl
    | 2, hp => cases hp; rfl
    | 3, hp => cases hp; rfl
    | 4, hp => cases hp; rfl
    | 5, hp => cases hp; rfl
    | 6, hp => cases hp; rfl
    | 7, hp => cases hp; rfl
    | i + 8, hp => simp at hp
  · intro p hp
    have h1 := HLL.out
    have h2 := HPL.out
    have h3 := HM1.out
    have h4 := HM2.out
    simp only [List.mem_cons, List.not_mem_nil, or_false] at hp
    rcases hp with rfl | rfl | rfl | rfl | rfl | rfl | rfl | rfl <;> simp only <;> omega
  rintro e wz ⟨rfl, hbz⟩
  go_wp2_with fail
  go_ret
  exact ⟨rfl, hbz⟩
end Go.Proofs.Ytgfhnbjpdhdhgaa

namespace Go.Proofs.Ytgfhnbjpdhdhgaa
open Go
section
variable {P : Program} {l : List Oper} {Q : Exit → Act → World → Prop} {md : Region.Mode} {S : World → Prop} {o : Oper} {rest : List Oper} {fuel : Nat} {listed : Array Bool} {a : Act} {w : World}
theorem takeM {ty : TypeId} {x : Operand} {d : TypeDesc} (i g off : Nat) (cs : List Value) (hS : ∀ w, S w → w.rangeAt g off cs) (hu : P.underlying ty = some d) (hl : (P.info? ty).map (·.size) = some cs.length)
    (hi : l.drop i = o :: rest) (hs : Region.noSelect l.toArray = true) (hf : Region.free md l.toArray listed i = true) (hr : (Region.ready md l.toArray listed).contains i = true)
    (hQ : ∀ c a w, Q (.panic c) (a.put o.dst (.agg cs.toArray)) w → Q (.panic c) a w) (hd : d.isRow = true) (hw : Region.wanted o (yielded l.toArray a.tmps) = true)
    (ho : o.op = .load ty x) (hx : a.eval x = .pointer (some ⟨g, off, none⟩)) (hSw : S w)
    (h : wpAnyH P md l.toArray Q S fuel (listed.setIfInBounds i true) (a.put o.dst (.agg cs.toArray)) w) : wpAnyH P md l.toArray Q S (fuel + 1) listed a w :=
  wpAnyH_take (drop_at hi) hs hf hr hQ (yieldsIf_load_mid hw ty x ho g off hx cs d hS hu hd hl) hSw h
/-- an operation that is not wanted -/
theorem takeSkip (i : Nat) (hi : l.drop i = o :: rest) (hs : Region.noSelect l.toArray = true) (hf : Region.free md l.toArray listed i = true) (hr : (Region.ready md l.toArray listed).contains i = true)
    (hQ : ∀ c a w, Q (.panic c) (a.put o.dst undef) w → Q (.panic c) a w) (hw : Region.wanted o (yielded l.toArray a.tmps) = false) (hSw : S w)
    (h : wpAnyH P md l.toArray Q S fuel (listed.setIfInBounds i true) (a.put o.dst undef) w) : wpAnyH P md l.toArray Q S (fuel + 1) listed a w :=
  wpAnyH_take (drop_at hi) hs hf hr hQ (.inr ⟨hw, rfl⟩) hSw h
theorem takeTwo {o' : Oper} {rest' : List Oper} (i j : Nat) (hi : l.drop i = o :: rest) (hj : l.drop j = o' :: rest') (hr : Region.ready md l.toArray listed = [i, j])
    (h : ∀ K' : Act → World → Prop, Shut (∀ a w, S w → (S w → wpAnyH P md l.toArray Q S fuel (listed.setIfInBounds i true) a w) → K' a w) → if Region.wanted o (yielded l.toArray a.tmps) = true then Oper.wp P o a w K' Q else K' (a.put o.dst undef) w)
    (h' : ∀ K' : Act → World → Prop, Shut (∀ a w, S w → (S w → wpAnyH P md l.toArray Q S fuel (listed.setIfInBounds j true) a w) → K' a w) → if Region.wanted o' (yielded l.toArray a.tmps) = true then Oper.wp P o' a w K' Q else K' (a.put o'.dst undef) w) :
    wpAnyH P md l.toArray Q S (fuel + 1) listed a w :=
  wpAnyH_ready hr (by simp) (AllReadyH.cons (drop_at hi) h (AllReadyH.cons (drop_at hj) h' AllReadyH.nil))
/-- an operation that reads nothing, its value found by the walk -/
theorem takeV (i : Nat) {v : Value} (hi : l.drop i = o :: rest) (hv : ∀ w, S w → (execOp a.eval o).run P w = .ok (.value v) w) (hs : Region.noSelect l.toArray = true) (hf : Region.free md l.toArray listed i = true) (hr : (Region.ready md l.toArray listed).contains i = true)
    (hQ : ∀ c a w, Q (.panic c) (a.put o.dst v) w → Q (.panic c) a w) (hw : Region.wanted o (yielded l.toArray a.tmps) = true) (hSw : S w)
    (h : wpAnyH P md l.toArray Q S fuel (listed.setIfInBounds i true) (a.put o.dst v) w) : wpAnyH P md l.toArray Q S (fuel + 1) listed a w :=
  wpAnyH_take (drop_at hi) hs hf hr hQ (.inl ⟨hw, hv⟩) hSw h
end
end Go.Proofs.Ytgfhnbjpdhdhgaa
