/- LentOp, KeptOp, OverOp. -/
import Derived.Test.YtenmlkgamlafpaaDoorOpD
import Derived.Test.YtenmlkgamlafpaaDoorKitO
import Derived.Deep.Cut

namespace Go.Proofs.YtenmlkgamlafpaaDoor
open Go.RowKit
set_option linter.unusedVariables false

theorem results_cells {P : Program} {fn : Func} {p q : Tmp} {ty ty' : TypeId} (h : fn.results = #[.cell p ty, .cell q ty']) (tmps : Array Value) (w : World) (g g' : Nat) (t t' : TypeId) (cs cs' : Array Value) (fr fr' : Nat × Nat) (d d' : TypeDesc)
    (hp : tmps.getD p undef = .pointer (some ⟨g, 0, none⟩)) (hg : w.heap[g]? = some (.cells cs t fr))
    (hu : P.underlying ty = some d) (hd : (match d with | .struct _ | .array _ _ => true | _ => false) = true) (hi : (P.info? ty).map (·.size) = some cs.size)
    (hp' : tmps.getD q undef = .pointer (some ⟨g', 0, none⟩)) (hg' : w.heap[g']? = some (.cells cs' t' fr'))
    (hu' : P.underlying ty' = some d') (hd' : (match d' with | .struct _ | .array _ _ => true | _ => false) = true) (hi' : (P.info? ty').map (·.size) = some cs'.size) :
    (results fn tmps).run P w = .ok (.tuple #[.agg cs, .agg cs']) w := by
  have h1 : tmps[p]?.getD undef = .pointer (some ⟨g, 0, none⟩) := by simpa using hp
  have h2 : tmps[q]?.getD undef = .pointer (some ⟨g', 0, none⟩) := by simpa using hp'
  simp [results, h, h1, h2, asAddr, run_loadVar_row w g t ty cs fr d hg hu hd hi, run_loadVar_row w g' t' ty' cs' fr' d' hg' hu' hd' hi', Sem.run_bind, Result.andThen]

theorem St.perm {w0 w : World} {F0 : List Nat} {L L' : List Own} (H : St w0 F0 w (lay L)) (p : List Nat) (n : Nat) (hn : L'.length = n) (hp : ∀ i, i < n → ∀ j, j < n → p.getD i 0 = p.getD j 0 → i = j) (h : ∀ i, i < n → L[p.getD i 0]? = L'[i]?) : St w0 F0 w (lay L') := by
  obtain ⟨lo, Fs, h1, h2⟩ := H
  have hl : ∀ i A, lay L' i = some A → i < n ∧ lay L (p.getD i 0) = some A := by
    intro i A hA
    have hi : i < n := by rw [← hn]; exact (List.getElem?_eq_some_iff.1 hA).1
    exact ⟨hi, (h i hi).trans hA⟩
  exact ⟨lo, fun k => Fs (p.getD k 0), fun i A hA => h1 _ A (hl i A hA).2, fun i j A B hij hA hB => h2 _ _ A B (fun e => hij (hp i (hl i A hA).1 j (hl j B hB).1 e)) (hl i A hA).2 (hl j B hB).2⟩

theorem two_size : (Tryd.prog.info? 29).map (·.size) = some 2 := by kernel_rfl

def fulls (A B : Value) : Value := .agg #[A, B]

set_option maxHeartbeats 2000000 in
theorem keptOp_yes (k : UInt8) (h : Int) (a : UInt8) (cn ou : Int) (A B A' B' : Option Addr) (n m c d n' m' c' d' : Nat) (xs ys : List UInt8) (w : World) (hA : Rd w 1 A n (xs.map vb)) (hB : Rd w 1 B m (ys.map vb)) (hA' : Rd w 1 A' n' ((xs ++ marksB 7 0 6).map vb)) (hB' : Rd w 1 B' m' ((ys ++ marksB 7 0 6).map vb))
    (hn : n ≤ 140737488355320) (hm : m ≤ 140737488355320) (hn' : n' ≤ 9223372036854775807) (hm' : m' ≤ 9223372036854775807) :
    Calls Tryd.prog 7 #[.agg #[.slice A' n' c', .slice B' m' d'], opV k h a cn ou (.slice A n c) (.slice B m d)] w fun e w' => e = .returned (.bool true) ∧ Below w.heap.size w w' := by
  generalize hX : xs ++ marksB 7 0 6 = X at hA'
  generalize hY : ys ++ marksB 7 0 6 = Y at hB'
  have HX := Lib.hid hX
  have HY := Lib.hid hY
  clear hX hY
  have H0 := St.start_lay w []
  go_enter Tryd.func7, Tryd.ntmps7
  go_wp2_with fail
  refine absorb_calls (H0.allocAt 0 rfl w.heap.size rfl _ _ |>.push_mk rfl |>.allocAt 1 rfl (w.heap.size + 1) (by simp) _ _ |>.push_mk rfl) ?_
  intro w1 H
  generalize w.heap.size + 1 = gb at H ⊢
  generalize hga : w.heap.size = ga at H ⊢
  clear hga H0
  refine (keptBytes_yes A' A n' n c' c X xs w1 (H.arg0 hA') (H.arg0 hA) hn' hn HX.out.symm).mono ?_
  rintro e w2 ⟨rfl, hb2⟩
  replace H := H.call hb2
  clear hb2
  have c0 := H.cell 0 rfl (o := 1) rfl
  have c1 := H.cell 1 rfl (o := 6) rfl
  go_wp2_with fail
  refine (keptBytes_yes B' B m' m d' d Y ys w2 (H.arg0 hB') (H.arg0 hB) hm' hm HY.out.symm).mono ?_
  rintro e w3 ⟨rfl, hb3⟩
  replace H := H.call hb3
  go_wp2_with fail
  go_ret
  exact ⟨rfl, H.below⟩

set_option maxHeartbeats 4000000 in
theorem lentOp_s (k : UInt8) (h : Int) (a : UInt8) (cn ou : Int) (A B : Option Addr) (n m c d : Nat) (xs ys : List UInt8) (w : World) (hA : Rd w 1 A n (xs.map vb)) (hB : Rd w 1 B m (ys.map vb)) (hn : n ≤ 140737488355320) (hm : m ≤ 140737488355320) :
    Calls Tryd.prog 4 #[opV k h a cn ou (.slice A n c) (.slice B m d)] w fun e w' => ∃ g g' c1 d1 : Nat, n + 6 ≤ c1 ∧ m + 6 ≤ d1 ∧
      e = .returned (.tuple #[opV k h a cn ou (.slice (some ⟨g, 0, none⟩) n c1) (.slice (some ⟨g', 0, none⟩) m d1), .agg #[.slice (some ⟨g, 0, none⟩) (n + 6) c1, .slice (some ⟨g', 0, none⟩) (m + 6) d1]]) ∧
      St w [] w' (lay [.row 5 1 (.slice (some ⟨g, 0, none⟩) (n + 6) c1) (n + 6) ((xs ++ marksB 7 0 6).map vb), .row 5 1 (.slice (some ⟨g', 0, none⟩) (m + 6) d1) (m + 6) ((ys ++ marksB 7 0 6).map vb)]) := by
  have hlx : xs.length = n := by simpa using hA.1
  have hly : ys.length = m := by simpa using hB.1
  have Hx := Lib.hid hlx
  have Hy := Lib.hid hly
  clear hlx hly
  have H0 := St.start_lay w []
  go_enter Tryd.func4, Tryd.ntmps4
  go_wp2_with fail
  refine absorb_wp (H0.allocAt 0 rfl w.heap.size rfl _ _ |>.push_mk rfl |>.allocAt 1 rfl (w.heap.size + 1) (by simp) _ _ |>.push_mk rfl |>.allocAt 2 rfl (w.heap.size + 1 + 1) (by simp) _ _ |>.push_mk rfl) ?_
  intro w1 H
  generalize w.heap.size + 1 + 1 = g3 at H ⊢
  generalize w.heap.size + 1 = g2 at H ⊢
  generalize hga : w.heap.size = g1 at H ⊢
  clear hga H0
  obtain ⟨X, HX⟩ : ∃ X, Hid (xs ++ marksB 7 0 6 = X) := ⟨_, rfl⟩
  have HX1 := HX
  obtain ⟨Y, HY⟩ : ∃ Y, Hid (ys ++ marksB 7 0 6 = Y) := ⟨_, rfl⟩
  have HY1 := HY
  have LX : Hid (X.length = n + 6) := by unfold Hid; rw [← HX.out, List.length_append, marksB_length, Hx.out]
  have LY : Hid (Y.length = m + 6) := by unfold Hid; rw [← HY.out, List.length_append, marksB_length, Hy.out]
  replace H : St w [] w1 (lay [.blk g1 28 [.int .u8 (k.toNat : Int), .int .i64 h, .int .u8 (a.toNat : Int), .int .i64 cn, .int .i64 ou, .slice A n c, .slice B m d], .blk g2 28 [.int .u8 0, .int .i64 0, .int .u8 0, .int .i64 0, .int .i64 0, .slice none 0 0, .slice none 0 0], .blk g3 29 [.slice none 0 0, .slice none 0 0]]) := H
  go_cut [4] from 5 (fun v wr => ∃ g4 g5 g6 c5 c6, n + 6 ≤ c5 ∧ m + 6 ≤ c6 ∧ v = .pointer (some ⟨g4, 0, none⟩) ∧ St w [] wr (lay [.blk g1 28 [.int .u8 (k.toNat : Int), .int .i64 h, .int .u8 (a.toNat : Int), .int .i64 cn, .int .i64 ou, .slice A n c, .slice B m d], .blk g2 28 [.int .u8 0, .int .i64 0, .int .u8 0, .int .i64 0, .int .i64 0, .slice none 0 0, .slice none 0 0], .blk g3 29 [.slice none 0 0, .slice none 0 0], .blk g4 29 [.slice (some ⟨g5, 0, none⟩) (n + 6) c5, .slice (some ⟨g6, 0, none⟩) (m + 6) c6], .row 5 1 (.slice (some ⟨g5, 0, none⟩) (n + 6) c5) (n + 6) (X.map vb), .row 5 1 (.slice (some ⟨g6, 0, none⟩) (m + 6) c6) (m + 6) (Y.map vb)]))
  case first =>
    have H1 := H.drew
    have HA := ((H.allocAt 3 rfl w1.heap.size rfl #[.slice none 0 0, .slice none 0 0] 29).push_mk rfl).drew
    go_region_held3 (fun w' => w'.cell? ⟨g1, 5, none⟩ = some (.slice A n c) ∧ w'.cell? ⟨g1, 6, none⟩ = some (.slice B m d)) (first | with_reducible exact ⟨H8.cell 0 rfl rfl, H8.cell 0 rfl rfl⟩ | with_reducible exact ⟨H7.cell 0 rfl rfl, H7.cell 0 rfl rfl⟩ | with_reducible exact ⟨H6.cell 0 rfl rfl, H6.cell 0 rfl rfl⟩ | with_reducible exact ⟨(H6.call ((Below.refl _ _).alloc (Nat.le_refl _) _)).cell 0 rfl rfl, (H6.call ((Below.refl _ _).alloc (Nat.le_refl _) _)).cell 0 rfl rfl⟩ | with_reducible exact ⟨H5.cell 0 rfl rfl, H5.cell 0 rfl rfl⟩ | with_reducible exact ⟨(H5.call ((Below.refl _ _).alloc (Nat.le_refl _) _)).cell 0 rfl rfl, (H5.call ((Below.refl _ _).alloc (Nat.le_refl _) _)).cell 0 rfl rfl⟩ | with_reducible exact ⟨H1.cell 0 rfl rfl, H1.cell 0 rfl rfl⟩ | with_reducible exact ⟨HA.cell 0 rfl rfl, HA.cell 0 rfl rfl⟩) ((first
        | (go_at_call 9; first
          | (with_reducible refine (lentBytes_any B m d ys w5 (H5.arg0 hB) hm).mono ?_; rintro e w6 ⟨v6, rfl, ho6, hb6⟩; obtain ⟨g6, c6, rfl, hc6, -, -⟩ := ho6.lent Hy.out; rw [HY.out] at ho6; first
            | (have H6 := (H5.pushOwnB 5 rfl ho6 hb6).push_mk rfl; have f0 := H6.cell 3 rfl (o := 0) rfl; have f1 := H6.cell 3 rfl (o := 1) rfl; have e0 := H6.free 3 rfl 0; have e1 := H6.free 3 rfl 1; have H7 := H6.store 3 rfl (o := 0) (u := .slice (some ⟨g5, 0, none⟩) (n + 6) c5) |>.upd_mk (by simp); have H8 := H7.store 3 rfl (o := 1) (u := .slice (some ⟨g6, 0, none⟩) (m + 6) c6) |>.upd_mk (by simp))
            | (have H6 := (H5.pushOwnB 4 rfl ho6 hb6).push_mk rfl))
          | (with_reducible refine (lentBytes_any B m d ys (w5.alloc (.cells #[.slice none 0 0, .slice none 0 0] 29)) ((H5.call ((Below.refl _ _).alloc (Nat.le_refl _) _)).arg0 hB) hm).mono ?_; rintro e w6 ⟨v6, rfl, ho6, hb6⟩; obtain ⟨g6, c6, rfl, hc6, -, -⟩ := ho6.lent Hy.out; rw [HY.out] at ho6; have H6 := (((H5.allocAt 4 rfl w5.heap.size rfl _ _).push_mk rfl).pushOwnB 5 rfl ho6 hb6).push_mk rfl; have f0 := H6.cell 4 rfl (o := 0) rfl; have f1 := H6.cell 4 rfl (o := 1) rfl; have e0 := H6.free 4 rfl 0; have e1 := H6.free 4 rfl 1; have H7 := H6.store 4 rfl (o := 0) (u := .slice (some ⟨g5, 0, none⟩) (n + 6) c5) |>.upd_mk (by simp); have H8 := H7.store 4 rfl (o := 1) (u := .slice (some ⟨g6, 0, none⟩) (m + 6) c6) |>.upd_mk (by simp)))
        | (go_at_call 9; first
          | (with_reducible refine (lentBytes_any A n c xs w1.drew (H1.arg0 hA) hn).mono ?_; rintro e w5 ⟨v5, rfl, ho5, hb5⟩; obtain ⟨g5, c5, rfl, hc5, -, -⟩ := ho5.lent Hx.out; rw [HX.out] at ho5; have H5 := (H1.pushOwnB 3 rfl ho5 hb5).push_mk rfl)
          | (with_reducible refine (lentBytes_any A n c xs (w1.alloc (.cells #[.slice none 0 0, .slice none 0 0] 29)).drew (HA.arg0 hA) hn).mono ?_; rintro e w5 ⟨v5, rfl, ho5, hb5⟩; obtain ⟨g5, c5, rfl, hc5, -, -⟩ := ho5.lent Hx.out; rw [HX.out] at ho5; have H5 := (HA.pushOwnB 4 rfl ho5 hb5).push_mk rfl))))
    · go_wp2
      go_meet
      exact ⟨w6.heap.size, g5, g6, c5, c6, hc5, hc6, rfl, ((((H6.shape_row 3 rfl LX.out rfl).shape_row 4 rfl LY.out rfl).allocAt 5 rfl w6.heap.size rfl #[.slice (some ⟨g5, 0, none⟩) (n + 6) c5, .slice (some ⟨g6, 0, none⟩) (m + 6) c6] 29).push_mk rfl).perm [0, 1, 2, 5, 3, 4] 6 rfl (by decide) (by intro i hi; match i with | 0 => rfl | 1 => rfl | 2 => rfl | 3 => rfl | 4 => rfl | 5 => rfl | i + 6 => omega)⟩
    · go_wp2
      go_meet
      exact ⟨w5.heap.size, g5, g6, c5, c6, hc5, hc6, rfl, ((H8.shape_row 3 rfl LX.out rfl).shape_row 5 rfl LY.out rfl).perm [0, 1, 2, 4, 3, 5] 6 rfl (by decide) (by intro i hi; match i with | 0 => rfl | 1 => rfl | 2 => rfl | 3 => rfl | 4 => rfl | 5 => rfl | i + 6 => omega)⟩
    · go_wp2
      go_meet
      exact ⟨w1.heap.size, g5, g6, c5, c6, hc5, hc6, rfl, ((H8.shape_row 4 rfl LX.out rfl).shape_row 5 rfl LY.out rfl)⟩
  case rest =>
    clear H
    obtain ⟨g4, g5, g6, c5, c6, hc5, hc6, rfl, H⟩ := hcut
    have x0 := H.cell 3 rfl (o := 0) rfl
    have x1 := H.cell 3 rfl (o := 1) rfl
    have x5 := H.cell 0 rfl (o := 5) rfl
    have x6 := H.cell 0 rfl (o := 6) rfl
    have y5 := H.free 0 rfl 5
    have y6 := H.free 0 rfl 6
    have n43 := H.ne 3 0 rfl rfl (by omega)
    have kn : (n : Int) ≤ c5 := by omega
    have km : (m : Int) ≤ c6 := by omega
    have qn : ¬ c5 = 0 := by omega
    have qm : ¬ c6 = 0 := by omega
    go_wp2_with fail
    have HX : St w [] ((wc.setCell ⟨g1, 5, none⟩ (.slice (some ⟨g5, 0, none⟩) n c5)).setCell ⟨g1, 6, none⟩ (.slice (some ⟨g6, 0, none⟩) m c6)) (lay [.blk g1 28 [.int .u8 (k.toNat : Int), .int .i64 h, .int .u8 (a.toNat : Int), .int .i64 cn, .int .i64 ou, .slice (some ⟨g5, 0, none⟩) n c5, .slice (some ⟨g6, 0, none⟩) m c6], .blk g2 28 [.int .u8 0, .int .i64 0, .int .u8 0, .int .i64 0, .int .i64 0, .slice none 0 0, .slice none 0 0], .blk g3 29 [.slice none 0 0, .slice none 0 0], .blk g4 29 [.slice (some ⟨g5, 0, none⟩) (n + 6) c5, .slice (some ⟨g6, 0, none⟩) (m + 6) c6], .row 5 1 (.slice (some ⟨g5, 0, none⟩) (n + 6) c5) (n + 6) (X.map vb), .row 5 1 (.slice (some ⟨g6, 0, none⟩) (m + 6) c6) (m + 6) (Y.map vb)]) := ((H.store 0 rfl (o := 5) (u := .slice (some ⟨g5, 0, none⟩) n c5)).upd_mk (by simp) |>.store 0 rfl (o := 6) (u := .slice (some ⟨g6, 0, none⟩) m c6)).upd_mk (by simp)
    refine absorb_wp HX ?_
    clear HX H x0 x1 x5 x6 y5 y6 n43
    intro wx HX
    have a0 := HX.cell 0 rfl (o := 0) rfl
    have b0 := HX.cell 1 rfl (o := 0) rfl
    have c0 := HX.free 1 rfl 0
    have a1 := HX.cell 0 rfl (o := 1) rfl
    have b1 := HX.cell 1 rfl (o := 1) rfl
    have c1 := HX.free 1 rfl 1
    have a2 := HX.cell 0 rfl (o := 2) rfl
    have b2 := HX.cell 1 rfl (o := 2) rfl
    have c2 := HX.free 1 rfl 2
    have a3 := HX.cell 0 rfl (o := 3) rfl
    have b3 := HX.cell 1 rfl (o := 3) rfl
    have c3 := HX.free 1 rfl 3
    have a4 := HX.cell 0 rfl (o := 4) rfl
    have b4 := HX.cell 1 rfl (o := 4) rfl
    have c4 := HX.free 1 rfl 4
    have a5 := HX.cell 0 rfl (o := 5) rfl
    have b5 := HX.cell 1 rfl (o := 5) rfl
    have cc5 := HX.free 1 rfl 5
    have a6 := HX.cell 0 rfl (o := 6) rfl
    have b6 := HX.cell 1 rfl (o := 6) rfl
    have cc6 := HX.free 1 rfl 6
    have d0 := HX.cell 3 rfl (o := 0) rfl
    have e0 := HX.cell 2 rfl (o := 0) rfl
    have f0 := HX.free 2 rfl 0
    have d1 := HX.cell 3 rfl (o := 1) rfl
    have e1 := HX.cell 2 rfl (o := 1) rfl
    have f1 := HX.free 2 rfl 1
    have n1 := HX.ne 0 1 rfl rfl (by omega)
    have n2 := HX.ne 0 2 rfl rfl (by omega)
    have n3 := HX.ne 3 1 rfl rfl (by omega)
    have n4 := HX.ne 3 2 rfl rfl (by omega)
    have n5 := HX.ne 1 2 rfl rfl (by omega)
    go_region
    have HS := ((((((((((((((((((HX.store 1 rfl (o := 0) (u := .int .u8 (k.toNat : Int))).upd_mk (by simp)).store 1 rfl (o := 1) (u := .int .i64 h)).upd_mk (by simp)).store 1 rfl (o := 2) (u := .int .u8 (a.toNat : Int))).upd_mk (by simp)).store 1 rfl (o := 3) (u := .int .i64 cn)).upd_mk (by simp)).store 1 rfl (o := 4) (u := .int .i64 ou)).upd_mk (by simp)).store 1 rfl (o := 5) (u := .slice (some ⟨g5, 0, none⟩) n c5)).upd_mk (by simp)).store 1 rfl (o := 6) (u := .slice (some ⟨g6, 0, none⟩) m c6)).upd_mk (by simp)).store 2 rfl (o := 0) (u := .slice (some ⟨g5, 0, none⟩) (n + 6) c5)).upd_mk (by simp)).store 2 rfl (o := 1) (u := .slice (some ⟨g6, 0, none⟩) (m + 6) c6)).upd_mk (by simp)).drew
    go_wp2_with fail
    refine bodyPost_ret (results_cells rfl _ _ g2 g3 28 29 #[.int .u8 (k.toNat : Int), .int .i64 h, .int .u8 (a.toNat : Int), .int .i64 cn, .int .i64 ou, .slice (some ⟨g5, 0, none⟩) n c5, .slice (some ⟨g6, 0, none⟩) m c6] #[.slice (some ⟨g5, 0, none⟩) (n + 6) c5, .slice (some ⟨g6, 0, none⟩) (m + 6) c6] _ _ _ _ rfl (HS.blk 1 rfl) Tryd.underlying28 rfl op_size rfl (HS.blk 2 rfl) Tryd.underlying29 rfl two_size) rfl ?_
    refine ⟨g5, g6, c5, c6, hc5, hc6, rfl, ?_⟩
    rw [HX1.out, HY1.out]
    exact HS.perm [4, 5] 2 rfl (by decide) (by intro i hi; match i with | 0 => rfl | 1 => rfl | i + 2 => omega)

end Go.Proofs.YtenmlkgamlafpaaDoor
