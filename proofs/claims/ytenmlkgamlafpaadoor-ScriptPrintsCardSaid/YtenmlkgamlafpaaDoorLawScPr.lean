/- The law ScriptPrints, walked. -/
import Derived.Test.YtenmlkgamlafpaaDoorScRp
import Derived.Test.YtenmlkgamlafpaaDoorBigO
import Derived.Test.YtenmlkgamlafpaaDoorHeld2

namespace Go.Proofs.YtenmlkgamlafpaaDoor
open Go.RowKit
set_option linter.unusedVariables false
set_option maxRecDepth 100000

/-- an operation that was lent: where its lists lie -/
structure LentO where
  x : OpR
  g : Nat
  g2 : Nat
  c1 : Nat
  d1 : Nat

def LentO.out (p : LentO) : OpR := ⟨p.x.k, p.x.h, p.x.a, p.x.c, p.x.o, some ⟨p.g, 0, none⟩, p.x.n, p.c1, some ⟨p.g2, 0, none⟩, p.x.m, p.d1, p.x.xs, p.x.ys⟩

def LentO.full (p : LentO) : List Value := [.slice (some ⟨p.g, 0, none⟩) (p.x.n + 6) p.c1, .slice (some ⟨p.g2, 0, none⟩) (p.x.m + 6) p.d1]

def fullsV (ps : List LentO) : List Value := ps.flatMap LentO.full

def LentO.own (p : LentO) : Own := .sep (.row 5 1 (.slice (some ⟨p.g, 0, none⟩) (p.x.n + 6) p.c1) (p.x.n + 6) ((p.x.xs ++ marksB 7 0 6).map vb)) (.row 5 1 (.slice (some ⟨p.g2, 0, none⟩) (p.x.m + 6) p.d1) (p.x.m + 6) ((p.x.ys ++ marksB 7 0 6).map vb))

theorem full_length (p : LentO) : p.full.length = 2 := rfl

theorem fulls_length (ps : List LentO) : (fullsV ps).length = ps.length * 2 := flat_length full_length ps

theorem fulls_get (ps : List LentO) (i j : Nat) (p : LentO) (hi : ps[i]? = some p) (hj : j < 2) : (fullsV ps)[i * 2 + j]? = p.full[j]? := flat_get full_length ps i j p hi hj

theorem opsV_snoc (l : List OpR) (s : OpR) : opsV (l ++ [s]) = opsV l ++ s.cs := by simp [opsV]

theorem fullsV_snoc (ps : List LentO) (p : LentO) : fullsV (ps ++ [p]) = fullsV ps ++ p.full := by simp [fullsV]

theorem text_out (ps : List LentO) : textB (ps.map LentO.out) = textB (ps.map LentO.x) := by
  unfold textB
  rw [List.flatMap_map, List.flatMap_map]
  rfl

theorem sum_out (ps : List LentO) : sumH (ps.map LentO.out) = sumH (ps.map LentO.x) := by
  unfold sumH
  rw [List.map_map, List.map_map]
  rfl

theorem print_out (ps : List LentO) : printT (ps.map LentO.out) = printT (ps.map LentO.x) ∧ printE (ps.map LentO.out) = printE (ps.map LentO.x) := by
  have e : fits30 (ps.map LentO.out) = fits30 (ps.map LentO.x) := by unfold fits30; rw [sum_out, List.length_map, List.length_map]
  unfold printT printE
  rw [e, text_out]
  exact ⟨rfl, rfl⟩

theorem out_ok {w0 w W : World} {F0 : List Nat} {E : Env} {k : Nat} {ps : List LentO} {l : List OpR} (H : St w0 F0 w E) (hk : E k = some (bigO LentO.own ps)) (hc : ps.map LentO.x = l) (hok : ∀ s ∈ l, s.Ok W) : ∀ s ∈ ps.map LentO.out, s.Ok w := by
  intro s hs
  obtain ⟨p, hp, rfl⟩ := List.mem_map.1 hs
  obtain ⟨i, hi⟩ := List.getElem?_of_mem hp
  obtain ⟨G, G1, G2, -, hG1, hG2, -⟩ := H.bigRow k hk hi
  have ok := hok p.x (by rw [← hc]; exact List.mem_map.2 ⟨p, hp, rfl⟩)
  have e1 : p.x.xs.length = p.x.n := by have := ok.ra.1; simpa using this
  have e2 : p.x.ys.length = p.x.m := by have := ok.rb.1; simpa using this
  have r1 : Rd w 1 (some ⟨p.g, 0, none⟩) (p.x.n + 6) ((p.x.xs ++ marksB 7 0 6).map vb) := Rd.of_own hG1.1
  have r2 : Rd w 1 (some ⟨p.g2, 0, none⟩) (p.x.m + 6) ((p.x.ys ++ marksB 7 0 6).map vb) := Rd.of_own hG2.1
  refine ⟨?_, ?_, ok.ba, ok.bb, ok.ih, ok.ic, ok.io⟩
  · show Rd w 1 (some ⟨p.g, 0, none⟩) p.x.n (p.x.xs.map vb)
    have h := r1.take (k := p.x.n) (by omega)
    rwa [List.take_left' e1] at h
  · show Rd w 1 (some ⟨p.g2, 0, none⟩) p.x.m (p.x.ys.map vb)
    have h := r2.take (k := p.x.m) (by omega)
    rwa [List.take_left' e2] at h

theorem out_full {w0 w : World} {F0 : List Nat} {E : Env} {k : Nat} {ps : List LentO} (H : St w0 F0 w E) (hk : E k = some (bigO LentO.own ps)) {i : Nat} {p : LentO} (hi : ps[i]? = some p) : Rd w 1 (some ⟨p.g, 0, none⟩) (p.x.n + 6) ((p.x.xs ++ marksB 7 0 6).map vb) ∧ Rd w 1 (some ⟨p.g2, 0, none⟩) (p.x.m + 6) ((p.x.ys ++ marksB 7 0 6).map vb) := by
  obtain ⟨G, G1, G2, -, hG1, hG2, -⟩ := H.bigRow k hk hi
  exact ⟨Rd.of_own hG1.1, Rd.of_own hG2.1⟩

theorem ops_info : (Tryd.prog.info? 28).map (fun i => (i.zero, i.size, i.bytes)) = some (some (.agg #[.int .u8 0, .int .i64 0, .int .u8 0, .int .i64 0, .int .i64 0, .slice none 0 0, .slice none 0 0]), 7, 88) := by kernel_rfl

theorem twos_info : (Tryd.prog.info? 29).map (fun i => (i.zero, i.size, i.bytes)) = some (some (.agg #[.slice none 0 0, .slice none 0 0]), 2, 48) := by kernel_rfl

theorem cellB {w w2 : World} (hb : Below w.heap.size w w2) {a : Addr} {u : Value} (h : w.cell? a = some u) : w2.cell? a = some u := (hb.cell (World.block_lt_of_cell? w a h)).trans h

set_option maxHeartbeats 16000000 in
theorem scriptPrints_walk (A : Option Addr) (n c : Nat) (l : List OpR) (w : World) (hR : Rd w 7 A n (opsV l)) (hn : n ≤ 1599289640354) (hok : ∀ s ∈ l, s.Ok w) (ht : Tab w) :
    Calls Tryd.prog 3 #[.slice A n c] w fun e w' => e = .returned (.bool true) ∧ Below w.heap.size w w' := by
  obtain ⟨i0, hi0, hz0, hz1, hz2⟩ := info_parts ops_info
  obtain ⟨i1, hi1, hy0, hy1, hy2⟩ := info_parts twos_info
  have hl : l.length = n := by have := hR.1; rw [opsV_length] at this; omega
  have HL := Lib.hid hl
  have HR := Lib.hid hR
  have HOK := Lib.hid hok
  have HT := Lib.hid ht
  clear hl hR hok ht
  have H0 := (St.start_lay w []).nilRow 0 rfl 28 7 |>.push_mk rfl |>.nilRow 1 rfl 29 2 |>.push_mk rfl |>.nothing 2 rfl |>.push_mk rfl
  replace H0 : St w [] w (lay [.row 28 7 (.slice none 0 0) 0 (opsV (([] : List LentO).map LentO.out)), .row 29 2 (.slice none 0 0) 0 (fullsV []), bigO LentO.own []]) := H0
  go_enter Tryd.func3, Tryd.ntmps3
  go_wp2
  go_loopw [3, 4, 5] (fun V1 V2 i wr => ∃ (j : Nat) (ps : List LentO), j ≤ n ∧ i = .int .i64 (j : Int) ∧ Hid (ps.map LentO.x = l.take j) ∧ St w [] wr (lay [.row 28 7 V1 j (opsV (ps.map LentO.out)), .row 29 2 V2 j (fullsV ps), bigO LentO.own ps])) (fun _ _ i _ => n - (intOf i).toNat)
  case atStart => exact ⟨0, [], Nat.zero_le _, rfl, rfl, H0⟩
  case round =>
    clear H0
    obtain ⟨j, ps, hj, rfl, HC, H⟩ := hrel
    by_cases hlt : j < n
    · obtain ⟨x, hx⟩ : ∃ r, l[j]? = some r := ⟨_, List.getElem?_eq_getElem (by rw [HL.out]; exact hlt)⟩
      obtain ⟨p, q, rfl, a0, a1, a2, a3, a4, a5, a6, hlt2⟩ := op_cells7 (H.arg0 HR.out) hx
      have HX := Lib.hid hx
      have okx := Lib.hid (HOK.out x (List.mem_of_getElem? hx))
      have hba := okx.out.ba
      have hbb := okx.out.bb
      have hji : (j : Int) < n := by omega
      clear hx
      obtain ⟨AV1, cV1, hV1, -⟩ := row_form (H.row 0 rfl)
      obtain ⟨AV2, cV2, hV2, -⟩ := row_form (H.row 1 rfl)
      subst hV1 hV2
      go_wp2_with fail
      refine (lentOp_s x.k x.h x.a x.c x.o x.A x.B x.n x.m x.cA x.cB x.xs x.ys _ (H.arg0 okx.out.ra) (H.arg0 okx.out.rb) (by omega) (by omega)).mono ?_
      rintro e w2 ⟨g, g2, c1, d1, hc1, hd1, rfl, HN⟩
      replace H := H.also HN
      clear HN a0 a1 a2 a3 a4 a5 a6 hba hbb
      have HA := H.allocAt 5 rfl w2.heap.size rfl #[.int .u8 (x.k.toNat : Int), .int .i64 x.h, .int .u8 (x.a.toNat : Int), .int .i64 x.c, .int .i64 x.o, .slice (some ⟨g, 0, none⟩) x.n c1, .slice (some ⟨g2, 0, none⟩) x.m d1] 28 |>.push_mk rfl |>.allocAt 6 rfl (w2.heap.size + 1) (by simp) #[.slice (some ⟨g, 0, none⟩) (x.n + 6) c1, .slice (some ⟨g2, 0, none⟩) (x.m + 6) d1] 29 |>.push_mk rfl
      go_upto_region 7 with (fail)
      refine absorb_wp HA ?_
      clear HA H
      intro w5 H
      generalize w2.heap.size + 1 = g7 at H ⊢
      generalize w2.heap.size = g6 at H ⊢
      replace H : St w [] w5 (lay [.row 28 7 (.slice AV1 j cV1) j (opsV (ps.map LentO.out)), .row 29 2 (.slice AV2 j cV2) j (fullsV ps), bigO LentO.own ps, .row 5 1 (.slice (some ⟨g, 0, none⟩) (x.n + 6) c1) (x.n + 6) ((x.xs ++ marksB 7 0 6).map vb), .row 5 1 (.slice (some ⟨g2, 0, none⟩) (x.m + 6) d1) (x.m + 6) ((x.ys ++ marksB 7 0 6).map vb), .blk g6 28 [.int .u8 (x.k.toNat : Int), .int .i64 x.h, .int .u8 (x.a.toNat : Int), .int .i64 x.c, .int .i64 x.o, .slice (some ⟨g, 0, none⟩) x.n c1, .slice (some ⟨g2, 0, none⟩) x.m d1], .blk g7 29 [.slice (some ⟨g, 0, none⟩) (x.n + 6) c1, .slice (some ⟨g2, 0, none⟩) (x.m + 6) d1]]) := H
      have hb6 := H.blk 5 rfl
      have hr1 := H.row 0 rfl
      have HA := H.alloc 7 rfl #[.int .u8 (x.k.toNat : Int), .int .i64 x.h, .int .u8 (x.a.toNat : Int), .int .i64 x.c, .int .i64 x.o, .slice (some ⟨g, 0, none⟩) x.n c1, .slice (some ⟨g2, 0, none⟩) x.m d1] 28
      go_wp2_with (first | (refine wpList_load_row rfl 28 (.tmp 6) rfl g6 rfl _ _ _ _ hb6 Tryd.underlying28 rfl op_size ?_) | (at_builtin; refine wpList_append_any _ rfl (.tmp 27) (.tmp 29) _ rfl 0 28 i0 _ 7 88 Tryd.underlying22 hi0 hz0 hz1 hz2 rfl (by omega) (.slice AV1 j cV1) j (opsV (ps.map LentO.out)) rfl (hr1.alloc _) (some ⟨w5.heap.size, 0, none⟩) 1 1 [.int .u8 (x.k.toNat : Int), .int .i64 x.h, .int .u8 (x.a.toNat : Int), .int .i64 x.c, .int .i64 x.o, .slice (some ⟨g, 0, none⟩) x.n c1, .slice (some ⟨g2, 0, none⟩) x.m d1] rfl (rd_new0 w5 [.int .u8 (x.k.toNat : Int), .int .i64 x.h, .int .u8 (x.a.toNat : Int), .int .i64 x.c, .int .i64 x.o, .slice (some ⟨g, 0, none⟩) x.n c1, .slice (some ⟨g2, 0, none⟩) x.m d1] _ 7 rfl) (by intro u hu; simp at hu; rcases hu with rfl | rfl | rfl | rfl | rfl | rfl | rfl <;> rfl) (by simp only [maxLen]; omega) (by omega) (by omega) ?_; intro v6 w6 hown6 hg6 hat6; have H6 := ((HA.grow 0 rfl hown6 hg6 hat6)).sub (E' := lay [.row 28 7 v6 (j + 1) (opsV (ps.map LentO.out) ++ [.int .u8 (x.k.toNat : Int), .int .i64 x.h, .int .u8 (x.a.toNat : Int), .int .i64 x.c, .int .i64 x.o, .slice (some ⟨g, 0, none⟩) x.n c1, .slice (some ⟨g2, 0, none⟩) x.m d1]), .row 29 2 (.slice AV2 j cV2) j (fullsV ps), bigO LentO.own ps, .row 5 1 (.slice (some ⟨g, 0, none⟩) (x.n + 6) c1) (x.n + 6) ((x.xs ++ marksB 7 0 6).map vb), .row 5 1 (.slice (some ⟨g2, 0, none⟩) (x.m + 6) d1) (x.m + 6) ((x.ys ++ marksB 7 0 6).map vb), .blk g6 28 [.int .u8 (x.k.toNat : Int), .int .i64 x.h, .int .u8 (x.a.toNat : Int), .int .i64 x.c, .int .i64 x.o, .slice (some ⟨g, 0, none⟩) x.n c1, .slice (some ⟨g2, 0, none⟩) x.m d1], .blk g7 29 [.slice (some ⟨g, 0, none⟩) (x.n + 6) c1, .slice (some ⟨g2, 0, none⟩) (x.m + 6) d1]]) (fun i A hA => match i, hA with | 0, hA => (by simpa [upd, lay] using hA) | 1, hA => (by simpa [upd, lay] using hA) | 2, hA => (by simpa [upd, lay] using hA) | 3, hA => (by simpa [upd, lay] using hA) | 4, hA => (by simpa [upd, lay] using hA) | 5, hA => (by simpa [upd, lay] using hA) | 6, hA => (by simpa [upd, lay] using hA) | i + 7, hA => (by simp [lay] at hA)); clear H hr1 hb6 HA hown6 hg6 hat6; have hr2 := H6.row 1 rfl; have hb7 := H6.blk 6 rfl; have HA2 := H6.alloc 7 rfl #[.slice (some ⟨g, 0, none⟩) (x.n + 6) c1, .slice (some ⟨g2, 0, none⟩) (x.m + 6) d1] 29) | (refine wpList_load_row rfl 29 (.tmp 7) rfl g7 rfl _ _ _ _ hb7 Tryd.underlying29 rfl two_size ?_) | (at_builtin; refine wpList_append_any _ rfl (.tmp 31) (.tmp 33) _ rfl 0 29 i1 _ 2 48 Tryd.underlying23 hi1 hy0 hy1 hy2 rfl (by omega) (.slice AV2 j cV2) j (fullsV ps) rfl (hr2.alloc _) (some ⟨w6.heap.size, 0, none⟩) 1 1 [.slice (some ⟨g, 0, none⟩) (x.n + 6) c1, .slice (some ⟨g2, 0, none⟩) (x.m + 6) d1] rfl (rd_new0 w6 [.slice (some ⟨g, 0, none⟩) (x.n + 6) c1, .slice (some ⟨g2, 0, none⟩) (x.m + 6) d1] _ 2 rfl) (by intro u hu; simp at hu; rcases hu with rfl | rfl <;> rfl) (by simp only [maxLen]; omega) (by omega) (by omega) ?_; intro v8 w8 hown8 hg8 hat8; have H7 : St w [] w8 (lay [.row 28 7 v6 (j + 1) (opsV (ps.map LentO.out) ++ [.int .u8 (x.k.toNat : Int), .int .i64 x.h, .int .u8 (x.a.toNat : Int), .int .i64 x.c, .int .i64 x.o, .slice (some ⟨g, 0, none⟩) x.n c1, .slice (some ⟨g2, 0, none⟩) x.m d1]), .row 29 2 v8 (j + 1) (fullsV ps ++ [.slice (some ⟨g, 0, none⟩) (x.n + 6) c1, .slice (some ⟨g2, 0, none⟩) (x.m + 6) d1]), bigO LentO.own ps, .row 5 1 (.slice (some ⟨g, 0, none⟩) (x.n + 6) c1) (x.n + 6) ((x.xs ++ marksB 7 0 6).map vb), .row 5 1 (.slice (some ⟨g2, 0, none⟩) (x.m + 6) d1) (x.m + 6) ((x.ys ++ marksB 7 0 6).map vb), .blk g6 28 [.int .u8 (x.k.toNat : Int), .int .i64 x.h, .int .u8 (x.a.toNat : Int), .int .i64 x.c, .int .i64 x.o, .slice (some ⟨g, 0, none⟩) x.n c1, .slice (some ⟨g2, 0, none⟩) x.m d1], .blk g7 29 [.slice (some ⟨g, 0, none⟩) (x.n + 6) c1, .slice (some ⟨g2, 0, none⟩) (x.m + 6) d1]]) := ((HA2.grow 1 rfl hown8 hg8 hat8)).sub (fun i A hA => match i, hA with | 0, hA => (by simpa [upd, lay] using hA) | 1, hA => (by simpa [upd, lay] using hA) | 2, hA => (by simpa [upd, lay] using hA) | 3, hA => (by simpa [upd, lay] using hA) | 4, hA => (by simpa [upd, lay] using hA) | 5, hA => (by simpa [upd, lay] using hA) | 6, hA => (by simpa [upd, lay] using hA) | i + 7, hA => (by simp [lay] at hA)); clear H6 HA2 hr2 hb7 hown8 hg8 hat8))
      have H8 := H7.fam_push (f := LentO.own) (x := ⟨x, g, g2, c1, d1⟩) rfl
      have H9 : St w [] w8 (lay [.row 28 7 v6 (j + 1) (opsV ((ps ++ [(⟨x, g, g2, c1, d1⟩ : LentO)]).map LentO.out)), .row 29 2 v8 (j + 1) (fullsV (ps ++ [⟨x, g, g2, c1, d1⟩])), bigO LentO.own (ps ++ [⟨x, g, g2, c1, d1⟩])]) := by
        rw [List.map_append, fullsV_snoc]
        show St w [] w8 (lay [.row 28 7 v6 (j + 1) (opsV (ps.map LentO.out ++ [LentO.out ⟨x, g, g2, c1, d1⟩])), _, _])
        rw [opsV_snoc]
        exact H8
      clear H7 H8
      have HC2 : Hid ((ps ++ [(⟨x, g, g2, c1, d1⟩ : LentO)]).map LentO.x = l.take (j + 1)) := by
        unfold Hid
        rw [List.take_add_one, HX.out, List.map_append, HC.out]
        rfl
      go_roundw
      case rel => exact ⟨j + 1, _, by omega, by go_num, HC2, H9⟩
      case measure => simp [intOf]; omega
    · obtain rfl : j = n := by omega
      have hji : ¬ (j : Int) < j := by omega
      have hall : ps.map LentO.x = l := by rw [HC.out]; exact List.take_of_length_le (by rw [HL.out]; exact Nat.le_refl _)
      have HPX := Lib.hid hall
      have hpl : ps.length = j := by have := congrArg List.length hall; rw [List.length_map, HL.out] at this; exact this
      have HPL := Lib.hid hpl
      obtain ⟨e1, e2⟩ := print_out ps
      rw [hall] at e1 e2
      have E1 := Lib.hid e1
      have E2 := Lib.hid e2
      clear hall e1 e2 HC hpl
      obtain ⟨AV1, cV1, hV1, -⟩ := row_form (H.row 0 rfl)
      obtain ⟨AV2, cV2, hV2, -⟩ := row_form (H.row 1 rfl)
      subst hV1 hV2
      go_wp2_with fail
      refine (print_s AV1 j cV1 (ps.map LentO.out) wr (H.rd 0 rfl) (out_ok H (k := 2) rfl HPX.out HOK.out) (HT.out.st H) hn).mono ?_
      rintro e w3 ⟨rfl, hb⟩
      replace H := H.call hb
      rw [E1.out, E2.out]
      clear hb
      go_wp2_with fail
      refine (refPrint_s A j c l w3 (H.arg0 HR.out) (fun s hs => ⟨H.arg0 (HOK.out s hs).ra, H.arg0 (HOK.out s hs).rb, (HOK.out s hs).ba, (HOK.out s hs).bb, (HOK.out s hs).ih, (HOK.out s hs).ic, (HOK.out s hs).io⟩) (HT.out.st H) hn).mono ?_
      rintro e w4 ⟨rfl, hb⟩
      replace H := H.call hb
      clear hb
      obtain ⟨sT, hsT⟩ : ∃ s, (⟨(printT l).toArray⟩ : ByteArray) = s := ⟨_, rfl⟩
      obtain ⟨pe, hpe⟩ : ∃ e, printE l = e := ⟨_, rfl⟩
      unfold tv
      rw [hsT, hpe]
      clear hsT hpe E1 E2
      go_wp2
      go_loopw [12] (fun i wr => ∃ k : Nat, k ≤ j ∧ i = .int .i64 (k : Int) ∧ St w [] wr (lay [.row 28 7 (.slice AV1 j cV1) j (opsV (ps.map LentO.out)), .row 29 2 (.slice AV2 j cV2) j (fullsV ps), bigO LentO.own ps])) (fun i _ => j - (intOf i).toNat)
      case atStart => exact ⟨0, Nat.zero_le _, rfl, H⟩
      case round =>
        clear H
        obtain ⟨k, hk, rfl, H⟩ := hrel
        by_cases hltk : k < j
        · obtain ⟨y, hy⟩ : ∃ r, ps[k]? = some r := ⟨_, List.getElem?_eq_getElem (by rw [HPL.out]; exact hltk)⟩
          obtain ⟨x, g, g2, c1, d1⟩ := y
          have hx : l[k]? = some x := by rw [← HPX.out, List.getElem?_map, hy]; rfl
          have HX := Lib.hid hx
          have HY := Lib.hid hy
          have okx := Lib.hid (HOK.out x (List.mem_of_getElem? hx))
          have hba := okx.out.ba
          have hbb := okx.out.bb
          obtain ⟨p, q, rfl, a0, a1, a2, a3, a4, a5, a6, -⟩ := op_cells7 (H.arg0 HR.out) hx
          obtain ⟨p1, q1, rfl, b0, b1, b2, b3, b4, b5, b6, -⟩ := op_cells7 (H.rd 0 rfl) (show (ps.map LentO.out)[k]? = some (LentO.out ⟨x, g, g2, c1, d1⟩) by rw [List.getElem?_map, hy]; rfl)
          obtain ⟨p2, q2, he2, -, hc2⟩ := (H.rd 1 rfl).flat (by omega) (by omega)
          subst he2
          have f0 := hc2 (k * 2 + 0) _ (by rw [fulls_get ps k 0 _ hy (by omega)]; rfl)
          have f1 := hc2 (k * 2 + 1) _ (by rw [fulls_get ps k 1 _ hy (by omega)]; rfl)
          have hki : (k : Int) < j := by omega
          clear hx hy hc2
          go_wp2
          have HU := H
          replace H := H.drew

          replace f0 : wr.cell? ⟨p2, q2 + k * 2, none⟩ = some (.slice (some ⟨g, 0, none⟩) (x.n + 6) c1) := f0
          replace f1 : wr.cell? ⟨p2, q2 + k * 2 + 1, none⟩ = some (.slice (some ⟨g2, 0, none⟩) (x.m + 6) d1) := f1
          change wr.cell? ⟨p1, q1 + k * 7, none⟩ = some (.int .u8 (x.k.toNat : Int)) at b0
          change wr.cell? ⟨p1, q1 + k * 7 + 1, none⟩ = some (.int .i64 x.h) at b1
          change wr.cell? ⟨p1, q1 + k * 7 + 2, none⟩ = some (.int .u8 (x.a.toNat : Int)) at b2
          change wr.cell? ⟨p1, q1 + k * 7 + 3, none⟩ = some (.int .i64 x.c) at b3
          change wr.cell? ⟨p1, q1 + k * 7 + 4, none⟩ = some (.int .i64 x.o) at b4
          change wr.cell? ⟨p1, q1 + k * 7 + 5, none⟩ = some (.slice (some ⟨g, 0, none⟩) x.n c1) at b5
          change wr.cell? ⟨p1, q1 + k * 7 + 6, none⟩ = some (.slice (some ⟨g2, 0, none⟩) x.m d1) at b6
          refine wp_region_held_drew (S := fun w' : World => w'.cell? ⟨p2, q2 + k * 2, none⟩ = some (.slice (some ⟨g, 0, none⟩) (x.n + 6) c1) ∧ w'.cell? ⟨p2, q2 + k * 2 + 1, none⟩ = some (.slice (some ⟨g2, 0, none⟩) (x.m + 6) d1) ∧ w'.cell? ⟨p, q + k * 7, none⟩ = some (.int .u8 (x.k.toNat : Int)) ∧ w'.cell? ⟨p, q + k * 7 + 1, none⟩ = some (.int .i64 x.h) ∧ w'.cell? ⟨p, q + k * 7 + 2, none⟩ = some (.int .u8 (x.a.toNat : Int)) ∧ w'.cell? ⟨p, q + k * 7 + 3, none⟩ = some (.int .i64 x.c) ∧ w'.cell? ⟨p, q + k * 7 + 4, none⟩ = some (.int .i64 x.o) ∧ w'.cell? ⟨p, q + k * 7 + 5, none⟩ = some (.slice x.A x.n x.cA) ∧ w'.cell? ⟨p, q + k * 7 + 6, none⟩ = some (.slice x.B x.m x.cB) ∧ w'.cell? ⟨p1, q1 + k * 7, none⟩ = some (.int .u8 (x.k.toNat : Int)) ∧ w'.cell? ⟨p1, q1 + k * 7 + 1, none⟩ = some (.int .i64 x.h) ∧ w'.cell? ⟨p1, q1 + k * 7 + 2, none⟩ = some (.int .u8 (x.a.toNat : Int)) ∧ w'.cell? ⟨p1, q1 + k * 7 + 3, none⟩ = some (.int .i64 x.c) ∧ w'.cell? ⟨p1, q1 + k * 7 + 4, none⟩ = some (.int .i64 x.o) ∧ w'.cell? ⟨p1, q1 + k * 7 + 5, none⟩ = some (.slice (some ⟨g, 0, none⟩) x.n c1) ∧ w'.cell? ⟨p1, q1 + k * 7 + 6, none⟩ = some (.slice (some ⟨g2, 0, none⟩) x.m d1)) (by kernel_rfl) ?_ (fun hHeld => ?_)
          · exact ⟨f0, f1, a0, a1, a2, a3, a4, a5, a6, b0, b1, b2, b3, b4, b5, b6⟩
          refine takeV 0 rfl (by intro w h; clear h; go_simp; try with_reducible rfl) (by kernel_rfl) (by kernel_rfl) (by kernel_rfl) (by exact fun _ _ _ h => h) (by rfl) (by assumption) ?_
          try simp only [Act.put, List.setIfInBounds_toArray, List.set_cons_zero, List.set_cons_succ]
          refine takeV 1 rfl (by intro w h; clear h; go_simp; try with_reducible rfl) (by kernel_rfl) (by kernel_rfl) (by kernel_rfl) (by exact fun _ _ _ h => h) (by rfl) (by assumption) ?_
          try simp only [Act.put, List.setIfInBounds_toArray, List.set_cons_zero, List.set_cons_succ]
          refine takeV 2 rfl (by intro w h; clear h; go_simp; try with_reducible rfl) (by kernel_rfl) (by kernel_rfl) (by kernel_rfl) (by exact fun _ _ _ h => h) (by rfl) (by assumption) ?_
          try simp only [Act.put, List.setIfInBounds_toArray, List.set_cons_zero, List.set_cons_succ]
          refine takeV 3 rfl (by intro w hSw; obtain ⟨hf0, hf1, ha0, ha1, ha2, ha3, ha4, ha5, ha6, hb0, hb1, hb2, hb3, hb4, hb5, hb6⟩ := hSw; go_simp; try with_reducible rfl) (by kernel_rfl) (by kernel_rfl) (by kernel_rfl) (by exact fun _ _ _ h => h) (by rfl) (by assumption) ?_
          try simp only [Act.put, List.setIfInBounds_toArray, List.set_cons_zero, List.set_cons_succ]
          refine takeV 4 rfl (by intro w h; clear h; go_simp; try with_reducible rfl) (by kernel_rfl) (by kernel_rfl) (by kernel_rfl) (by exact fun _ _ _ h => h) (by rfl) (by assumption) ?_
          try simp only [Act.put, List.setIfInBounds_toArray, List.set_cons_zero, List.set_cons_succ]
          refine takeV 5 rfl (by intro w h; clear h; go_simp; try with_reducible rfl) (by kernel_rfl) (by kernel_rfl) (by kernel_rfl) (by exact fun _ _ _ h => h) (by rfl) (by assumption) ?_
          try simp only [Act.put, List.setIfInBounds_toArray, List.set_cons_zero, List.set_cons_succ]
          refine takeV 6 rfl (by intro w h; clear h; go_simp; try with_reducible rfl) (by kernel_rfl) (by kernel_rfl) (by kernel_rfl) (by exact fun _ _ _ h => h) (by rfl) (by assumption) ?_
          try simp only [Act.put, List.setIfInBounds_toArray, List.set_cons_zero, List.set_cons_succ]
          refine takeV 7 rfl (by intro w hSw; obtain ⟨hf0, hf1, ha0, ha1, ha2, ha3, ha4, ha5, ha6, hb0, hb1, hb2, hb3, hb4, hb5, hb6⟩ := hSw; go_simp; try with_reducible rfl) (by kernel_rfl) (by kernel_rfl) (by kernel_rfl) (by exact fun _ _ _ h => h) (by rfl) (by assumption) ?_
          try simp only [Act.put, List.setIfInBounds_toArray, List.set_cons_zero, List.set_cons_succ]
          refine take_call 8 rfl (by kernel_rfl) (fun K hK => ?_)
          try go_simp
          refine (keptOp_yes x.k x.h x.a x.c x.o x.A x.B (some ⟨g, 0, none⟩) (some ⟨g2, 0, none⟩) x.n x.m x.cA x.cB (x.n + 6) (x.m + 6) c1 d1 x.xs x.ys _ (H.arg0 okx.out.ra) (H.arg0 okx.out.rb) (out_full H (k := 2) rfl HY.out).1 (out_full H (k := 2) rfl HY.out).2 (by omega) (by omega) (by omega) (by omega)).mono ?_
          rintro e w5 ⟨rfl, hb⟩
          replace f0 := cellB hb f0
          replace f1 := cellB hb f1
          replace a0 := cellB hb a0
          replace a1 := cellB hb a1
          replace a2 := cellB hb a2
          replace a3 := cellB hb a3
          replace a4 := cellB hb a4
          replace a5 := cellB hb a5
          replace a6 := cellB hb a6
          replace b0 := cellB hb b0
          replace b1 := cellB hb b1
          replace b2 := cellB hb b2
          replace b3 := cellB hb b3
          replace b4 := cellB hb b4
          replace b5 := cellB hb b5
          replace b6 := cellB hb b6
          replace H := H.call hb
          refine hK.out _ _ ?_ (fun hHeld => ?_)
          · exact ⟨f0, f1, a0, a1, a2, a3, a4, a5, a6, b0, b1, b2, b3, b4, b5, b6⟩
          clear hK K hb
          try simp only [Act.put, List.setIfInBounds_toArray, List.set_cons_zero, List.set_cons_succ]
          refine takeV 9 rfl (by intro w h; clear h; go_simp; try with_reducible rfl) (by kernel_rfl) (by kernel_rfl) (by kernel_rfl) (by exact fun _ _ _ h => h) (by rfl) (by assumption) ?_
          try simp only [Act.put, List.setIfInBounds_toArray, List.set_cons_zero, List.set_cons_succ]
          refine takeV 10 rfl (by intro w h; clear h; go_simp; try with_reducible rfl) (by kernel_rfl) (by kernel_rfl) (by kernel_rfl) (by exact fun _ _ _ h => h) (by rfl) (by assumption) ?_
          try simp only [Act.put, List.setIfInBounds_toArray, List.set_cons_zero, List.set_cons_succ]
          refine takeV 11 rfl (by intro w h; clear h; go_simp; try with_reducible rfl) (by kernel_rfl) (by kernel_rfl) (by kernel_rfl) (by exact fun _ _ _ h => h) (by rfl) (by assumption) ?_
          try simp only [Act.put, List.setIfInBounds_toArray, List.set_cons_zero, List.set_cons_succ]
          refine takeV 12 rfl (by intro w h; clear h; go_simp; try with_reducible rfl) (by kernel_rfl) (by kernel_rfl) (by kernel_rfl) (by exact fun _ _ _ h => h) (by rfl) (by assumption) ?_
          try simp only [Act.put, List.setIfInBounds_toArray, List.set_cons_zero, List.set_cons_succ]
          refine takeV 13 rfl (by intro w h; clear h; go_simp; try with_reducible rfl) (by kernel_rfl) (by kernel_rfl) (by kernel_rfl) (by exact fun _ _ _ h => h) (by rfl) (by assumption) ?_
          try simp only [Act.put, List.setIfInBounds_toArray, List.set_cons_zero, List.set_cons_succ]
          refine takeV 14 rfl (by intro w hSw; obtain ⟨hf0, hf1, ha0, ha1, ha2, ha3, ha4, ha5, ha6, hb0, hb1, hb2, hb3, hb4, hb5, hb6⟩ := hSw; go_simp; try with_reducible rfl) (by kernel_rfl) (by kernel_rfl) (by kernel_rfl) (by exact fun _ _ _ h => h) (by rfl) (by assumption) ?_
          try simp only [Act.put, List.setIfInBounds_toArray, List.set_cons_zero, List.set_cons_succ]
          refine takeV 15 rfl (by intro w h; clear h; go_simp; try with_reducible rfl) (by kernel_rfl) (by kernel_rfl) (by kernel_rfl) (by exact fun _ _ _ h => h) (by rfl) (by assumption) ?_
          try simp only [Act.put, List.setIfInBounds_toArray, List.set_cons_zero, List.set_cons_succ]
          refine takeV 16 rfl (by intro w h; clear h; go_simp; try with_reducible rfl) (by kernel_rfl) (by kernel_rfl) (by kernel_rfl) (by exact fun _ _ _ h => h) (by rfl) (by assumption) ?_
          try simp only [Act.put, List.setIfInBounds_toArray, List.set_cons_zero, List.set_cons_succ]
          refine takeV 17 rfl (by intro w h; clear h; go_simp; try with_reducible rfl) (by kernel_rfl) (by kernel_rfl) (by kernel_rfl) (by exact fun _ _ _ h => h) (by rfl) (by assumption) ?_
          try simp only [Act.put, List.setIfInBounds_toArray, List.set_cons_zero, List.set_cons_succ]
          refine takeV 18 rfl (by intro w hSw; obtain ⟨hf0, hf1, ha0, ha1, ha2, ha3, ha4, ha5, ha6, hb0, hb1, hb2, hb3, hb4, hb5, hb6⟩ := hSw; go_simp; try with_reducible rfl) (by kernel_rfl) (by kernel_rfl) (by kernel_rfl) (by exact fun _ _ _ h => h) (by rfl) (by assumption) ?_
          try simp only [Act.put, List.setIfInBounds_toArray, List.set_cons_zero, List.set_cons_succ]
          refine take_call 19 rfl (by kernel_rfl) (fun K hK => ?_)
          try go_simp
          have okk := out_ok H (k := 2) rfl HPX.out HOK.out (LentO.out ⟨x, g, g2, c1, d1⟩) (List.mem_map.2 ⟨_, List.mem_of_getElem? HY.out, rfl⟩)
          refine (sameOp_yes x.k x.h x.a x.c x.o (some ⟨g, 0, none⟩) (some ⟨g2, 0, none⟩) x.A x.B x.n x.m c1 d1 x.n x.m x.cA x.cB x.xs x.ys _ okk.ra okk.rb (H.arg0 okx.out.ra) (H.arg0 okx.out.rb) (by omega) (by omega)).mono ?_
          rintro e w6 ⟨rfl, hb⟩
          replace f0 := cellB hb f0
          replace f1 := cellB hb f1
          replace a0 := cellB hb a0
          replace a1 := cellB hb a1
          replace a2 := cellB hb a2
          replace a3 := cellB hb a3
          replace a4 := cellB hb a4
          replace a5 := cellB hb a5
          replace a6 := cellB hb a6
          replace b0 := cellB hb b0
          replace b1 := cellB hb b1
          replace b2 := cellB hb b2
          replace b3 := cellB hb b3
          replace b4 := cellB hb b4
          replace b5 := cellB hb b5
          replace b6 := cellB hb b6
          replace H := H.call hb
          refine hK.out _ _ ?_ (fun hHeld => ?_)
          · exact ⟨f0, f1, a0, a1, a2, a3, a4, a5, a6, b0, b1, b2, b3, b4, b5, b6⟩
          clear hK K hb
          try simp only [Act.put, List.setIfInBounds_toArray, List.set_cons_zero, List.set_cons_succ]
          refine takeV 20 rfl (by intro w h; clear h; go_simp; try with_reducible rfl) (by kernel_rfl) (by kernel_rfl) (by kernel_rfl) (by exact fun _ _ _ h => h) (by rfl) (by assumption) ?_
          try simp only [Act.put, List.setIfInBounds_toArray, List.set_cons_zero, List.set_cons_succ]
          refine takeV 21 rfl (by intro w h; clear h; go_simp; try with_reducible rfl) (by kernel_rfl) (by kernel_rfl) (by kernel_rfl) (by exact fun _ _ _ h => h) (by rfl) (by assumption) ?_
          try simp only [Act.put, List.setIfInBounds_toArray, List.set_cons_zero, List.set_cons_succ]
          refine wpAnyH_done (by kernel_rfl) ?_ _
          clear hHeld f0 f1 a0 a1 a2 a3 a4 a5 a6 b0 b1 b2 b3 b4 b5 b6
          go_wp2
          go_roundw
          case rel => exact ⟨k + 1, by omega, by go_num, H⟩
          case measure => simp [intOf]; omega
        · obtain rfl : k = j := by omega
          have hki : ¬ (k : Int) < k := by omega
          have he : (pe == pe) = true := by simp
          go_wp2
          go_ret
          exact ⟨rfl, H.below⟩

end Go.Proofs.YtenmlkgamlafpaaDoor
