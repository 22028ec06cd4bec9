/- Texts of this claim, merged: Sh2Ac2, ApartK, LawSh2No. -/

import Derived.Test.YtcnphkmcgefjoaaMgD
set_option linter.unusedVariables false

namespace Go.Proofs.Ytcnphkmcgefjoaa
open Go.RowKit
set_option linter.unusedVariables false
set_option maxRecDepth 100000

attribute [local irreducible] comp2 hTo dig2 laid4 h2 padM form2 lastN sh2S shZ

/-- what an act leaves -/
def ActPost (gx : Nat) (l lr : Value) (N m : Nat) (b : Int) (n0 : Nat) (w0 : World) (e : Ending) (w' : World) : Prop :=
  ∃ (p0 p1 p2 : KA × KA) (r : Option (List RunT)) (At Aw : Option Addr) (n ct cw : Nat) (tps : List Tp), e = .returned (.bool true) ∧ (SlotOk (N + 1000000) p0 ∧ SlotOk (N + 1000000) p1 ∧ SlotOk (N + 1000000) p2) ∧ LW r (m + 2) (b + 400000000) ∧ (∃ rs, r = some rs) ∧ tps.length = n ∧ n ≤ n0 + 1 ∧ (∀ q ∈ tps, q.l.length ≤ 65536) ∧
    St w0 [] w' (lay [.blk gx 63 [p0.1.v, p1.1.v, p2.1.v, p0.2.v, p1.2.v, p2.2.v, l, lr, .slice At n ct, .slice Aw n cw], led l r, ledR lr r, bigO slotO [p0, p1, p2], .row 22 1 (.slice At n ct) n (tps.map Tp.v), .row 22 1 (.slice Aw n cw) n (tps.map Tp.u), bigO Tp.own tps])

section
variable {w0 w : World}

set_option maxHeartbeats 16000000 in
theorem shAct_f (gx : Nat) (l lr : Value) (r : Option (List RunT)) (N m : Nat) (b : Int) (p0 p1 p2 : KA × KA) (At Aw : Option Addr) (n ct cw : Nat) (tps : List Tp) (z0 z1 z2 : Int) (A3 : Option Addr) (n3 c3 : Nat) (l3 : List UInt8)
    (hok : SlotOk N p0 ∧ SlotOk N p1 ∧ SlotOk N p2) (hN : N ≤ 100000000) (hg : LW r m b) (hm : m ≤ 10000) (hb : b ≤ 10000000000000000) (hrs : ∃ rs, r = some rs) (htn : tps.length = n) (hn : n ≤ 900) (htl : ∀ q ∈ tps, q.l.length ≤ 65536)
    (hz0 : -9223372036854775808 ≤ z0 ∧ z0 ≤ 9223372036854775807) (hz2 : -9223372036854775808 ≤ z2 ∧ z2 ≤ 9223372036854775807) (hR : Rd w0 1 A3 n3 (l3.map vb)) (hn3 : n3 ≤ 1000000) (hc3 : n3 ≤ c3)
    (H : St w0 [] w (lay [.blk gx 63 [p0.1.v, p1.1.v, p2.1.v, p0.2.v, p1.2.v, p2.2.v, l, lr, .slice At n ct, .slice Aw n cw], led l r, ledR lr r, bigO slotO [p0, p1, p2], .row 22 1 (.slice At n ct) n (tps.map Tp.v), .row 22 1 (.slice Aw n cw) n (tps.map Tp.u), bigO Tp.own tps])) :
    Calls Try.prog 30 #[lptr gx, .agg #[.int .i64 z0, .int .i64 z1, .int .i64 z2, .slice A3 n3 c3, .bool false]] w (ActPost gx l lr N m b n w0) := by
  have hl3 : l3.length = n3 := by simpa using hR.1
  have HL3 := Lib.hid hl3
  clear hl3
  unfold lptr
  go_enter Try.func30, Try.ntmps30
  go_wp2_with fail
  refine absorb_calls (H.allocAt 7 rfl w.heap.size rfl _ _ |>.push_mk rfl |>.ledNil 8 rfl |>.push_mk rfl |>.ledRNil 9 rfl |>.push_mk rfl) ?_
  clear H
  intro w1 H
  generalize w.heap.size = go at H ⊢
  refine (pick_any z0 3 _ hz0.1 hz0.2 (by omega) (by omega) rfl).mono ?_
  rintro e wx ⟨⟨k, hk, -, rfl⟩, rfl⟩
  obtain ⟨p, hp⟩ : ∃ p, [p0, p1, p2][k]? = some p := ⟨_, List.getElem?_eq_getElem (by simpa using hk)⟩
  have hpk : SlotOk N p := by
    have := List.mem_of_getElem? hp
    simp only [List.mem_cons, List.not_mem_nil, or_false] at this
    rcases this with rfl | rfl | rfl
    · exact hok.1
    · exact hok.2.1
    · exact hok.2.2
  replace hok : SlotOk (N + 1000000) p0 ∧ SlotOk (N + 1000000) p1 ∧ SlotOk (N + 1000000) p2 := ⟨hok.1.more (by omega), hok.2.1.more (by omega), hok.2.2.more (by omega)⟩
  obtain ⟨-, g1, g2⟩ := three_get hp l lr (.slice At n ct) (.slice Aw n cw)
  have c1 := H.cell 0 rfl g1
  have c2 := H.cell 0 rfl g2
  have c6 := H.cell 0 rfl (o := 6) rfl
  have c7 := H.cell 0 rfl (o := 7) rfl
  have ca1 := H.cell 7 rfl (o := 1) rfl
  have ca6 := H.cell 7 rfl (o := 4) rfl
  replace H := H.takeSlot (f := slotO) (e := (.nil, .nil)) (fun w => ⟨[], [], rfl, rfl, rfl, by simp⟩) 3 k rfl hp
  replace H := H.part_mk 10 rfl
  replace H : St w0 [] w1 (lay [.blk gx 63 [p0.1.v, p1.1.v, p2.1.v, p0.2.v, p1.2.v, p2.2.v, l, lr, .slice At n ct, .slice Aw n cw], led l r, ledR lr r, bigO slotO ([p0, p1, p2].set k (.nil, .nil)), .row 22 1 (.slice At n ct) n (tps.map Tp.v), .row 22 1 (.slice Aw n cw) n (tps.map Tp.u), bigO Tp.own tps, .blk go 67 [.int .i64 z0, .int .i64 z1, .int .i64 z2, .slice A3 n3 c3, .bool false], led (.pointer none) none, ledR (.pointer none) none, p.1.ownM, p.2.ownR]) := H
  have HP := Lib.hid hp
  have HPK := Lib.hid hpk
  have HOK := Lib.hid hok
  clear hp hpk hok g1 g2
  have hki : (k : Int) < 3 := by omega
  by_cases hz0 : z1 = 0
  · have hzz : (z1 == 0) = true := by simpa using hz0
    clear hz0
    have y3 := H.cell 7 rfl (o := 3) rfl
    go_wp2_with fail
    refine (lent_st A3 n3 c3 l3 H (H.arg0 hR) (by omega)).mono ?_
    rintro e w2 ⟨fk, tk, htk, rfl, H1⟩
    clear y3
    replace H : St w0 [] w2 (lay [.blk gx 63 [p0.1.v, p1.1.v, p2.1.v, p0.2.v, p1.2.v, p2.2.v, l, lr, .slice At n ct, .slice Aw n cw], led l r, ledR lr r, bigO slotO ([p0, p1, p2].set k (.nil, .nil)), .row 22 1 (.slice At n ct) n (tps.map Tp.v), .row 22 1 (.slice Aw n cw) n (tps.map Tp.u), bigO Tp.own tps, .blk go 67 [.int .i64 z0, .int .i64 z1, .int .i64 z2, .slice A3 n3 c3, .bool false], led (.pointer none) none, ledR (.pointer none) none, p.1.ownM, p.2.ownR, .row 5 1 (.slice (some ⟨fk, 0, none⟩) (n3 + 6) tk) (n3 + 6) ((l3 ++ marksB 7 0 6).map vb)]) := H1
    clear H1
    have b1 : (n3 : Int) ≤ tk := by omega
    have b2 : n3 ≤ tk := by omega
    have y3 := H.cell 7 rfl (o := 3) rfl
    go_wp2_with fail
    have hc := smWrite_any l r m b p.1 HPK.out.1 (by omega) (some ⟨fk, 0, none⟩) n3 tk l3 H 1 10 (by omega) rfl rfl hg (by omega) (by omega) (fun w' X Y h => Rd.frontB (h.rd 12 rfl) HL3.out (by omega)) b2 (by omega)
    obtain ⟨er, Her⟩ : ∃ er, Hid (erA p.1.abs = er) := ⟨_, rfl⟩
    obtain ⟨r1, Hr1⟩ : ∃ r1, Hid (wrL p.1.abs r n3 = r1) := ⟨_, rfl⟩
    rw [Her.out, Hr1.out] at hc
    refine hc.mono ?_
    clear hc y3
    rintro e wx ⟨a', ha', hav, rfl, H1⟩
    rw [upd_laid2 (by simp), upd_laid2 (by simp)] at H1
    clear H
    have H : St w0 [] wx (lay [.blk gx 63 [p0.1.v, p1.1.v, p2.1.v, p0.2.v, p1.2.v, p2.2.v, l, lr, .slice At n ct, .slice Aw n cw], led l r1, ledR lr r, bigO slotO ([p0, p1, p2].set k (.nil, .nil)), .row 22 1 (.slice At n ct) n (tps.map Tp.v), .row 22 1 (.slice Aw n cw) n (tps.map Tp.u), bigO Tp.own tps, .blk go 67 [.int .i64 z0, .int .i64 z1, .int .i64 z2, .slice A3 n3 c3, .bool false], led (.pointer none) none, ledR (.pointer none) none, a'.ownM, p.2.ownR, .row 5 1 (.slice (some ⟨fk, 0, none⟩) (n3 + 6) tk) (n3 + 6) ((l3 ++ marksB 7 0 6).map vb)]) := H1
    clear H1
    have y3 := H.cell 7 rfl (o := 3) rfl
    go_wp2_with fail
    have hc := rmWrite_any lr r m b p.2 (by rw [HPK.out.2]; exact HPK.out.1) (by omega) A3 n3 c3 l3 H 2 11 (by omega) rfl rfl hg (by omega) (by omega) (fun w' X Y h => h.arg0 hR) hc3 (by omega)
    rw [HPK.out.2, Her.out, Hr1.out] at hc
    refine hc.mono ?_
    clear hc y3
    rintro e wx ⟨b', hb', hbv, rfl, H1⟩
    rw [upd_laid2 (by simp), upd_laid2 (by simp)] at H1
    clear H
    have H : St w0 [] wx (lay [.blk gx 63 [p0.1.v, p1.1.v, p2.1.v, p0.2.v, p1.2.v, p2.2.v, l, lr, .slice At n ct, .slice Aw n cw], led l r1, ledR lr r1, bigO slotO ([p0, p1, p2].set k (.nil, .nil)), .row 22 1 (.slice At n ct) n (tps.map Tp.v), .row 22 1 (.slice Aw n cw) n (tps.map Tp.u), bigO Tp.own tps, .blk go 67 [.int .i64 z0, .int .i64 z1, .int .i64 z2, .slice A3 n3 c3, .bool false], led (.pointer none) none, ledR (.pointer none) none, a'.ownM, b'.ownR, .row 5 1 (.slice (some ⟨fk, 0, none⟩) (n3 + 6) tk) (n3 + 6) ((l3 ++ marksB 7 0 6).map vb)]) := H1
    clear H1
    have y3 := H.cell 7 rfl (o := 3) rfl
    go_wp2_with fail
    refine (keptBytes_yes (some ⟨fk, 0, none⟩) A3 (n3 + 6) n3 tk c3 (l3 ++ marksB 7 0 6) l3 _ (H.rd 12 rfl) (H.arg0 hR) (by omega) (by omega) rfl).mono ?_
    rintro e w5 ⟨rfl, hb5⟩
    replace H := H.call hb5
    clear hb5 y3
    go_wp2_with fail
    refine (over_st H 12 rfl (by omega)).mono ?_
    rintro e w6 ⟨rfl, H1⟩
    rw [upd_laid2 (by simp)] at H1
    replace H := H1.front 12
    clear H1
    replace H : St w0 [] w6 (lay [.blk gx 63 [p0.1.v, p1.1.v, p2.1.v, p0.2.v, p1.2.v, p2.2.v, l, lr, .slice At n ct, .slice Aw n cw], led l r1, ledR lr r1, bigO slotO ([p0, p1, p2].set k (.nil, .nil)), .row 22 1 (.slice At n ct) n (tps.map Tp.v), .row 22 1 (.slice Aw n cw) n (tps.map Tp.u), bigO Tp.own tps, .blk go 67 [.int .i64 z0, .int .i64 z1, .int .i64 z2, .slice A3 n3 c3, .bool false], led (.pointer none) none, ledR (.pointer none) none, a'.ownM, b'.ownR]) := H
    have heq : (er == er) = true := by simp
    go_wp2
    go_ret
    have hsl : SlotOk (N + 1000000) (a', b') := ⟨by rw [ha']; exact wrA_ok HPK.out.1 l3 (by rw [HL3.out]; omega), by rw [hb', ha']⟩
    obtain ⟨q0, q1, q2, hq, HQ⟩ := act_end HP.out hav hbv hsl HOK.out H
    exact ⟨q0, q1, q2, r1, At, Aw, n, ct, cw, tps, rfl, hq, (by rw [← Hr1.out]; exact (wrL_lw HPK.out.1 (by omega) hg (by omega)).more (by omega) (by omega)), (by rw [← Hr1.out]; exact wrL_some hrs n3), htn, by omega, htl, HQ⟩
  have hzz0 : (z1 == 0) = false := by simpa using hz0
  clear hz0
  by_cases hz1 : z1 = 1
  · have hzz : (z1 == 1) = true := by simpa using hz1
    clear hz1
    go_wp2_with fail
    have hc := smSum_any l r m b p.1 HPK.out.1 (by omega) H 1 10 12 (by omega) rfl rfl rfl hg (by omega) (by omega)
    obtain ⟨er, Her⟩ : ∃ er, Hid (erA p.1.abs = er) := ⟨_, rfl⟩
    obtain ⟨r1, Hr1⟩ : ∃ r1, Hid (suL p.1.abs r = r1) := ⟨_, rfl⟩
    have hT1 := suB_le p.1.abs
    obtain ⟨T1, HT1⟩ : ∃ T, Hid (suB p.1.abs = T) := ⟨_, rfl⟩
    rw [HT1.out] at hT1
    rw [Her.out, Hr1.out, HT1.out] at hc
    obtain ⟨la, Hla⟩ : ∃ la, Hid (T1.length = la) := ⟨_, rfl⟩
    rw [Hla.out] at hc hT1
    refine hc.mono ?_
    clear hc
    rintro e wx ⟨va, rfl, H1⟩
    rw [upd_laid2 (by simp), upd_laid2 (by simp)] at H1
    clear H
    have H := H1.push_mk rfl
    clear H1
    obtain ⟨Aa, ca, rfl, -, -⟩ := row_form (H.row 12 rfl)
    replace H : St w0 [] wx (lay [.blk gx 63 [p0.1.v, p1.1.v, p2.1.v, p0.2.v, p1.2.v, p2.2.v, l, lr, .slice At n ct, .slice Aw n cw], led l r1, ledR lr r, bigO slotO ([p0, p1, p2].set k (.nil, .nil)), .row 22 1 (.slice At n ct) n (tps.map Tp.v), .row 22 1 (.slice Aw n cw) n (tps.map Tp.u), bigO Tp.own tps, .blk go 67 [.int .i64 z0, .int .i64 z1, .int .i64 z2, .slice A3 n3 c3, .bool false], led (.pointer none) none, ledR (.pointer none) none, p.1.ownM, p.2.ownR, .row 5 1 (.slice Aa la ca) la (T1.map vb)]) := H
    go_wp2_with fail
    have hc := rmSum_any lr r m b p.2 (by rw [HPK.out.2]; exact HPK.out.1) (by omega) H 2 11 13 (by omega) rfl rfl rfl hg (by omega) (by omega)
    rw [HPK.out.2, Her.out, Hr1.out, HT1.out, Hla.out] at hc
    refine hc.mono ?_
    clear hc
    rintro e wx ⟨vd, rfl, H1⟩
    rw [upd_laid2 (by simp), upd_laid2 (by simp)] at H1
    clear H
    have H := H1.push_mk rfl
    clear H1
    obtain ⟨Ab, cb, rfl, -, -⟩ := row_form (H.row 13 rfl)
    replace H : St w0 [] wx (lay [.blk gx 63 [p0.1.v, p1.1.v, p2.1.v, p0.2.v, p1.2.v, p2.2.v, l, lr, .slice At n ct, .slice Aw n cw], led l r1, ledR lr r1, bigO slotO ([p0, p1, p2].set k (.nil, .nil)), .row 22 1 (.slice At n ct) n (tps.map Tp.v), .row 22 1 (.slice Aw n cw) n (tps.map Tp.u), bigO Tp.own tps, .blk go 67 [.int .i64 z0, .int .i64 z1, .int .i64 z2, .slice A3 n3 c3, .bool false], led (.pointer none) none, ledR (.pointer none) none, p.1.ownM, p.2.ownR, .row 5 1 (.slice Aa la ca) la (T1.map vb), .row 5 1 (.slice Ab la cb) la (T1.map vb)]) := H
    have heq : (er == er) = true := by simp
    go_wp2_with fail
    refine (shKeep_s gx _ _ _ _ _ _ _ _ _ _ _ _ _ _ _ _ _ At Aw Aa Ab n ct cw la ca cb _ _ T1 (by omega) (by omega) H).mono ?_
    rintro e w8 ⟨A6, d6, A9, d9, rfl, H1⟩
    clear H
    replace H1 : St w0 [] w8 (lay [.blk gx 63 [p0.1.v, p1.1.v, p2.1.v, p0.2.v, p1.2.v, p2.2.v, l, lr, .slice A6 (n + 1) d6, .slice A9 (n + 1) d9], led l r1, ledR lr r1, bigO slotO ([p0, p1, p2].set k (.nil, .nil)), .row 22 1 (.slice A6 (n + 1) d6) (n + 1) (tps.map Tp.v ++ [.slice Aa la ca]), .row 22 1 (.slice A9 (n + 1) d9) (n + 1) (tps.map Tp.u ++ [.slice Ab la cb]), bigO Tp.own tps, .blk go 67 [.int .i64 z0, .int .i64 z1, .int .i64 z2, .slice A3 n3 c3, .bool false], led (.pointer none) none, ledR (.pointer none) none, p.1.ownM, p.2.ownR, .row 5 1 (.slice Aa la ca) la (T1.map vb), .row 5 1 (.slice Ab la cb) la (T1.map vb)]) := H1
    replace H1 := (H1.shape_row 12 rfl Hla.out.symm rfl).shape_row 13 rfl Hla.out.symm rfl
    have H2 := St.join_mk (L := [.blk gx 63 [p0.1.v, p1.1.v, p2.1.v, p0.2.v, p1.2.v, p2.2.v, l, lr, .slice A6 (n + 1) d6, .slice A9 (n + 1) d9], led l r1, ledR lr r1, bigO slotO ([p0, p1, p2].set k (.nil, .nil)), .row 22 1 (.slice A6 (n + 1) d6) (n + 1) (tps.map Tp.v ++ [.slice Aa la ca]), .row 22 1 (.slice A9 (n + 1) d9) (n + 1) (tps.map Tp.u ++ [.slice Ab la cb]), bigO Tp.own tps, .blk go 67 [.int .i64 z0, .int .i64 z1, .int .i64 z2, .slice A3 n3 c3, .bool false], led (.pointer none) none, ledR (.pointer none) none, p.1.ownM, p.2.ownR, .row 5 1 (.slice Aa la ca) T1.length (T1.map vb)]) H1 12 rfl
    have H3 := St.tellSlot (x := ⟨.slice Aa la ca, .slice Ab la cb, T1⟩) (L0 := [.blk gx 63 [p0.1.v, p1.1.v, p2.1.v, p0.2.v, p1.2.v, p2.2.v, l, lr, .slice A6 (n + 1) d6, .slice A9 (n + 1) d9], led l r1, ledR lr r1, bigO slotO ([p0, p1, p2].set k (.nil, .nil)), .row 22 1 (.slice A6 (n + 1) d6) (n + 1) (tps.map Tp.v ++ [.slice Aa la ca]), .row 22 1 (.slice A9 (n + 1) d9) (n + 1) (tps.map Tp.u ++ [.slice Ab la cb]), bigO Tp.own tps, .blk go 67 [.int .i64 z0, .int .i64 z1, .int .i64 z2, .slice A3 n3 c3, .bool false], led (.pointer none) none, ledR (.pointer none) none, p.1.ownM, p.2.ownR]) H2 6 rfl
    clear H1 H2
    obtain ⟨TPS, HTPS⟩ : ∃ T, Hid (tps ++ [(⟨.slice Aa la ca, .slice Ab la cb, T1⟩ : Tp)] = T) := ⟨_, rfl⟩
    have hv1 : tps.map Tp.v ++ [.slice Aa la ca] = TPS.map Tp.v := by rw [← HTPS.out, List.map_append]; rfl
    have hv2 : tps.map Tp.u ++ [.slice Ab la cb] = TPS.map Tp.u := by rw [← HTPS.out, List.map_append]; rfl
    rw [hv1, hv2, HTPS.out] at H3
    have H : St w0 [] w8 (lay [.blk gx 63 [p0.1.v, p1.1.v, p2.1.v, p0.2.v, p1.2.v, p2.2.v, l, lr, .slice A6 (n + 1) d6, .slice A9 (n + 1) d9], led l r1, ledR lr r1, bigO slotO ([p0, p1, p2].set k (.nil, .nil)), .row 22 1 (.slice A6 (n + 1) d6) (n + 1) (TPS.map Tp.v), .row 22 1 (.slice A9 (n + 1) d9) (n + 1) (TPS.map Tp.u), bigO Tp.own TPS, .blk go 67 [.int .i64 z0, .int .i64 z1, .int .i64 z2, .slice A3 n3 c3, .bool false], led (.pointer none) none, ledR (.pointer none) none, p.1.ownM, p.2.ownR]) := H3
    clear H3 hv1 hv2
    have htn' : TPS.length = n + 1 := by rw [← HTPS.out, List.length_append, htn]; rfl
    have htl' : ∀ q ∈ TPS, q.l.length ≤ 65536 := by rw [← HTPS.out]; intro q hq; rcases List.mem_append.1 hq with h | h; exact htl q h; rw [List.mem_singleton.1 h]; show T1.length ≤ 65536; rw [Hla.out]; omega
    go_wp2
    go_ret
    obtain ⟨q0, q1, q2, hq, HQ⟩ := act_end HP.out rfl rfl (HPK.out.more (by omega)) HOK.out H
    exact ⟨q0, q1, q2, r1, A6, A9, n + 1, d6, d9, TPS, rfl, hq, (by rw [← Hr1.out]; exact (suL_lw hg).more (by omega) (by omega)), (by rw [← Hr1.out]; exact suL_some hrs), htn', by omega, htl', HQ⟩
  have hzz1 : (z1 == 1) = false := by simpa using hz1
  clear hz1
  by_cases hz2 : z1 = 2
  · have hzz : (z1 == 2) = true := by simpa using hz2
    clear hz2
    go_wp2_with fail
    have hc := smClone_any p.1 HPK.out.1 (by omega) H 10 12 rfl rfl
    obtain ⟨er, Her⟩ : ∃ er, Hid (erA p.1.abs = er) := ⟨_, rfl⟩
    rw [Her.out] at hc
    refine hc.mono ?_
    clear hc
    rintro e w2 ⟨a', ha', rfl, H1⟩
    clear H
    have H : St w0 [] w2 (lay [.blk gx 63 [p0.1.v, p1.1.v, p2.1.v, p0.2.v, p1.2.v, p2.2.v, l, lr, .slice At n ct, .slice Aw n cw], led l r, ledR lr r, bigO slotO ([p0, p1, p2].set k (.nil, .nil)), .row 22 1 (.slice At n ct) n (tps.map Tp.v), .row 22 1 (.slice Aw n cw) n (tps.map Tp.u), bigO Tp.own tps, .blk go 67 [.int .i64 z0, .int .i64 z1, .int .i64 z2, .slice A3 n3 c3, .bool false], led (.pointer none) none, ledR (.pointer none) none, p.1.ownM, p.2.ownR, a'.ownM]) := H1.push_mk rfl
    clear H1
    go_wp2_with fail
    have hc := rmClone_any lr r p.2 (by rw [HPK.out.2]; exact HPK.out.1) (by omega) H 2 11 13 (by omega) rfl rfl rfl
    rw [HPK.out.2, Her.out] at hc
    refine hc.mono ?_
    clear hc
    rintro e w2 ⟨b', hb', rfl, H1⟩
    clear H
    have H : St w0 [] w2 (lay [.blk gx 63 [p0.1.v, p1.1.v, p2.1.v, p0.2.v, p1.2.v, p2.2.v, l, lr, .slice At n ct, .slice Aw n cw], led l r, ledR lr r, bigO slotO ([p0, p1, p2].set k (.nil, .nil)), .row 22 1 (.slice At n ct) n (tps.map Tp.v), .row 22 1 (.slice Aw n cw) n (tps.map Tp.u), bigO Tp.own tps, .blk go 67 [.int .i64 z0, .int .i64 z1, .int .i64 z2, .slice A3 n3 c3, .bool false], led (.pointer none) none, ledR (.pointer none) none, p.1.ownM, p.2.ownR, a'.ownM, b'.ownR]) := H1.push_mk rfl
    clear H1
    have heq : (er == er) = true := by simp
    have hsl : SlotOk (N + 1000000) (a', b') := ⟨by rw [ha']; exact (clA_ok HPK.out.1).more (by omega), by rw [hb', ha']⟩
    have HSL := Lib.hid hsl
    clear hsl
    obtain ⟨jq, hjq, hjz⟩ : ∃ j : Nat, j < 3 ∧ (j : Int) = z2 % (3 : Int) := ⟨(z2 % 3).toNat, by omega, by omega⟩
    have hji : (jq : Int) < 3 := by omega
    have HJZ := Lib.hid hjz
    clear hjz
    rcases KA.kind ha' hb' with ⟨rfl, rfl⟩ | ⟨g, g', x, rfl, rfl⟩
    · rw [show KA.v .nil = Value.pointer none from rfl]
      have z2c := H.cell 7 rfl (o := 2) rfl
      have hfr := H.free 0 rfl jq
      obtain ⟨u1, hu1⟩ : ∃ u, ([p0.1.v, p1.1.v, p2.1.v, p0.2.v, p1.2.v, p2.2.v, l, lr, .slice At n ct, .slice Aw n cw] : List Value)[jq]? = some u := ⟨_, List.getElem?_eq_getElem (by simp only [List.length_cons, List.length_nil]; omega)⟩
      have hce := H.cell 0 rfl hu1
      clear hu1
      have hst := (H.store 0 rfl (o := jq) (u := .pointer none)).upd_mk (by simp)
      go_upto_region 24 with (fail)
      go_still_tail 8, (by kernel_rfl)
      still_call ((pick_any z2 3 _ hz2.1 hz2.2 (by omega) (by omega) rfl).mono fun _ _ h => (by obtain ⟨⟨jn, h1, h2, h3⟩, h4⟩ := h; exact ⟨by rw [h3, show jn = jq by have := HJZ.out; omega], h4.symm⟩))
      repeat still_step
      refine wpStill_nil ?_
      clear z2c
      go_upto_region 25 with (fail)
      first | refine absorb_wp hst ?_ | refine absorb_wp hst.drew ?_
      clear H hst hfr hce
      intro w4 H
      replace H : St w0 [] w4 (lay [.blk gx 63 ([p0.1.v, p1.1.v, p2.1.v, p0.2.v, p1.2.v, p2.2.v, l, lr, .slice At n ct, .slice Aw n cw].set jq (.pointer none)), led l r, ledR lr r, bigO slotO ([p0, p1, p2].set k (.nil, .nil)), .row 22 1 (.slice At n ct) n (tps.map Tp.v), .row 22 1 (.slice Aw n cw) n (tps.map Tp.u), bigO Tp.own tps, .blk go 67 [.int .i64 z0, .int .i64 z1, .int .i64 z2, .slice A3 n3 c3, .bool false], led (.pointer none) none, ledR (.pointer none) none, p.1.ownM, p.2.ownR, (KA.nil).ownM, (KA.nil).ownR]) := H
      have z2c := H.cell 7 rfl (o := 2) rfl
      have hfr := H.free 0 rfl (3 + jq)
      obtain ⟨u2, hu2⟩ : ∃ u, (([p0.1.v, p1.1.v, p2.1.v, p0.2.v, p1.2.v, p2.2.v, l, lr, .slice At n ct, .slice Aw n cw] : List Value).set jq (.pointer none))[3 + jq]? = some u := ⟨_, List.getElem?_eq_getElem (by simp only [List.length_set, List.length_cons, List.length_nil]; omega)⟩
      have hce := H.cell 0 rfl hu2
      clear hu2
      have hst := (H.store 0 rfl (o := 3 + jq) (u := .pointer none)).upd_mk (by simp)
      go_still_tail 8, (by kernel_rfl)
      still_call ((pick_any z2 3 _ hz2.1 hz2.2 (by omega) (by omega) rfl).mono fun _ _ h => (by obtain ⟨⟨jn, h1, h2, h3⟩, h4⟩ := h; exact ⟨by rw [h3, show jn = jq by have := HJZ.out; omega], h4.symm⟩))
      repeat still_step
      refine wpStill_nil ?_
      clear z2c
      go_wp2
      go_ret
      first | replace H := hst | replace H := hst.drew
      clear hst hfr hce
      replace H : St w0 [] _ (lay [.blk gx 63 (([p0.1.v, p1.1.v, p2.1.v, p0.2.v, p1.2.v, p2.2.v, l, lr, .slice At n ct, .slice Aw n cw].set jq (.pointer none)).set (3 + jq) (.pointer none)), led l r, ledR lr r, bigO slotO ([p0, p1, p2].set k (.nil, .nil)), .row 22 1 (.slice At n ct) n (tps.map Tp.v), .row 22 1 (.slice Aw n cw) n (tps.map Tp.u), bigO Tp.own tps, .blk go 67 [.int .i64 z0, .int .i64 z1, .int .i64 z2, .slice A3 n3 c3, .bool false], led (.pointer none) none, ledR (.pointer none) none, p.1.ownM, p.2.ownR, (KA.nil).ownM, (KA.nil).ownR]) := H
      obtain ⟨q0, q1, q2, hq, HQ⟩ := act_end2 (a := (KA.nil)) (b := (KA.nil)) HP.out hjq HSL.out HOK.out H
      first | exact ⟨q0, q1, q2, r, At, Aw, n, ct, cw, tps, rfl, hq, (hg.more (by omega) (by omega)), hrs, htn, by omega, htl, HQ⟩ | exact ⟨q0, q1, q2, r, At, Aw, n, ct, cw, tps, rfl, hq, (hg.more (by omega) (by omega)), hrs, htn, by omega, htl, HQ.drew⟩
    · rw [show KA.v (.live g x) = Value.pointer (some ⟨g, 0, none⟩) from rfl, show KA.v (.live g' x) = Value.pointer (some ⟨g', 0, none⟩) from rfl]
      have z2c := H.cell 7 rfl (o := 2) rfl
      have hfr := H.free 0 rfl jq
      obtain ⟨u1, hu1⟩ : ∃ u, ([p0.1.v, p1.1.v, p2.1.v, p0.2.v, p1.2.v, p2.2.v, l, lr, .slice At n ct, .slice Aw n cw] : List Value)[jq]? = some u := ⟨_, List.getElem?_eq_getElem (by simp only [List.length_cons, List.length_nil]; omega)⟩
      have hce := H.cell 0 rfl hu1
      clear hu1
      have hst := (H.store 0 rfl (o := jq) (u := .pointer (some ⟨g, 0, none⟩))).upd_mk (by simp)
      go_upto_region 24 with (fail)
      go_still_tail 8, (by kernel_rfl)
      still_call ((pick_any z2 3 _ hz2.1 hz2.2 (by omega) (by omega) rfl).mono fun _ _ h => (by obtain ⟨⟨jn, h1, h2, h3⟩, h4⟩ := h; exact ⟨by rw [h3, show jn = jq by have := HJZ.out; omega], h4.symm⟩))
      repeat still_step
      refine wpStill_nil ?_
      clear z2c
      go_upto_region 25 with (fail)
      first | refine absorb_wp hst ?_ | refine absorb_wp hst.drew ?_
      clear H hst hfr hce
      intro w4 H
      replace H : St w0 [] w4 (lay [.blk gx 63 ([p0.1.v, p1.1.v, p2.1.v, p0.2.v, p1.2.v, p2.2.v, l, lr, .slice At n ct, .slice Aw n cw].set jq (.pointer (some ⟨g, 0, none⟩))), led l r, ledR lr r, bigO slotO ([p0, p1, p2].set k (.nil, .nil)), .row 22 1 (.slice At n ct) n (tps.map Tp.v), .row 22 1 (.slice Aw n cw) n (tps.map Tp.u), bigO Tp.own tps, .blk go 67 [.int .i64 z0, .int .i64 z1, .int .i64 z2, .slice A3 n3 c3, .bool false], led (.pointer none) none, ledR (.pointer none) none, p.1.ownM, p.2.ownR, (KA.live g x).ownM, (KA.live g' x).ownR]) := H
      have z2c := H.cell 7 rfl (o := 2) rfl
      have hfr := H.free 0 rfl (3 + jq)
      obtain ⟨u2, hu2⟩ : ∃ u, (([p0.1.v, p1.1.v, p2.1.v, p0.2.v, p1.2.v, p2.2.v, l, lr, .slice At n ct, .slice Aw n cw] : List Value).set jq (.pointer (some ⟨g, 0, none⟩)))[3 + jq]? = some u := ⟨_, List.getElem?_eq_getElem (by simp only [List.length_set, List.length_cons, List.length_nil]; omega)⟩
      have hce := H.cell 0 rfl hu2
      clear hu2
      have hst := (H.store 0 rfl (o := 3 + jq) (u := .pointer (some ⟨g', 0, none⟩))).upd_mk (by simp)
      go_still_tail 8, (by kernel_rfl)
      still_call ((pick_any z2 3 _ hz2.1 hz2.2 (by omega) (by omega) rfl).mono fun _ _ h => (by obtain ⟨⟨jn, h1, h2, h3⟩, h4⟩ := h; exact ⟨by rw [h3, show jn = jq by have := HJZ.out; omega], h4.symm⟩))
      repeat still_step
      refine wpStill_nil ?_
      clear z2c
      go_wp2
      go_ret
      first | replace H := hst | replace H := hst.drew
      clear hst hfr hce
      replace H : St w0 [] _ (lay [.blk gx 63 (([p0.1.v, p1.1.v, p2.1.v, p0.2.v, p1.2.v, p2.2.v, l, lr, .slice At n ct, .slice Aw n cw].set jq (.pointer (some ⟨g, 0, none⟩))).set (3 + jq) (.pointer (some ⟨g', 0, none⟩))), led l r, ledR lr r, bigO slotO ([p0, p1, p2].set k (.nil, .nil)), .row 22 1 (.slice At n ct) n (tps.map Tp.v), .row 22 1 (.slice Aw n cw) n (tps.map Tp.u), bigO Tp.own tps, .blk go 67 [.int .i64 z0, .int .i64 z1, .int .i64 z2, .slice A3 n3 c3, .bool false], led (.pointer none) none, ledR (.pointer none) none, p.1.ownM, p.2.ownR, (KA.live g x).ownM, (KA.live g' x).ownR]) := H
      obtain ⟨q0, q1, q2, hq, HQ⟩ := act_end2 (a := (KA.live g x)) (b := (KA.live g' x)) HP.out hjq HSL.out HOK.out H
      first | exact ⟨q0, q1, q2, r, At, Aw, n, ct, cw, tps, rfl, hq, (hg.more (by omega) (by omega)), hrs, htn, by omega, htl, HQ⟩ | exact ⟨q0, q1, q2, r, At, Aw, n, ct, cw, tps, rfl, hq, (hg.more (by omega) (by omega)), hrs, htn, by omega, htl, HQ.drew⟩
  have hzz2 : (z1 == 2) = false := by simpa using hz2
  clear hz2
  by_cases hz3 : z1 = 3
  · have hzz : (z1 == 3) = true := by simpa using hz3
    clear hz3
    go_wp2_with fail
    have hc := smReset_any p.1 HPK.out.1 (by omega) H 10 rfl
    obtain ⟨er, Her⟩ : ∃ er, Hid (erA p.1.abs = er) := ⟨_, rfl⟩
    rw [Her.out] at hc
    refine hc.mono ?_
    clear hc
    rintro e wx ⟨a', ha', hav, rfl, H1⟩
    rw [upd_laid2 (by simp)] at H1
    clear H
    have H : St w0 [] wx (lay [.blk gx 63 [p0.1.v, p1.1.v, p2.1.v, p0.2.v, p1.2.v, p2.2.v, l, lr, .slice At n ct, .slice Aw n cw], led l r, ledR lr r, bigO slotO ([p0, p1, p2].set k (.nil, .nil)), .row 22 1 (.slice At n ct) n (tps.map Tp.v), .row 22 1 (.slice Aw n cw) n (tps.map Tp.u), bigO Tp.own tps, .blk go 67 [.int .i64 z0, .int .i64 z1, .int .i64 z2, .slice A3 n3 c3, .bool false], led (.pointer none) none, ledR (.pointer none) none, a'.ownM, p.2.ownR]) := H1
    clear H1
    go_wp2_with fail
    have hc := rmReset_any lr r p.2 (by rw [HPK.out.2]; exact HPK.out.1) (by omega) H 2 11 (by omega) rfl rfl
    rw [HPK.out.2, Her.out] at hc
    refine hc.mono ?_
    clear hc
    rintro e wx ⟨b', hb', hbv, rfl, H1⟩
    rw [upd_laid2 (by simp)] at H1
    clear H
    have H : St w0 [] wx (lay [.blk gx 63 [p0.1.v, p1.1.v, p2.1.v, p0.2.v, p1.2.v, p2.2.v, l, lr, .slice At n ct, .slice Aw n cw], led l r, ledR lr r, bigO slotO ([p0, p1, p2].set k (.nil, .nil)), .row 22 1 (.slice At n ct) n (tps.map Tp.v), .row 22 1 (.slice Aw n cw) n (tps.map Tp.u), bigO Tp.own tps, .blk go 67 [.int .i64 z0, .int .i64 z1, .int .i64 z2, .slice A3 n3 c3, .bool false], led (.pointer none) none, ledR (.pointer none) none, a'.ownM, b'.ownR]) := H1
    clear H1
    have heq : (er == er) = true := by simp
    go_wp2
    go_ret
    have hsl : SlotOk (N + 1000000) (a', b') := ⟨by rw [ha']; exact (rsA_ok HPK.out.1).more (by omega), by rw [hb', ha']⟩
    obtain ⟨q0, q1, q2, hq, HQ⟩ := act_end HP.out hav hbv hsl HOK.out H
    exact ⟨q0, q1, q2, r, At, Aw, n, ct, cw, tps, rfl, hq, (hg.more (by omega) (by omega)), hrs, htn, by omega, htl, HQ⟩
  have hzz3 : (z1 == 3) = false := by simpa using hz3
  clear hz3
  by_cases hz4 : z1 = 4
  · have hzz : (z1 == 4) = true := by simpa using hz4
    clear hz4
    go_wp2_with fail
    have hc := smWipe_any l r m b p.1 HPK.out.1 (by omega) H 1 10 (by omega) rfl rfl hg (by omega) (by omega)
    obtain ⟨er, Her⟩ : ∃ er, Hid (erA p.1.abs = er) := ⟨_, rfl⟩
    obtain ⟨r1, Hr1⟩ : ∃ r1, Hid (wiL p.1.abs r = r1) := ⟨_, rfl⟩
    rw [Her.out, Hr1.out] at hc
    refine hc.mono ?_
    clear hc
    rintro e wx ⟨a', ha', hav, rfl, H1⟩
    rw [upd_laid2 (by simp), upd_laid2 (by simp)] at H1
    clear H
    have H : St w0 [] wx (lay [.blk gx 63 [p0.1.v, p1.1.v, p2.1.v, p0.2.v, p1.2.v, p2.2.v, l, lr, .slice At n ct, .slice Aw n cw], led l r1, ledR lr r, bigO slotO ([p0, p1, p2].set k (.nil, .nil)), .row 22 1 (.slice At n ct) n (tps.map Tp.v), .row 22 1 (.slice Aw n cw) n (tps.map Tp.u), bigO Tp.own tps, .blk go 67 [.int .i64 z0, .int .i64 z1, .int .i64 z2, .slice A3 n3 c3, .bool false], led (.pointer none) none, ledR (.pointer none) none, a'.ownM, p.2.ownR]) := H1
    clear H1
    go_wp2_with fail
    have hc := rmWipe_any lr r m b p.2 (by rw [HPK.out.2]; exact HPK.out.1) (by omega) H 2 11 (by omega) rfl rfl hg (by omega) (by omega)
    rw [HPK.out.2, Her.out, Hr1.out] at hc
    refine hc.mono ?_
    clear hc
    rintro e wx ⟨b', hb', hbv, rfl, H1⟩
    rw [upd_laid2 (by simp), upd_laid2 (by simp)] at H1
    clear H
    have H : St w0 [] wx (lay [.blk gx 63 [p0.1.v, p1.1.v, p2.1.v, p0.2.v, p1.2.v, p2.2.v, l, lr, .slice At n ct, .slice Aw n cw], led l r1, ledR lr r1, bigO slotO ([p0, p1, p2].set k (.nil, .nil)), .row 22 1 (.slice At n ct) n (tps.map Tp.v), .row 22 1 (.slice Aw n cw) n (tps.map Tp.u), bigO Tp.own tps, .blk go 67 [.int .i64 z0, .int .i64 z1, .int .i64 z2, .slice A3 n3 c3, .bool false], led (.pointer none) none, ledR (.pointer none) none, a'.ownM, b'.ownR]) := H1
    clear H1
    have heq : (er == er) = true := by simp
    go_wp2
    go_ret
    have hsl : SlotOk (N + 1000000) (a', b') := ⟨by rw [ha']; exact (wiA_ok HPK.out.1).more (by omega), by rw [hb', ha']⟩
    obtain ⟨q0, q1, q2, hq, HQ⟩ := act_end HP.out hav hbv hsl HOK.out H
    exact ⟨q0, q1, q2, r1, At, Aw, n, ct, cw, tps, rfl, hq, (by rw [← Hr1.out]; exact (wiL_lw hg).more (by omega) (by omega)), (by rw [← Hr1.out]; exact wiL_some hrs), htn, by omega, htl, HQ⟩
  have hzz4 : (z1 == 4) = false := by simpa using hz4
  clear hz4
  by_cases hz5 : z1 = 5
  · have hzz : (z1 == 5) = true := by simpa using hz5
    clear hz5
    go_wp2_with fail
    have hc := smForm_any p.1 HPK.out.1 (by omega) H 10 12 rfl rfl
    have hT1 := foB_le p.1.abs
    obtain ⟨T1, HT1⟩ : ∃ T, Hid (foB p.1.abs = T) := ⟨_, rfl⟩
    rw [HT1.out] at hc hT1
    obtain ⟨la, Hla⟩ : ∃ la, Hid (T1.length = la) := ⟨_, rfl⟩
    rw [Hla.out] at hc hT1
    refine hc.mono ?_
    clear hc
    rintro e wx ⟨va, rfl, H1⟩
    clear H
    have H := H1.push_mk rfl
    clear H1
    obtain ⟨Aa, ca, rfl, -, -⟩ := row_form (H.row 12 rfl)
    replace H : St w0 [] wx (lay [.blk gx 63 [p0.1.v, p1.1.v, p2.1.v, p0.2.v, p1.2.v, p2.2.v, l, lr, .slice At n ct, .slice Aw n cw], led l r, ledR lr r, bigO slotO ([p0, p1, p2].set k (.nil, .nil)), .row 22 1 (.slice At n ct) n (tps.map Tp.v), .row 22 1 (.slice Aw n cw) n (tps.map Tp.u), bigO Tp.own tps, .blk go 67 [.int .i64 z0, .int .i64 z1, .int .i64 z2, .slice A3 n3 c3, .bool false], led (.pointer none) none, ledR (.pointer none) none, p.1.ownM, p.2.ownR, .row 5 1 (.slice Aa la ca) la (T1.map vb)]) := H
    go_wp2_with fail
    have hc := rmForm_any lr r p.2 (by rw [HPK.out.2]; exact HPK.out.1) (by omega) H 2 11 13 (by omega) rfl rfl rfl
    rw [HPK.out.2, HT1.out, Hla.out] at hc
    refine hc.mono ?_
    clear hc
    rintro e wx ⟨vd, rfl, H1⟩
    clear H
    have H := H1.push_mk rfl
    clear H1
    obtain ⟨Ab, cb, rfl, -, -⟩ := row_form (H.row 13 rfl)
    replace H : St w0 [] wx (lay [.blk gx 63 [p0.1.v, p1.1.v, p2.1.v, p0.2.v, p1.2.v, p2.2.v, l, lr, .slice At n ct, .slice Aw n cw], led l r, ledR lr r, bigO slotO ([p0, p1, p2].set k (.nil, .nil)), .row 22 1 (.slice At n ct) n (tps.map Tp.v), .row 22 1 (.slice Aw n cw) n (tps.map Tp.u), bigO Tp.own tps, .blk go 67 [.int .i64 z0, .int .i64 z1, .int .i64 z2, .slice A3 n3 c3, .bool false], led (.pointer none) none, ledR (.pointer none) none, p.1.ownM, p.2.ownR, .row 5 1 (.slice Aa la ca) la (T1.map vb), .row 5 1 (.slice Ab la cb) la (T1.map vb)]) := H
    go_wp2_with fail
    refine (shKeep_s gx _ _ _ _ _ _ _ _ _ _ _ _ _ _ _ _ _ At Aw Aa Ab n ct cw la ca cb _ _ T1 (by omega) (by omega) H).mono ?_
    rintro e w8 ⟨A6, d6, A9, d9, rfl, H1⟩
    clear H
    replace H1 : St w0 [] w8 (lay [.blk gx 63 [p0.1.v, p1.1.v, p2.1.v, p0.2.v, p1.2.v, p2.2.v, l, lr, .slice A6 (n + 1) d6, .slice A9 (n + 1) d9], led l r, ledR lr r, bigO slotO ([p0, p1, p2].set k (.nil, .nil)), .row 22 1 (.slice A6 (n + 1) d6) (n + 1) (tps.map Tp.v ++ [.slice Aa la ca]), .row 22 1 (.slice A9 (n + 1) d9) (n + 1) (tps.map Tp.u ++ [.slice Ab la cb]), bigO Tp.own tps, .blk go 67 [.int .i64 z0, .int .i64 z1, .int .i64 z2, .slice A3 n3 c3, .bool false], led (.pointer none) none, ledR (.pointer none) none, p.1.ownM, p.2.ownR, .row 5 1 (.slice Aa la ca) la (T1.map vb), .row 5 1 (.slice Ab la cb) la (T1.map vb)]) := H1
    replace H1 := (H1.shape_row 12 rfl Hla.out.symm rfl).shape_row 13 rfl Hla.out.symm rfl
    have H2 := St.join_mk (L := [.blk gx 63 [p0.1.v, p1.1.v, p2.1.v, p0.2.v, p1.2.v, p2.2.v, l, lr, .slice A6 (n + 1) d6, .slice A9 (n + 1) d9], led l r, ledR lr r, bigO slotO ([p0, p1, p2].set k (.nil, .nil)), .row 22 1 (.slice A6 (n + 1) d6) (n + 1) (tps.map Tp.v ++ [.slice Aa la ca]), .row 22 1 (.slice A9 (n + 1) d9) (n + 1) (tps.map Tp.u ++ [.slice Ab la cb]), bigO Tp.own tps, .blk go 67 [.int .i64 z0, .int .i64 z1, .int .i64 z2, .slice A3 n3 c3, .bool false], led (.pointer none) none, ledR (.pointer none) none, p.1.ownM, p.2.ownR, .row 5 1 (.slice Aa la ca) T1.length (T1.map vb)]) H1 12 rfl
    have H3 := St.tellSlot (x := ⟨.slice Aa la ca, .slice Ab la cb, T1⟩) (L0 := [.blk gx 63 [p0.1.v, p1.1.v, p2.1.v, p0.2.v, p1.2.v, p2.2.v, l, lr, .slice A6 (n + 1) d6, .slice A9 (n + 1) d9], led l r, ledR lr r, bigO slotO ([p0, p1, p2].set k (.nil, .nil)), .row 22 1 (.slice A6 (n + 1) d6) (n + 1) (tps.map Tp.v ++ [.slice Aa la ca]), .row 22 1 (.slice A9 (n + 1) d9) (n + 1) (tps.map Tp.u ++ [.slice Ab la cb]), bigO Tp.own tps, .blk go 67 [.int .i64 z0, .int .i64 z1, .int .i64 z2, .slice A3 n3 c3, .bool false], led (.pointer none) none, ledR (.pointer none) none, p.1.ownM, p.2.ownR]) H2 6 rfl
    clear H1 H2
    obtain ⟨TPS, HTPS⟩ : ∃ T, Hid (tps ++ [(⟨.slice Aa la ca, .slice Ab la cb, T1⟩ : Tp)] = T) := ⟨_, rfl⟩
    have hv1 : tps.map Tp.v ++ [.slice Aa la ca] = TPS.map Tp.v := by rw [← HTPS.out, List.map_append]; rfl
    have hv2 : tps.map Tp.u ++ [.slice Ab la cb] = TPS.map Tp.u := by rw [← HTPS.out, List.map_append]; rfl
    rw [hv1, hv2, HTPS.out] at H3
    have H : St w0 [] w8 (lay [.blk gx 63 [p0.1.v, p1.1.v, p2.1.v, p0.2.v, p1.2.v, p2.2.v, l, lr, .slice A6 (n + 1) d6, .slice A9 (n + 1) d9], led l r, ledR lr r, bigO slotO ([p0, p1, p2].set k (.nil, .nil)), .row 22 1 (.slice A6 (n + 1) d6) (n + 1) (TPS.map Tp.v), .row 22 1 (.slice A9 (n + 1) d9) (n + 1) (TPS.map Tp.u), bigO Tp.own TPS, .blk go 67 [.int .i64 z0, .int .i64 z1, .int .i64 z2, .slice A3 n3 c3, .bool false], led (.pointer none) none, ledR (.pointer none) none, p.1.ownM, p.2.ownR]) := H3
    clear H3 hv1 hv2
    have htn' : TPS.length = n + 1 := by rw [← HTPS.out, List.length_append, htn]; rfl
    have htl' : ∀ q ∈ TPS, q.l.length ≤ 65536 := by rw [← HTPS.out]; intro q hq; rcases List.mem_append.1 hq with h | h; exact htl q h; rw [List.mem_singleton.1 h]; show T1.length ≤ 65536; rw [Hla.out]; omega
    go_wp2
    go_ret
    obtain ⟨q0, q1, q2, hq, HQ⟩ := act_end HP.out rfl rfl (HPK.out.more (by omega)) HOK.out H
    exact ⟨q0, q1, q2, r, A6, A9, n + 1, d6, d9, TPS, rfl, hq, (hg.more (by omega) (by omega)), hrs, htn', by omega, htl', HQ⟩
  have hzz5 : (z1 == 5) = false := by simpa using hz5
  clear hz5
  by_cases hz6 : z1 = 6
  · have hzz : (z1 == 6) = true := by simpa using hz6
    clear hz6
    go_upto_region 34 with (fail)
    refine absorb_wp H ?_
    clear H
    intro w11 H
    replace H := H.drew
    refine wp_region_held_drew (S := fun w' : World => True) (by kernel_rfl) ?_ (fun hHeld => ?_)
    · exact trivial
    refine takeV 0 rfl (by intro w h; clear h; go_simp; try with_reducible rfl) (by kernel_rfl) (by kernel_rfl) (by kernel_rfl) (by exact fun _ _ _ h => h) (by rfl) (by assumption) ?_
    try simp only [Act.put, List.setIfInBounds_toArray, List.set_cons_zero, List.set_cons_succ]
    refine takeV 1 rfl (by intro w h; clear h; go_simp; try with_reducible rfl) (by kernel_rfl) (by kernel_rfl) (by kernel_rfl) (by exact fun _ _ _ h => h) (by rfl) (by assumption) ?_
    try simp only [Act.put, List.setIfInBounds_toArray, List.set_cons_zero, List.set_cons_succ]
    refine takeV 3 rfl (by intro w h; clear h; go_simp; try with_reducible rfl) (by kernel_rfl) (by kernel_rfl) (by kernel_rfl) (by exact fun _ _ _ h => h) (by rfl) (by assumption) ?_
    try simp only [Act.put, List.setIfInBounds_toArray, List.set_cons_zero, List.set_cons_succ]
    refine takeV 4 rfl (by intro w h; clear h; go_simp; try with_reducible rfl) (by kernel_rfl) (by kernel_rfl) (by kernel_rfl) (by exact fun _ _ _ h => h) (by rfl) (by assumption) ?_
    try simp only [Act.put, List.setIfInBounds_toArray, List.set_cons_zero, List.set_cons_succ]
    refine take_call 2 rfl (by kernel_rfl) (fun K hK => ?_)
    try go_simp
    refine (sh2New_s H 12 rfl).mono ?_
    rintro e wx ⟨ga, rfl, H1⟩
    clear H
    have H : St w0 [] wx (lay [.blk gx 63 [p0.1.v, p1.1.v, p2.1.v, p0.2.v, p1.2.v, p2.2.v, l, lr, .slice At n ct, .slice Aw n cw], led l r, ledR lr r, bigO slotO ([p0, p1, p2].set k (.nil, .nil)), .row 22 1 (.slice At n ct) n (tps.map Tp.v), .row 22 1 (.slice Aw n cw) n (tps.map Tp.u), bigO Tp.own tps, .blk go 67 [.int .i64 z0, .int .i64 z1, .int .i64 z2, .slice A3 n3 c3, .bool false], led (.pointer none) none, ledR (.pointer none) none, p.1.ownM, p.2.ownR, .blk ga 77 (sh2S [])]) := H1.push_mk rfl
    clear H1
    refine hK.out _ _ ?_ (fun hHeld => ?_)
    · exact trivial
    clear hK K
    try simp only [Act.put, List.setIfInBounds_toArray, List.set_cons_zero, List.set_cons_succ]
    unfold lptr
    refine takeV 5 rfl (by intro w h; clear h; go_simp; try with_reducible rfl) (by kernel_rfl) (by kernel_rfl) (by kernel_rfl) (by exact fun _ _ _ h => h) (by rfl) (by assumption) ?_
    try simp only [Act.put, List.setIfInBounds_toArray, List.set_cons_zero, List.set_cons_succ]
    have hfr := H.free 0 rfl (k)
    obtain ⟨u1, hu1⟩ : ∃ u, ([p0.1.v, p1.1.v, p2.1.v, p0.2.v, p1.2.v, p2.2.v, l, lr, .slice At n ct, .slice Aw n cw] : List Value)[k]? = some u := ⟨_, List.getElem?_eq_getElem (by simp only [List.length_set, List.length_cons, List.length_nil]; omega)⟩
    have hce := H.cell 0 rfl hu1
    clear hu1
    have hst := (H.store 0 rfl (o := k) (u := .pointer (some ⟨ga, 0, none⟩))).upd_mk (by simp)
    clear H
    refine take_call 6 rfl (by kernel_rfl) (fun K hK => ?_)
    go_simp
    refine hK.out _ _ ?_ (fun hHeld => ?_)
    · exact trivial
    clear hK K hfr hce
    try simp only [Act.put, List.setIfInBounds_toArray, List.set_cons_zero, List.set_cons_succ]
    refine wpAnyH_done (by kernel_rfl) ?_ _
    go_upto_region 35 with (fail)
    refine absorb_wp hst ?_
    clear hst
    intro w12 H
    replace H : St w0 [] w12 (lay [.blk gx 63 ([p0.1.v, p1.1.v, p2.1.v, p0.2.v, p1.2.v, p2.2.v, l, lr, .slice At n ct, .slice Aw n cw].set k (lptr ga)), led l r, ledR lr r, bigO slotO ([p0, p1, p2].set k (.nil, .nil)), .row 22 1 (.slice At n ct) n (tps.map Tp.v), .row 22 1 (.slice Aw n cw) n (tps.map Tp.u), bigO Tp.own tps, .blk go 67 [.int .i64 z0, .int .i64 z1, .int .i64 z2, .slice A3 n3 c3, .bool false], led (.pointer none) none, ledR (.pointer none) none, p.1.ownM, p.2.ownR, .blk ga 77 (sh2S [])]) := H
    replace H := H.drew
    refine wp_region_held_drew (S := fun w' : World => True) (by kernel_rfl) ?_ (fun hHeld => ?_)
    · exact trivial
    refine takeV 0 rfl (by intro w h; clear h; go_simp; try with_reducible rfl) (by kernel_rfl) (by kernel_rfl) (by kernel_rfl) (by exact fun _ _ _ h => h) (by rfl) (by assumption) ?_
    try simp only [Act.put, List.setIfInBounds_toArray, List.set_cons_zero, List.set_cons_succ]
    refine takeV 1 rfl (by intro w h; clear h; go_simp; try with_reducible rfl) (by kernel_rfl) (by kernel_rfl) (by kernel_rfl) (by exact fun _ _ _ h => h) (by rfl) (by assumption) ?_
    try simp only [Act.put, List.setIfInBounds_toArray, List.set_cons_zero, List.set_cons_succ]
    refine takeV 3 rfl (by intro w h; clear h; go_simp; try with_reducible rfl) (by kernel_rfl) (by kernel_rfl) (by kernel_rfl) (by exact fun _ _ _ h => h) (by rfl) (by assumption) ?_
    try simp only [Act.put, List.setIfInBounds_toArray, List.set_cons_zero, List.set_cons_succ]
    refine takeV 4 rfl (by intro w h; clear h; go_simp; try with_reducible rfl) (by kernel_rfl) (by kernel_rfl) (by kernel_rfl) (by exact fun _ _ _ h => h) (by rfl) (by assumption) ?_
    try simp only [Act.put, List.setIfInBounds_toArray, List.set_cons_zero, List.set_cons_succ]
    refine take_call 2 rfl (by kernel_rfl) (fun K hK => ?_)
    try go_simp
    refine (rtNew_s H 13 14 rfl rfl (by omega)).mono ?_
    rintro e wx ⟨gb, rfl, H1⟩
    rw [upd_push (by simp), upd_push (by simp)] at H1
    clear H
    have H : St w0 [] wx (lay [.blk gx 63 ([p0.1.v, p1.1.v, p2.1.v, p0.2.v, p1.2.v, p2.2.v, l, lr, .slice At n ct, .slice Aw n cw].set k (lptr ga)), led l r, ledR lr r, bigO slotO ([p0, p1, p2].set k (.nil, .nil)), .row 22 1 (.slice At n ct) n (tps.map Tp.v), .row 22 1 (.slice Aw n cw) n (tps.map Tp.u), bigO Tp.own tps, .blk go 67 [.int .i64 z0, .int .i64 z1, .int .i64 z2, .slice A3 n3 c3, .bool false], led (.pointer none) none, ledR (.pointer none) none, p.1.ownM, p.2.ownR, .blk ga 77 (sh2S []), .blk gb 90 [.slice none 0 0, .bool true], .row 5 1 (.slice none 0 0) 0 (([] : List UInt8).map vb)]) := H1
    clear H1
    refine hK.out _ _ ?_ (fun hHeld => ?_)
    · exact trivial
    clear hK K
    try simp only [Act.put, List.setIfInBounds_toArray, List.set_cons_zero, List.set_cons_succ]
    unfold lptr
    refine takeV 5 rfl (by intro w h; clear h; go_simp; try with_reducible rfl) (by kernel_rfl) (by kernel_rfl) (by kernel_rfl) (by exact fun _ _ _ h => h) (by rfl) (by assumption) ?_
    try simp only [Act.put, List.setIfInBounds_toArray, List.set_cons_zero, List.set_cons_succ]
    have hfr := H.free 0 rfl (3 + k)
    obtain ⟨u1, hu1⟩ : ∃ u, (([p0.1.v, p1.1.v, p2.1.v, p0.2.v, p1.2.v, p2.2.v, l, lr, .slice At n ct, .slice Aw n cw].set k (lptr ga)) : List Value)[3 + k]? = some u := ⟨_, List.getElem?_eq_getElem (by simp only [List.length_set, List.length_cons, List.length_nil]; omega)⟩
    have hce := H.cell 0 rfl hu1
    clear hu1
    have hst := (H.store 0 rfl (o := 3 + k) (u := .pointer (some ⟨gb, 0, none⟩))).upd_mk (by simp)
    clear H
    refine take_call 6 rfl (by kernel_rfl) (fun K hK => ?_)
    go_simp
    refine hK.out _ _ ?_ (fun hHeld => ?_)
    · exact trivial
    clear hK K hfr hce
    try simp only [Act.put, List.setIfInBounds_toArray, List.set_cons_zero, List.set_cons_succ]
    refine wpAnyH_done (by kernel_rfl) ?_ _
    go_upto_region 36 with (fail)
    refine absorb_wp hst ?_
    clear hst
    intro w13 H
    replace H : St w0 [] w13 (lay [.blk gx 63 (([p0.1.v, p1.1.v, p2.1.v, p0.2.v, p1.2.v, p2.2.v, l, lr, .slice At n ct, .slice Aw n cw].set k (lptr ga)).set (3 + k) (lptr gb)), led l r, ledR lr r, bigO slotO ([p0, p1, p2].set k (.nil, .nil)), .row 22 1 (.slice At n ct) n (tps.map Tp.v), .row 22 1 (.slice Aw n cw) n (tps.map Tp.u), bigO Tp.own tps, .blk go 67 [.int .i64 z0, .int .i64 z1, .int .i64 z2, .slice A3 n3 c3, .bool false], led (.pointer none) none, ledR (.pointer none) none, p.1.ownM, p.2.ownR, .blk ga 77 (sh2S []), .blk gb 90 [.slice none 0 0, .bool true], .row 5 1 (.slice none 0 0) 0 (([] : List UInt8).map vb)]) := H
    have hck : ((([p0.1.v, p1.1.v, p2.1.v, p0.2.v, p1.2.v, p2.2.v, l, lr, .slice At n ct, .slice Aw n cw].set k (lptr ga)).set (3 + k) (lptr gb)) : List Value)[k]? = some (lptr ga) := by rw [List.getElem?_set_ne (by omega), List.getElem?_set_self (by simp only [List.length_cons, List.length_nil]; omega)]
    have hcell := H.cell 0 rfl hck
    clear hck
    unfold lptr at hcell
    go_wp2
    go_ret
    clear hcell
    have H5 := St.join_mk (L := [.blk gx 63 (([p0.1.v, p1.1.v, p2.1.v, p0.2.v, p1.2.v, p2.2.v, l, lr, .slice At n ct, .slice Aw n cw].set k (lptr ga)).set (3 + k) (lptr gb)), led l r, ledR lr r, bigO slotO ([p0, p1, p2].set k (.nil, .nil)), .row 22 1 (.slice At n ct) n (tps.map Tp.v), .row 22 1 (.slice Aw n cw) n (tps.map Tp.u), bigO Tp.own tps, .blk go 67 [.int .i64 z0, .int .i64 z1, .int .i64 z2, .slice A3 n3 c3, .bool false], led (.pointer none) none, ledR (.pointer none) none, p.1.ownM, p.2.ownR, .blk ga 77 (sh2S []), .blk gb 90 [.slice none 0 0, .bool true]]) H 13 rfl
    have H6 := (H5.shutEx (A := rtP gb []) (none, 0) 13 rfl).upd_mk (by simp)
    have H7 : St w0 [] _ (lay [.blk gx 63 (([p0.1.v, p1.1.v, p2.1.v, p0.2.v, p1.2.v, p2.2.v, l, lr, .slice At n ct, .slice Aw n cw].set k (lptr ga)).set (3 + k) (lptr gb)), led l r, ledR lr r, bigO slotO ([p0, p1, p2].set k (.nil, .nil)), .row 22 1 (.slice At n ct) n (tps.map Tp.v), .row 22 1 (.slice Aw n cw) n (tps.map Tp.u), bigO Tp.own tps, .blk go 67 [.int .i64 z0, .int .i64 z1, .int .i64 z2, .slice A3 n3 c3, .bool false], led (.pointer none) none, ledR (.pointer none) none, p.1.ownM, p.2.ownR, (KA.live ga []).ownM, (KA.live gb []).ownR]) := H6
    have hsl : SlotOk (N + 1000000) (KA.live ga [], KA.live gb []) := ⟨newA_ok _, rfl⟩
    obtain ⟨q0, q1, q2, hq, HQ⟩ := act_end3 hk hsl HOK.out H7
    exact ⟨q0, q1, q2, r, At, Aw, n, ct, cw, tps, rfl, hq, (hg.more (by omega) (by omega)), hrs, htn, by omega, htl, HQ⟩
  have hzz6 : (z1 == 6) = false := by simpa using hz6
  clear hz6
  go_wp2_with fail
  refine (smLen_any p.1 H 10 rfl).mono ?_
  rintro e wx ⟨rfl, rfl⟩
  go_wp2_with fail
  have hc := rmLen_any lr r p.2 H 2 11 (by omega) rfl rfl
  rw [HPK.out.2] at hc
  refine hc.mono ?_
  clear hc
  rintro e wx ⟨rfl, rfl⟩
  obtain ⟨er, Her⟩ : ∃ er, Hid (leA p.1.abs = er) := ⟨_, rfl⟩
  rw [Her.out]
  have heq : (er == er) = true := by simp
  go_wp2
  go_ret
  obtain ⟨q0, q1, q2, hq, HQ⟩ := act_end HP.out rfl rfl (HPK.out.more (by omega)) HOK.out H
  exact ⟨q0, q1, q2, r, At, Aw, n, ct, cw, tps, rfl, hq, (hg.more (by omega) (by omega)), hrs, htn, by omega, htl, HQ⟩

set_option maxHeartbeats 16000000 in
theorem shAct_t (gx : Nat) (l lr : Value) (r : Option (List RunT)) (N m : Nat) (b : Int) (p0 p1 p2 : KA × KA) (At Aw : Option Addr) (n ct cw : Nat) (tps : List Tp) (z0 z1 z2 : Int) (A3 : Option Addr) (n3 c3 : Nat) (l3 : List UInt8)
    (hok : SlotOk N p0 ∧ SlotOk N p1 ∧ SlotOk N p2) (hN : N ≤ 100000000) (hg : LW r m b) (hm : m ≤ 10000) (hb : b ≤ 10000000000000000) (hrs : ∃ rs, r = some rs) (htn : tps.length = n) (hn : n ≤ 900) (htl : ∀ q ∈ tps, q.l.length ≤ 65536)
    (hz0 : -9223372036854775808 ≤ z0 ∧ z0 ≤ 9223372036854775807) (hz2 : -9223372036854775808 ≤ z2 ∧ z2 ≤ 9223372036854775807) (hR : Rd w0 1 A3 n3 (l3.map vb)) (hn3 : n3 ≤ 1000000) (hc3 : n3 ≤ c3)
    (H : St w0 [] w (lay [.blk gx 63 [p0.1.v, p1.1.v, p2.1.v, p0.2.v, p1.2.v, p2.2.v, l, lr, .slice At n ct, .slice Aw n cw], led l r, ledR lr r, bigO slotO [p0, p1, p2], .row 22 1 (.slice At n ct) n (tps.map Tp.v), .row 22 1 (.slice Aw n cw) n (tps.map Tp.u), bigO Tp.own tps])) :
    Calls Try.prog 30 #[lptr gx, .agg #[.int .i64 z0, .int .i64 z1, .int .i64 z2, .slice A3 n3 c3, .bool true]] w (ActPost gx l lr N m b n w0) := by
  have hl3 : l3.length = n3 := by simpa using hR.1
  have HL3 := Lib.hid hl3
  clear hl3
  unfold lptr
  go_enter Try.func30, Try.ntmps30
  go_wp2_with fail
  refine absorb_calls (H.allocAt 7 rfl w.heap.size rfl _ _ |>.push_mk rfl |>.ledNil 8 rfl |>.push_mk rfl |>.ledRNil 9 rfl |>.push_mk rfl) ?_
  clear H
  intro w1 H
  generalize w.heap.size = go at H ⊢
  refine (pick_any z0 3 _ hz0.1 hz0.2 (by omega) (by omega) rfl).mono ?_
  rintro e wx ⟨⟨k, hk, -, rfl⟩, rfl⟩
  obtain ⟨p, hp⟩ : ∃ p, [p0, p1, p2][k]? = some p := ⟨_, List.getElem?_eq_getElem (by simpa using hk)⟩
  have hpk : SlotOk N p := by
    have := List.mem_of_getElem? hp
    simp only [List.mem_cons, List.not_mem_nil, or_false] at this
    rcases this with rfl | rfl | rfl
    · exact hok.1
    · exact hok.2.1
    · exact hok.2.2
  replace hok : SlotOk (N + 1000000) p0 ∧ SlotOk (N + 1000000) p1 ∧ SlotOk (N + 1000000) p2 := ⟨hok.1.more (by omega), hok.2.1.more (by omega), hok.2.2.more (by omega)⟩
  obtain ⟨-, g1, g2⟩ := three_get hp l lr (.slice At n ct) (.slice Aw n cw)
  have c1 := H.cell 0 rfl g1
  have c2 := H.cell 0 rfl g2
  have c6 := H.cell 0 rfl (o := 6) rfl
  have c7 := H.cell 0 rfl (o := 7) rfl
  have ca1 := H.cell 7 rfl (o := 1) rfl
  have ca6 := H.cell 7 rfl (o := 4) rfl
  replace H := H.takeSlot (f := slotO) (e := (.nil, .nil)) (fun w => ⟨[], [], rfl, rfl, rfl, by simp⟩) 3 k rfl hp
  replace H := H.part_mk 10 rfl
  replace H : St w0 [] w1 (lay [.blk gx 63 [p0.1.v, p1.1.v, p2.1.v, p0.2.v, p1.2.v, p2.2.v, l, lr, .slice At n ct, .slice Aw n cw], led l r, ledR lr r, bigO slotO ([p0, p1, p2].set k (.nil, .nil)), .row 22 1 (.slice At n ct) n (tps.map Tp.v), .row 22 1 (.slice Aw n cw) n (tps.map Tp.u), bigO Tp.own tps, .blk go 67 [.int .i64 z0, .int .i64 z1, .int .i64 z2, .slice A3 n3 c3, .bool true], led (.pointer none) none, ledR (.pointer none) none, p.1.ownM, p.2.ownR]) := H
  have HP := Lib.hid hp
  have HPK := Lib.hid hpk
  have HOK := Lib.hid hok
  clear hp hpk hok g1 g2
  have hki : (k : Int) < 3 := by omega
  by_cases hz0 : z1 = 0
  · have hzz : (z1 == 0) = true := by simpa using hz0
    clear hz0
    have y3 := H.cell 7 rfl (o := 3) rfl
    go_wp2_with fail
    refine (lent_st A3 n3 c3 l3 H (H.arg0 hR) (by omega)).mono ?_
    rintro e w2 ⟨fk, tk, htk, rfl, H1⟩
    clear y3
    replace H : St w0 [] w2 (lay [.blk gx 63 [p0.1.v, p1.1.v, p2.1.v, p0.2.v, p1.2.v, p2.2.v, l, lr, .slice At n ct, .slice Aw n cw], led l r, ledR lr r, bigO slotO ([p0, p1, p2].set k (.nil, .nil)), .row 22 1 (.slice At n ct) n (tps.map Tp.v), .row 22 1 (.slice Aw n cw) n (tps.map Tp.u), bigO Tp.own tps, .blk go 67 [.int .i64 z0, .int .i64 z1, .int .i64 z2, .slice A3 n3 c3, .bool true], led (.pointer none) none, ledR (.pointer none) none, p.1.ownM, p.2.ownR, .row 5 1 (.slice (some ⟨fk, 0, none⟩) (n3 + 6) tk) (n3 + 6) ((l3 ++ marksB 7 0 6).map vb)]) := H1
    clear H1
    have b1 : (n3 : Int) ≤ tk := by omega
    have b2 : n3 ≤ tk := by omega
    have y3 := H.cell 7 rfl (o := 3) rfl
    go_wp2_with fail
    have hc := smWrite_any (.pointer none) none m b p.1 HPK.out.1 (by omega) (some ⟨fk, 0, none⟩) n3 tk l3 H 8 10 (by omega) rfl rfl (LW.none m b) (by omega) (by omega) (fun w' X Y h => Rd.frontB (h.rd 12 rfl) HL3.out (by omega)) b2 (by omega)
    obtain ⟨er, Her⟩ : ∃ er, Hid (erA p.1.abs = er) := ⟨_, rfl⟩
    obtain ⟨r1, Hr1⟩ : ∃ r1, Hid (wrL p.1.abs none n3 = r1) := ⟨_, rfl⟩
    rw [Her.out, Hr1.out] at hc
    refine hc.mono ?_
    clear hc y3
    rintro e wx ⟨a', ha', hav, rfl, H1⟩
    rw [upd_laid2 (by simp), upd_laid2 (by simp)] at H1
    clear H
    have H : St w0 [] wx (lay [.blk gx 63 [p0.1.v, p1.1.v, p2.1.v, p0.2.v, p1.2.v, p2.2.v, l, lr, .slice At n ct, .slice Aw n cw], led l r, ledR lr r, bigO slotO ([p0, p1, p2].set k (.nil, .nil)), .row 22 1 (.slice At n ct) n (tps.map Tp.v), .row 22 1 (.slice Aw n cw) n (tps.map Tp.u), bigO Tp.own tps, .blk go 67 [.int .i64 z0, .int .i64 z1, .int .i64 z2, .slice A3 n3 c3, .bool true], led (.pointer none) r1, ledR (.pointer none) none, a'.ownM, p.2.ownR, .row 5 1 (.slice (some ⟨fk, 0, none⟩) (n3 + 6) tk) (n3 + 6) ((l3 ++ marksB 7 0 6).map vb)]) := H1
    clear H1
    have y3 := H.cell 7 rfl (o := 3) rfl
    go_wp2_with fail
    have hc := rmWrite_any (.pointer none) none m b p.2 (by rw [HPK.out.2]; exact HPK.out.1) (by omega) A3 n3 c3 l3 H 9 11 (by omega) rfl rfl (LW.none m b) (by omega) (by omega) (fun w' X Y h => h.arg0 hR) hc3 (by omega)
    rw [HPK.out.2, Her.out, Hr1.out] at hc
    refine hc.mono ?_
    clear hc y3
    rintro e wx ⟨b', hb', hbv, rfl, H1⟩
    rw [upd_laid2 (by simp), upd_laid2 (by simp)] at H1
    clear H
    have H : St w0 [] wx (lay [.blk gx 63 [p0.1.v, p1.1.v, p2.1.v, p0.2.v, p1.2.v, p2.2.v, l, lr, .slice At n ct, .slice Aw n cw], led l r, ledR lr r, bigO slotO ([p0, p1, p2].set k (.nil, .nil)), .row 22 1 (.slice At n ct) n (tps.map Tp.v), .row 22 1 (.slice Aw n cw) n (tps.map Tp.u), bigO Tp.own tps, .blk go 67 [.int .i64 z0, .int .i64 z1, .int .i64 z2, .slice A3 n3 c3, .bool true], led (.pointer none) r1, ledR (.pointer none) r1, a'.ownM, b'.ownR, .row 5 1 (.slice (some ⟨fk, 0, none⟩) (n3 + 6) tk) (n3 + 6) ((l3 ++ marksB 7 0 6).map vb)]) := H1
    clear H1
    have y3 := H.cell 7 rfl (o := 3) rfl
    go_wp2_with fail
    refine (keptBytes_yes (some ⟨fk, 0, none⟩) A3 (n3 + 6) n3 tk c3 (l3 ++ marksB 7 0 6) l3 _ (H.rd 12 rfl) (H.arg0 hR) (by omega) (by omega) rfl).mono ?_
    rintro e w5 ⟨rfl, hb5⟩
    replace H := H.call hb5
    clear hb5 y3
    go_wp2_with fail
    refine (over_st H 12 rfl (by omega)).mono ?_
    rintro e w6 ⟨rfl, H1⟩
    rw [upd_laid2 (by simp)] at H1
    replace H := H1.front 12
    clear H1
    replace H : St w0 [] w6 (lay [.blk gx 63 [p0.1.v, p1.1.v, p2.1.v, p0.2.v, p1.2.v, p2.2.v, l, lr, .slice At n ct, .slice Aw n cw], led l r, ledR lr r, bigO slotO ([p0, p1, p2].set k (.nil, .nil)), .row 22 1 (.slice At n ct) n (tps.map Tp.v), .row 22 1 (.slice Aw n cw) n (tps.map Tp.u), bigO Tp.own tps, .blk go 67 [.int .i64 z0, .int .i64 z1, .int .i64 z2, .slice A3 n3 c3, .bool true], led (.pointer none) r1, ledR (.pointer none) r1, a'.ownM, b'.ownR]) := H
    have heq : (er == er) = true := by simp
    go_wp2
    go_ret
    have hsl : SlotOk (N + 1000000) (a', b') := ⟨by rw [ha']; exact wrA_ok HPK.out.1 l3 (by rw [HL3.out]; omega), by rw [hb', ha']⟩
    obtain ⟨q0, q1, q2, hq, HQ⟩ := act_end HP.out hav hbv hsl HOK.out H
    exact ⟨q0, q1, q2, r, At, Aw, n, ct, cw, tps, rfl, hq, (hg.more (by omega) (by omega)), hrs, htn, by omega, htl, HQ⟩
  have hzz0 : (z1 == 0) = false := by simpa using hz0
  clear hz0
  by_cases hz1 : z1 = 1
  · have hzz : (z1 == 1) = true := by simpa using hz1
    clear hz1
    go_wp2_with fail
    have hc := smSum_any (.pointer none) none m b p.1 HPK.out.1 (by omega) H 8 10 12 (by omega) rfl rfl rfl (LW.none m b) (by omega) (by omega)
    obtain ⟨er, Her⟩ : ∃ er, Hid (erA p.1.abs = er) := ⟨_, rfl⟩
    obtain ⟨r1, Hr1⟩ : ∃ r1, Hid (suL p.1.abs none = r1) := ⟨_, rfl⟩
    have hT1 := suB_le p.1.abs
    obtain ⟨T1, HT1⟩ : ∃ T, Hid (suB p.1.abs = T) := ⟨_, rfl⟩
    rw [HT1.out] at hT1
    rw [Her.out, Hr1.out, HT1.out] at hc
    obtain ⟨la, Hla⟩ : ∃ la, Hid (T1.length = la) := ⟨_, rfl⟩
    rw [Hla.out] at hc hT1
    refine hc.mono ?_
    clear hc
    rintro e wx ⟨va, rfl, H1⟩
    rw [upd_laid2 (by simp), upd_laid2 (by simp)] at H1
    clear H
    have H := H1.push_mk rfl
    clear H1
    obtain ⟨Aa, ca, rfl, -, -⟩ := row_form (H.row 12 rfl)
    replace H : St w0 [] wx (lay [.blk gx 63 [p0.1.v, p1.1.v, p2.1.v, p0.2.v, p1.2.v, p2.2.v, l, lr, .slice At n ct, .slice Aw n cw], led l r, ledR lr r, bigO slotO ([p0, p1, p2].set k (.nil, .nil)), .row 22 1 (.slice At n ct) n (tps.map Tp.v), .row 22 1 (.slice Aw n cw) n (tps.map Tp.u), bigO Tp.own tps, .blk go 67 [.int .i64 z0, .int .i64 z1, .int .i64 z2, .slice A3 n3 c3, .bool true], led (.pointer none) r1, ledR (.pointer none) none, p.1.ownM, p.2.ownR, .row 5 1 (.slice Aa la ca) la (T1.map vb)]) := H
    go_wp2_with fail
    have hc := rmSum_any (.pointer none) none m b p.2 (by rw [HPK.out.2]; exact HPK.out.1) (by omega) H 9 11 13 (by omega) rfl rfl rfl (LW.none m b) (by omega) (by omega)
    rw [HPK.out.2, Her.out, Hr1.out, HT1.out, Hla.out] at hc
    refine hc.mono ?_
    clear hc
    rintro e wx ⟨vd, rfl, H1⟩
    rw [upd_laid2 (by simp), upd_laid2 (by simp)] at H1
    clear H
    have H := H1.push_mk rfl
    clear H1
    obtain ⟨Ab, cb, rfl, -, -⟩ := row_form (H.row 13 rfl)
    replace H : St w0 [] wx (lay [.blk gx 63 [p0.1.v, p1.1.v, p2.1.v, p0.2.v, p1.2.v, p2.2.v, l, lr, .slice At n ct, .slice Aw n cw], led l r, ledR lr r, bigO slotO ([p0, p1, p2].set k (.nil, .nil)), .row 22 1 (.slice At n ct) n (tps.map Tp.v), .row 22 1 (.slice Aw n cw) n (tps.map Tp.u), bigO Tp.own tps, .blk go 67 [.int .i64 z0, .int .i64 z1, .int .i64 z2, .slice A3 n3 c3, .bool true], led (.pointer none) r1, ledR (.pointer none) r1, p.1.ownM, p.2.ownR, .row 5 1 (.slice Aa la ca) la (T1.map vb), .row 5 1 (.slice Ab la cb) la (T1.map vb)]) := H
    have heq : (er == er) = true := by simp
    go_wp2_with fail
    refine (shKeep_s gx _ _ _ _ _ _ _ _ _ _ _ _ _ _ _ _ _ At Aw Aa Ab n ct cw la ca cb _ _ T1 (by omega) (by omega) H).mono ?_
    rintro e w8 ⟨A6, d6, A9, d9, rfl, H1⟩
    clear H
    replace H1 : St w0 [] w8 (lay [.blk gx 63 [p0.1.v, p1.1.v, p2.1.v, p0.2.v, p1.2.v, p2.2.v, l, lr, .slice A6 (n + 1) d6, .slice A9 (n + 1) d9], led l r, ledR lr r, bigO slotO ([p0, p1, p2].set k (.nil, .nil)), .row 22 1 (.slice A6 (n + 1) d6) (n + 1) (tps.map Tp.v ++ [.slice Aa la ca]), .row 22 1 (.slice A9 (n + 1) d9) (n + 1) (tps.map Tp.u ++ [.slice Ab la cb]), bigO Tp.own tps, .blk go 67 [.int .i64 z0, .int .i64 z1, .int .i64 z2, .slice A3 n3 c3, .bool true], led (.pointer none) r1, ledR (.pointer none) r1, p.1.ownM, p.2.ownR, .row 5 1 (.slice Aa la ca) la (T1.map vb), .row 5 1 (.slice Ab la cb) la (T1.map vb)]) := H1
    replace H1 := (H1.shape_row 12 rfl Hla.out.symm rfl).shape_row 13 rfl Hla.out.symm rfl
    have H2 := St.join_mk (L := [.blk gx 63 [p0.1.v, p1.1.v, p2.1.v, p0.2.v, p1.2.v, p2.2.v, l, lr, .slice A6 (n + 1) d6, .slice A9 (n + 1) d9], led l r, ledR lr r, bigO slotO ([p0, p1, p2].set k (.nil, .nil)), .row 22 1 (.slice A6 (n + 1) d6) (n + 1) (tps.map Tp.v ++ [.slice Aa la ca]), .row 22 1 (.slice A9 (n + 1) d9) (n + 1) (tps.map Tp.u ++ [.slice Ab la cb]), bigO Tp.own tps, .blk go 67 [.int .i64 z0, .int .i64 z1, .int .i64 z2, .slice A3 n3 c3, .bool true], led (.pointer none) r1, ledR (.pointer none) r1, p.1.ownM, p.2.ownR, .row 5 1 (.slice Aa la ca) T1.length (T1.map vb)]) H1 12 rfl
    have H3 := St.tellSlot (x := ⟨.slice Aa la ca, .slice Ab la cb, T1⟩) (L0 := [.blk gx 63 [p0.1.v, p1.1.v, p2.1.v, p0.2.v, p1.2.v, p2.2.v, l, lr, .slice A6 (n + 1) d6, .slice A9 (n + 1) d9], led l r, ledR lr r, bigO slotO ([p0, p1, p2].set k (.nil, .nil)), .row 22 1 (.slice A6 (n + 1) d6) (n + 1) (tps.map Tp.v ++ [.slice Aa la ca]), .row 22 1 (.slice A9 (n + 1) d9) (n + 1) (tps.map Tp.u ++ [.slice Ab la cb]), bigO Tp.own tps, .blk go 67 [.int .i64 z0, .int .i64 z1, .int .i64 z2, .slice A3 n3 c3, .bool true], led (.pointer none) r1, ledR (.pointer none) r1, p.1.ownM, p.2.ownR]) H2 6 rfl
    clear H1 H2
    obtain ⟨TPS, HTPS⟩ : ∃ T, Hid (tps ++ [(⟨.slice Aa la ca, .slice Ab la cb, T1⟩ : Tp)] = T) := ⟨_, rfl⟩
    have hv1 : tps.map Tp.v ++ [.slice Aa la ca] = TPS.map Tp.v := by rw [← HTPS.out, List.map_append]; rfl
    have hv2 : tps.map Tp.u ++ [.slice Ab la cb] = TPS.map Tp.u := by rw [← HTPS.out, List.map_append]; rfl
    rw [hv1, hv2, HTPS.out] at H3
    have H : St w0 [] w8 (lay [.blk gx 63 [p0.1.v, p1.1.v, p2.1.v, p0.2.v, p1.2.v, p2.2.v, l, lr, .slice A6 (n + 1) d6, .slice A9 (n + 1) d9], led l r, ledR lr r, bigO slotO ([p0, p1, p2].set k (.nil, .nil)), .row 22 1 (.slice A6 (n + 1) d6) (n + 1) (TPS.map Tp.v), .row 22 1 (.slice A9 (n + 1) d9) (n + 1) (TPS.map Tp.u), bigO Tp.own TPS, .blk go 67 [.int .i64 z0, .int .i64 z1, .int .i64 z2, .slice A3 n3 c3, .bool true], led (.pointer none) r1, ledR (.pointer none) r1, p.1.ownM, p.2.ownR]) := H3
    clear H3 hv1 hv2
    have htn' : TPS.length = n + 1 := by rw [← HTPS.out, List.length_append, htn]; rfl
    have htl' : ∀ q ∈ TPS, q.l.length ≤ 65536 := by rw [← HTPS.out]; intro q hq; rcases List.mem_append.1 hq with h | h; exact htl q h; rw [List.mem_singleton.1 h]; show T1.length ≤ 65536; rw [Hla.out]; omega
    go_wp2
    go_ret
    obtain ⟨q0, q1, q2, hq, HQ⟩ := act_end HP.out rfl rfl (HPK.out.more (by omega)) HOK.out H
    exact ⟨q0, q1, q2, r, A6, A9, n + 1, d6, d9, TPS, rfl, hq, (hg.more (by omega) (by omega)), hrs, htn', by omega, htl', HQ⟩
  have hzz1 : (z1 == 1) = false := by simpa using hz1
  clear hz1
  by_cases hz2 : z1 = 2
  · have hzz : (z1 == 2) = true := by simpa using hz2
    clear hz2
    go_wp2_with fail
    have hc := smClone_any p.1 HPK.out.1 (by omega) H 10 12 rfl rfl
    obtain ⟨er, Her⟩ : ∃ er, Hid (erA p.1.abs = er) := ⟨_, rfl⟩
    rw [Her.out] at hc
    refine hc.mono ?_
    clear hc
    rintro e w2 ⟨a', ha', rfl, H1⟩
    clear H
    have H : St w0 [] w2 (lay [.blk gx 63 [p0.1.v, p1.1.v, p2.1.v, p0.2.v, p1.2.v, p2.2.v, l, lr, .slice At n ct, .slice Aw n cw], led l r, ledR lr r, bigO slotO ([p0, p1, p2].set k (.nil, .nil)), .row 22 1 (.slice At n ct) n (tps.map Tp.v), .row 22 1 (.slice Aw n cw) n (tps.map Tp.u), bigO Tp.own tps, .blk go 67 [.int .i64 z0, .int .i64 z1, .int .i64 z2, .slice A3 n3 c3, .bool true], led (.pointer none) none, ledR (.pointer none) none, p.1.ownM, p.2.ownR, a'.ownM]) := H1.push_mk rfl
    clear H1
    go_wp2_with fail
    have hc := rmClone_any (.pointer none) none p.2 (by rw [HPK.out.2]; exact HPK.out.1) (by omega) H 9 11 13 (by omega) rfl rfl rfl
    rw [HPK.out.2, Her.out] at hc
    refine hc.mono ?_
    clear hc
    rintro e w2 ⟨b', hb', rfl, H1⟩
    clear H
    have H : St w0 [] w2 (lay [.blk gx 63 [p0.1.v, p1.1.v, p2.1.v, p0.2.v, p1.2.v, p2.2.v, l, lr, .slice At n ct, .slice Aw n cw], led l r, ledR lr r, bigO slotO ([p0, p1, p2].set k (.nil, .nil)), .row 22 1 (.slice At n ct) n (tps.map Tp.v), .row 22 1 (.slice Aw n cw) n (tps.map Tp.u), bigO Tp.own tps, .blk go 67 [.int .i64 z0, .int .i64 z1, .int .i64 z2, .slice A3 n3 c3, .bool true], led (.pointer none) none, ledR (.pointer none) none, p.1.ownM, p.2.ownR, a'.ownM, b'.ownR]) := H1.push_mk rfl
    clear H1
    have heq : (er == er) = true := by simp
    have hsl : SlotOk (N + 1000000) (a', b') := ⟨by rw [ha']; exact (clA_ok HPK.out.1).more (by omega), by rw [hb', ha']⟩
    have HSL := Lib.hid hsl
    clear hsl
    obtain ⟨jq, hjq, hjz⟩ : ∃ j : Nat, j < 3 ∧ (j : Int) = z2 % (3 : Int) := ⟨(z2 % 3).toNat, by omega, by omega⟩
    have hji : (jq : Int) < 3 := by omega
    have HJZ := Lib.hid hjz
    clear hjz
    rcases KA.kind ha' hb' with ⟨rfl, rfl⟩ | ⟨g, g', x, rfl, rfl⟩
    · rw [show KA.v .nil = Value.pointer none from rfl]
      have z2c := H.cell 7 rfl (o := 2) rfl
      have hfr := H.free 0 rfl jq
      obtain ⟨u1, hu1⟩ : ∃ u, ([p0.1.v, p1.1.v, p2.1.v, p0.2.v, p1.2.v, p2.2.v, l, lr, .slice At n ct, .slice Aw n cw] : List Value)[jq]? = some u := ⟨_, List.getElem?_eq_getElem (by simp only [List.length_cons, List.length_nil]; omega)⟩
      have hce := H.cell 0 rfl hu1
      clear hu1
      have hst := (H.store 0 rfl (o := jq) (u := .pointer none)).upd_mk (by simp)
      go_upto_region 24 with (fail)
      go_still_tail 8, (by kernel_rfl)
      still_call ((pick_any z2 3 _ hz2.1 hz2.2 (by omega) (by omega) rfl).mono fun _ _ h => (by obtain ⟨⟨jn, h1, h2, h3⟩, h4⟩ := h; exact ⟨by rw [h3, show jn = jq by have := HJZ.out; omega], h4.symm⟩))
      repeat still_step
      refine wpStill_nil ?_
      clear z2c
      go_upto_region 25 with (fail)
      first | refine absorb_wp hst ?_ | refine absorb_wp hst.drew ?_
      clear H hst hfr hce
      intro w4 H
      replace H : St w0 [] w4 (lay [.blk gx 63 ([p0.1.v, p1.1.v, p2.1.v, p0.2.v, p1.2.v, p2.2.v, l, lr, .slice At n ct, .slice Aw n cw].set jq (.pointer none)), led l r, ledR lr r, bigO slotO ([p0, p1, p2].set k (.nil, .nil)), .row 22 1 (.slice At n ct) n (tps.map Tp.v), .row 22 1 (.slice Aw n cw) n (tps.map Tp.u), bigO Tp.own tps, .blk go 67 [.int .i64 z0, .int .i64 z1, .int .i64 z2, .slice A3 n3 c3, .bool true], led (.pointer none) none, ledR (.pointer none) none, p.1.ownM, p.2.ownR, (KA.nil).ownM, (KA.nil).ownR]) := H
      have z2c := H.cell 7 rfl (o := 2) rfl
      have hfr := H.free 0 rfl (3 + jq)
      obtain ⟨u2, hu2⟩ : ∃ u, (([p0.1.v, p1.1.v, p2.1.v, p0.2.v, p1.2.v, p2.2.v, l, lr, .slice At n ct, .slice Aw n cw] : List Value).set jq (.pointer none))[3 + jq]? = some u := ⟨_, List.getElem?_eq_getElem (by simp only [List.length_set, List.length_cons, List.length_nil]; omega)⟩
      have hce := H.cell 0 rfl hu2
      clear hu2
      have hst := (H.store 0 rfl (o := 3 + jq) (u := .pointer none)).upd_mk (by simp)
      go_still_tail 8, (by kernel_rfl)
      still_call ((pick_any z2 3 _ hz2.1 hz2.2 (by omega) (by omega) rfl).mono fun _ _ h => (by obtain ⟨⟨jn, h1, h2, h3⟩, h4⟩ := h; exact ⟨by rw [h3, show jn = jq by have := HJZ.out; omega], h4.symm⟩))
      repeat still_step
      refine wpStill_nil ?_
      clear z2c
      go_wp2
      go_ret
      first | replace H := hst | replace H := hst.drew
      clear hst hfr hce
      replace H : St w0 [] _ (lay [.blk gx 63 (([p0.1.v, p1.1.v, p2.1.v, p0.2.v, p1.2.v, p2.2.v, l, lr, .slice At n ct, .slice Aw n cw].set jq (.pointer none)).set (3 + jq) (.pointer none)), led l r, ledR lr r, bigO slotO ([p0, p1, p2].set k (.nil, .nil)), .row 22 1 (.slice At n ct) n (tps.map Tp.v), .row 22 1 (.slice Aw n cw) n (tps.map Tp.u), bigO Tp.own tps, .blk go 67 [.int .i64 z0, .int .i64 z1, .int .i64 z2, .slice A3 n3 c3, .bool true], led (.pointer none) none, ledR (.pointer none) none, p.1.ownM, p.2.ownR, (KA.nil).ownM, (KA.nil).ownR]) := H
      obtain ⟨q0, q1, q2, hq, HQ⟩ := act_end2 (a := (KA.nil)) (b := (KA.nil)) HP.out hjq HSL.out HOK.out H
      first | exact ⟨q0, q1, q2, r, At, Aw, n, ct, cw, tps, rfl, hq, (hg.more (by omega) (by omega)), hrs, htn, by omega, htl, HQ⟩ | exact ⟨q0, q1, q2, r, At, Aw, n, ct, cw, tps, rfl, hq, (hg.more (by omega) (by omega)), hrs, htn, by omega, htl, HQ.drew⟩
    · rw [show KA.v (.live g x) = Value.pointer (some ⟨g, 0, none⟩) from rfl, show KA.v (.live g' x) = Value.pointer (some ⟨g', 0, none⟩) from rfl]
      have z2c := H.cell 7 rfl (o := 2) rfl
      have hfr := H.free 0 rfl jq
      obtain ⟨u1, hu1⟩ : ∃ u, ([p0.1.v, p1.1.v, p2.1.v, p0.2.v, p1.2.v, p2.2.v, l, lr, .slice At n ct, .slice Aw n cw] : List Value)[jq]? = some u := ⟨_, List.getElem?_eq_getElem (by simp only [List.length_cons, List.length_nil]; omega)⟩
      have hce := H.cell 0 rfl hu1
      clear hu1
      have hst := (H.store 0 rfl (o := jq) (u := .pointer (some ⟨g, 0, none⟩))).upd_mk (by simp)
      go_upto_region 24 with (fail)
      go_still_tail 8, (by kernel_rfl)
      still_call ((pick_any z2 3 _ hz2.1 hz2.2 (by omega) (by omega) rfl).mono fun _ _ h => (by obtain ⟨⟨jn, h1, h2, h3⟩, h4⟩ := h; exact ⟨by rw [h3, show jn = jq by have := HJZ.out; omega], h4.symm⟩))
      repeat still_step
      refine wpStill_nil ?_
      clear z2c
      go_upto_region 25 with (fail)
      first | refine absorb_wp hst ?_ | refine absorb_wp hst.drew ?_
      clear H hst hfr hce
      intro w4 H
      replace H : St w0 [] w4 (lay [.blk gx 63 ([p0.1.v, p1.1.v, p2.1.v, p0.2.v, p1.2.v, p2.2.v, l, lr, .slice At n ct, .slice Aw n cw].set jq (.pointer (some ⟨g, 0, none⟩))), led l r, ledR lr r, bigO slotO ([p0, p1, p2].set k (.nil, .nil)), .row 22 1 (.slice At n ct) n (tps.map Tp.v), .row 22 1 (.slice Aw n cw) n (tps.map Tp.u), bigO Tp.own tps, .blk go 67 [.int .i64 z0, .int .i64 z1, .int .i64 z2, .slice A3 n3 c3, .bool true], led (.pointer none) none, ledR (.pointer none) none, p.1.ownM, p.2.ownR, (KA.live g x).ownM, (KA.live g' x).ownR]) := H
      have z2c := H.cell 7 rfl (o := 2) rfl
      have hfr := H.free 0 rfl (3 + jq)
      obtain ⟨u2, hu2⟩ : ∃ u, (([p0.1.v, p1.1.v, p2.1.v, p0.2.v, p1.2.v, p2.2.v, l, lr, .slice At n ct, .slice Aw n cw] : List Value).set jq (.pointer (some ⟨g, 0, none⟩)))[3 + jq]? = some u := ⟨_, List.getElem?_eq_getElem (by simp only [List.length_set, List.length_cons, List.length_nil]; omega)⟩
      have hce := H.cell 0 rfl hu2
      clear hu2
      have hst := (H.store 0 rfl (o := 3 + jq) (u := .pointer (some ⟨g', 0, none⟩))).upd_mk (by simp)
      go_still_tail 8, (by kernel_rfl)
      still_call ((pick_any z2 3 _ hz2.1 hz2.2 (by omega) (by omega) rfl).mono fun _ _ h => (by obtain ⟨⟨jn, h1, h2, h3⟩, h4⟩ := h; exact ⟨by rw [h3, show jn = jq by have := HJZ.out; omega], h4.symm⟩))
      repeat still_step
      refine wpStill_nil ?_
      clear z2c
      go_wp2
      go_ret
      first | replace H := hst | replace H := hst.drew
      clear hst hfr hce
      replace H : St w0 [] _ (lay [.blk gx 63 (([p0.1.v, p1.1.v, p2.1.v, p0.2.v, p1.2.v, p2.2.v, l, lr, .slice At n ct, .slice Aw n cw].set jq (.pointer (some ⟨g, 0, none⟩))).set (3 + jq) (.pointer (some ⟨g', 0, none⟩))), led l r, ledR lr r, bigO slotO ([p0, p1, p2].set k (.nil, .nil)), .row 22 1 (.slice At n ct) n (tps.map Tp.v), .row 22 1 (.slice Aw n cw) n (tps.map Tp.u), bigO Tp.own tps, .blk go 67 [.int .i64 z0, .int .i64 z1, .int .i64 z2, .slice A3 n3 c3, .bool true], led (.pointer none) none, ledR (.pointer none) none, p.1.ownM, p.2.ownR, (KA.live g x).ownM, (KA.live g' x).ownR]) := H
      obtain ⟨q0, q1, q2, hq, HQ⟩ := act_end2 (a := (KA.live g x)) (b := (KA.live g' x)) HP.out hjq HSL.out HOK.out H
      first | exact ⟨q0, q1, q2, r, At, Aw, n, ct, cw, tps, rfl, hq, (hg.more (by omega) (by omega)), hrs, htn, by omega, htl, HQ⟩ | exact ⟨q0, q1, q2, r, At, Aw, n, ct, cw, tps, rfl, hq, (hg.more (by omega) (by omega)), hrs, htn, by omega, htl, HQ.drew⟩
  have hzz2 : (z1 == 2) = false := by simpa using hz2
  clear hz2
  by_cases hz3 : z1 = 3
  · have hzz : (z1 == 3) = true := by simpa using hz3
    clear hz3
    go_wp2_with fail
    have hc := smReset_any p.1 HPK.out.1 (by omega) H 10 rfl
    obtain ⟨er, Her⟩ : ∃ er, Hid (erA p.1.abs = er) := ⟨_, rfl⟩
    rw [Her.out] at hc
    refine hc.mono ?_
    clear hc
    rintro e wx ⟨a', ha', hav, rfl, H1⟩
    rw [upd_laid2 (by simp)] at H1
    clear H
    have H : St w0 [] wx (lay [.blk gx 63 [p0.1.v, p1.1.v, p2.1.v, p0.2.v, p1.2.v, p2.2.v, l, lr, .slice At n ct, .slice Aw n cw], led l r, ledR lr r, bigO slotO ([p0, p1, p2].set k (.nil, .nil)), .row 22 1 (.slice At n ct) n (tps.map Tp.v), .row 22 1 (.slice Aw n cw) n (tps.map Tp.u), bigO Tp.own tps, .blk go 67 [.int .i64 z0, .int .i64 z1, .int .i64 z2, .slice A3 n3 c3, .bool true], led (.pointer none) none, ledR (.pointer none) none, a'.ownM, p.2.ownR]) := H1
    clear H1
    go_wp2_with fail
    have hc := rmReset_any (.pointer none) none p.2 (by rw [HPK.out.2]; exact HPK.out.1) (by omega) H 9 11 (by omega) rfl rfl
    rw [HPK.out.2, Her.out] at hc
    refine hc.mono ?_
    clear hc
    rintro e wx ⟨b', hb', hbv, rfl, H1⟩
    rw [upd_laid2 (by simp)] at H1
    clear H
    have H : St w0 [] wx (lay [.blk gx 63 [p0.1.v, p1.1.v, p2.1.v, p0.2.v, p1.2.v, p2.2.v, l, lr, .slice At n ct, .slice Aw n cw], led l r, ledR lr r, bigO slotO ([p0, p1, p2].set k (.nil, .nil)), .row 22 1 (.slice At n ct) n (tps.map Tp.v), .row 22 1 (.slice Aw n cw) n (tps.map Tp.u), bigO Tp.own tps, .blk go 67 [.int .i64 z0, .int .i64 z1, .int .i64 z2, .slice A3 n3 c3, .bool true], led (.pointer none) none, ledR (.pointer none) none, a'.ownM, b'.ownR]) := H1
    clear H1
    have heq : (er == er) = true := by simp
    go_wp2
    go_ret
    have hsl : SlotOk (N + 1000000) (a', b') := ⟨by rw [ha']; exact (rsA_ok HPK.out.1).more (by omega), by rw [hb', ha']⟩
    obtain ⟨q0, q1, q2, hq, HQ⟩ := act_end HP.out hav hbv hsl HOK.out H
    exact ⟨q0, q1, q2, r, At, Aw, n, ct, cw, tps, rfl, hq, (hg.more (by omega) (by omega)), hrs, htn, by omega, htl, HQ⟩
  have hzz3 : (z1 == 3) = false := by simpa using hz3
  clear hz3
  by_cases hz4 : z1 = 4
  · have hzz : (z1 == 4) = true := by simpa using hz4
    clear hz4
    go_wp2_with fail
    have hc := smWipe_any (.pointer none) none m b p.1 HPK.out.1 (by omega) H 8 10 (by omega) rfl rfl (LW.none m b) (by omega) (by omega)
    obtain ⟨er, Her⟩ : ∃ er, Hid (erA p.1.abs = er) := ⟨_, rfl⟩
    obtain ⟨r1, Hr1⟩ : ∃ r1, Hid (wiL p.1.abs none = r1) := ⟨_, rfl⟩
    rw [Her.out, Hr1.out] at hc
    refine hc.mono ?_
    clear hc
    rintro e wx ⟨a', ha', hav, rfl, H1⟩
    rw [upd_laid2 (by simp), upd_laid2 (by simp)] at H1
    clear H
    have H : St w0 [] wx (lay [.blk gx 63 [p0.1.v, p1.1.v, p2.1.v, p0.2.v, p1.2.v, p2.2.v, l, lr, .slice At n ct, .slice Aw n cw], led l r, ledR lr r, bigO slotO ([p0, p1, p2].set k (.nil, .nil)), .row 22 1 (.slice At n ct) n (tps.map Tp.v), .row 22 1 (.slice Aw n cw) n (tps.map Tp.u), bigO Tp.own tps, .blk go 67 [.int .i64 z0, .int .i64 z1, .int .i64 z2, .slice A3 n3 c3, .bool true], led (.pointer none) r1, ledR (.pointer none) none, a'.ownM, p.2.ownR]) := H1
    clear H1
    go_wp2_with fail
    have hc := rmWipe_any (.pointer none) none m b p.2 (by rw [HPK.out.2]; exact HPK.out.1) (by omega) H 9 11 (by omega) rfl rfl (LW.none m b) (by omega) (by omega)
    rw [HPK.out.2, Her.out, Hr1.out] at hc
    refine hc.mono ?_
    clear hc
    rintro e wx ⟨b', hb', hbv, rfl, H1⟩
    rw [upd_laid2 (by simp), upd_laid2 (by simp)] at H1
    clear H
    have H : St w0 [] wx (lay [.blk gx 63 [p0.1.v, p1.1.v, p2.1.v, p0.2.v, p1.2.v, p2.2.v, l, lr, .slice At n ct, .slice Aw n cw], led l r, ledR lr r, bigO slotO ([p0, p1, p2].set k (.nil, .nil)), .row 22 1 (.slice At n ct) n (tps.map Tp.v), .row 22 1 (.slice Aw n cw) n (tps.map Tp.u), bigO Tp.own tps, .blk go 67 [.int .i64 z0, .int .i64 z1, .int .i64 z2, .slice A3 n3 c3, .bool true], led (.pointer none) r1, ledR (.pointer none) r1, a'.ownM, b'.ownR]) := H1
    clear H1
    have heq : (er == er) = true := by simp
    go_wp2
    go_ret
    have hsl : SlotOk (N + 1000000) (a', b') := ⟨by rw [ha']; exact (wiA_ok HPK.out.1).more (by omega), by rw [hb', ha']⟩
    obtain ⟨q0, q1, q2, hq, HQ⟩ := act_end HP.out hav hbv hsl HOK.out H
    exact ⟨q0, q1, q2, r, At, Aw, n, ct, cw, tps, rfl, hq, (hg.more (by omega) (by omega)), hrs, htn, by omega, htl, HQ⟩
  have hzz4 : (z1 == 4) = false := by simpa using hz4
  clear hz4
  by_cases hz5 : z1 = 5
  · have hzz : (z1 == 5) = true := by simpa using hz5
    clear hz5
    go_wp2_with fail
    have hc := smForm_any p.1 HPK.out.1 (by omega) H 10 12 rfl rfl
    have hT1 := foB_le p.1.abs
    obtain ⟨T1, HT1⟩ : ∃ T, Hid (foB p.1.abs = T) := ⟨_, rfl⟩
    rw [HT1.out] at hc hT1
    obtain ⟨la, Hla⟩ : ∃ la, Hid (T1.length = la) := ⟨_, rfl⟩
    rw [Hla.out] at hc hT1
    refine hc.mono ?_
    clear hc
    rintro e wx ⟨va, rfl, H1⟩
    clear H
    have H := H1.push_mk rfl
    clear H1
    obtain ⟨Aa, ca, rfl, -, -⟩ := row_form (H.row 12 rfl)
    replace H : St w0 [] wx (lay [.blk gx 63 [p0.1.v, p1.1.v, p2.1.v, p0.2.v, p1.2.v, p2.2.v, l, lr, .slice At n ct, .slice Aw n cw], led l r, ledR lr r, bigO slotO ([p0, p1, p2].set k (.nil, .nil)), .row 22 1 (.slice At n ct) n (tps.map Tp.v), .row 22 1 (.slice Aw n cw) n (tps.map Tp.u), bigO Tp.own tps, .blk go 67 [.int .i64 z0, .int .i64 z1, .int .i64 z2, .slice A3 n3 c3, .bool true], led (.pointer none) none, ledR (.pointer none) none, p.1.ownM, p.2.ownR, .row 5 1 (.slice Aa la ca) la (T1.map vb)]) := H
    go_wp2_with fail
    have hc := rmForm_any (.pointer none) none p.2 (by rw [HPK.out.2]; exact HPK.out.1) (by omega) H 9 11 13 (by omega) rfl rfl rfl
    rw [HPK.out.2, HT1.out, Hla.out] at hc
    refine hc.mono ?_
    clear hc
    rintro e wx ⟨vd, rfl, H1⟩
    clear H
    have H := H1.push_mk rfl
    clear H1
    obtain ⟨Ab, cb, rfl, -, -⟩ := row_form (H.row 13 rfl)
    replace H : St w0 [] wx (lay [.blk gx 63 [p0.1.v, p1.1.v, p2.1.v, p0.2.v, p1.2.v, p2.2.v, l, lr, .slice At n ct, .slice Aw n cw], led l r, ledR lr r, bigO slotO ([p0, p1, p2].set k (.nil, .nil)), .row 22 1 (.slice At n ct) n (tps.map Tp.v), .row 22 1 (.slice Aw n cw) n (tps.map Tp.u), bigO Tp.own tps, .blk go 67 [.int .i64 z0, .int .i64 z1, .int .i64 z2, .slice A3 n3 c3, .bool true], led (.pointer none) none, ledR (.pointer none) none, p.1.ownM, p.2.ownR, .row 5 1 (.slice Aa la ca) la (T1.map vb), .row 5 1 (.slice Ab la cb) la (T1.map vb)]) := H
    go_wp2_with fail
    refine (shKeep_s gx _ _ _ _ _ _ _ _ _ _ _ _ _ _ _ _ _ At Aw Aa Ab n ct cw la ca cb _ _ T1 (by omega) (by omega) H).mono ?_
    rintro e w8 ⟨A6, d6, A9, d9, rfl, H1⟩
    clear H
    replace H1 : St w0 [] w8 (lay [.blk gx 63 [p0.1.v, p1.1.v, p2.1.v, p0.2.v, p1.2.v, p2.2.v, l, lr, .slice A6 (n + 1) d6, .slice A9 (n + 1) d9], led l r, ledR lr r, bigO slotO ([p0, p1, p2].set k (.nil, .nil)), .row 22 1 (.slice A6 (n + 1) d6) (n + 1) (tps.map Tp.v ++ [.slice Aa la ca]), .row 22 1 (.slice A9 (n + 1) d9) (n + 1) (tps.map Tp.u ++ [.slice Ab la cb]), bigO Tp.own tps, .blk go 67 [.int .i64 z0, .int .i64 z1, .int .i64 z2, .slice A3 n3 c3, .bool true], led (.pointer none) none, ledR (.pointer none) none, p.1.ownM, p.2.ownR, .row 5 1 (.slice Aa la ca) la (T1.map vb), .row 5 1 (.slice Ab la cb) la (T1.map vb)]) := H1
    replace H1 := (H1.shape_row 12 rfl Hla.out.symm rfl).shape_row 13 rfl Hla.out.symm rfl
    have H2 := St.join_mk (L := [.blk gx 63 [p0.1.v, p1.1.v, p2.1.v, p0.2.v, p1.2.v, p2.2.v, l, lr, .slice A6 (n + 1) d6, .slice A9 (n + 1) d9], led l r, ledR lr r, bigO slotO ([p0, p1, p2].set k (.nil, .nil)), .row 22 1 (.slice A6 (n + 1) d6) (n + 1) (tps.map Tp.v ++ [.slice Aa la ca]), .row 22 1 (.slice A9 (n + 1) d9) (n + 1) (tps.map Tp.u ++ [.slice Ab la cb]), bigO Tp.own tps, .blk go 67 [.int .i64 z0, .int .i64 z1, .int .i64 z2, .slice A3 n3 c3, .bool true], led (.pointer none) none, ledR (.pointer none) none, p.1.ownM, p.2.ownR, .row 5 1 (.slice Aa la ca) T1.length (T1.map vb)]) H1 12 rfl
    have H3 := St.tellSlot (x := ⟨.slice Aa la ca, .slice Ab la cb, T1⟩) (L0 := [.blk gx 63 [p0.1.v, p1.1.v, p2.1.v, p0.2.v, p1.2.v, p2.2.v, l, lr, .slice A6 (n + 1) d6, .slice A9 (n + 1) d9], led l r, ledR lr r, bigO slotO ([p0, p1, p2].set k (.nil, .nil)), .row 22 1 (.slice A6 (n + 1) d6) (n + 1) (tps.map Tp.v ++ [.slice Aa la ca]), .row 22 1 (.slice A9 (n + 1) d9) (n + 1) (tps.map Tp.u ++ [.slice Ab la cb]), bigO Tp.own tps, .blk go 67 [.int .i64 z0, .int .i64 z1, .int .i64 z2, .slice A3 n3 c3, .bool true], led (.pointer none) none, ledR (.pointer none) none, p.1.ownM, p.2.ownR]) H2 6 rfl
    clear H1 H2
    obtain ⟨TPS, HTPS⟩ : ∃ T, Hid (tps ++ [(⟨.slice Aa la ca, .slice Ab la cb, T1⟩ : Tp)] = T) := ⟨_, rfl⟩
    have hv1 : tps.map Tp.v ++ [.slice Aa la ca] = TPS.map Tp.v := by rw [← HTPS.out, List.map_append]; rfl
    have hv2 : tps.map Tp.u ++ [.slice Ab la cb] = TPS.map Tp.u := by rw [← HTPS.out, List.map_append]; rfl
    rw [hv1, hv2, HTPS.out] at H3
    have H : St w0 [] w8 (lay [.blk gx 63 [p0.1.v, p1.1.v, p2.1.v, p0.2.v, p1.2.v, p2.2.v, l, lr, .slice A6 (n + 1) d6, .slice A9 (n + 1) d9], led l r, ledR lr r, bigO slotO ([p0, p1, p2].set k (.nil, .nil)), .row 22 1 (.slice A6 (n + 1) d6) (n + 1) (TPS.map Tp.v), .row 22 1 (.slice A9 (n + 1) d9) (n + 1) (TPS.map Tp.u), bigO Tp.own TPS, .blk go 67 [.int .i64 z0, .int .i64 z1, .int .i64 z2, .slice A3 n3 c3, .bool true], led (.pointer none) none, ledR (.pointer none) none, p.1.ownM, p.2.ownR]) := H3
    clear H3 hv1 hv2
    have htn' : TPS.length = n + 1 := by rw [← HTPS.out, List.length_append, htn]; rfl
    have htl' : ∀ q ∈ TPS, q.l.length ≤ 65536 := by rw [← HTPS.out]; intro q hq; rcases List.mem_append.1 hq with h | h; exact htl q h; rw [List.mem_singleton.1 h]; show T1.length ≤ 65536; rw [Hla.out]; omega
    go_wp2
    go_ret
    obtain ⟨q0, q1, q2, hq, HQ⟩ := act_end HP.out rfl rfl (HPK.out.more (by omega)) HOK.out H
    exact ⟨q0, q1, q2, r, A6, A9, n + 1, d6, d9, TPS, rfl, hq, (hg.more (by omega) (by omega)), hrs, htn', by omega, htl', HQ⟩
  have hzz5 : (z1 == 5) = false := by simpa using hz5
  clear hz5
  by_cases hz6 : z1 = 6
  · have hzz : (z1 == 6) = true := by simpa using hz6
    clear hz6
    go_upto_region 34 with (fail)
    refine absorb_wp H ?_
    clear H
    intro w11 H
    replace H := H.drew
    refine wp_region_held_drew (S := fun w' : World => True) (by kernel_rfl) ?_ (fun hHeld => ?_)
    · exact trivial
    refine takeV 0 rfl (by intro w h; clear h; go_simp; try with_reducible rfl) (by kernel_rfl) (by kernel_rfl) (by kernel_rfl) (by exact fun _ _ _ h => h) (by rfl) (by assumption) ?_
    try simp only [Act.put, List.setIfInBounds_toArray, List.set_cons_zero, List.set_cons_succ]
    refine takeV 1 rfl (by intro w h; clear h; go_simp; try with_reducible rfl) (by kernel_rfl) (by kernel_rfl) (by kernel_rfl) (by exact fun _ _ _ h => h) (by rfl) (by assumption) ?_
    try simp only [Act.put, List.setIfInBounds_toArray, List.set_cons_zero, List.set_cons_succ]
    refine takeV 3 rfl (by intro w h; clear h; go_simp; try with_reducible rfl) (by kernel_rfl) (by kernel_rfl) (by kernel_rfl) (by exact fun _ _ _ h => h) (by rfl) (by assumption) ?_
    try simp only [Act.put, List.setIfInBounds_toArray, List.set_cons_zero, List.set_cons_succ]
    refine takeV 4 rfl (by intro w h; clear h; go_simp; try with_reducible rfl) (by kernel_rfl) (by kernel_rfl) (by kernel_rfl) (by exact fun _ _ _ h => h) (by rfl) (by assumption) ?_
    try simp only [Act.put, List.setIfInBounds_toArray, List.set_cons_zero, List.set_cons_succ]
    refine take_call 2 rfl (by kernel_rfl) (fun K hK => ?_)
    try go_simp
    refine (sh2New_s H 12 rfl).mono ?_
    rintro e wx ⟨ga, rfl, H1⟩
    clear H
    have H : St w0 [] wx (lay [.blk gx 63 [p0.1.v, p1.1.v, p2.1.v, p0.2.v, p1.2.v, p2.2.v, l, lr, .slice At n ct, .slice Aw n cw], led l r, ledR lr r, bigO slotO ([p0, p1, p2].set k (.nil, .nil)), .row 22 1 (.slice At n ct) n (tps.map Tp.v), .row 22 1 (.slice Aw n cw) n (tps.map Tp.u), bigO Tp.own tps, .blk go 67 [.int .i64 z0, .int .i64 z1, .int .i64 z2, .slice A3 n3 c3, .bool true], led (.pointer none) none, ledR (.pointer none) none, p.1.ownM, p.2.ownR, .blk ga 77 (sh2S [])]) := H1.push_mk rfl
    clear H1
    refine hK.out _ _ ?_ (fun hHeld => ?_)
    · exact trivial
    clear hK K
    try simp only [Act.put, List.setIfInBounds_toArray, List.set_cons_zero, List.set_cons_succ]
    unfold lptr
    refine takeV 5 rfl (by intro w h; clear h; go_simp; try with_reducible rfl) (by kernel_rfl) (by kernel_rfl) (by kernel_rfl) (by exact fun _ _ _ h => h) (by rfl) (by assumption) ?_
    try simp only [Act.put, List.setIfInBounds_toArray, List.set_cons_zero, List.set_cons_succ]
    have hfr := H.free 0 rfl (k)
    obtain ⟨u1, hu1⟩ : ∃ u, ([p0.1.v, p1.1.v, p2.1.v, p0.2.v, p1.2.v, p2.2.v, l, lr, .slice At n ct, .slice Aw n cw] : List Value)[k]? = some u := ⟨_, List.getElem?_eq_getElem (by simp only [List.length_set, List.length_cons, List.length_nil]; omega)⟩
    have hce := H.cell 0 rfl hu1
    clear hu1
    have hst := (H.store 0 rfl (o := k) (u := .pointer (some ⟨ga, 0, none⟩))).upd_mk (by simp)
    clear H
    refine take_call 6 rfl (by kernel_rfl) (fun K hK => ?_)
    go_simp
    refine hK.out _ _ ?_ (fun hHeld => ?_)
    · exact trivial
    clear hK K hfr hce
    try simp only [Act.put, List.setIfInBounds_toArray, List.set_cons_zero, List.set_cons_succ]
    refine wpAnyH_done (by kernel_rfl) ?_ _
    go_upto_region 35 with (fail)
    refine absorb_wp hst ?_
    clear hst
    intro w12 H
    replace H : St w0 [] w12 (lay [.blk gx 63 ([p0.1.v, p1.1.v, p2.1.v, p0.2.v, p1.2.v, p2.2.v, l, lr, .slice At n ct, .slice Aw n cw].set k (lptr ga)), led l r, ledR lr r, bigO slotO ([p0, p1, p2].set k (.nil, .nil)), .row 22 1 (.slice At n ct) n (tps.map Tp.v), .row 22 1 (.slice Aw n cw) n (tps.map Tp.u), bigO Tp.own tps, .blk go 67 [.int .i64 z0, .int .i64 z1, .int .i64 z2, .slice A3 n3 c3, .bool true], led (.pointer none) none, ledR (.pointer none) none, p.1.ownM, p.2.ownR, .blk ga 77 (sh2S [])]) := H
    replace H := H.drew
    refine wp_region_held_drew (S := fun w' : World => True) (by kernel_rfl) ?_ (fun hHeld => ?_)
    · exact trivial
    refine takeV 0 rfl (by intro w h; clear h; go_simp; try with_reducible rfl) (by kernel_rfl) (by kernel_rfl) (by kernel_rfl) (by exact fun _ _ _ h => h) (by rfl) (by assumption) ?_
    try simp only [Act.put, List.setIfInBounds_toArray, List.set_cons_zero, List.set_cons_succ]
    refine takeV 1 rfl (by intro w h; clear h; go_simp; try with_reducible rfl) (by kernel_rfl) (by kernel_rfl) (by kernel_rfl) (by exact fun _ _ _ h => h) (by rfl) (by assumption) ?_
    try simp only [Act.put, List.setIfInBounds_toArray, List.set_cons_zero, List.set_cons_succ]
    refine takeV 3 rfl (by intro w h; clear h; go_simp; try with_reducible rfl) (by kernel_rfl) (by kernel_rfl) (by kernel_rfl) (by exact fun _ _ _ h => h) (by rfl) (by assumption) ?_
    try simp only [Act.put, List.setIfInBounds_toArray, List.set_cons_zero, List.set_cons_succ]
    refine takeV 4 rfl (by intro w h; clear h; go_simp; try with_reducible rfl) (by kernel_rfl) (by kernel_rfl) (by kernel_rfl) (by exact fun _ _ _ h => h) (by rfl) (by assumption) ?_
    try simp only [Act.put, List.setIfInBounds_toArray, List.set_cons_zero, List.set_cons_succ]
    refine take_call 2 rfl (by kernel_rfl) (fun K hK => ?_)
    try go_simp
    refine (rtNew_s H 13 14 rfl rfl (by omega)).mono ?_
    rintro e wx ⟨gb, rfl, H1⟩
    rw [upd_push (by simp), upd_push (by simp)] at H1
    clear H
    have H : St w0 [] wx (lay [.blk gx 63 ([p0.1.v, p1.1.v, p2.1.v, p0.2.v, p1.2.v, p2.2.v, l, lr, .slice At n ct, .slice Aw n cw].set k (lptr ga)), led l r, ledR lr r, bigO slotO ([p0, p1, p2].set k (.nil, .nil)), .row 22 1 (.slice At n ct) n (tps.map Tp.v), .row 22 1 (.slice Aw n cw) n (tps.map Tp.u), bigO Tp.own tps, .blk go 67 [.int .i64 z0, .int .i64 z1, .int .i64 z2, .slice A3 n3 c3, .bool true], led (.pointer none) none, ledR (.pointer none) none, p.1.ownM, p.2.ownR, .blk ga 77 (sh2S []), .blk gb 90 [.slice none 0 0, .bool true], .row 5 1 (.slice none 0 0) 0 (([] : List UInt8).map vb)]) := H1
    clear H1
    refine hK.out _ _ ?_ (fun hHeld => ?_)
    · exact trivial
    clear hK K
    try simp only [Act.put, List.setIfInBounds_toArray, List.set_cons_zero, List.set_cons_succ]
    unfold lptr
    refine takeV 5 rfl (by intro w h; clear h; go_simp; try with_reducible rfl) (by kernel_rfl) (by kernel_rfl) (by kernel_rfl) (by exact fun _ _ _ h => h) (by rfl) (by assumption) ?_
    try simp only [Act.put, List.setIfInBounds_toArray, List.set_cons_zero, List.set_cons_succ]
    have hfr := H.free 0 rfl (3 + k)
    obtain ⟨u1, hu1⟩ : ∃ u, (([p0.1.v, p1.1.v, p2.1.v, p0.2.v, p1.2.v, p2.2.v, l, lr, .slice At n ct, .slice Aw n cw].set k (lptr ga)) : List Value)[3 + k]? = some u := ⟨_, List.getElem?_eq_getElem (by simp only [List.length_set, List.length_cons, List.length_nil]; omega)⟩
    have hce := H.cell 0 rfl hu1
    clear hu1
    have hst := (H.store 0 rfl (o := 3 + k) (u := .pointer (some ⟨gb, 0, none⟩))).upd_mk (by simp)
    clear H
    refine take_call 6 rfl (by kernel_rfl) (fun K hK => ?_)
    go_simp
    refine hK.out _ _ ?_ (fun hHeld => ?_)
    · exact trivial
    clear hK K hfr hce
    try simp only [Act.put, List.setIfInBounds_toArray, List.set_cons_zero, List.set_cons_succ]
    refine wpAnyH_done (by kernel_rfl) ?_ _
    go_upto_region 36 with (fail)
    refine absorb_wp hst ?_
    clear hst
    intro w13 H
    replace H : St w0 [] w13 (lay [.blk gx 63 (([p0.1.v, p1.1.v, p2.1.v, p0.2.v, p1.2.v, p2.2.v, l, lr, .slice At n ct, .slice Aw n cw].set k (lptr ga)).set (3 + k) (lptr gb)), led l r, ledR lr r, bigO slotO ([p0, p1, p2].set k (.nil, .nil)), .row 22 1 (.slice At n ct) n (tps.map Tp.v), .row 22 1 (.slice Aw n cw) n (tps.map Tp.u), bigO Tp.own tps, .blk go 67 [.int .i64 z0, .int .i64 z1, .int .i64 z2, .slice A3 n3 c3, .bool true], led (.pointer none) none, ledR (.pointer none) none, p.1.ownM, p.2.ownR, .blk ga 77 (sh2S []), .blk gb 90 [.slice none 0 0, .bool true], .row 5 1 (.slice none 0 0) 0 (([] : List UInt8).map vb)]) := H
    have hck : ((([p0.1.v, p1.1.v, p2.1.v, p0.2.v, p1.2.v, p2.2.v, l, lr, .slice At n ct, .slice Aw n cw].set k (lptr ga)).set (3 + k) (lptr gb)) : List Value)[k]? = some (lptr ga) := by rw [List.getElem?_set_ne (by omega), List.getElem?_set_self (by simp only [List.length_cons, List.length_nil]; omega)]
    have hcell := H.cell 0 rfl hck
    clear hck
    unfold lptr at hcell
    go_wp2
    go_ret
    clear hcell
    have H5 := St.join_mk (L := [.blk gx 63 (([p0.1.v, p1.1.v, p2.1.v, p0.2.v, p1.2.v, p2.2.v, l, lr, .slice At n ct, .slice Aw n cw].set k (lptr ga)).set (3 + k) (lptr gb)), led l r, ledR lr r, bigO slotO ([p0, p1, p2].set k (.nil, .nil)), .row 22 1 (.slice At n ct) n (tps.map Tp.v), .row 22 1 (.slice Aw n cw) n (tps.map Tp.u), bigO Tp.own tps, .blk go 67 [.int .i64 z0, .int .i64 z1, .int .i64 z2, .slice A3 n3 c3, .bool true], led (.pointer none) none, ledR (.pointer none) none, p.1.ownM, p.2.ownR, .blk ga 77 (sh2S []), .blk gb 90 [.slice none 0 0, .bool true]]) H 13 rfl
    have H6 := (H5.shutEx (A := rtP gb []) (none, 0) 13 rfl).upd_mk (by simp)
    have H7 : St w0 [] _ (lay [.blk gx 63 (([p0.1.v, p1.1.v, p2.1.v, p0.2.v, p1.2.v, p2.2.v, l, lr, .slice At n ct, .slice Aw n cw].set k (lptr ga)).set (3 + k) (lptr gb)), led l r, ledR lr r, bigO slotO ([p0, p1, p2].set k (.nil, .nil)), .row 22 1 (.slice At n ct) n (tps.map Tp.v), .row 22 1 (.slice Aw n cw) n (tps.map Tp.u), bigO Tp.own tps, .blk go 67 [.int .i64 z0, .int .i64 z1, .int .i64 z2, .slice A3 n3 c3, .bool true], led (.pointer none) none, ledR (.pointer none) none, p.1.ownM, p.2.ownR, (KA.live ga []).ownM, (KA.live gb []).ownR]) := H6
    have hsl : SlotOk (N + 1000000) (KA.live ga [], KA.live gb []) := ⟨newA_ok _, rfl⟩
    obtain ⟨q0, q1, q2, hq, HQ⟩ := act_end3 hk hsl HOK.out H7
    exact ⟨q0, q1, q2, r, At, Aw, n, ct, cw, tps, rfl, hq, (hg.more (by omega) (by omega)), hrs, htn, by omega, htl, HQ⟩
  have hzz6 : (z1 == 6) = false := by simpa using hz6
  clear hz6
  go_wp2_with fail
  refine (smLen_any p.1 H 10 rfl).mono ?_
  rintro e wx ⟨rfl, rfl⟩
  go_wp2_with fail
  have hc := rmLen_any (.pointer none) none p.2 H 9 11 (by omega) rfl rfl
  rw [HPK.out.2] at hc
  refine hc.mono ?_
  clear hc
  rintro e wx ⟨rfl, rfl⟩
  obtain ⟨er, Her⟩ : ∃ er, Hid (leA p.1.abs = er) := ⟨_, rfl⟩
  rw [Her.out]
  have heq : (er == er) = true := by simp
  go_wp2
  go_ret
  obtain ⟨q0, q1, q2, hq, HQ⟩ := act_end HP.out rfl rfl (HPK.out.more (by omega)) HOK.out H
  exact ⟨q0, q1, q2, r, At, Aw, n, ct, cw, tps, rfl, hq, (hg.more (by omega) (by omega)), hrs, htn, by omega, htl, HQ⟩
end
end Go.Proofs.Ytcnphkmcgefjoaa

namespace Go.Proofs.Ytcnphkmcgefjoaa
open Go.RowKit
set_option linter.unusedVariables false

theorem xb_kept {w w' : World} {gx : Nat} {C : Array Value} {T : TypeId} {row : Option Nat} (h : w.heap[gx]? = some (.cells C T (0, 0))) (hg : w.grownBy w' row) (hne : row ≠ some gx) : w'.heap[gx]? = some (.cells C T (0, 0)) := by
  rw [hg.block gx (lt_of_heap h) (Ne.symm hne)]; exact h
theorem xb_alloc {w : World} {gx : Nat} {C : Array Value} {T : TypeId} (h : w.heap[gx]? = some (.cells C T (0, 0))) (o : Obj) : (w.alloc o).heap[gx]? = some (.cells C T (0, 0)) := by
  have hb := ((Below.refl w.heap.size w).alloc (Nat.le_refl _) o).block gx (lt_of_heap h)
  rw [hb]; exact h
theorem OwnB.neX {w : World} {base gx : Nat} {v : Value} {l : List UInt8} {C : Array Value} {T : TypeId} (h : OwnB w base v l) (hx : w.heap[gx]? = some (.cells C T (0, 0))) (hT : T ≠ 5) : v.ownBlock ≠ some gx := by
  intro e
  rcases h.2 with ⟨rfl, h0⟩ | ⟨g, cap, cur, rfl, hb, hg, -⟩
  · cases e
  · have e' : g = gx := by injection e
    subst e'
    rw [hx] at hg
    injection hg with hg
    injection hg with h1 h2 h3
    exact hT h2

set_option maxRecDepth 100000 in
set_option maxHeartbeats 2000000 in
theorem apartBytes_keep (gL N cL base : Nat) (vs : List Value) (ls : List (List UInt8)) (w : World) (hL : LR w gL N cL vs) (hF : Fam w base N (F1 vs ls 0)) (hN : N ≤ 1000) (hbase : base ≤ w.heap.size)
    (gx : Nat) (C : Array Value) (T : TypeId) (hT1 : T ≠ 5) (hT2 : T ≠ 22) (hX : w.heap[gx]? = some (.cells C T (0, 0)))
    (hlen : ∀ j, j < N → (ls.getD j []).length ≤ 140737488355320) :
    Calls Try.prog 19 #[.slice (some ⟨gL, 0, none⟩) N cL] w fun e w' => e = .returned (.bool true) ∧ Below base w w' ∧ w'.heap[gx]? = some (.cells C T (0, 0)) := by
  obtain ⟨i0, hi0, hz0, hz1, hz2⟩ := info_parts u8_info
  obtain ⟨i1, hi1, hy0, hy1, hy2⟩ := info_parts lb_info
  have HL := Lib.hid hlen
  clear hlen
  go_enter Try.func19, Try.ntmps19
  go_wp2
  go_loopw [3] (fun i wr => ∃ k : Nat, k ≤ N ∧ i = .int .i64 k ∧ Fam wr base N (F1 vs ls k) ∧ LR wr gL N cL vs ∧ (Below base w wr ∧ wr.heap[gx]? = some (.cells C T (0, 0)))) (fun i _ => N - (intOf i).toNat)
  case atStart => exact ⟨0, Nat.zero_le _, rfl, hF, hL, Below.refl _ _, hX⟩
  case round =>
    obtain ⟨k, hk, rfl, hFk, hLk, hBk⟩ := hrel
    by_cases hlt : k < N
    · have hcell := hLk.cell hlt
      have hown := hFk.one hlt (F1_at vs ls k)
      obtain ⟨A, n, c, hv, hn, -⟩ := hown.shape
      have hnb : n ≤ 140737488355320 := by rw [hn.out]; exact HL.out k hlt
      rw [hv] at hcell
      have HV := Lib.hid hv
      clear hv hown
      obtain ⟨wo, rfl⟩ : ∃ wo : World, wo = wr := ⟨_, rfl⟩
      go_wp2
      go_loopw [4] (fun i wr => ∃ q : Nat, q ≤ n ∧ i = .int .i64 q ∧ Fam wr base N (F1i vs ls k q) ∧ LR wr gL N cL vs ∧ (Below base w wr ∧ wr.heap[gx]? = some (.cells C T (0, 0)))) (fun i _ => n - (intOf i).toNat)
      case atStart => exact ⟨0, Nat.zero_le _, rfl, by rw [F1i_zero]; exact hFk, hLk, hBk⟩
      case round =>
        obtain ⟨q, hq, rfl, hFq, hLq, hBq⟩ := hrel
        have hcellq := hLq.cell hlt
        rw [HV.out] at hcellq
        clear hcell
        by_cases hlq : q < n
        · have hFk' := F1i_at vs ls k q
          rw [HV.out] at hFk'
          have hown := hFq.one hlt hFk'
          obtain ⟨g, rfl, hbg, hgs⟩ := hown.form (by omega)
          obtain ⟨x, -, hcb⟩ := hown.cellAt (k := q) (by have := hn.out; simp only [List.length_append, marksB_length, List.length_drop]; omega)
          have hfr := hown.frozenAt q
          have hst := hFq.store hlt hFk' q (markB (k + 10) q)
          have hgr := (hown.stored q (markB (k + 10) q)).2
          have hne : g ≠ gL := fun e => hLq.ne hown (by rw [e]; rfl)
          have HFK := Lib.hid hFk'
          clear hFk'
          go_wp2
          have hw1 : IntKind.i64.wrap ((k : Int) + 10) = (k : Int) + 10 := IntWalk.i64_in _ (by omega)
          go_still_tail 10, (by kernel_rfl)
          clear hw1
          still_call ((markB_at (a := (k : Int) + 10) (k + 10) q (by omega) rfl _ (by omega) (by omega)).mono fun _ _ h => ⟨h.1, h.2.symm⟩)
          repeat still_step
          refine wpStill_nil ?_
          go_wp2
          go_roundw
          case rel =>
            refine ⟨q + 1, by omega, by go_num, ?_, hLq.kept (grownBy_drew hgr) hne, hBq.1.grown (grownBy_drew hgr) (by have := hBq.1.size; omega) (fun g' h => by injection h with h; omega), xb_kept hBq.2 (grownBy_drew hgr) (fun e => OwnB.neX hown hBq.2 hT1 e)⟩
            have e := F1i_succ vs ls k q (by have := hn.out; omega)
            rw [HV.out] at e
            rw [← e]
            exact hst.drew
          case measure => simp [intOf]; omega
        · have hqn : q = n := by omega
          subst hqn
          go_wp2
          go_roundw
          case rel => exact ⟨k + 1, by omega, by go_num, by rw [← F1i_end, ← hn.out]; exact hFq, hLq, hBq⟩
          case measure => simp [intOf]; omega
    · have hkN : N = k := by omega
      subst hkN
      go_wp2
      go_loopw [5, 6] (fun v i wr => ∃ (k : Nat) (Gs : List Value), k ≤ N ∧ i = .int .i64 k ∧ Hid (Gs.length = k) ∧ Fam wr base N (F2 vs ls Gs k) ∧ LR wr gL N cL vs ∧ wr.ownsRow w.heap.size 22 1 v k Gs ∧ (Below base w wr ∧ wr.heap[gx]? = some (.cells C T (0, 0)))) (fun _ i _ => N - (intOf i).toNat)
      case atStart => exact ⟨0, [], Nat.zero_le _, rfl, rfl, hFk.congr (F2_start vs ls N), hLk, World.ownsRow_nil _ _ _ _, hBk⟩
      case round =>
        clear hFk hLk hBk
        obtain ⟨k, Gs, hk, rfl, hGs, hFk, hLk, hGk, hBk⟩ := hrel
        by_cases hlt : k < N
        · have hcell := hLk.cell hlt
          have hFa := F2_at vs ls Gs k
          have hown := hFk.one hlt hFa
          obtain ⟨A, n, c, hv, hn, -⟩ := hown.shape
          rw [marksB_length] at hn
          have hnb : n ≤ 140737488355320 := by rw [hn.out]; exact HL.out k hlt
          have hd := hFk.dup hFa
          rw [F2i_zero] at hd
          rw [hv] at hcell hd
          have HV := Lib.hid hv
          clear hv hown hFa
          obtain ⟨wo, rfl⟩ : ∃ wo : World, wo = wr := ⟨_, rfl⟩
          go_wp2
          go_loopw [7, 8] (fun v i wr => ∃ q : Nat, q ≤ 6 ∧ i = .int .i64 q ∧ Fam wr base N (F2i vs ls Gs k v q) ∧ LR wr gL N cL vs ∧ wr.ownsRow w.heap.size 22 1 u5 k Gs ∧ (Below base w wr ∧ wr.heap[gx]? = some (.cells C T (0, 0)))) (fun _ i _ => 6 - (intOf i).toNat)
          case atStart => exact ⟨0, Nat.zero_le _, rfl, hd, hLk, hGk, hBk⟩
          case round =>
            clear hFk hLk hGk hBk hcell hd
            obtain ⟨q, hq, rfl, hFq, hLq, hGq, hBq⟩ := hrel
            have hcell := hLq.cell hlt
            rw [HV.out] at hcell
            by_cases hlq : q < 6
            · have hFa := F2i_at vs ls Gs k u7 q
              have ho7 : OwnB wr base u7 (marksB (k + 10) 0 (n + q)) := hFq.own k hlt (u7, _) (by rw [hFa, hn.out]; exact List.mem_cons_of_mem _ (List.mem_singleton.2 rfl))
              have hbs : base ≤ wr.heap.size := by have := hBq.1.size; omega
              have ho7r : (wr.alloc (.cells #[vb (markB (k + 10) (n + q))] 5)).ownsRow base 5 1 u7 (n + q) ((marksB (k + 10) 0 (n + q)).map vb) := by
                have := ho7.alloc (.cells #[vb (markB (k + 10) (n + q))] 5)
                unfold OwnB at this
                rwa [marksB_length] at this
              have HFA := Lib.hid hFa
              clear hFa
              go_wp2_with (first | (go_at_call 38; refine (markB_at (a := (k : Int) + 10) (b := (n : Int) + q) (k + 10) (n + q) (by omega) (by omega) _ (by omega) (by omega)).mono ?_; rintro e w2 ⟨rfl, rfl⟩) | (at_builtin; refine wpList_append_two _ rfl (.tmp 50) (.tmp 61) 22 rfl base 5 i0 (.int .u8 0) 1 Try.underlying22 hi0 hz0 hz1 hz2 rfl _ _ _ rfl ho7r ⟨wr.heap.size, 0, none⟩ 1 1 [vb (markB (k + 10) (n + q))] rfl (by omega) rfl (cell_one_new _ _ _) (by simp [Value.oneCell']) (by simp only [maxLen]; omega) (by omega) (by simp; omega) ?_; intro v2 w2 ho2 hcase))
              have ho3 := OwnB.of_mark ho2
              have hgr := two_grown hcase
              have hF3 := (hFq.alloc (.cells #[vb (markB (k + 10) (n + q))] 5)).append hlt HFA.out (by rw [marksB_length, marksB_length]; omega) (by rw [marksB_length]; exact marksB_take _ _ _ _ (by omega)) (by rw [marksB_length, ← hn.out]; exact marksB_take _ _ _ _ (by omega)) ho3 hcase
              have hL3 := LR.kept' (World.ownsRow.alloc hLq (.cells #[vb (markB (k + 10) (n + q))] 5)) hgr (hLq.ne ho7)
              have hG3 := (hGq.alloc (.cells #[vb (markB (k + 10) (n + q))] 5)).kept hgr (rows_ne hGq ho7 (by decide))
              have hB3 := And.intro ((hBq.1.alloc hbs (.cells #[vb (markB (k + 10) (n + q))] 5)).grown hgr (by simp; omega) (fun g e => (ho7.lt g e).1)) (xb_kept (xb_alloc hBq.2 (.cells #[vb (markB (k + 10) (n + q))] 5)) hgr (OwnB.neX ho7 hBq.2 hT1))
              go_roundw
              case rel =>
                refine ⟨q + 1, by omega, by go_num, ?_, hL3, hG3, hB3⟩
                rw [← F2i_succ, ← hn.out, ← Nat.add_assoc]
                rw [← hn.out] at hF3
                exact hF3
              case measure => simp [intOf]; omega
            · have hq6 : q = 6 := by omega
              subst hq6
              clear hcell
              have hbs : w.heap.size ≤ wr.heap.size := hBq.1.size
              have ho7 : OwnB wr base u7 (marksB (k + 10) 0 (n + 6)) := hFq.own k hlt (u7, _) (by rw [F2i_at, hn.out]; exact List.mem_cons_of_mem _ (List.mem_singleton.2 rfl))
              obtain ⟨A7, n7, c7, rfl, -⟩ := ho7.shape
              have hgn : Gs.length ≤ 1000 := by have := hGs.out; omega
              rw [F2i_end _ _ _ _ _ hGs.out] at hFq
              go_wp2_with (at_builtin; refine wpList_append_own _ rfl (.tmp 63) (.tmp 65) 36 rfl w.heap.size 22 i1 (.slice none 0 0) 1 24 Try.underlying36 hi1 hy0 hy1 hy2 rfl (by decide) _ _ _ rfl (hGq.alloc _) ⟨wr.heap.size, 0, none⟩ 1 1 [.slice A7 n7 c7] rfl rfl (cell_one_new _ _ _) (by simp [Value.oneCell']) (by simp only [maxLen]; omega) (by omega) (by simp; omega) ?_; intro v2 w2 ho2 hgr hnil)
              have hgL := hL.lt
              have hF3 := (hFq.alloc (.cells #[.slice A7 n7 c7] 22)).kept hgr (fun j hj p hp => rows_ne (hFq.own j hj p hp) hGq (by decide))
              have hL3 := LR.kept' (World.ownsRow.alloc hLq (.cells #[.slice A7 n7 c7] 22)) hgr (fun e => by have := (hGq.lt _ e).1; omega)
              have hB3 := And.intro ((hBq.1.alloc (by omega) (.cells #[.slice A7 n7 c7] 22)).grown hgr (by simp; omega) (fun g e => by have := (hGq.lt g e).1; omega)) (xb_kept (xb_alloc hBq.2 (.cells #[.slice A7 n7 c7] 22)) hgr (fun e => by have h1 := (hGq.lt _ e).1; have h2 := lt_of_heap hX; omega))
              go_roundw
              case rel => exact ⟨k + 1, Gs ++ [.slice A7 n7 c7], by omega, by go_num, by rw [List.length_append, hGs.out]; rfl, hF3, hL3, ho2, hB3⟩
              case measure => simp [intOf]; omega
        · have hkN : N = k := by omega
          subst hkN
          obtain ⟨w3, rfl⟩ : ∃ w3 : World, w3 = wr := ⟨_, rfl⟩
          go_wp2
          go_loopw [9] (fun i wr => ∃ k q : Nat, k ≤ N ∧ i = .int .i64 k ∧ wr = w3.drewN q) (fun i _ => N - (intOf i).toNat)
          case atStart => exact ⟨0, 0, Nat.zero_le _, rfl, rfl⟩
          case round =>
            obtain ⟨k, q, hk, rfl, rfl⟩ := hrel
            by_cases hlt : k < N
            · obtain ⟨gG, cG, rfl, hgG, -⟩ := World.ownsRow.form hGk (by omega)
              have hkG : k < Gs.length := by have := hGs.out; omega
              have hcG : w3.cell? ⟨gG, k, none⟩ = some Gs[k] := by rw [World.ownsRow.cellAt hGk k (by omega), List.getElem?_eq_getElem hkG]
              have hcell := hLk.cell hlt
              have hFa : F2 vs ls Gs N k = [(vs.getD k (.slice none 0 0), marksB (k + 10) 0 (ls.getD k []).length), (Gs[k], marksB (k + 10) 0 ((ls.getD k []).length + 6))] := by
                simp only [F2, hlt, if_true]
                rw [List.getD_eq_getElem?_getD (l := Gs), List.getElem?_eq_getElem hkG]
                rfl
              have hoV := hFk.own k hlt (vs.getD k (.slice none 0 0), _) (by rw [hFa]; exact List.mem_cons_self)
              have hoG := hFk.own k hlt (Gs[k], _) (by rw [hFa]; exact List.mem_cons_of_mem _ (List.mem_singleton.2 rfl))
              simp only at hoV hoG
              obtain ⟨A, n, c, hv, hn, -⟩ := hoV.shape
              obtain ⟨A', n', c', hv', hn', -⟩ := hoG.shape
              have hnb : n ≤ 140737488355320 := by rw [hn.out, marksB_length]; exact HL.out k hlt
              have hnn : n' = n + 6 := by rw [hn.out, hn'.out, marksB_length, marksB_length]
              have hlen := hn.out
              rw [marksB_length] at hlen
              rw [← hlen, hv] at hoV
              rw [← hlen, hv'] at hoG
              rw [hv] at hcell
              rw [hv'] at hcG
              subst hnn
              clear hv hv' hn hn' hlen hFa
              go_wp2
              go_loopw [10] (fun i wr => ∃ t q : Nat, t ≤ n + 6 ∧ i = .int .i64 t ∧ wr = w3.drewN q) (fun i _ => n + 6 - (intOf i).toNat)
              case atStart => exact ⟨0, q, Nat.zero_le _, rfl, rfl⟩
              case round =>
                obtain ⟨t, q', ht, rfl, rfl⟩ := hrel
                by_cases hlt' : t < n + 6
                · obtain ⟨g', rfl, hcg'⟩ := hoG.markAt hlt'
                  have hw1 : IntKind.i64.wrap ((k : Int) + 10) = (k : Int) + 10 := IntWalk.i64_in _ (by omega)
                  have hb1 : (((markB (k + 10) t).toNat : Int) != ((markB (k + 10) t).toNat : Int)) = false := by simp
                  by_cases hln : t < n
                  · obtain ⟨g, rfl, hcg⟩ := hoV.markAt hln
                    have hb2 : decide ((t : Int) < n) = true := by simp; omega
                    go_wp2
                    go_quiet ((go_at_call 38; exact quiet_add_left ((markB_at (a := (k : Int) + 10) (k + 10) t (by omega) rfl _ (by omega) (by omega)))))
                    go_wp2
                    go_roundw
                    case rel => exact ⟨t + 1, q' + nq, by omega, by go_num, by simp⟩
                    case measure => simp [intOf]; omega
                  · have hb2 : decide ((t : Int) < n) = false := by simp; omega
                    go_wp2
                    go_quiet ((go_at_call 38; exact quiet_add_left ((markB_at (a := (k : Int) + 10) (k + 10) t (by omega) rfl _ (by omega) (by omega)))))
                    go_wp2
                    go_roundw
                    case rel => exact ⟨t + 1, q' + nq, by omega, by go_num, by simp⟩
                    case measure => simp [intOf]; omega
                · go_wp2
                  go_roundw
                  case rel => exact ⟨k + 1, q', by omega, by go_num, rfl⟩
                  case measure => simp [intOf]; omega
            · go_wp2
              go_ret
              exact ⟨rfl, bdrewN hBk.1 q, hBk.2⟩

set_option maxRecDepth 100000 in
theorem apart_keep {w0 w : World} {E : Env} (H : St w0 [] w E) (k kt : Nat) (tps : List Tp) (A : Option Addr) (n c : Nat) (hk : E k = some (bigO Tp.own tps)) (ht : E kt = some (.row 22 1 (.slice A n c) n (tps.map Tp.v))) (hn : tps.length = n) (hn' : n ≤ 1000) (gx : Nat) (C : Array Value) (T : TypeId) (hT1 : T ≠ 5) (hT2 : T ≠ 22) (hX : w.heap[gx]? = some (.cells C T (0, 0))) (hl : ∀ p ∈ tps, p.l.length ≤ 140737488355320) :
    Calls Try.prog 19 #[.slice A n c] w fun e w' => e = .returned (.bool true) ∧ Below w0.heap.size w0 w' ∧ w'.heap[gx]? = some (.cells C T (0, 0)) := by
  rcases (H.row kt ht).2 with ⟨e, -⟩ | ⟨gL, cap, cur, e, -⟩
  · rw [e]
    refine (apart_nil w).mono ?_
    rintro e w' ⟨rfl, rfl⟩
    exact ⟨rfl, H.below, hX⟩
  · injection e with e1 e2 e3
    subst e1
    obtain ⟨F, hF, hF0, -, -⟩ := H.change k hk
    obtain ⟨k1, k2⟩ := tp_hp hF
    have hp : Hp w w0.heap.size (tps.map fun p => (p.v, p.l)) := by
      refine ⟨fun i p hp => ?_, fun i j p q hij hp hq => ?_⟩
      · rw [List.getElem?_map] at hp
        obtain ⟨t, h1, rfl⟩ := Option.map_eq_some_iff.1 hp
        obtain ⟨a, b⟩ := k1 i t h1
        exact ownsRow_base a fun g hg => by have := hF0 g (b g hg); simpa using this
      · rw [List.getElem?_map] at hp hq
        obtain ⟨t, h1, rfl⟩ := Option.map_eq_some_iff.1 hp
        obtain ⟨s, h2, rfl⟩ := Option.map_eq_some_iff.1 hq
        exact k2 i j t s hij h1 h2
    have hfam := hp.fam
    rw [List.length_map, hn, List.map_map, List.map_map] at hfam
    have hL : LR w gL n c (tps.map Tp.v) := H.row kt ht
    refine (apartBytes_keep gL n c w0.heap.size _ _ w hL hfam hn' H.low.size gx C T hT1 hT2 hX ?_).mono fun e w' he => ⟨he.1, H.below.trans he.2.1, he.2.2⟩
    intro j hj
    rw [List.getD_eq_getElem?_getD, List.getElem?_map, List.getElem?_eq_getElem (by omega)]
    exact hl _ (List.getElem_mem _)
end Go.Proofs.Ytcnphkmcgefjoaa

namespace Go.Proofs.Ytcnphkmcgefjoaa
open Go.RowKit
set_option linter.unusedVariables false
set_option maxRecDepth 100000

attribute [local irreducible] comp2 hTo dig2 laid4

theorem abcW_len : abcW.length = 8 := rfl
theorem abcV : (abcW.map u32v).toArray = #[.int .u32 3128432319, .int .u32 2399260650, .int .u32 1094795486, .int .u32 1571693091, .int .u32 2953011619, .int .u32 2518121116, .int .u32 3021012833, .int .u32 4060091821] := by kernel_rfl
theorem noteN_none' (k s : Int) (n : Nat) : noteN none k s n = none := by unfold noteN; split <;> rfl

set_option maxHeartbeats 1000000 in
theorem lives2_s (w : World) : Calls Try.prog 8 #[] w fun e w' => e = .returned (.bool true) ∧ Below w.heap.size w w' := by
  have H := (St.start_lay w []).ledNil 0 rfl |>.push_mk rfl
  have hcv := fun (w : World) (C : Array Value) (n c : Nat) => Lib.run_convert_bytes_const (P := Try.prog) w 22 5 C n c Try.underlying22 Try.underlying5
  have hl8 := laid4_length (l := abcW) (k := 8) (Nat.le_refl _)
  have HL8 := Lib.hid hl8
  clear hl8
  go_enter Try.func8, Try.ntmps8
  go_wp2_with fail
  refine absorb_calls (H.litAt 1 rfl w.heap.size rfl _ _ _ |>.push_mk rfl) ?_
  clear H
  intro w2 H
  generalize w.heap.size = g2 at H ⊢
  replace H : St w [] w2 (lay [led (.pointer none) none, .lit g2 5 (abcB.map vb) (3, 4)]) := H
  refine (sh2Fn_s (.pointer none) none 0 0 (some ⟨g2, 0, none⟩) 3 3 abcB H 0 2 rfl rfl (LW.none _ _) (by omega) (by omega) (fun w' X h => h.rdLit 1 rfl 1 3 rfl) (by omega) (by omega)).mono ?_
  rintro e w3 ⟨v3, rfl, H1⟩
  rw [noteN_none', upd_laid2 (by simp), abc_val] at H1
  replace H : St w [] w3 (lay [led (.pointer none) none, .lit g2 5 (abcB.map vb) (3, 4), .row 5 1 v3 32 ((laid4 abcW 8).map vb)]) := H1.push_mk rfl
  clear H1
  obtain ⟨A3, c3, rfl, -, -⟩ := row_form (H.row 2 rfl)
  go_wp2_with fail
  rw [← abcV]
  refine (wants_s abcW abcW_len w3).mono ?_
  rintro e w4 ⟨v4, rfl, ho, hb⟩
  unfold OwnB at ho
  rw [HL8.out] at ho
  replace H := (H.pushRow 3 rfl hb ho).push_mk rfl
  clear ho hb
  obtain ⟨A4, c4, rfl, -, -⟩ := row_form (H.row 3 rfl)
  go_wp2_with fail
  refine (sameBytes_yes A3 A4 _ _ c3 c4 _ _ _ (H.rd 2 rfl) (H.rd 3 rfl) (by omega) (by omega) rfl).mono ?_
  rintro e w5 ⟨rfl, hb⟩
  replace H := H.call hb
  go_wp2
  go_ret
  exact ⟨rfl, H.below⟩

set_option maxHeartbeats 1000000 in
theorem empty2_s (s v : Value) (hv : ∃ A n c, v = .slice A n c) (w : World) (h : Sh2No w s) : Calls Try.prog 36 #[s, v] w fun e w' => e = .returned (.bool true) ∧ Below w.heap.size w w' := by
  obtain ⟨A, n, c, rfl⟩ := hv
  have H0 := St.start_lay w []
  go_enter Try.func36, Try.ntmps36
  go_wp2_with fail
  refine (ledger_new H0 0 rfl).mono ?_
  rintro e w1 ⟨l, rfl, H1⟩
  have H := H1.push_mk rfl
  replace h := h.below H.below
  clear H0 H1
  go_wp2_with fail
  refine (sh2Sum_none l s h).mono ?_
  rintro e wx ⟨rfl, rfl⟩
  go_wp2_with fail
  refine (sh2Clone_none s h).mono ?_
  rintro e wx ⟨rfl, rfl⟩
  go_wp2_with fail
  refine (sh2Write_none l (.slice A n c) s h).mono ?_
  rintro e wx ⟨rfl, rfl⟩
  go_wp2_with fail
  refine (sh2Reset_none s h).mono ?_
  rintro e wx ⟨rfl, rfl⟩
  go_wp2_with fail
  refine (sh2Wipe_none l s h).mono ?_
  rintro e wx ⟨rfl, rfl⟩
  go_wp2_with fail
  refine (sh2Form_none s h).mono ?_
  rintro e wx ⟨rfl, rfl⟩
  go_wp2_with fail
  refine (sh2Len_none s h).mono ?_
  rintro e wx ⟨rfl, rfl⟩
  go_wp2_with fail
  refine (ledger_len_w H 0 rfl).mono ?_
  rintro e wx ⟨rfl, rfl⟩
  go_wp2
  go_ret
  exact ⟨rfl, H.below⟩

set_option maxHeartbeats 4000000 in
theorem sha256None_walk (A : Option Addr) (n c : Nat) (p : List UInt8) (w : World) (hA : Rd w 1 A n (p.map vb)) (hn0 : n ≤ 140737488351232) (hc : n ≤ c) :
    Calls Try.prog 7 #[.slice A n c] w fun e w' => e = .returned (.bool true) ∧ Below w.heap.size w w' := by
  by_cases hbig : 16384 < n
  · have hb : decide ((n : Int) > 16384) = true := by simp; omega
    clear hbig
    go_enter Try.func7, Try.ntmps7
    go_wp2
    go_ret
    exact ⟨rfl, Below.refl _ _⟩
  · have hb : decide ((n : Int) > 16384) = false := by simp; omega
    have hn : n ≤ 16384 := by omega
    clear hbig hn0
    have H := (St.start_lay w []).ledNil 0 rfl |>.push_mk rfl
    have hz0 := zero_sh
    go_enter Try.func7, Try.ntmps7
    go_wp2_with fail
    refine (sh2New_s H 1 rfl).mono ?_
    rintro e w1 ⟨g, rfl, H1⟩
    replace H := H1.push_mk rfl
    clear H1
    unfold lptr
    go_wp2_with fail
    refine (ledger_new H 2 rfl).mono ?_
    rintro e w2 ⟨l, rfl, H1⟩
    replace H := H1.push_mk rfl
    clear H1
    replace H : St w [] w2 (lay [led (.pointer none) none, .blk g 77 (sh2S []), led l (some [])]) := H
    go_wp2_with fail
    refine (sh2Write_s (.pointer none) none 0 0 g [] A n c p H 0 1 (by omega) rfl rfl (LW.none _ _) (by omega) (by omega) (fun w' X Y h => h.arg0 hA) hc (by rw [List.length_nil]; omega)).mono ?_
    rintro e w3 ⟨rfl, H1⟩
    rw [noteN_none', upd_laid2 (by simp), upd_laid2 (by simp), List.nil_append] at H1
    replace H : St w [] w3 (lay [led (.pointer none) none, .blk g 77 (sh2S p), led l (some [])]) := H1
    clear H1
    go_wp2_with fail
    refine (sh2Wipe_s l (some []) 0 0 g p H 2 1 (by omega) rfl rfl LW.nil (by omega) (by omega)).mono ?_
    rintro e w4 ⟨rfl, H1⟩
    rw [upd_laid2 (by simp), upd_laid2 (by simp)] at H1
    replace H : St w [] w4 (lay [led (.pointer none) none, .blk g 77 shZ, led l (some [((8, 104, 1) : RunT)])]) := H1
    clear H1
    go_wp2_with fail
    refine (ledger_runs_w 1 1 H 2 rfl (fun rs h => by injection h with h; subst h; exact ⟨by simp, by simp, by decide⟩) (by omega) 3 rfl).mono ?_
    rintro e w5 ⟨v5, rfl, H1⟩
    replace H := H1.push_mk rfl
    clear H1
    obtain ⟨A5, c5, rfl, -, -⟩ := row_shape (H.row 3 rfl)
    go_wp2_with fail
    refine absorb_calls (H.allocAt 4 rfl w5.heap.size rfl #[.int .u8 8, .int .i64 104, .int .i64 1] 45 |>.push_mk rfl) ?_
    clear H
    intro w6 H
    generalize w5.heap.size = gR at H ⊢
    refine (sameRuns_any A5 (some ⟨gR, 0, none⟩) c5 1 [(8, 104, 1)] [(8, 104, 1)] (H.rd 3 rfl) (H.rdBlk 4 rfl 3 1 rfl) (by simp) (by simp)).mono ?_
    rintro e w7 ⟨rfl, kd, rfl⟩
    replace H := H.drewN kd
    rw [decide_eq_true rfl]
    generalize w6.drewN kd = w7 at H ⊢
    go_wp2_with fail
    refine (lives2_s w7).mono ?_
    rintro e w8 ⟨rfl, hb2⟩
    replace H := H.call hb2
    clear hb2
    go_wp2_with fail
    refine (empty2_s (.pointer none) (.slice A n c) ⟨_, _, _, rfl⟩ w8 (.inl rfl)).mono ?_
    rintro e w9 ⟨rfl, hb2⟩
    replace H := H.call hb2
    clear hb2
    go_wp2_with fail
    refine absorb_calls (H.allocAt 5 rfl w9.heap.size rfl shZ.toArray 77 |>.push_mk rfl) ?_
    clear H
    intro wa H
    generalize w9.heap.size = gz at H ⊢
    refine (empty2_s (lptr gz) (.slice A n c) ⟨_, _, _, rfl⟩ wa (H.sh2No 5 rfl)).mono ?_
    rintro e wb ⟨rfl, hb2⟩
    replace H := H.call hb2
    clear hb2
    go_wp2_with fail
    refine (empty2_s (lptr g) (.slice A n c) ⟨_, _, _, rfl⟩ wb (H.sh2No 1 rfl)).mono ?_
    rintro e wc ⟨rfl, hb2⟩
    replace H := H.call hb2
    clear hb2
    go_wp2
    go_ret
    exact ⟨rfl, H.below⟩
end Go.Proofs.Ytcnphkmcgefjoaa
