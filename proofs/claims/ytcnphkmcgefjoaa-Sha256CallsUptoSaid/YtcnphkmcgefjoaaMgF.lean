/- Texts of this claim, merged: LawSh2Ca. -/

import Derived.Test.YtcnphkmcgefjoaaMgE
set_option linter.unusedVariables false

namespace Go.Proofs.Ytcnphkmcgefjoaa
open Go.RowKit
set_option linter.unusedVariables false
set_option maxRecDepth 100000

attribute [local irreducible] comp2 hTo dig2 laid4 h2 padM form2 lastN sh2S shZ

theorem shAct_s {w0 w : World} (gx : Nat) (l lr : Value) (r : Option (List RunT)) (N m : Nat) (b : Int) (p0 p1 p2 : KA × KA) (At Aw : Option Addr) (n ct cw : Nat) (tps : List Tp) (z0 z1 z2 : Int) (A3 : Option Addr) (n3 c3 : Nat) (l3 : List UInt8) (b4 : Bool)
    (hok : SlotOk N p0 ∧ SlotOk N p1 ∧ SlotOk N p2) (hN : N ≤ 100000000) (hg : LW r m b) (hm : m ≤ 10000) (hb : b ≤ 10000000000000000) (hrs : ∃ rs, r = some rs) (htn : tps.length = n) (hn : n ≤ 900) (htl : ∀ q ∈ tps, q.l.length ≤ 65536)
    (hz0 : -9223372036854775808 ≤ z0 ∧ z0 ≤ 9223372036854775807) (hz2 : -9223372036854775808 ≤ z2 ∧ z2 ≤ 9223372036854775807) (hR : Rd w0 1 A3 n3 (l3.map vb)) (hn3 : n3 ≤ 1000000) (hc3 : n3 ≤ c3)
    (H : St w0 [] w (lay [.blk gx 63 [p0.1.v, p1.1.v, p2.1.v, p0.2.v, p1.2.v, p2.2.v, l, lr, .slice At n ct, .slice Aw n cw], led l r, ledR lr r, bigO slotO [p0, p1, p2], .row 22 1 (.slice At n ct) n (tps.map Tp.v), .row 22 1 (.slice Aw n cw) n (tps.map Tp.u), bigO Tp.own tps])) :
    Calls Try.prog 30 #[lptr gx, .agg #[.int .i64 z0, .int .i64 z1, .int .i64 z2, .slice A3 n3 c3, .bool b4]] w (ActPost gx l lr N m b n w0) := by
  cases b4 with
  | false => exact shAct_f gx l lr r N m b p0 p1 p2 At Aw n ct cw tps z0 z1 z2 A3 n3 c3 l3 hok hN hg hm hb hrs htn hn htl hz0 hz2 hR hn3 hc3 H
  | true => exact shAct_t gx l lr r N m b p0 p1 p2 At Aw n ct cw tps z0 z1 z2 A3 n3 c3 l3 hok hN hg hm hb hrs htn hn htl hz0 hz2 hR hn3 hc3 H

theorem sact_size : (Try.prog.info? 67).map (·.size) = some 5 := by kernel_rfl
theorem three_sizeM : (Try.prog.info? 59).map (·.size) = some 3 := by kernel_rfl
theorem three_sizeR : (Try.prog.info? 61).map (·.size) = some 3 := by kernel_rfl

set_option maxHeartbeats 16000000 in
theorem sha256Calls_walk (A : Option Addr) (n c : Nat) (ks : List SactR) (w : World) (hA : Rd w 5 A n (sactsV ks)) (hn : n ≤ 1048576) (hks : ∀ s ∈ ks, s.Ok w) :
    Calls Try.prog 5 #[.slice A n c] w fun e w' => e = .returned (.bool true) ∧ Below w.heap.size w w' := by
  have hlks : ks.length = n := by have := hA.1; rw [sactsV_length] at this; omega
  have HLK := Lib.hid hlks
  have HKS := Lib.hid hks
  clear hlks hks
  have H0 := St.start_lay w []
  have ksz := sact_size
  go_enter Try.func5, Try.ntmps5
  go_wp2_with fail
  refine (lives2_s _).mono ?_
  rintro e w2 ⟨rfl, hb2⟩
  have H := H0.call hb2
  clear hb2 H0
  go_wp2_with fail
  refine (sh2Small_s A n c ks w2 (H.arg0 hA) hn (fun s hs => (HKS.out s hs).m3)).mono ?_
  rintro e w4 ⟨bs, rfl, hsm, hb⟩
  replace H := H.call hb
  clear hb
  cases bs with
  | false =>
    go_wp2
    go_ret
    exact ⟨rfl, H.below⟩
  | true =>
  have hn60 : n ≤ 60 := (hsm rfl).1
  have h16k : ∀ (j : Nat) (s : SactR), ks[j]? = some s → s.n3 ≤ 16384 := by
    intro j s hs
    have h1 := (hsm rfl).2
    have hj : j < ks.length := (List.getElem?_eq_some_iff.1 hs).1
    have h2 := ssTo_mem sactN (k := n) hs (by rw [← HLK.out]; exact hj)
    have h3 : s.n3 ≤ sactN s := Nat.le_refl _
    omega
  have HS4 := Lib.hid h16k
  clear hsm h16k hn
  go_wp2_with fail
  refine (ledger_new H 1 rfl).mono ?_
  rintro e w5 ⟨l, rfl, H1⟩
  clear H
  go_wp2_with fail
  refine (refLedger_new H1 2 rfl).mono ?_
  rintro e w6 ⟨lr, rfl, H2⟩
  clear H1
  obtain ⟨gl, -, -, rfl, -⟩ := H2.ledRead 1 rfl
  obtain ⟨gr, rfl, -⟩ := H2.ledROpen 2 rfl
  have HA0 := H2.allocAt 0 rfl w6.heap.size rfl #[.pointer none, .pointer none, .pointer none, .pointer none, .pointer none, .pointer none, .pointer (some ⟨gl, 0, none⟩), .pointer (some ⟨gr, 0, none⟩), .slice none 0 0, .slice none 0 0] 63
  clear H2
  unfold lptr
  go_wp2_with fail
  refine absorb_calls HA0 ?_
  clear HA0
  intro w7 H7
  generalize w6.heap.size = gx at H7 ⊢
  have Hb := ((((H7.push 3 rfl (Below.refl _ _) (A := bigO slotO [((KA.nil, KA.nil) : KA × KA), ((KA.nil, KA.nil) : KA × KA), ((KA.nil, KA.nil) : KA × KA)]) (F := []) ⟨[], [], rfl, ⟨[], [], rfl, rfl, rfl, by simp⟩, ⟨[], [], rfl, ⟨[], [], rfl, rfl, rfl, by simp⟩, ⟨[], [], rfl, ⟨[], [], rfl, rfl, rfl, by simp⟩, rfl, by simp⟩, by simp⟩, by simp⟩ (by simp)).nilRow 4 rfl 22 1).nilRow 5 rfl 22 1).nothing 6 rfl)
  clear H7
  have H : St w [] w7 (lay [.blk gx 63 [.pointer none, .pointer none, .pointer none, .pointer none, .pointer none, .pointer none, lptr gl, lptr gr, .slice none 0 0, .slice none 0 0], led (lptr gl) (some []), ledR (lptr gr) (some []), bigO slotO [((KA.nil, KA.nil) : KA × KA), ((KA.nil, KA.nil) : KA × KA), ((KA.nil, KA.nil) : KA × KA)], .row 22 1 (.slice none 0 0) 0 [], .row 22 1 (.slice none 0 0) 0 [], bigO Tp.own []]) := Hb.sub fun k C hC => by
    match k, hC with
    | 0, hC => cases (Option.some.inj hC); rfl
    | 1, hC => cases (Option.some.inj hC); rfl
    | 2, hC => cases (Option.some.inj hC); rfl
    | 3, hC => cases (Option.some.inj hC); rfl
    | 4, hC => cases (Option.some.inj hC); rfl
    | 5, hC => cases (Option.some.inj hC); rfl
    | 6, hC => cases (Option.some.inj hC); rfl
    | k + 7, hC => simp [lay] at hC
  clear Hb
  refine (sh2New_s H 7 rfl).mono ?_
  rintro e w8 ⟨g1, rfl, H1⟩
  clear H
  have H : St w [] w8 (lay [.blk gx 63 [.pointer none, .pointer none, .pointer none, .pointer none, .pointer none, .pointer none, lptr gl, lptr gr, .slice none 0 0, .slice none 0 0], led (lptr gl) (some []), ledR (lptr gr) (some []), bigO slotO [((KA.nil, KA.nil) : KA × KA), ((KA.nil, KA.nil) : KA × KA), ((KA.nil, KA.nil) : KA × KA)], .row 22 1 (.slice none 0 0) 0 [], .row 22 1 (.slice none 0 0) 0 [], bigO Tp.own [], .blk g1 77 (sh2S [])]) := H1.push_mk rfl
  clear H1
  go_wp2_with fail
  refine (sh2New_s H 8 rfl).mono ?_
  rintro e w9 ⟨g2, rfl, H1⟩
  clear H
  have H : St w [] w9 (lay [.blk gx 63 [.pointer none, .pointer none, .pointer none, .pointer none, .pointer none, .pointer none, lptr gl, lptr gr, .slice none 0 0, .slice none 0 0], led (lptr gl) (some []), ledR (lptr gr) (some []), bigO slotO [((KA.nil, KA.nil) : KA × KA), ((KA.nil, KA.nil) : KA × KA), ((KA.nil, KA.nil) : KA × KA)], .row 22 1 (.slice none 0 0) 0 [], .row 22 1 (.slice none 0 0) 0 [], bigO Tp.own [], .blk g1 77 (sh2S []), .blk g2 77 (sh2S [])]) := H1.push_mk rfl
  clear H1
  unfold lptr
  go_wp2_with (with_reducible refine hold_store2 59 (.tmp 26) (.tmp 24) (by rfl) ?_)
  refine Lib.hid ?_
  refine wpList_store_mid rfl 59 (.tmp 26) (.tmp 24) rfl gx 0 #[.pointer (some ⟨g1, 0, none⟩), .pointer (some ⟨g2, 0, none⟩), .pointer none] rfl rfl (by have h := H.there 0 rfl; exact fun j hj => h j (by simp at hj ⊢; omega)) (by rw [three_sizeM]; rfl) (by kernel_rfl) ?_
  have H4 := (((((H.store 0 rfl (o := 0) (u := .pointer (some ⟨g1, 0, none⟩))).upd_mk (by simp)).store 0 rfl (o := 1) (u := .pointer (some ⟨g2, 0, none⟩))).upd_mk (by simp)).store 0 rfl (o := 2) (u := .pointer none)).upd_mk (by simp)
  have H5 : St w [] (w9.setCells gx 0 [.pointer (some ⟨g1, 0, none⟩), .pointer (some ⟨g2, 0, none⟩), .pointer none]) (lay [.blk gx 63 [.pointer (some ⟨g1, 0, none⟩), .pointer (some ⟨g2, 0, none⟩), .pointer none, .pointer none, .pointer none, .pointer none, lptr gl, lptr gr, .slice none 0 0, .slice none 0 0], led (lptr gl) (some []), ledR (lptr gr) (some []), bigO slotO [((KA.nil, KA.nil) : KA × KA), ((KA.nil, KA.nil) : KA × KA), ((KA.nil, KA.nil) : KA × KA)], .row 22 1 (.slice none 0 0) 0 [], .row 22 1 (.slice none 0 0) 0 [], bigO Tp.own [], .blk g1 77 (sh2S []), .blk g2 77 (sh2S [])]) := H4
  clear H4 H
  show wpList Try.prog _ _ [] _ (w9.setCells gx 0 [.pointer (some ⟨g1, 0, none⟩), .pointer (some ⟨g2, 0, none⟩), .pointer none])
  simp only [Act.put]
  refine absorb_list H5 ?_
  clear H5
  intro w10 H
  go_wp2_with fail
  refine (rtNew_s H 9 10 rfl rfl (by omega)).mono ?_
  rintro e w11 ⟨g3, rfl, H1⟩
  rw [upd_push (by simp), upd_push (by simp)] at H1
  have H5 := St.join_mk (L := [.blk gx 63 [.pointer (some ⟨g1, 0, none⟩), .pointer (some ⟨g2, 0, none⟩), .pointer none, .pointer none, .pointer none, .pointer none, lptr gl, lptr gr, .slice none 0 0, .slice none 0 0], led (lptr gl) (some []), ledR (lptr gr) (some []), bigO slotO [((KA.nil, KA.nil) : KA × KA), ((KA.nil, KA.nil) : KA × KA), ((KA.nil, KA.nil) : KA × KA)], .row 22 1 (.slice none 0 0) 0 [], .row 22 1 (.slice none 0 0) 0 [], bigO Tp.own [], .blk g1 77 (sh2S []), .blk g2 77 (sh2S []), .blk g3 90 [.slice none 0 0, .bool true]]) H1 9 rfl
  have H6 := (H5.shutEx (A := rtP g3 []) (none, 0) 9 rfl).upd_mk (by simp)
  clear H H1 H5
  have H : St w [] w11 (lay [.blk gx 63 [.pointer (some ⟨g1, 0, none⟩), .pointer (some ⟨g2, 0, none⟩), .pointer none, .pointer none, .pointer none, .pointer none, lptr gl, lptr gr, .slice none 0 0, .slice none 0 0], led (lptr gl) (some []), ledR (lptr gr) (some []), bigO slotO [((KA.nil, KA.nil) : KA × KA), ((KA.nil, KA.nil) : KA × KA), ((KA.nil, KA.nil) : KA × KA)], .row 22 1 (.slice none 0 0) 0 [], .row 22 1 (.slice none 0 0) 0 [], bigO Tp.own [], .blk g1 77 (sh2S []), .blk g2 77 (sh2S []), (KA.live g3 []).ownR]) := H6
  clear H6
  go_wp2_with fail
  refine (rtNew_s H 10 11 rfl rfl (by omega)).mono ?_
  rintro e w12 ⟨g4, rfl, H1⟩
  rw [upd_push (by simp), upd_push (by simp)] at H1
  have H5 := St.join_mk (L := [.blk gx 63 [.pointer (some ⟨g1, 0, none⟩), .pointer (some ⟨g2, 0, none⟩), .pointer none, .pointer none, .pointer none, .pointer none, lptr gl, lptr gr, .slice none 0 0, .slice none 0 0], led (lptr gl) (some []), ledR (lptr gr) (some []), bigO slotO [((KA.nil, KA.nil) : KA × KA), ((KA.nil, KA.nil) : KA × KA), ((KA.nil, KA.nil) : KA × KA)], .row 22 1 (.slice none 0 0) 0 [], .row 22 1 (.slice none 0 0) 0 [], bigO Tp.own [], .blk g1 77 (sh2S []), .blk g2 77 (sh2S []), (KA.live g3 []).ownR, .blk g4 90 [.slice none 0 0, .bool true]]) H1 10 rfl
  have H6 := (H5.shutEx (A := rtP g4 []) (none, 0) 10 rfl).upd_mk (by simp)
  clear H H1 H5
  have H : St w [] w12 (lay [.blk gx 63 [.pointer (some ⟨g1, 0, none⟩), .pointer (some ⟨g2, 0, none⟩), .pointer none, .pointer none, .pointer none, .pointer none, lptr gl, lptr gr, .slice none 0 0, .slice none 0 0], led (lptr gl) (some []), ledR (lptr gr) (some []), bigO slotO [((KA.nil, KA.nil) : KA × KA), ((KA.nil, KA.nil) : KA × KA), ((KA.nil, KA.nil) : KA × KA)], .row 22 1 (.slice none 0 0) 0 [], .row 22 1 (.slice none 0 0) 0 [], bigO Tp.own [], .blk g1 77 (sh2S []), .blk g2 77 (sh2S []), (KA.live g3 []).ownR, (KA.live g4 []).ownR]) := H6
  clear H6
  unfold lptr
  go_wp2_with (with_reducible refine hold_store2 61 (.tmp 32) (.tmp 30) (by rfl) ?_)
  refine Lib.hid ?_
  refine wpList_store_mid rfl 61 (.tmp 32) (.tmp 30) rfl gx 3 #[.pointer (some ⟨g3, 0, none⟩), .pointer (some ⟨g4, 0, none⟩), .pointer none] rfl rfl (by have h := H.there 0 rfl; exact fun j hj => by have h2 := h (3 + j) (by simp at hj ⊢; omega); rwa [Nat.zero_add] at h2) (by rw [three_sizeR]; rfl) (by kernel_rfl) ?_
  have H4 := (((((H.store 0 rfl (o := 3) (u := .pointer (some ⟨g3, 0, none⟩))).upd_mk (by simp)).store 0 rfl (o := 4) (u := .pointer (some ⟨g4, 0, none⟩))).upd_mk (by simp)).store 0 rfl (o := 5) (u := .pointer none)).upd_mk (by simp)
  have H5 : St w [] (w12.setCells gx 3 [.pointer (some ⟨g3, 0, none⟩), .pointer (some ⟨g4, 0, none⟩), .pointer none]) (lay [.blk gx 63 [.pointer (some ⟨g1, 0, none⟩), .pointer (some ⟨g2, 0, none⟩), .pointer none, .pointer (some ⟨g3, 0, none⟩), .pointer (some ⟨g4, 0, none⟩), .pointer none, lptr gl, lptr gr, .slice none 0 0, .slice none 0 0], led (lptr gl) (some []), ledR (lptr gr) (some []), bigO slotO [((KA.nil, KA.nil) : KA × KA), ((KA.nil, KA.nil) : KA × KA), ((KA.nil, KA.nil) : KA × KA)], .row 22 1 (.slice none 0 0) 0 [], .row 22 1 (.slice none 0 0) 0 [], bigO Tp.own [], .blk g1 77 (sh2S []), .blk g2 77 (sh2S []), (KA.live g3 []).ownR, (KA.live g4 []).ownR]) := H4
  clear H4 H
  show wpList Try.prog _ _ [] _ (w12.setCells gx 3 [.pointer (some ⟨g3, 0, none⟩), .pointer (some ⟨g4, 0, none⟩), .pointer none])
  simp only [Act.put]
  refine absorb_list H5 ?_
  clear H5
  intro w13 H
  have J1 := St.join_mk (L := [.blk gx 63 [.pointer (some ⟨g1, 0, none⟩), .pointer (some ⟨g2, 0, none⟩), .pointer none, .pointer (some ⟨g3, 0, none⟩), .pointer (some ⟨g4, 0, none⟩), .pointer none, lptr gl, lptr gr, .slice none 0 0, .slice none 0 0], led (lptr gl) (some []), ledR (lptr gr) (some []), bigO slotO [((KA.nil, KA.nil) : KA × KA), ((KA.nil, KA.nil) : KA × KA), ((KA.nil, KA.nil) : KA × KA)], .row 22 1 (.slice none 0 0) 0 [], .row 22 1 (.slice none 0 0) 0 [], bigO Tp.own [], .blk g1 77 (sh2S []), .blk g2 77 (sh2S []), (KA.live g3 []).ownR]) H 8 rfl
  have J2 := St.join_mk (L := [.blk gx 63 [.pointer (some ⟨g1, 0, none⟩), .pointer (some ⟨g2, 0, none⟩), .pointer none, .pointer (some ⟨g3, 0, none⟩), .pointer (some ⟨g4, 0, none⟩), .pointer none, lptr gl, lptr gr, .slice none 0 0, .slice none 0 0], led (lptr gl) (some []), ledR (lptr gr) (some []), bigO slotO [((KA.nil, KA.nil) : KA × KA), ((KA.nil, KA.nil) : KA × KA), ((KA.nil, KA.nil) : KA × KA)], .row 22 1 (.slice none 0 0) 0 [], .row 22 1 (.slice none 0 0) 0 [], bigO Tp.own [], .blk g1 77 (sh2S []), .sep (.blk g2 77 (sh2S [])) (KA.live g4 []).ownR]) J1 7 rfl
  have J3 := St.putSlot (f := slotO) (x := (KA.live g2 [], KA.live g4 [])) (L0 := [.blk gx 63 [.pointer (some ⟨g1, 0, none⟩), .pointer (some ⟨g2, 0, none⟩), .pointer none, .pointer (some ⟨g3, 0, none⟩), .pointer (some ⟨g4, 0, none⟩), .pointer none, lptr gl, lptr gr, .slice none 0 0, .slice none 0 0], led (lptr gl) (some []), ledR (lptr gr) (some []), bigO slotO [((KA.nil, KA.nil) : KA × KA), ((KA.nil, KA.nil) : KA × KA), ((KA.nil, KA.nil) : KA × KA)], .row 22 1 (.slice none 0 0) 0 [], .row 22 1 (.slice none 0 0) 0 [], bigO Tp.own [], .sep (.blk g1 77 (sh2S [])) (KA.live g3 []).ownR]) J2 3 1 rfl (by simp)
  have J4 := St.putSlot (f := slotO) (x := (KA.live g1 [], KA.live g3 [])) (L0 := [.blk gx 63 [.pointer (some ⟨g1, 0, none⟩), .pointer (some ⟨g2, 0, none⟩), .pointer none, .pointer (some ⟨g3, 0, none⟩), .pointer (some ⟨g4, 0, none⟩), .pointer none, lptr gl, lptr gr, .slice none 0 0, .slice none 0 0], led (lptr gl) (some []), ledR (lptr gr) (some []), bigO slotO ([((KA.nil, KA.nil) : KA × KA), ((KA.nil, KA.nil) : KA × KA), ((KA.nil, KA.nil) : KA × KA)].set 1 (KA.live g2 [], KA.live g4 [])), .row 22 1 (.slice none 0 0) 0 [], .row 22 1 (.slice none 0 0) 0 [], bigO Tp.own []]) J3 3 0 rfl (by simp)
  clear H J1 J2 J3
  have H2 : St w [] w13 (lay [.blk gx 63 [.pointer (some ⟨g1, 0, none⟩), .pointer (some ⟨g2, 0, none⟩), .pointer none, .pointer (some ⟨g3, 0, none⟩), .pointer (some ⟨g4, 0, none⟩), .pointer none, lptr gl, lptr gr, .slice none 0 0, .slice none 0 0], led (lptr gl) (some []), ledR (lptr gr) (some []), bigO slotO [(KA.live g1 [], KA.live g3 []), (KA.live g2 [], KA.live g4 []), ((KA.nil, KA.nil) : KA × KA)], .row 22 1 (.slice none 0 0) 0 [], .row 22 1 (.slice none 0 0) 0 [], bigO Tp.own []]) := J4
  clear J4
  go_wp2
  go_loopw [5] (fun i wr => ∃ (j : Nat) (p0 p1 p2 : KA × KA) (r : Option (List RunT)) (At Aw : Option Addr) (nt ct cw : Nat) (tps : List Tp), j ≤ n ∧ i = .int .i64 (j : Int) ∧ (SlotOk (j * 1000000) p0 ∧ SlotOk (j * 1000000) p1 ∧ SlotOk (j * 1000000) p2) ∧ LW r (2 * j) (((j : Nat) : Int) * 400000000) ∧ (∃ rs, r = some rs) ∧ tps.length = nt ∧ nt ≤ j ∧ (∀ q ∈ tps, q.l.length ≤ 65536) ∧ St w [] wr (lay [.blk gx 63 [p0.1.v, p1.1.v, p2.1.v, p0.2.v, p1.2.v, p2.2.v, lptr gl, lptr gr, .slice At nt ct, .slice Aw nt cw], led (lptr gl) r, ledR (lptr gr) r, bigO slotO [p0, p1, p2], .row 22 1 (.slice At nt ct) nt (tps.map Tp.v), .row 22 1 (.slice Aw nt cw) nt (tps.map Tp.u), bigO Tp.own tps])) (fun i _ => n - (intOf i).toNat)
  case atStart => exact ⟨0, (KA.live g1 [], KA.live g3 []), (KA.live g2 [], KA.live g4 []), (KA.nil, KA.nil), some [], none, none, 0, 0, 0, [], Nat.zero_le _, rfl, ⟨⟨newA_ok _, rfl⟩, ⟨newA_ok _, rfl⟩, ⟨fun x e => (by cases e), rfl⟩⟩, LW.nil.more (by omega) (by omega), ⟨_, rfl⟩, rfl, by omega, by simp, H2⟩
  case round =>
    clear H2
    obtain ⟨j, p0, p1, p2, r, At, Aw, nt, ct, cw, tps, hj, rfl, hok, hg, hrs, htn, hnt, htl, H⟩ := hrel
    by_cases hlt : j < n
    · obtain ⟨x, hx⟩ : ∃ v, ks[j]? = some v := ⟨_, List.getElem?_eq_getElem (by rw [HLK.out]; exact hlt)⟩
      obtain ⟨ad, of, rfl, hr0⟩ := sact_range (H.arg0 hA) hx
      have hxk := HKS.out x (List.mem_of_getElem? hx)
      have hx4 := HS4.out j x hx
      have hr : wr.rangeAt ad (of + j * 5) [.int .i64 x.z0, .int .i64 x.z1, .int .i64 x.z2, .slice x.A3 x.n3 x.c3, .bool x.b4] := hr0
      have HXK := Lib.hid hxk
      have HR := Lib.hid hr
      clear hr0 hr hxk hx
      have hji : (j : Int) < n := by omega
      have HOK := Lib.hid hok
      have HTL := Lib.hid htl
      clear hok htl
      go_wp2_with (refine wpList_load_mid rfl 67 (.tmp 42) rfl ad (of + j * 5) rfl [.int .i64 x.z0, .int .i64 x.z1, .int .i64 x.z2, .slice x.A3 x.n3 x.c3, .bool x.b4] _ HR.out Try.underlying67 rfl (by rw [ksz]; rfl) ?_)
      refine (shAct_s gx (lptr gl) (lptr gr) r (j * 1000000) (2 * j) (((j : Nat) : Int) * 400000000) p0 p1 p2 At Aw nt ct cw tps x.z0 x.z1 x.z2 x.A3 x.n3 x.c3 x.l3 x.b4 HOK.out (by omega) hg (by omega) (by omega) hrs htn (by omega) HTL.out HXK.out.i0 HXK.out.i2 HXK.out.r3 (by omega) HXK.out.q3 H).mono ?_
      rintro e w10 ⟨q0, q1, q2, r2, At2, Aw2, nt2, ct2, cw2, tps2, rfl, hok2, hg2, ⟨rs, rfl⟩, htn2, hnt2, htl2, H2⟩
      clear H HR hg hrs htn
      go_upto_region 13 with (fail)
      refine absorb_wp H2 ?_
      clear H2
      intro w11 H
      replace H := H.drew
      refine wp_region_held_drew (S := fun w' : World => St w [] w' (lay [.blk gx 63 [q0.1.v, q1.1.v, q2.1.v, q0.2.v, q1.2.v, q2.2.v, lptr gl, lptr gr, .slice At2 nt2 ct2, .slice Aw2 nt2 cw2], led (lptr gl) (some rs), ledR (lptr gr) (some rs), bigO slotO [q0, q1, q2], .row 22 1 (.slice At2 nt2 ct2) nt2 (tps2.map Tp.v), .row 22 1 (.slice Aw2 nt2 cw2) nt2 (tps2.map Tp.u), bigO Tp.own tps2])) (by kernel_rfl) ?_ (fun hHeld => ?_)
      · exact H
      refine takeV 0 rfl (by intro w h; clear h; go_simp; try with_reducible rfl) (by kernel_rfl) (by kernel_rfl) (by kernel_rfl) (by exact fun _ _ _ h => h) (by rfl) (by assumption) ?_
      try simp only [Act.put, List.setIfInBounds_toArray, List.set_cons_zero, List.set_cons_succ]
      refine takeV 1 rfl (by intro w h; clear h; go_simp; try with_reducible rfl) (by kernel_rfl) (by kernel_rfl) (by kernel_rfl) (by exact fun _ _ _ h => h) (by rfl) (by assumption) ?_
      try simp only [Act.put, List.setIfInBounds_toArray, List.set_cons_zero, List.set_cons_succ]
      refine takeV 2 rfl (by intro w h; clear h; go_simp; try with_reducible rfl) (by kernel_rfl) (by kernel_rfl) (by kernel_rfl) (by exact fun _ _ _ h => h) (by rfl) (by assumption) ?_
      try simp only [Act.put, List.setIfInBounds_toArray, List.set_cons_zero, List.set_cons_succ]
      refine takeV 3 rfl (by intro w h; clear h; go_simp; try with_reducible rfl) (by kernel_rfl) (by kernel_rfl) (by kernel_rfl) (by exact fun _ _ _ h => h) (by rfl) (by assumption) ?_
      try simp only [Act.put, List.setIfInBounds_toArray, List.set_cons_zero, List.set_cons_succ]
      refine takeV 4 rfl (by intro w h; clear h; go_simp; try with_reducible rfl) (by kernel_rfl) (by kernel_rfl) (by kernel_rfl) (by exact fun _ _ _ h => h) (by rfl) (by assumption) ?_
      try simp only [Act.put, List.setIfInBounds_toArray, List.set_cons_zero, List.set_cons_succ]
      refine takeV 5 rfl (by intro w h; clear h; go_simp; try with_reducible rfl) (by kernel_rfl) (by kernel_rfl) (by kernel_rfl) (by exact fun _ _ _ h => h) (by rfl) (by assumption) ?_
      try simp only [Act.put, List.setIfInBounds_toArray, List.set_cons_zero, List.set_cons_succ]
      refine takeV 6 rfl (by intro w h; have hc := h.cell 0 rfl (o := 6) rfl; clear h; go_simp; try with_reducible rfl) (by kernel_rfl) (by kernel_rfl) (by kernel_rfl) (by exact fun _ _ _ h => h) (by rfl) (by assumption) ?_
      try simp only [Act.put, List.setIfInBounds_toArray, List.set_cons_zero, List.set_cons_succ]
      refine takeV 8 rfl (by intro w h; clear h; go_simp; try with_reducible rfl) (by kernel_rfl) (by kernel_rfl) (by kernel_rfl) (by exact fun _ _ _ h => h) (by rfl) (by assumption) ?_
      try simp only [Act.put, List.setIfInBounds_toArray, List.set_cons_zero, List.set_cons_succ]
      refine takeV 9 rfl (by intro w h; clear h; go_simp; try with_reducible rfl) (by kernel_rfl) (by kernel_rfl) (by kernel_rfl) (by exact fun _ _ _ h => h) (by rfl) (by assumption) ?_
      try simp only [Act.put, List.setIfInBounds_toArray, List.set_cons_zero, List.set_cons_succ]
      refine takeV 10 rfl (by intro w h; clear h; go_simp; try with_reducible rfl) (by kernel_rfl) (by kernel_rfl) (by kernel_rfl) (by exact fun _ _ _ h => h) (by rfl) (by assumption) ?_
      try simp only [Act.put, List.setIfInBounds_toArray, List.set_cons_zero, List.set_cons_succ]
      refine takeV 11 rfl (by intro w h; have hc := h.cell 0 rfl (o := 7) rfl; clear h; go_simp; try with_reducible rfl) (by kernel_rfl) (by kernel_rfl) (by kernel_rfl) (by exact fun _ _ _ h => h) (by rfl) (by assumption) ?_
      try simp only [Act.put, List.setIfInBounds_toArray, List.set_cons_zero, List.set_cons_succ]
      have hnn : (total rs != total rs) = false := by simp
      refine take_call 7 rfl (by kernel_rfl) (fun K hK => ?_)
      try go_simp
      refine (ledger_len_w H 1 rfl).mono ?_
      rintro e wx ⟨rfl, rfl⟩
      refine hK.out _ _ ?_ (fun hHeld => ?_)
      · exact H
      clear hK K
      try simp only [Act.put, List.setIfInBounds_toArray, List.set_cons_zero, List.set_cons_succ]
      refine take_call 12 rfl (by kernel_rfl) (fun K hK => ?_)
      try go_simp
      refine (refLen_w (2 * j + 2) _ H 2 rfl hg2 (by omega) (by omega)).mono ?_
      rintro e wx ⟨rfl, rfl⟩
      refine hK.out _ _ ?_ (fun hHeld => ?_)
      · exact H
      clear hK K
      try simp only [Act.put, List.setIfInBounds_toArray, List.set_cons_zero, List.set_cons_succ]
      refine takeV 13 rfl (by intro w h; clear h; go_simp; try with_reducible rfl) (by kernel_rfl) (by kernel_rfl) (by kernel_rfl) (by exact fun _ _ _ h => h) (by rfl) (by assumption) ?_
      try simp only [Act.put, List.setIfInBounds_toArray, List.set_cons_zero, List.set_cons_succ]
      refine takeV 14 rfl (by intro w h; clear h; go_simp; try with_reducible rfl) (by kernel_rfl) (by kernel_rfl) (by kernel_rfl) (by exact fun _ _ _ h => h) (by rfl) (by assumption) ?_
      try simp only [Act.put, List.setIfInBounds_toArray, List.set_cons_zero, List.set_cons_succ]
      refine wpAnyH_done (by kernel_rfl) ?_ _
      go_wp2
      go_roundw
      case rel => exact ⟨j + 1, q0, q1, q2, some rs, At2, Aw2, nt2, ct2, cw2, tps2, by omega, by go_num, ⟨hok2.1.more (by omega), hok2.2.1.more (by omega), hok2.2.2.more (by omega)⟩, hg2.more (by omega) (by omega), ⟨_, rfl⟩, htn2, by omega, htl2, H⟩
      case measure => simp [intOf]; omega
    · obtain rfl : j = n := by omega
      have hji : ¬ (j : Int) < j := by omega
      obtain ⟨rs, rfl⟩ := hrs
      have HTL := Lib.hid htl
      have HTN := Lib.hid htn
      have HOK := Lib.hid hok
      clear htl htn hlt hok
      have hnt60 : nt ≤ 60 := by omega
      go_wp2
      go_loopw [7] (fun i wr => ∃ q : Nat, q ≤ nt ∧ i = .int .i64 (q : Int) ∧ St w [] wr (lay [.blk gx 63 [p0.1.v, p1.1.v, p2.1.v, p0.2.v, p1.2.v, p2.2.v, lptr gl, lptr gr, .slice At nt ct, .slice Aw nt cw], led (lptr gl) (some rs), ledR (lptr gr) (some rs), bigO slotO [p0, p1, p2], .row 22 1 (.slice At nt ct) nt (tps.map Tp.v), .row 22 1 (.slice Aw nt cw) nt (tps.map Tp.u), bigO Tp.own tps])) (fun i _ => nt - (intOf i).toNat)
      case atStart => exact ⟨0, Nat.zero_le _, rfl, H⟩
      case round =>
        clear H
        obtain ⟨q, hq, rfl, H⟩ := hrel
        have x8 := H.cell 0 rfl (o := 8) rfl
        by_cases hlq : q < nt
        · have hqi : (q : Int) < nt := by omega
          obtain ⟨⟨tv, tu, tl⟩, htp⟩ : ∃ v, tps[q]? = some v := ⟨_, List.getElem?_eq_getElem (by rw [HTN.out]; exact hlq)⟩
          obtain ⟨G, G1, G2, -, ⟨hG1, -⟩, ⟨hG2, -⟩, -⟩ := H.bigRow 6 rfl htp
          obtain ⟨Av, cv, e1, -, -⟩ := row_form hG1
          obtain ⟨Au, cu, e2, -, -⟩ := row_form hG2
          simp only at e1 e2
          subst e1 e2
          obtain ⟨At', ct', et, -, hAt⟩ := row_form (H.row 4 rfl)
          injection et with et1 et2 et3
          subst et1
          obtain ⟨gT, rfl, -⟩ := hAt (by omega)
          obtain ⟨Aw', cw', ew, -, hAw⟩ := row_form (H.row 5 rfl)
          injection ew with ew1 ew2 ew3
          subst ew1
          obtain ⟨gU, rfl, -⟩ := hAw (by omega)
          have htl := HTL.out _ (List.mem_of_getElem? htp)
          simp only at htl
          clear et2 et3 ew2 ew3 hAt hAw hG1 hG2
          have HTP := Lib.hid htp
          clear htp
          go_upto_region 18 with (fail)
          refine absorb_wp H ?_
          clear H x8
          intro w11 H
          replace H := H.drew
          refine wp_region_held_drew (S := fun w' : World => St w [] w' (lay [.blk gx 63 [p0.1.v, p1.1.v, p2.1.v, p0.2.v, p1.2.v, p2.2.v, lptr gl, lptr gr, .slice (some ⟨gT, 0, none⟩) nt ct, .slice (some ⟨gU, 0, none⟩) nt cw], led (lptr gl) (some rs), ledR (lptr gr) (some rs), bigO slotO [p0, p1, p2], .row 22 1 (.slice (some ⟨gT, 0, none⟩) nt ct) nt (tps.map Tp.v), .row 22 1 (.slice (some ⟨gU, 0, none⟩) nt cw) nt (tps.map Tp.u), bigO Tp.own tps])) (by kernel_rfl) ?_ (fun hHeld => ?_)
          · exact H
          refine takeV 0 rfl (by intro w h; clear h; go_simp; try with_reducible rfl) (by kernel_rfl) (by kernel_rfl) (by kernel_rfl) (by exact fun _ _ _ h => h) (by rfl) (by assumption) ?_
          try simp only [Act.put, List.setIfInBounds_toArray, List.set_cons_zero, List.set_cons_succ]
          refine takeV 1 rfl (by intro w h; clear h; go_simp; try with_reducible rfl) (by kernel_rfl) (by kernel_rfl) (by kernel_rfl) (by exact fun _ _ _ h => h) (by rfl) (by assumption) ?_
          try simp only [Act.put, List.setIfInBounds_toArray, List.set_cons_zero, List.set_cons_succ]
          refine takeV 2 rfl (by intro w h; clear h; go_simp; try with_reducible rfl) (by kernel_rfl) (by kernel_rfl) (by kernel_rfl) (by exact fun _ _ _ h => h) (by rfl) (by assumption) ?_
          try simp only [Act.put, List.setIfInBounds_toArray, List.set_cons_zero, List.set_cons_succ]
          refine takeV 3 rfl (by intro w h; have hc := h.cell 0 rfl (o := 8) rfl; clear h; go_simp; try with_reducible rfl) (by kernel_rfl) (by kernel_rfl) (by kernel_rfl) (by exact fun _ _ _ h => h) (by rfl) (by assumption) ?_
          try simp only [Act.put, List.setIfInBounds_toArray, List.set_cons_zero, List.set_cons_succ]
          refine takeV 4 rfl (by intro w h; clear h; go_simp; try with_reducible rfl) (by kernel_rfl) (by kernel_rfl) (by kernel_rfl) (by exact fun _ _ _ h => h) (by rfl) (by assumption) ?_
          try simp only [Act.put, List.setIfInBounds_toArray, List.set_cons_zero, List.set_cons_succ]
          refine takeV 5 rfl (by intro w h; clear h; go_simp; try with_reducible rfl) (by kernel_rfl) (by kernel_rfl) (by kernel_rfl) (by exact fun _ _ _ h => h) (by rfl) (by assumption) ?_
          try simp only [Act.put, List.setIfInBounds_toArray, List.set_cons_zero, List.set_cons_succ]
          refine takeV 6 rfl (by intro w h; have hc := tp_cell (f := Tp.v) (h.row 4 rfl) HTP.out HTN.out; clear h; go_simp; try with_reducible rfl) (by kernel_rfl) (by kernel_rfl) (by kernel_rfl) (by exact fun _ _ _ h => h) (by rfl) (by assumption) ?_
          try simp only [Act.put, List.setIfInBounds_toArray, List.set_cons_zero, List.set_cons_succ]
          refine takeV 7 rfl (by intro w h; clear h; go_simp; try with_reducible rfl) (by kernel_rfl) (by kernel_rfl) (by kernel_rfl) (by exact fun _ _ _ h => h) (by rfl) (by assumption) ?_
          try simp only [Act.put, List.setIfInBounds_toArray, List.set_cons_zero, List.set_cons_succ]
          refine takeV 8 rfl (by intro w h; clear h; go_simp; try with_reducible rfl) (by kernel_rfl) (by kernel_rfl) (by kernel_rfl) (by exact fun _ _ _ h => h) (by rfl) (by assumption) ?_
          try simp only [Act.put, List.setIfInBounds_toArray, List.set_cons_zero, List.set_cons_succ]
          refine takeV 9 rfl (by intro w h; clear h; go_simp; try with_reducible rfl) (by kernel_rfl) (by kernel_rfl) (by kernel_rfl) (by exact fun _ _ _ h => h) (by rfl) (by assumption) ?_
          try simp only [Act.put, List.setIfInBounds_toArray, List.set_cons_zero, List.set_cons_succ]
          refine takeV 10 rfl (by intro w h; have hc := h.cell 0 rfl (o := 9) rfl; clear h; go_simp; try with_reducible rfl) (by kernel_rfl) (by kernel_rfl) (by kernel_rfl) (by exact fun _ _ _ h => h) (by rfl) (by assumption) ?_
          try simp only [Act.put, List.setIfInBounds_toArray, List.set_cons_zero, List.set_cons_succ]
          refine takeV 11 rfl (by intro w h; clear h; go_simp; try with_reducible rfl) (by kernel_rfl) (by kernel_rfl) (by kernel_rfl) (by exact fun _ _ _ h => h) (by rfl) (by assumption) ?_
          try simp only [Act.put, List.setIfInBounds_toArray, List.set_cons_zero, List.set_cons_succ]
          refine takeV 12 rfl (by intro w h; clear h; go_simp; try with_reducible rfl) (by kernel_rfl) (by kernel_rfl) (by kernel_rfl) (by exact fun _ _ _ h => h) (by rfl) (by assumption) ?_
          try simp only [Act.put, List.setIfInBounds_toArray, List.set_cons_zero, List.set_cons_succ]
          refine takeV 13 rfl (by intro w h; have hc := tp_cell (f := Tp.u) (h.row 5 rfl) HTP.out HTN.out; clear h; go_simp; try with_reducible rfl) (by kernel_rfl) (by kernel_rfl) (by kernel_rfl) (by exact fun _ _ _ h => h) (by rfl) (by assumption) ?_
          try simp only [Act.put, List.setIfInBounds_toArray, List.set_cons_zero, List.set_cons_succ]
          refine take_call 14 rfl (by kernel_rfl) (fun K hK => ?_)
          try go_simp
          obtain ⟨G, G1, G2, -, ⟨hG1, -⟩, ⟨hG2, -⟩, -⟩ := H.bigRow 6 rfl HTP.out
          refine (sameBytes_yes Av Au tl.length tl.length cv cu tl tl _ (Rd.of_own hG1) (Rd.of_own hG2) (by omega) (by omega) rfl).mono ?_
          rintro e wx ⟨rfl, hb⟩
          clear hG1 hG2
          replace H := H.call hb
          refine hK.out _ _ ?_ (fun hHeld => ?_)
          · exact H
          clear hK K
          try simp only [Act.put, List.setIfInBounds_toArray, List.set_cons_zero, List.set_cons_succ]
          refine takeV 15 rfl (by intro w h; clear h; go_simp; try with_reducible rfl) (by kernel_rfl) (by kernel_rfl) (by kernel_rfl) (by exact fun _ _ _ h => h) (by rfl) (by assumption) ?_
          try simp only [Act.put, List.setIfInBounds_toArray, List.set_cons_zero, List.set_cons_succ]
          refine wpAnyH_done (by kernel_rfl) ?_ _
          go_wp2
          go_roundw
          case rel => exact ⟨q + 1, by omega, by go_num, H⟩
          case measure => simp [intOf]; omega
        · obtain rfl : q = nt := by omega
          have hqi : ¬ (q : Int) < q := by omega
          go_wp2
          go_loopw [9] (fun i wr => ∃ (y : Nat) (p0 p1 p2 : KA × KA) (r : Option (List RunT)) (At Aw : Option Addr) (nt ct cw : Nat) (tps : List Tp), y ≤ 3 ∧ i = .int .i64 (y : Int) ∧ (SlotOk ((j + y) * 1000000) p0 ∧ SlotOk ((j + y) * 1000000) p1 ∧ SlotOk ((j + y) * 1000000) p2) ∧ LW r (2 * j + 2 * y) ((((j + y) : Nat) : Int) * 400000000) ∧ (∃ rs, r = some rs) ∧ tps.length = nt ∧ nt ≤ 60 + y ∧ (∀ q ∈ tps, q.l.length ≤ 65536) ∧ St w [] wr (lay [.blk gx 63 [p0.1.v, p1.1.v, p2.1.v, p0.2.v, p1.2.v, p2.2.v, lptr gl, lptr gr, .slice At nt ct, .slice Aw nt cw], led (lptr gl) r, ledR (lptr gr) r, bigO slotO [p0, p1, p2], .row 22 1 (.slice At nt ct) nt (tps.map Tp.v), .row 22 1 (.slice Aw nt cw) nt (tps.map Tp.u), bigO Tp.own tps])) (fun i _ => 3 - (intOf i).toNat)
          case atStart => exact ⟨0, p0, p1, p2, some rs, At, Aw, q, ct, cw, tps, Nat.zero_le _, rfl, ⟨HOK.out.1.more (by omega), HOK.out.2.1.more (by omega), HOK.out.2.2.more (by omega)⟩, hg.more (by omega) (by omega), ⟨_, rfl⟩, HTN.out, by omega, HTL.out, H⟩
          case round =>
            clear H HOK HTN HTL hg x8
            obtain ⟨y, p0, p1, p2, r, At, Aw, nt, ct, cw, tps, hy, rfl, hok, hg, hrs, htn, hnt, htl, H⟩ := hrel
            by_cases hly : y < 3
            · have hyi : (y : Int) < 3 := by omega
              go_wp2_with fail
              refine (shAct_f gx (lptr gl) (lptr gr) r ((j + y) * 1000000) (2 * j + 2 * y) (((j + y : Nat) : Int) * 400000000) p0 p1 p2 At Aw nt ct cw tps (y : Int) 5 0 none 0 0 [] hok (by omega) hg (by omega) (by omega) hrs htn (by omega) htl (by omega) (by omega) Rd.none_ (by omega) (by omega) H).mono ?_
              rintro e w10 ⟨q0, q1, q2, r2, At2, Aw2, nt2, ct2, cw2, tps2, rfl, hok2, hg2, hrs2, htn2, hnt2, htl2, H2⟩
              clear H
              go_wp2
              go_roundw
              case rel => exact ⟨y + 1, q0, q1, q2, r2, At2, Aw2, nt2, ct2, cw2, tps2, by omega, by go_num, ⟨hok2.1.more (by omega), hok2.2.1.more (by omega), hok2.2.2.more (by omega)⟩, hg2.more (by omega) (by omega), hrs2, htn2, by omega, htl2, H2⟩
              case measure => simp [intOf]; omega
            · obtain rfl : y = 3 := by omega
              obtain ⟨rs, rfl⟩ := hrs
              rw [show ((3 : Nat) : Int) = 3 from rfl]
              have HTL := Lib.hid htl
              have HTN := Lib.hid htn
              clear htl htn hok
              go_upto_region 27 with (fail)
              refine absorb_wp H ?_
              clear H
              intro w11 H
              replace H := H.drew
              have hX := H.blk 0 rfl
              refine wp_region_held_drew (S := fun w' : World => w'.heap[gx]? = some (.cells ([p0.1.v, p1.1.v, p2.1.v, p0.2.v, p1.2.v, p2.2.v, lptr gl, lptr gr, .slice At nt ct, .slice Aw nt cw] : List Value).toArray 63 (0, 0))) (by kernel_rfl) ?_ (fun hHeld => ?_)
              · exact hX
              refine takeV 0 rfl (by intro w h; clear h; go_simp; try with_reducible rfl) (by kernel_rfl) (by kernel_rfl) (by kernel_rfl) (by exact fun _ _ _ h => h) (by rfl) (by assumption) ?_
              try simp only [Act.put, List.setIfInBounds_toArray, List.set_cons_zero, List.set_cons_succ]
              refine takeV 1 rfl (by intro w h; clear h; go_simp; try with_reducible rfl) (by kernel_rfl) (by kernel_rfl) (by kernel_rfl) (by exact fun _ _ _ h => h) (by rfl) (by assumption) ?_
              try simp only [Act.put, List.setIfInBounds_toArray, List.set_cons_zero, List.set_cons_succ]
              refine takeV 2 rfl (by intro w h; clear h; go_simp; try with_reducible rfl) (by kernel_rfl) (by kernel_rfl) (by kernel_rfl) (by exact fun _ _ _ h => h) (by rfl) (by assumption) ?_
              try simp only [Act.put, List.setIfInBounds_toArray, List.set_cons_zero, List.set_cons_succ]
              refine takeV 3 rfl (by intro w h; have hc := hx_cell (o := 6) h rfl; clear h; go_simp; try with_reducible rfl) (by kernel_rfl) (by kernel_rfl) (by kernel_rfl) (by exact fun _ _ _ h => h) (by rfl) (by assumption) ?_
              try simp only [Act.put, List.setIfInBounds_toArray, List.set_cons_zero, List.set_cons_succ]
              refine takeV 5 rfl (by intro w h; clear h; go_simp; try with_reducible rfl) (by kernel_rfl) (by kernel_rfl) (by kernel_rfl) (by exact fun _ _ _ h => h) (by rfl) (by assumption) ?_
              try simp only [Act.put, List.setIfInBounds_toArray, List.set_cons_zero, List.set_cons_succ]
              refine takeV 6 rfl (by intro w h; clear h; go_simp; try with_reducible rfl) (by kernel_rfl) (by kernel_rfl) (by kernel_rfl) (by exact fun _ _ _ h => h) (by rfl) (by assumption) ?_
              try simp only [Act.put, List.setIfInBounds_toArray, List.set_cons_zero, List.set_cons_succ]
              refine takeV 7 rfl (by intro w h; clear h; go_simp; try with_reducible rfl) (by kernel_rfl) (by kernel_rfl) (by kernel_rfl) (by exact fun _ _ _ h => h) (by rfl) (by assumption) ?_
              try simp only [Act.put, List.setIfInBounds_toArray, List.set_cons_zero, List.set_cons_succ]
              refine takeV 8 rfl (by intro w h; have hc := hx_cell (o := 7) h rfl; clear h; go_simp; try with_reducible rfl) (by kernel_rfl) (by kernel_rfl) (by kernel_rfl) (by exact fun _ _ _ h => h) (by rfl) (by assumption) ?_
              try simp only [Act.put, List.setIfInBounds_toArray, List.set_cons_zero, List.set_cons_succ]
              refine take_call 4 rfl (by kernel_rfl) (fun K hK => ?_)
              try go_simp
              refine (ledger_runs_w (2 * j + 2 * 3) _ H 1 rfl hg (by omega) 7 rfl).mono ?_
              rintro e wx ⟨va, rfl, H1⟩
              clear H
              have H := H1.push_mk rfl
              clear H1
              obtain ⟨Aa, ca, rfl, -, -⟩ := row_shape (H.row 7 rfl)
              have hX2 := H.blk 0 rfl
              refine hK.out _ _ ?_ (fun hHeld => ?_)
              · exact hX2
              clear hK K
              try simp only [Act.put, List.setIfInBounds_toArray, List.set_cons_zero, List.set_cons_succ]
              refine take_call 9 rfl (by kernel_rfl) (fun K hK => ?_)
              try go_simp
              refine (refRuns_w (2 * j + 2 * 3) _ H 2 rfl hg (by omega) 8 rfl).mono ?_
              rintro e wx ⟨vd, rfl, H1⟩
              clear H
              have H := H1.push_mk rfl
              clear H1
              obtain ⟨Ad, cd, rfl, -, -⟩ := row_shape (H.row 8 rfl)
              have hX3 := H.blk 0 rfl
              refine hK.out _ _ ?_ (fun hHeld => ?_)
              · exact hX3
              clear hK K
              try simp only [Act.put, List.setIfInBounds_toArray, List.set_cons_zero, List.set_cons_succ]
              refine take_call 10 rfl (by kernel_rfl) (fun K hK => ?_)
              try go_simp
              have hrl : rs.length ≤ 1000 := by have h := (hg rs rfl).2.1; omega
              refine (sameRuns_any Aa Ad ca cd rs rs (H.rd 7 rfl) (H.rd 8 rfl) (by omega) (by omega)).mono ?_
              rintro e wh ⟨rfl, kd, rfl⟩
              replace H := (H.drewN kd).front 7
              rw [decide_eq_true rfl]
              replace H : St w [] _ (lay [.blk gx 63 [p0.1.v, p1.1.v, p2.1.v, p0.2.v, p1.2.v, p2.2.v, lptr gl, lptr gr, .slice At nt ct, .slice Aw nt cw], led (lptr gl) (some rs), ledR (lptr gr) (some rs), bigO slotO [p0, p1, p2], .row 22 1 (.slice At nt ct) nt (tps.map Tp.v), .row 22 1 (.slice Aw nt cw) nt (tps.map Tp.u), bigO Tp.own tps]) := H
              have hX4 := H.blk 0 rfl
              refine hK.out _ _ ?_ (fun hHeld => ?_)
              · exact hX4
              clear hK K
              try simp only [Act.put, List.setIfInBounds_toArray, List.set_cons_zero, List.set_cons_succ]
              refine takeV 11 rfl (by intro w h; clear h; go_simp; try with_reducible rfl) (by kernel_rfl) (by kernel_rfl) (by kernel_rfl) (by exact fun _ _ _ h => h) (by rfl) (by assumption) ?_
              try simp only [Act.put, List.setIfInBounds_toArray, List.set_cons_zero, List.set_cons_succ]
              refine takeV 12 rfl (by intro w h; clear h; go_simp; try with_reducible rfl) (by kernel_rfl) (by kernel_rfl) (by kernel_rfl) (by exact fun _ _ _ h => h) (by rfl) (by assumption) ?_
              try simp only [Act.put, List.setIfInBounds_toArray, List.set_cons_zero, List.set_cons_succ]
              refine takeV 13 rfl (by intro w h; clear h; go_simp; try with_reducible rfl) (by kernel_rfl) (by kernel_rfl) (by kernel_rfl) (by exact fun _ _ _ h => h) (by rfl) (by assumption) ?_
              try simp only [Act.put, List.setIfInBounds_toArray, List.set_cons_zero, List.set_cons_succ]
              refine takeV 14 rfl (by intro w h; clear h; go_simp; try with_reducible rfl) (by kernel_rfl) (by kernel_rfl) (by kernel_rfl) (by exact fun _ _ _ h => h) (by rfl) (by assumption) ?_
              try simp only [Act.put, List.setIfInBounds_toArray, List.set_cons_zero, List.set_cons_succ]
              refine takeV 15 rfl (by intro w h; have hc := hx_cell (o := 8) h rfl; clear h; go_simp; try with_reducible rfl) (by kernel_rfl) (by kernel_rfl) (by kernel_rfl) (by exact fun _ _ _ h => h) (by rfl) (by assumption) ?_
              try simp only [Act.put, List.setIfInBounds_toArray, List.set_cons_zero, List.set_cons_succ]
              refine take_call 16 rfl (by kernel_rfl) (fun K hK => ?_)
              try go_simp
              refine (apart_keep H 6 4 tps At nt ct rfl rfl HTN.out (by omega) gx _ 63 (by decide) (by decide) (H.blk 0 rfl) (fun p hp => by have := HTL.out p hp; omega)).mono ?_
              rintro e wz ⟨rfl, hbz, hX5⟩
              refine hK.out _ _ ?_ (fun hHeld => ?_)
              · exact hX5
              clear hK K
              try simp only [Act.put, List.setIfInBounds_toArray, List.set_cons_zero, List.set_cons_succ]
              refine takeV 17 rfl (by intro w h; clear h; go_simp; try with_reducible rfl) (by kernel_rfl) (by kernel_rfl) (by kernel_rfl) (by exact fun _ _ _ h => h) (by rfl) (by assumption) ?_
              try simp only [Act.put, List.setIfInBounds_toArray, List.set_cons_zero, List.set_cons_succ]
              refine takeV 18 rfl (by intro w h; clear h; go_simp; try with_reducible rfl) (by kernel_rfl) (by kernel_rfl) (by kernel_rfl) (by exact fun _ _ _ h => h) (by rfl) (by assumption) ?_
              try simp only [Act.put, List.setIfInBounds_toArray, List.set_cons_zero, List.set_cons_succ]
              refine wpAnyH_done (by kernel_rfl) ?_ _
              go_wp2
              go_ret
              exact ⟨rfl, hbz⟩
end Go.Proofs.Ytcnphkmcgefjoaa
