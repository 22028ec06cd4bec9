/- Texts of this claim, merged: SpAct, SpAc2, ApartK, LawSpCa. -/

import Derived.Test.YtgjlclihgpahbaaMgD
set_option linter.unusedVariables false

namespace Go.Proofs.Ytgjlclihgpahbaa
open Go.RowKit
set_option linter.unusedVariables false
set_option maxRecDepth 100000

attribute [local irreducible] permB kBytes kPerm kFrom

theorem St.tellSlot {w0 w : World} {F0 : List Nat} {L0 : List Own} {L : List Tp} {x : Tp} (H : St w0 F0 w (lay (L0 ++ [x.own]))) (i : Nat) (hi : L0[i]? = some (bigO Tp.own L)) : St w0 F0 w (lay (L0.set i (bigO Tp.own (L ++ [x])))) := by
  have hl : i < L0.length := (List.getElem?_eq_some_iff.1 hi).1
  have h1 := (H.join_mk i hi).recast (A := .sep (bigO Tp.own L) x.own) (A' := bigO Tp.own (L ++ [x])) i (by simp only [lay]; rw [List.getElem?_set_self hl]) (fun w F h => bigO_snoc Tp.own x L w F h)
  have h2 := h1.upd_mk (by simpa using hl)
  rwa [List.set_set] at h2

section
variable {w0 w : World} {F0 : List Nat} {E : Env}

set_option maxHeartbeats 4000000 in
theorem spKeep_s (gx : Nat) (a0 a1 a2 b0 b1 b2 c6 c7 : Value) (P1 P2 P3 P6 P7 P8 P9 P10 P11 : Own) (At Aw Aa Ab : Option Addr) (n ct cw la ca cb : Nat) (vs us : List Value) (xs : List UInt8) (hn : n ≤ 1000) (hla : la ≤ 100000000)
    (H : St w0 F0 w (lay [.blk gx 61 [a0, a1, a2, b0, b1, b2, c6, c7, .slice At n ct, .slice Aw n cw], P1, P2, P3, .row 27 1 (.slice At n ct) n vs, .row 27 1 (.slice Aw n cw) n us, P6, P7, P8, P9, P10, P11, .row 5 1 (.slice Aa la ca) la (xs.map vb), .row 5 1 (.slice Ab la cb) la (xs.map vb)])) :
    Calls Try.prog 42 #[lptr gx, .slice Aa la ca, .slice Ab la cb] w fun e w' => ∃ Av6 dv6 Av9 dv9, e = .returned (.bool true) ∧ St w0 F0 w' (lay [.blk gx 61 [a0, a1, a2, b0, b1, b2, c6, c7, .slice Av6 (n + 1) dv6, .slice Av9 (n + 1) dv9], P1, P2, P3, .row 27 1 (.slice Av6 (n + 1) dv6) (n + 1) (vs ++ [.slice Aa la ca]), .row 27 1 (.slice Av9 (n + 1) dv9) (n + 1) (us ++ [.slice Ab la cb]), P6, P7, P8, P9, P10, P11, .row 5 1 (.slice Aa la ca) la (xs.map vb), .row 5 1 (.slice Ab la cb) la (xs.map vb)]) := by
  obtain ⟨i0, hi0, hz0, hz1, hz2⟩ := info_parts lb_info
  have HI := Lib.hid (⟨hi0, hz0, hz1, hz2⟩ : _ ∧ _ ∧ _ ∧ _)
  clear hi0 hz0 hz1 hz2
  have x8 := H.cell 0 rfl (o := 8) rfl
  unfold lptr
  go_enter Try.func42, Try.ntmps42
  go_wp2_with (at_builtin; refine hold_here' ?_)
  refine Lib.hid ?_
  refine absorb_list (H.allocAt 14 rfl w.heap.size rfl #[.slice Aa la ca] 27 |>.push_mk rfl) ?_
  clear H x8
  intro w5 H
  generalize w.heap.size = gN at H ⊢
  refine wpList_append_any _ rfl (.tmp 11) (.tmp 13) _ rfl 0 27 i0 _ 1 24 Try.underlying48 HI.out.1 HI.out.2.1 HI.out.2.2.1 HI.out.2.2.2 rfl (by omega) (.slice At n ct) n vs rfl (H.row 4 rfl) (some ⟨gN, 0, none⟩) 1 1 [.slice Aa la ca] rfl (H.rdBlk 14 rfl 1 1 rfl) (by intro u hu; simp at hu; subst hu; rfl) (by simp only [maxLen]; omega) (by omega) (by omega) ?_
  intro v6 w6 hown6 hg6 hat6
  obtain ⟨Av6, dv6, rfl, -, -⟩ := row_form hown6
  replace H := ((H.grow 4 rfl hown6 hg6 hat6).upd_mk (by simp)).front 14
  clear hown6 hg6 hat6
  have hfr := H.free 0 rfl 8
  have hce := H.cell 0 rfl (o := 8) rfl
  have x8 := H.cell 0 rfl (o := 9) rfl
  have hst := (H.store 0 rfl (o := 8) (u := .slice Av6 (n + 1) dv6)).upd_mk (by simp)
  clear H
  replace H : St w0 F0 (w6.setCell ⟨gx, 8, none⟩ (.slice Av6 (n + 1) dv6)) (lay [.blk gx 61 [a0, a1, a2, b0, b1, b2, c6, c7, .slice Av6 (n + 1) dv6, .slice Aw n cw], P1, P2, P3, .row 27 1 (.slice Av6 (n + 1) dv6) (n + 1) (vs ++ [.slice Aa la ca]), .row 27 1 (.slice Aw n cw) n us, P6, P7, P8, P9, P10, P11, .row 5 1 (.slice Aa la ca) la (xs.map vb), .row 5 1 (.slice Ab la cb) la (xs.map vb)]) := hst
  clear hst
  go_wp2_with (at_builtin; refine hold_here' ?_)
  refine Lib.hid ?_
  refine absorb_list (H.allocAt 14 rfl w6.heap.size (by simp) #[.slice Ab la cb] 27 |>.push_mk rfl) ?_
  clear H x8
  intro y5 H
  generalize w6.heap.size = gN at H ⊢
  refine wpList_append_any _ rfl (.tmp 21) (.tmp 23) _ rfl 0 27 i0 _ 1 24 Try.underlying48 HI.out.1 HI.out.2.1 HI.out.2.2.1 HI.out.2.2.2 rfl (by omega) (.slice Aw n cw) n us rfl (H.row 5 rfl) (some ⟨gN, 0, none⟩) 1 1 [.slice Ab la cb] rfl (H.rdBlk 14 rfl 1 1 rfl) (by intro u hu; simp at hu; subst hu; rfl) (by simp only [maxLen]; omega) (by omega) (by omega) ?_
  intro v9 y6 hown6 hg6 hat6
  obtain ⟨Av9, dv9, rfl, -, -⟩ := row_form hown6
  replace H := ((H.grow 5 rfl hown6 hg6 hat6).upd_mk (by simp)).front 14
  clear hown6 hg6 hat6
  have hfr := H.free 0 rfl 9
  have hce := H.cell 0 rfl (o := 9) rfl
  have hst := (H.store 0 rfl (o := 9) (u := .slice Av9 (n + 1) dv9)).upd_mk (by simp)
  clear H
  replace H : St w0 F0 (y6.setCell ⟨gx, 9, none⟩ (.slice Av9 (n + 1) dv9)) (lay [.blk gx 61 [a0, a1, a2, b0, b1, b2, c6, c7, .slice Av6 (n + 1) dv6, .slice Av9 (n + 1) dv9], P1, P2, P3, .row 27 1 (.slice Av6 (n + 1) dv6) (n + 1) (vs ++ [.slice Aa la ca]), .row 27 1 (.slice Av9 (n + 1) dv9) (n + 1) (us ++ [.slice Ab la cb]), P6, P7, P8, P9, P10, P11, .row 5 1 (.slice Aa la ca) la (xs.map vb), .row 5 1 (.slice Ab la cb) la (xs.map vb)]) := hst
  clear hst
  go_wp2_with fail
  refine absorb_calls H ?_
  clear H
  intro z1 H
  refine (sameBytes_yes Aa Ab la la ca cb xs xs _ (H.rd 12 rfl) (H.rd 13 rfl) (by omega) (by omega) rfl).mono ?_
  rintro e z2 ⟨rfl, hb⟩
  replace H := H.call hb
  clear hb
  go_wp2
  go_ret
  exact ⟨_, _, _, _, rfl, H⟩
end

/-- a slot: the module's sponge, the document's -/
abbrev slotO (p : KA × KA) : Own := .sep p.1.ownM p.2.ownR
/-- a slot is right -/
def SlotOk (p : KA × KA) : Prop := p.1.abs.Ok ∧ p.2.abs = p.1.abs

theorem three_get {p0 p1 p2 p : KA × KA} {k : Nat} (h : [p0, p1, p2][k]? = some p) (c d e f : Value) : k < 3 ∧ ([p0.1.v, p1.1.v, p2.1.v, p0.2.v, p1.2.v, p2.2.v, c, d, e, f] : List Value)[k]? = some p.1.v ∧ ([p0.1.v, p1.1.v, p2.1.v, p0.2.v, p1.2.v, p2.2.v, c, d, e, f] : List Value)[3 + k]? = some p.2.v := by
  match k, h with
  | 0, h => cases h; exact ⟨by omega, rfl, rfl⟩
  | 1, h => cases h; exact ⟨by omega, rfl, rfl⟩
  | 2, h => cases h; exact ⟨by omega, rfl, rfl⟩
  | k + 3, h => simp at h

theorem KA.kind {a b : KA} {s : KS} (ha : a.abs = clA s) (hb : b.abs = clA s) : (a = .nil ∧ b = .nil) ∨ ∃ g g' x, a = .live g x ∧ b = .live g' x := by
  have none_case : ∀ {s : KS}, clA s = none → a.abs = clA s → b.abs = clA s → a = .nil ∧ b = .nil := by
    intro s hs h1 h2
    rw [hs] at h1 h2
    cases a with
    | nil =>
      cases b with
      | nil => exact ⟨rfl, rfl⟩
      | dead g => cases h2
      | live g x => cases h2
    | dead g => cases h1
    | live g x => cases h1
  rcases s with _ | _ | x
  · exact .inl (none_case rfl ha hb)
  · exact .inl (none_case rfl ha hb)
  · right
    cases a with
    | nil => cases ha
    | dead g => cases ha
    | live g x' =>
      cases b with
      | nil => cases hb
      | dead g => cases hb
      | live g' x'' =>
        injection ha with ha
        injection ha with ha
        injection hb with hb
        injection hb with hb
        subst ha hb
        exact ⟨_, _, _, rfl, rfl⟩

theorem noteN_some {r : Option (List RunT)} (h : ∃ rs, r = some rs) (k s : Int) (n : Nat) : ∃ rs, noteN r k s n = some rs := by
  obtain ⟨rs, rfl⟩ := h
  unfold noteN
  split
  · exact ⟨_, rfl⟩
  · exact ⟨_, rfl⟩

section
variable {w0 w : World} {L1 L2 T U V X N1 N2 Y Z : Own} {p0 p1 p2 p : KA × KA} {k q gx : Nat} {c d e f : Value}

theorem St.rot3 {w0 w : World} {F0 : List Nat} {L : List Own} {X Y Z : Own} (H : St w0 F0 w (lay (L ++ [X, Y, Z]))) : St w0 F0 w (lay (L ++ [Z, X, Y])) :=
  H.pick (fun i => if i < L.length then i else if i = L.length then i + 2 else if i < L.length + 3 then i - 1 else i) (fun i j h => by split at h <;> split at h <;> (try split at h) <;> (try split at h) <;> (try split at h) <;> (try split at h) <;> omega) fun k C hC => by
    simp only [lay] at hC ⊢
    by_cases hk : k < L.length
    · rw [if_pos hk, List.getElem?_append_left hk]
      rwa [List.getElem?_append_left hk] at hC
    · rw [if_neg hk, List.getElem?_append_right (by split <;> (try split) <;> omega)]
      rw [List.getElem?_append_right (by omega)] at hC
      have hlt := (List.getElem?_eq_some_iff.1 hC).1
      simp at hlt
      have h3 : k - L.length = 0 ∨ k - L.length = 1 ∨ k - L.length = 2 := by omega
      rcases h3 with h3 | h3 | h3
      · rw [h3] at hC
        rw [if_pos (by omega), show k + 2 - L.length = 2 by omega]
        exact hC
      · rw [h3] at hC
        rw [if_neg (by omega), if_pos (by omega), show k - 1 - L.length = 0 by omega]
        exact hC
      · rw [h3] at hC
        rw [if_neg (by omega), if_pos (by omega), show k - 1 - L.length = 1 by omega]
        exact hC

/-- the slot is laid back -/
theorem act_end (hk : [p0, p1, p2][k]? = some p) {a b : KA} (h1 : a.v = p.1.v) (h2 : b.v = p.2.v) (hab : SlotOk (a, b)) (hok : SlotOk p0 ∧ SlotOk p1 ∧ SlotOk p2)
    (H : St w0 [] w (lay [.blk gx 61 [p0.1.v, p1.1.v, p2.1.v, p0.2.v, p1.2.v, p2.2.v, c, d, e, f], L1, L2, bigO slotO ([p0, p1, p2].set k (.nil, .nil)), T, U, V, X, N1, N2, a.ownM, b.ownR])) :
    ∃ q0 q1 q2 : KA × KA, (SlotOk q0 ∧ SlotOk q1 ∧ SlotOk q2) ∧ St w0 [] w (lay [.blk gx 61 [q0.1.v, q1.1.v, q2.1.v, q0.2.v, q1.2.v, q2.2.v, c, d, e, f], L1, L2, bigO slotO [q0, q1, q2], T, U, V]) := by
  obtain ⟨hk3, -, -⟩ := three_get hk c d e f
  have H1 := St.join_mk (L := [.blk gx 61 [p0.1.v, p1.1.v, p2.1.v, p0.2.v, p1.2.v, p2.2.v, c, d, e, f], L1, L2, bigO slotO ([p0, p1, p2].set k (.nil, .nil)), T, U, V, X, N1, N2, a.ownM]) H 10 rfl
  have H2 := St.putSlot (f := slotO) (x := (a, b)) (L0 := [.blk gx 61 [p0.1.v, p1.1.v, p2.1.v, p0.2.v, p1.2.v, p2.2.v, c, d, e, f], L1, L2, bigO slotO ([p0, p1, p2].set k (.nil, .nil)), T, U, V, X, N1, N2]) H1 3 k rfl (by simpa using hk3)
  rw [List.set_set] at H2
  replace H2 := H2.front 7
  match k, hk with
  | 0, hk =>
    cases hk
    exact ⟨(a, b), p1, p2, ⟨hab, hok.2⟩, by show St w0 [] w (lay [.blk gx 61 [a.v, p1.1.v, p2.1.v, b.v, p1.2.v, p2.2.v, c, d, e, f], L1, L2, bigO slotO [(a, b), p1, p2], T, U, V]); rw [h1, h2]; exact H2⟩
  | 1, hk =>
    cases hk
    exact ⟨p0, (a, b), p2, ⟨hok.1, hab, hok.2.2⟩, by show St w0 [] w (lay [.blk gx 61 [p0.1.v, a.v, p2.1.v, p0.2.v, b.v, p2.2.v, c, d, e, f], L1, L2, bigO slotO [p0, (a, b), p2], T, U, V]); rw [h1, h2]; exact H2⟩
  | 2, hk =>
    cases hk
    exact ⟨p0, p1, (a, b), ⟨hok.1, hok.2.1, hab⟩, by show St w0 [] w (lay [.blk gx 61 [p0.1.v, p1.1.v, a.v, p0.2.v, p1.2.v, b.v, c, d, e, f], L1, L2, bigO slotO [p0, p1, (a, b)], T, U, V]); rw [h1, h2]; exact H2⟩
  | k + 3, hk => simp at hk

/-- the slot is laid back, another one laid new -/
theorem act_end2 (hk : [p0, p1, p2][k]? = some p) (hq : q < 3) {a b : KA} (hab : SlotOk (a, b)) (hok : SlotOk p0 ∧ SlotOk p1 ∧ SlotOk p2)
    (H : St w0 [] w (lay [.blk gx 61 (([p0.1.v, p1.1.v, p2.1.v, p0.2.v, p1.2.v, p2.2.v, c, d, e, f].set q a.v).set (3 + q) b.v), L1, L2, bigO slotO ([p0, p1, p2].set k (.nil, .nil)), T, U, V, X, N1, N2, p.1.ownM, p.2.ownR, a.ownM, b.ownR])) :
    ∃ q0 q1 q2 : KA × KA, (SlotOk q0 ∧ SlotOk q1 ∧ SlotOk q2) ∧ St w0 [] w (lay [.blk gx 61 [q0.1.v, q1.1.v, q2.1.v, q0.2.v, q1.2.v, q2.2.v, c, d, e, f], L1, L2, bigO slotO [q0, q1, q2], T, U, V]) := by
  obtain ⟨hk3, -, -⟩ := three_get hk c d e f
  obtain ⟨C, hC⟩ : ∃ C, (([p0.1.v, p1.1.v, p2.1.v, p0.2.v, p1.2.v, p2.2.v, c, d, e, f].set q a.v).set (3 + q) b.v) = C := ⟨_, rfl⟩
  rw [hC] at H
  have H1 := St.join_mk (L := [.blk gx 61 C, L1, L2, bigO slotO ([p0, p1, p2].set k (.nil, .nil)), T, U, V, X, N1, N2, p.1.ownM, p.2.ownR, a.ownM]) H 12 rfl
  have H2 := St.rot3 (L := [.blk gx 61 C, L1, L2, bigO slotO ([p0, p1, p2].set k (.nil, .nil)), T, U, V, X, N1, N2]) (X := p.1.ownM) (Y := p.2.ownR) (Z := slotO (a, b)) H1
  have H3 := St.join_mk (L := [.blk gx 61 C, L1, L2, bigO slotO ([p0, p1, p2].set k (.nil, .nil)), T, U, V, X, N1, N2, slotO (a, b), p.1.ownM]) H2 11 rfl
  have H4 := St.putSlot (f := slotO) (x := p) (L0 := [.blk gx 61 C, L1, L2, bigO slotO ([p0, p1, p2].set k (.nil, .nil)), T, U, V, X, N1, N2, slotO (a, b)]) H3 3 k rfl (by simpa using hk3)
  have hkk : ([p0, p1, p2].set k ((.nil : KA), (.nil : KA))).set k p = [p0, p1, p2] := by
    rw [List.set_set]
    match k, hk with
    | 0, hk => cases hk; rfl
    | 1, hk => cases hk; rfl
    | 2, hk => cases hk; rfl
    | k + 3, hk => simp at hk
  rw [hkk] at H4
  have H5 := St.putSlot (f := slotO) (x := (a, b)) (L0 := [.blk gx 61 C, L1, L2, bigO slotO [p0, p1, p2], T, U, V, X, N1, N2]) H4 3 q rfl (by simpa using hq)
  replace H5 := H5.front 7
  rw [← hC] at H5
  match q, hq with
  | 0, hq => exact ⟨(a, b), p1, p2, ⟨hab, hok.2⟩, H5⟩
  | 1, hq => exact ⟨p0, (a, b), p2, ⟨hok.1, hab, hok.2.2⟩, H5⟩
  | 2, hq => exact ⟨p0, p1, (a, b), ⟨hok.1, hok.2.1, hab⟩, H5⟩

/-- another one laid into the slot that was taken out -/
theorem act_end3 (hk : k < 3) {a b : KA} (hab : SlotOk (a, b)) (hok : SlotOk p0 ∧ SlotOk p1 ∧ SlotOk p2)
    (H : St w0 [] w (lay [.blk gx 61 (([p0.1.v, p1.1.v, p2.1.v, p0.2.v, p1.2.v, p2.2.v, c, d, e, f].set k a.v).set (3 + k) b.v), L1, L2, bigO slotO ([p0, p1, p2].set k (.nil, .nil)), T, U, V, X, N1, N2, Y, Z, a.ownM, b.ownR])) :
    ∃ q0 q1 q2 : KA × KA, (SlotOk q0 ∧ SlotOk q1 ∧ SlotOk q2) ∧ St w0 [] w (lay [.blk gx 61 [q0.1.v, q1.1.v, q2.1.v, q0.2.v, q1.2.v, q2.2.v, c, d, e, f], L1, L2, bigO slotO [q0, q1, q2], T, U, V]) := by
  obtain ⟨C, hC⟩ : ∃ C, (([p0.1.v, p1.1.v, p2.1.v, p0.2.v, p1.2.v, p2.2.v, c, d, e, f].set k a.v).set (3 + k) b.v) = C := ⟨_, rfl⟩
  rw [hC] at H
  have H1 := St.join_mk (L := [.blk gx 61 C, L1, L2, bigO slotO ([p0, p1, p2].set k (.nil, .nil)), T, U, V, X, N1, N2, Y, Z, a.ownM]) H 12 rfl
  have H5 := St.putSlot (f := slotO) (x := (a, b)) (L0 := [.blk gx 61 C, L1, L2, bigO slotO ([p0, p1, p2].set k (.nil, .nil)), T, U, V, X, N1, N2, Y, Z]) H1 3 k rfl (by simpa using hk)
  rw [List.set_set] at H5
  replace H5 := H5.front 7
  rw [← hC] at H5
  match k, hk with
  | 0, hk => exact ⟨(a, b), p1, p2, ⟨hab, hok.2⟩, H5⟩
  | 1, hk => exact ⟨p0, (a, b), p2, ⟨hok.1, hab, hok.2.2⟩, H5⟩
  | 2, hk => exact ⟨p0, p1, (a, b), ⟨hok.1, hok.2.1, hab⟩, H5⟩
end

theorem wrL_some {s : KS} {r : Option (List RunT)} (h : ∃ rs, r = some rs) (n : Nat) : ∃ rs, wrL s r n = some rs := by
  unfold wrL; split
  · split
    · exact h
    · exact noteN_some h _ _ _
  · exact h
theorem csL_some {s : KS} {r : Option (List RunT)} (h : ∃ rs, r = some rs) : ∃ rs, csL s r = some rs := by
  unfold csL; split
  · split
    · exact h
    · exact noteN_some h _ _ _
  · exact h
theorem reL_some {s : KS} {r : Option (List RunT)} (h : ∃ rs, r = some rs) (N : Int) : ∃ rs, reL s r N = some rs := by
  unfold reL; split
  · split
    · exact noteN_some h _ _ _
    · exact h
  · exact h
theorem wiL_some {s : KS} {r : Option (List RunT)} (h : ∃ rs, r = some rs) : ∃ rs, wiL s r = some rs := by
  unfold wiL; split
  · exact noteN_some h _ _ _
  · exact h
theorem clA_ne (S : Int) (f : UInt8) : clA (neA S f) = neA S f := by
  unfold neA
  split <;> rfl

section
variable {w0 w : World} {F0 : List Nat} {E : Env}

set_option maxHeartbeats 4000000 in
theorem spMade_s (gx : Nat) (a0 a1 a2 b0 b1 b2 c6 c7 c8 c9 : Value) (kz : Int) (k : Nat) (hkz : kz = k) (hk3 : k < 3) (S : Int) (f : UInt8) (H : St w0 F0 w E) (h0 : E 0 = some (.blk gx 61 [a0, a1, a2, b0, b1, b2, c6, c7, c8, c9])) (k1 k2 : Nat) (hk1 : E k1 = none) (hk2 : E k2 = none) (h12 : k1 ≠ k2) :
    Calls Try.prog 25 #[lptr gx, .int .i64 kz, .int .i64 S, .int .u8 (f.toNat : Int)] w fun e w' => ∃ a' b' : KA, a'.abs = clA (neA S f) ∧ b'.abs = clA (neA S f) ∧ e = .returned (.bool true) ∧ St w0 F0 w' (upd (upd (upd E k1 a'.ownM) k2 b'.ownR) 0 (.blk gx 61 (([a0, a1, a2, b0, b1, b2, c6, c7, c8, c9].set k a'.v).set (3 + k) b'.v))) := by
  subst hkz
  have hki : (k : Int) < 3 := by omega
  have H10 : k1 ≠ 0 := fun e => by rw [e, h0] at hk1; cases hk1
  have H20 : k2 ≠ 0 := fun e => by rw [e, h0] at hk2; cases hk2
  unfold lptr
  go_enter Try.func25, Try.ntmps25
  go_wp2_with fail
  refine (spNew_any S f H k1 hk1).mono ?_
  rintro e w1 ⟨a', ha', rfl, H1⟩
  clear H
  go_wp2_with fail
  refine (rsNew_any S f H1 k2 (by simp [upd, Ne.symm h12, hk2])).mono ?_
  rintro e w2 ⟨b', hb', rfl, H⟩
  clear H1
  obtain ⟨er, Her⟩ : ∃ er, Hid (neE S = er) := ⟨_, rfl⟩
  rw [Her.out]
  have heq : (er == er) = true := by simp
  have h0' : upd (upd E k1 a'.ownM) k2 b'.ownR 0 = some (.blk gx 61 [a0, a1, a2, b0, b1, b2, c6, c7, c8, c9]) := by simp [upd, Ne.symm H10, Ne.symm H20, h0]
  rw [← clA_ne S f] at ha' hb'
  rcases KA.kind ha' hb' with ⟨rfl, rfl⟩ | ⟨g, g', x, rfl, rfl⟩
  · rw [show KA.v .nil = Value.pointer none from rfl]
    have hfr := H.free 0 h0' k
    have hfr2 := H.free 0 h0' (3 + k)
    obtain ⟨u1, hu1⟩ : ∃ u, ([a0, a1, a2, b0, b1, b2, c6, c7, c8, c9] : List Value)[k]? = some u := ⟨_, List.getElem?_eq_getElem (by simp only [List.length_cons, List.length_nil]; omega)⟩
    have hce := H.cell 0 h0' hu1
    obtain ⟨u2, hu2⟩ : ∃ u, ([a0, a1, a2, b0, b1, b2, c6, c7, c8, c9] : List Value)[3 + k]? = some u := ⟨_, List.getElem?_eq_getElem (by simp only [List.length_cons, List.length_nil]; omega)⟩
    have hce2 := H.cell 0 h0' hu2
    clear hu1 hu2
    have hne : ¬ k = 3 + k := by omega
    have hne2 : ¬ 3 + k = k := by omega
    have hst := (H.store 0 h0' (o := k) (u := .pointer none)).store 0 upd_same (o := 3 + k) (u := .pointer none)
    rw [upd_upd] at hst
    go_wp2
    go_ret
    clear hfr hfr2 hce hce2
    exact ⟨(KA.nil), (KA.nil), ha', hb', rfl, hst⟩
  · rw [show KA.v (.live g x) = Value.pointer (some ⟨g, 0, none⟩) from rfl, show KA.v (.live g' x) = Value.pointer (some ⟨g', 0, none⟩) from rfl]
    have hfr := H.free 0 h0' k
    have hfr2 := H.free 0 h0' (3 + k)
    obtain ⟨u1, hu1⟩ : ∃ u, ([a0, a1, a2, b0, b1, b2, c6, c7, c8, c9] : List Value)[k]? = some u := ⟨_, List.getElem?_eq_getElem (by simp only [List.length_cons, List.length_nil]; omega)⟩
    have hce := H.cell 0 h0' hu1
    obtain ⟨u2, hu2⟩ : ∃ u, ([a0, a1, a2, b0, b1, b2, c6, c7, c8, c9] : List Value)[3 + k]? = some u := ⟨_, List.getElem?_eq_getElem (by simp only [List.length_cons, List.length_nil]; omega)⟩
    have hce2 := H.cell 0 h0' hu2
    clear hu1 hu2
    have hne : ¬ k = 3 + k := by omega
    have hne2 : ¬ 3 + k = k := by omega
    have hst := (H.store 0 h0' (o := k) (u := .pointer (some ⟨g, 0, none⟩))).store 0 upd_same (o := 3 + k) (u := .pointer (some ⟨g', 0, none⟩))
    rw [upd_upd] at hst
    go_wp2
    go_ret
    clear hfr hfr2 hce hce2
    exact ⟨(KA.live g x), (KA.live g' x), ha', hb', rfl, hst⟩
end
end Go.Proofs.Ytgjlclihgpahbaa

namespace Go.Proofs.Ytgjlclihgpahbaa
open Go.RowKit
set_option linter.unusedVariables false
set_option maxRecDepth 100000

attribute [local irreducible] permB kBytes kPerm kFrom

/-- what an act leaves -/
def ActPost (gx : Nat) (l lr : Value) (m : Nat) (b : Int) (n0 : Nat) (w0 : World) (e : Ending) (w' : World) : Prop :=
  ∃ (p0 p1 p2 : KA × KA) (r : Option (List RunT)) (At Aw : Option Addr) (n ct cw : Nat) (tps : List Tp), e = .returned (.bool true) ∧ (SlotOk p0 ∧ SlotOk p1 ∧ SlotOk p2) ∧ LW r (m + 2) (b + 200000000) ∧ (∃ rs, r = some rs) ∧ tps.length = n ∧ n ≤ n0 + 1 ∧ (∀ q ∈ tps, q.l.length ≤ 65536) ∧
    St w0 [] w' (lay [.blk gx 61 [p0.1.v, p1.1.v, p2.1.v, p0.2.v, p1.2.v, p2.2.v, l, lr, .slice At n ct, .slice Aw n cw], led l r, ledR lr r, bigO slotO [p0, p1, p2], .row 27 1 (.slice At n ct) n (tps.map Tp.v), .row 27 1 (.slice Aw n cw) n (tps.map Tp.u), bigO Tp.own tps])

section
variable {w0 w : World}

set_option maxHeartbeats 16000000 in
theorem spAct_f (gx : Nat) (l lr : Value) (r : Option (List RunT)) (m : Nat) (b : Int) (p0 p1 p2 : KA × KA) (At Aw : Option Addr) (n ct cw : Nat) (tps : List Tp) (z0 z1 z2 : Int) (A3 : Option Addr) (n3 c3 : Nat) (l3 : List UInt8) (z4 : Int) (u5 : UInt8)
    (hok : SlotOk p0 ∧ SlotOk p1 ∧ SlotOk p2) (hg : LW r m b) (hm : m ≤ 10000) (hb : b ≤ 10000000000000000) (hrs : ∃ rs, r = some rs) (htn : tps.length = n) (hn : n ≤ 900) (htl : ∀ q ∈ tps, q.l.length ≤ 65536)
    (hz0 : -9223372036854775808 ≤ z0 ∧ z0 ≤ 9223372036854775807) (hz2 : -9223372036854775808 ≤ z2 ∧ z2 ≤ 9223372036854775807) (hR : Rd w0 1 A3 n3 (l3.map vb)) (hn3 : n3 ≤ 1000000)
    (H : St w0 [] w (lay [.blk gx 61 [p0.1.v, p1.1.v, p2.1.v, p0.2.v, p1.2.v, p2.2.v, l, lr, .slice At n ct, .slice Aw n cw], led l r, ledR lr r, bigO slotO [p0, p1, p2], .row 27 1 (.slice At n ct) n (tps.map Tp.v), .row 27 1 (.slice Aw n cw) n (tps.map Tp.u), bigO Tp.own tps])) :
    Calls Try.prog 26 #[lptr gx, .agg #[.int .i64 z0, .int .i64 z1, .int .i64 z2, .slice A3 n3 c3, .int .i64 z4, .int .u8 (u5.toNat : Int), .bool false]] w (ActPost gx l lr m b n w0) := by
  have hl3 : l3.length = n3 := by simpa using hR.1
  have HL3 := Lib.hid hl3
  clear hl3
  unfold lptr
  go_enter Try.func26, Try.ntmps26
  go_wp2_with fail
  refine absorb_calls (H.allocAt 7 rfl w.heap.size rfl _ _ |>.push_mk rfl |>.ledNil 8 rfl |>.push_mk rfl |>.ledRNil 9 rfl |>.push_mk rfl) ?_
  clear H
  intro w1 H
  generalize w.heap.size = go at H ⊢
  refine (pick_any z0 3 _ hz0.1 hz0.2 (by omega) (by omega) rfl).mono ?_
  rintro e wx ⟨⟨k, hk, -, rfl⟩, rfl⟩
  obtain ⟨p, hp⟩ : ∃ p, [p0, p1, p2][k]? = some p := ⟨_, List.getElem?_eq_getElem (by simpa using hk)⟩
  have hpk : SlotOk p := by
    have := List.mem_of_getElem? hp
    simp only [List.mem_cons, List.not_mem_nil, or_false] at this
    rcases this with rfl | rfl | rfl
    · exact hok.1
    · exact hok.2.1
    · exact hok.2.2
  obtain ⟨-, g1, g2⟩ := three_get hp l lr (.slice At n ct) (.slice Aw n cw)
  have c1 := H.cell 0 rfl g1
  have c2 := H.cell 0 rfl g2
  have c6 := H.cell 0 rfl (o := 6) rfl
  have c7 := H.cell 0 rfl (o := 7) rfl
  have ca1 := H.cell 7 rfl (o := 1) rfl
  have ca6 := H.cell 7 rfl (o := 6) rfl
  replace H := H.takeSlot (f := slotO) (e := (.nil, .nil)) (fun w => ⟨[], [], rfl, rfl, rfl, by simp⟩) 3 k rfl hp
  replace H := H.part_mk 10 rfl
  replace H : St w0 [] w1 (lay [.blk gx 61 [p0.1.v, p1.1.v, p2.1.v, p0.2.v, p1.2.v, p2.2.v, l, lr, .slice At n ct, .slice Aw n cw], led l r, ledR lr r, bigO slotO ([p0, p1, p2].set k (.nil, .nil)), .row 27 1 (.slice At n ct) n (tps.map Tp.v), .row 27 1 (.slice Aw n cw) n (tps.map Tp.u), bigO Tp.own tps, .blk go 65 [.int .i64 z0, .int .i64 z1, .int .i64 z2, .slice A3 n3 c3, .int .i64 z4, .int .u8 (u5.toNat : Int), .bool false], led (.pointer none) none, ledR (.pointer none) none, p.1.ownM, p.2.ownR]) := H
  have HP := Lib.hid hp
  have HPK := Lib.hid hpk
  have HOK := Lib.hid hok
  clear hp hpk hok g1 g2
  have hki : (k : Int) < 3 := by omega
  by_cases hz0 : z1 = 0
  · have hzz : (z1 == 0) = true := by simpa using hz0
    clear hz0
    have y3 := H.cell 7 rfl (o := 3) rfl
    go_wp2_with fail
    refine (lent_st A3 n3 c3 l3 H (H.arg0 hR) (by omega)).mono ?_
    rintro e w2 ⟨fk, tk, htk, rfl, H1⟩
    clear y3
    replace H : St w0 [] w2 (lay [.blk gx 61 [p0.1.v, p1.1.v, p2.1.v, p0.2.v, p1.2.v, p2.2.v, l, lr, .slice At n ct, .slice Aw n cw], led l r, ledR lr r, bigO slotO ([p0, p1, p2].set k (.nil, .nil)), .row 27 1 (.slice At n ct) n (tps.map Tp.v), .row 27 1 (.slice Aw n cw) n (tps.map Tp.u), bigO Tp.own tps, .blk go 65 [.int .i64 z0, .int .i64 z1, .int .i64 z2, .slice A3 n3 c3, .int .i64 z4, .int .u8 (u5.toNat : Int), .bool false], led (.pointer none) none, ledR (.pointer none) none, p.1.ownM, p.2.ownR, .row 5 1 (.slice (some ⟨fk, 0, none⟩) (n3 + 6) tk) (n3 + 6) ((l3 ++ marksB 7 0 6).map vb)]) := H1
    clear H1
    have b1 : (n3 : Int) ≤ tk := by omega
    have b2 : n3 ≤ tk := by omega
    have y3 := H.cell 7 rfl (o := 3) rfl
    go_wp2_with fail
    have hc := spWrite_any l r m b p.1 HPK.out.1 (some ⟨fk, 0, none⟩) n3 tk l3 H 1 10 (by omega) rfl rfl hg (by omega) (by omega) (fun w' X Y h => Rd.frontB (h.rd 12 rfl) HL3.out (by omega)) (by omega)
    obtain ⟨er, Her⟩ : ∃ er, Hid (wrE p.1.abs = er) := ⟨_, rfl⟩
    obtain ⟨r1, Hr1⟩ : ∃ r1, Hid (wrL p.1.abs r n3 = r1) := ⟨_, rfl⟩
    rw [Her.out, Hr1.out] at hc
    refine hc.mono ?_
    clear hc y3
    rintro e wx ⟨a', ha', hav, rfl, H1⟩
    rw [upd_laid (by simp), upd_laid (by simp)] at H1
    clear H
    have H : St w0 [] wx (lay [.blk gx 61 [p0.1.v, p1.1.v, p2.1.v, p0.2.v, p1.2.v, p2.2.v, l, lr, .slice At n ct, .slice Aw n cw], led l r1, ledR lr r, bigO slotO ([p0, p1, p2].set k (.nil, .nil)), .row 27 1 (.slice At n ct) n (tps.map Tp.v), .row 27 1 (.slice Aw n cw) n (tps.map Tp.u), bigO Tp.own tps, .blk go 65 [.int .i64 z0, .int .i64 z1, .int .i64 z2, .slice A3 n3 c3, .int .i64 z4, .int .u8 (u5.toNat : Int), .bool false], led (.pointer none) none, ledR (.pointer none) none, a'.ownM, p.2.ownR, .row 5 1 (.slice (some ⟨fk, 0, none⟩) (n3 + 6) tk) (n3 + 6) ((l3 ++ marksB 7 0 6).map vb)]) := H1
    clear H1
    have y3 := H.cell 7 rfl (o := 3) rfl
    go_wp2_with fail
    have hc := rsWrite_any lr r m b p.2 (by rw [HPK.out.2]; exact HPK.out.1) A3 n3 c3 l3 H 2 11 (by omega) rfl rfl hg (by omega) (by omega) (fun w' X Y h => h.arg0 hR) (by omega)
    rw [HPK.out.2, Her.out, Hr1.out] at hc
    refine hc.mono ?_
    clear hc y3
    rintro e wx ⟨b', hb', hbv, rfl, H1⟩
    rw [upd_laid (by simp), upd_laid (by simp)] at H1
    clear H
    have H : St w0 [] wx (lay [.blk gx 61 [p0.1.v, p1.1.v, p2.1.v, p0.2.v, p1.2.v, p2.2.v, l, lr, .slice At n ct, .slice Aw n cw], led l r1, ledR lr r1, bigO slotO ([p0, p1, p2].set k (.nil, .nil)), .row 27 1 (.slice At n ct) n (tps.map Tp.v), .row 27 1 (.slice Aw n cw) n (tps.map Tp.u), bigO Tp.own tps, .blk go 65 [.int .i64 z0, .int .i64 z1, .int .i64 z2, .slice A3 n3 c3, .int .i64 z4, .int .u8 (u5.toNat : Int), .bool false], led (.pointer none) none, ledR (.pointer none) none, a'.ownM, b'.ownR, .row 5 1 (.slice (some ⟨fk, 0, none⟩) (n3 + 6) tk) (n3 + 6) ((l3 ++ marksB 7 0 6).map vb)]) := H1
    clear H1
    have y3 := H.cell 7 rfl (o := 3) rfl
    go_wp2_with fail
    refine (keptBytes_yes (some ⟨fk, 0, none⟩) A3 (n3 + 6) n3 tk c3 (l3 ++ marksB 7 0 6) l3 _ (H.rd 12 rfl) (H.arg0 hR) (by omega) (by omega) rfl).mono ?_
    rintro e w5 ⟨rfl, hb5⟩
    replace H := H.call hb5
    clear hb5 y3
    go_wp2_with fail
    refine (over_st H 12 rfl (by omega)).mono ?_
    rintro e w6 ⟨rfl, H1⟩
    rw [upd_laid (by simp)] at H1
    replace H := H1.front 12
    clear H1
    replace H : St w0 [] w6 (lay [.blk gx 61 [p0.1.v, p1.1.v, p2.1.v, p0.2.v, p1.2.v, p2.2.v, l, lr, .slice At n ct, .slice Aw n cw], led l r1, ledR lr r1, bigO slotO ([p0, p1, p2].set k (.nil, .nil)), .row 27 1 (.slice At n ct) n (tps.map Tp.v), .row 27 1 (.slice Aw n cw) n (tps.map Tp.u), bigO Tp.own tps, .blk go 65 [.int .i64 z0, .int .i64 z1, .int .i64 z2, .slice A3 n3 c3, .int .i64 z4, .int .u8 (u5.toNat : Int), .bool false], led (.pointer none) none, ledR (.pointer none) none, a'.ownM, b'.ownR]) := H
    have heq : (er == er) = true := by simp
    go_wp2
    go_ret
    have hsl : SlotOk (a', b') := ⟨by rw [ha']; exact wrA_ok HPK.out.1 l3, by rw [hb', ha']⟩
    obtain ⟨q0, q1, q2, hq, HQ⟩ := act_end HP.out hav hbv hsl HOK.out H
    exact ⟨q0, q1, q2, r1, At, Aw, n, ct, cw, tps, rfl, hq, (by rw [← Hr1.out]; exact (wrL_lw HPK.out.1 hg (by omega)).more (by omega) (by omega)), (by rw [← Hr1.out]; exact wrL_some hrs n3), htn, by omega, htl, HQ⟩
  have hzz0 : (z1 == 0) = false := by simpa using hz0
  clear hz0
  by_cases hz1 : z1 = 1
  · have hzz : (z1 == 1) = true := by simpa using hz1
    clear hz1
    go_wp2_with fail
    have hc := spClose_any l r m b p.1 HPK.out.1 H 1 10 (by omega) rfl rfl hg (by omega) (by omega)
    obtain ⟨er, Her⟩ : ∃ er, Hid (wrE p.1.abs = er) := ⟨_, rfl⟩
    obtain ⟨r1, Hr1⟩ : ∃ r1, Hid (csL p.1.abs r = r1) := ⟨_, rfl⟩
    rw [Her.out, Hr1.out] at hc
    refine hc.mono ?_
    clear hc
    rintro e wx ⟨a', ha', hav, rfl, H1⟩
    rw [upd_laid (by simp), upd_laid (by simp)] at H1
    clear H
    have H : St w0 [] wx (lay [.blk gx 61 [p0.1.v, p1.1.v, p2.1.v, p0.2.v, p1.2.v, p2.2.v, l, lr, .slice At n ct, .slice Aw n cw], led l r1, ledR lr r, bigO slotO ([p0, p1, p2].set k (.nil, .nil)), .row 27 1 (.slice At n ct) n (tps.map Tp.v), .row 27 1 (.slice Aw n cw) n (tps.map Tp.u), bigO Tp.own tps, .blk go 65 [.int .i64 z0, .int .i64 z1, .int .i64 z2, .slice A3 n3 c3, .int .i64 z4, .int .u8 (u5.toNat : Int), .bool false], led (.pointer none) none, ledR (.pointer none) none, a'.ownM, p.2.ownR]) := H1
    clear H1
    go_wp2_with fail
    have hc := rsClose_any lr r m b p.2 (by rw [HPK.out.2]; exact HPK.out.1) H 2 11 (by omega) rfl rfl hg (by omega) (by omega)
    rw [HPK.out.2, Her.out, Hr1.out] at hc
    refine hc.mono ?_
    clear hc
    rintro e wx ⟨b', hb', hbv, rfl, H1⟩
    rw [upd_laid (by simp), upd_laid (by simp)] at H1
    clear H
    have H : St w0 [] wx (lay [.blk gx 61 [p0.1.v, p1.1.v, p2.1.v, p0.2.v, p1.2.v, p2.2.v, l, lr, .slice At n ct, .slice Aw n cw], led l r1, ledR lr r1, bigO slotO ([p0, p1, p2].set k (.nil, .nil)), .row 27 1 (.slice At n ct) n (tps.map Tp.v), .row 27 1 (.slice Aw n cw) n (tps.map Tp.u), bigO Tp.own tps, .blk go 65 [.int .i64 z0, .int .i64 z1, .int .i64 z2, .slice A3 n3 c3, .int .i64 z4, .int .u8 (u5.toNat : Int), .bool false], led (.pointer none) none, ledR (.pointer none) none, a'.ownM, b'.ownR]) := H1
    clear H1
    have heq : (er == er) = true := by simp
    go_wp2
    go_ret
    have hsl : SlotOk (a', b') := ⟨by rw [ha']; exact csA_ok HPK.out.1, by rw [hb', ha']⟩
    obtain ⟨q0, q1, q2, hq, HQ⟩ := act_end HP.out hav hbv hsl HOK.out H
    exact ⟨q0, q1, q2, r1, At, Aw, n, ct, cw, tps, rfl, hq, (by rw [← Hr1.out]; exact (csL_lw hg).more (by omega) (by omega)), (by rw [← Hr1.out]; exact csL_some hrs), htn, by omega, htl, HQ⟩
  have hzz1 : (z1 == 1) = false := by simpa using hz1
  clear hz1
  by_cases hz2 : z1 = 2
  · have hzz : (z1 == 2) = true := by simpa using hz2
    clear hz2
    have y4 := H.cell 7 rfl (o := 4) rfl
    go_wp2_with fail
    have hc := spReadK_any l r m b p.1 HPK.out.1 z4 H 1 10 12 (by omega) rfl rfl rfl hg (by omega) (by omega)
    obtain ⟨er, Her⟩ : ∃ er, Hid (reE p.1.abs z4 = er) := ⟨_, rfl⟩
    obtain ⟨r1, Hr1⟩ : ∃ r1, Hid (reL p.1.abs r z4 = r1) := ⟨_, rfl⟩
    have hT1 := reB_le p.1.abs z4
    obtain ⟨T1, HT1⟩ : ∃ T, Hid (reB p.1.abs z4 = T) := ⟨_, rfl⟩
    rw [HT1.out] at hT1
    rw [Her.out, Hr1.out, HT1.out] at hc
    obtain ⟨la, Hla⟩ : ∃ la, Hid (T1.length = la) := ⟨_, rfl⟩
    rw [Hla.out] at hc hT1
    refine hc.mono ?_
    clear hc y4
    rintro e wx ⟨a', va, ha', hav, rfl, H1⟩
    rw [upd_laid (by simp), upd_laid (by simp)] at H1
    clear H
    have H := H1.push_mk rfl
    clear H1
    obtain ⟨Aa, ca, rfl, -, -⟩ := row_form (H.row 12 rfl)
    replace H : St w0 [] wx (lay [.blk gx 61 [p0.1.v, p1.1.v, p2.1.v, p0.2.v, p1.2.v, p2.2.v, l, lr, .slice At n ct, .slice Aw n cw], led l r1, ledR lr r, bigO slotO ([p0, p1, p2].set k (.nil, .nil)), .row 27 1 (.slice At n ct) n (tps.map Tp.v), .row 27 1 (.slice Aw n cw) n (tps.map Tp.u), bigO Tp.own tps, .blk go 65 [.int .i64 z0, .int .i64 z1, .int .i64 z2, .slice A3 n3 c3, .int .i64 z4, .int .u8 (u5.toNat : Int), .bool false], led (.pointer none) none, ledR (.pointer none) none, a'.ownM, p.2.ownR, .row 5 1 (.slice Aa la ca) la (T1.map vb)]) := H
    have y4 := H.cell 7 rfl (o := 4) rfl
    go_wp2_with fail
    have hc := rsReadK_any lr r m b p.2 (by rw [HPK.out.2]; exact HPK.out.1) z4 H 2 11 13 (by omega) rfl rfl rfl hg (by omega) (by omega)
    rw [HPK.out.2, Her.out, Hr1.out, HT1.out, Hla.out] at hc
    refine hc.mono ?_
    clear hc y4
    rintro e wx ⟨b', vd, hb', hbv, rfl, H1⟩
    rw [upd_laid (by simp), upd_laid (by simp)] at H1
    clear H
    have H := H1.push_mk rfl
    clear H1
    obtain ⟨Ab, cb, rfl, -, -⟩ := row_form (H.row 13 rfl)
    replace H : St w0 [] wx (lay [.blk gx 61 [p0.1.v, p1.1.v, p2.1.v, p0.2.v, p1.2.v, p2.2.v, l, lr, .slice At n ct, .slice Aw n cw], led l r1, ledR lr r1, bigO slotO ([p0, p1, p2].set k (.nil, .nil)), .row 27 1 (.slice At n ct) n (tps.map Tp.v), .row 27 1 (.slice Aw n cw) n (tps.map Tp.u), bigO Tp.own tps, .blk go 65 [.int .i64 z0, .int .i64 z1, .int .i64 z2, .slice A3 n3 c3, .int .i64 z4, .int .u8 (u5.toNat : Int), .bool false], led (.pointer none) none, ledR (.pointer none) none, a'.ownM, b'.ownR, .row 5 1 (.slice Aa la ca) la (T1.map vb), .row 5 1 (.slice Ab la cb) la (T1.map vb)]) := H
    have heq : (er == er) = true := by simp
    go_wp2_with fail
    refine (spKeep_s gx _ _ _ _ _ _ _ _ _ _ _ _ _ _ _ _ _ At Aw Aa Ab n ct cw la ca cb _ _ T1 (by omega) (by omega) H).mono ?_
    rintro e w8 ⟨A6, d6, A9, d9, rfl, H1⟩
    clear H
    replace H1 : St w0 [] w8 (lay [.blk gx 61 [p0.1.v, p1.1.v, p2.1.v, p0.2.v, p1.2.v, p2.2.v, l, lr, .slice A6 (n + 1) d6, .slice A9 (n + 1) d9], led l r1, ledR lr r1, bigO slotO ([p0, p1, p2].set k (.nil, .nil)), .row 27 1 (.slice A6 (n + 1) d6) (n + 1) (tps.map Tp.v ++ [.slice Aa la ca]), .row 27 1 (.slice A9 (n + 1) d9) (n + 1) (tps.map Tp.u ++ [.slice Ab la cb]), bigO Tp.own tps, .blk go 65 [.int .i64 z0, .int .i64 z1, .int .i64 z2, .slice A3 n3 c3, .int .i64 z4, .int .u8 (u5.toNat : Int), .bool false], led (.pointer none) none, ledR (.pointer none) none, a'.ownM, b'.ownR, .row 5 1 (.slice Aa la ca) la (T1.map vb), .row 5 1 (.slice Ab la cb) la (T1.map vb)]) := H1
    replace H1 := (H1.shape_row 12 rfl Hla.out.symm rfl).shape_row 13 rfl Hla.out.symm rfl
    have H2 := St.join_mk (L := [.blk gx 61 [p0.1.v, p1.1.v, p2.1.v, p0.2.v, p1.2.v, p2.2.v, l, lr, .slice A6 (n + 1) d6, .slice A9 (n + 1) d9], led l r1, ledR lr r1, bigO slotO ([p0, p1, p2].set k (.nil, .nil)), .row 27 1 (.slice A6 (n + 1) d6) (n + 1) (tps.map Tp.v ++ [.slice Aa la ca]), .row 27 1 (.slice A9 (n + 1) d9) (n + 1) (tps.map Tp.u ++ [.slice Ab la cb]), bigO Tp.own tps, .blk go 65 [.int .i64 z0, .int .i64 z1, .int .i64 z2, .slice A3 n3 c3, .int .i64 z4, .int .u8 (u5.toNat : Int), .bool false], led (.pointer none) none, ledR (.pointer none) none, a'.ownM, b'.ownR, .row 5 1 (.slice Aa la ca) T1.length (T1.map vb)]) H1 12 rfl
    have H3 := St.tellSlot (x := ⟨.slice Aa la ca, .slice Ab la cb, T1⟩) (L0 := [.blk gx 61 [p0.1.v, p1.1.v, p2.1.v, p0.2.v, p1.2.v, p2.2.v, l, lr, .slice A6 (n + 1) d6, .slice A9 (n + 1) d9], led l r1, ledR lr r1, bigO slotO ([p0, p1, p2].set k (.nil, .nil)), .row 27 1 (.slice A6 (n + 1) d6) (n + 1) (tps.map Tp.v ++ [.slice Aa la ca]), .row 27 1 (.slice A9 (n + 1) d9) (n + 1) (tps.map Tp.u ++ [.slice Ab la cb]), bigO Tp.own tps, .blk go 65 [.int .i64 z0, .int .i64 z1, .int .i64 z2, .slice A3 n3 c3, .int .i64 z4, .int .u8 (u5.toNat : Int), .bool false], led (.pointer none) none, ledR (.pointer none) none, a'.ownM, b'.ownR]) H2 6 rfl
    clear H1 H2
    obtain ⟨TPS, HTPS⟩ : ∃ T, Hid (tps ++ [(⟨.slice Aa la ca, .slice Ab la cb, T1⟩ : Tp)] = T) := ⟨_, rfl⟩
    have hv1 : tps.map Tp.v ++ [.slice Aa la ca] = TPS.map Tp.v := by rw [← HTPS.out, List.map_append]; rfl
    have hv2 : tps.map Tp.u ++ [.slice Ab la cb] = TPS.map Tp.u := by rw [← HTPS.out, List.map_append]; rfl
    rw [hv1, hv2, HTPS.out] at H3
    have H : St w0 [] w8 (lay [.blk gx 61 [p0.1.v, p1.1.v, p2.1.v, p0.2.v, p1.2.v, p2.2.v, l, lr, .slice A6 (n + 1) d6, .slice A9 (n + 1) d9], led l r1, ledR lr r1, bigO slotO ([p0, p1, p2].set k (.nil, .nil)), .row 27 1 (.slice A6 (n + 1) d6) (n + 1) (TPS.map Tp.v), .row 27 1 (.slice A9 (n + 1) d9) (n + 1) (TPS.map Tp.u), bigO Tp.own TPS, .blk go 65 [.int .i64 z0, .int .i64 z1, .int .i64 z2, .slice A3 n3 c3, .int .i64 z4, .int .u8 (u5.toNat : Int), .bool false], led (.pointer none) none, ledR (.pointer none) none, a'.ownM, b'.ownR]) := H3
    clear H3 hv1 hv2
    have htn' : TPS.length = n + 1 := by rw [← HTPS.out, List.length_append, htn]; rfl
    have htl' : ∀ q ∈ TPS, q.l.length ≤ 65536 := by rw [← HTPS.out]; intro q hq; rcases List.mem_append.1 hq with h | h; exact htl q h; rw [List.mem_singleton.1 h]; show T1.length ≤ 65536; rw [Hla.out]; omega
    go_wp2
    go_ret
    have hsl : SlotOk (a', b') := ⟨by rw [ha']; exact reA_ok HPK.out.1 z4, by rw [hb', ha']⟩
    obtain ⟨q0, q1, q2, hq, HQ⟩ := act_end HP.out hav hbv hsl HOK.out H
    exact ⟨q0, q1, q2, r1, A6, A9, n + 1, d6, d9, TPS, rfl, hq, (by rw [← Hr1.out]; exact (reL_lw HPK.out.1 hg z4).more (by omega) (by omega)), (by rw [← Hr1.out]; exact reL_some hrs z4), htn', by omega, htl', HQ⟩
  have hzz2 : (z1 == 2) = false := by simpa using hz2
  clear hz2
  by_cases hz3 : z1 = 3
  · have hzz : (z1 == 3) = true := by simpa using hz3
    clear hz3
    go_wp2_with fail
    have hc := spClone_any p.1 HPK.out.1 H 10 12 rfl rfl
    obtain ⟨er, Her⟩ : ∃ er, Hid (erA p.1.abs = er) := ⟨_, rfl⟩
    rw [Her.out] at hc
    refine hc.mono ?_
    clear hc
    rintro e w2 ⟨a', ha', rfl, H1⟩
    clear H
    have H : St w0 [] w2 (lay [.blk gx 61 [p0.1.v, p1.1.v, p2.1.v, p0.2.v, p1.2.v, p2.2.v, l, lr, .slice At n ct, .slice Aw n cw], led l r, ledR lr r, bigO slotO ([p0, p1, p2].set k (.nil, .nil)), .row 27 1 (.slice At n ct) n (tps.map Tp.v), .row 27 1 (.slice Aw n cw) n (tps.map Tp.u), bigO Tp.own tps, .blk go 65 [.int .i64 z0, .int .i64 z1, .int .i64 z2, .slice A3 n3 c3, .int .i64 z4, .int .u8 (u5.toNat : Int), .bool false], led (.pointer none) none, ledR (.pointer none) none, p.1.ownM, p.2.ownR, a'.ownM]) := H1.push_mk rfl
    clear H1
    go_wp2_with fail
    have hc := rsClone_any p.2 (by rw [HPK.out.2]; exact HPK.out.1) H 11 13 rfl rfl
    rw [HPK.out.2, Her.out] at hc
    refine hc.mono ?_
    clear hc
    rintro e w2 ⟨b', hb', rfl, H1⟩
    clear H
    have H : St w0 [] w2 (lay [.blk gx 61 [p0.1.v, p1.1.v, p2.1.v, p0.2.v, p1.2.v, p2.2.v, l, lr, .slice At n ct, .slice Aw n cw], led l r, ledR lr r, bigO slotO ([p0, p1, p2].set k (.nil, .nil)), .row 27 1 (.slice At n ct) n (tps.map Tp.v), .row 27 1 (.slice Aw n cw) n (tps.map Tp.u), bigO Tp.own tps, .blk go 65 [.int .i64 z0, .int .i64 z1, .int .i64 z2, .slice A3 n3 c3, .int .i64 z4, .int .u8 (u5.toNat : Int), .bool false], led (.pointer none) none, ledR (.pointer none) none, p.1.ownM, p.2.ownR, a'.ownM, b'.ownR]) := H1.push_mk rfl
    clear H1
    have heq : (er == er) = true := by simp
    have hsl : SlotOk (a', b') := ⟨by rw [ha']; exact clA_ok HPK.out.1, by rw [hb', ha']⟩
    have HSL := Lib.hid hsl
    clear hsl
    obtain ⟨jq, hjq, hjz⟩ : ∃ j : Nat, j < 3 ∧ (j : Int) = z2 % (3 : Int) := ⟨(z2 % 3).toNat, by omega, by omega⟩
    have hji : (jq : Int) < 3 := by omega
    have HJZ := Lib.hid hjz
    clear hjz
    rcases KA.kind ha' hb' with ⟨rfl, rfl⟩ | ⟨g, g', x, rfl, rfl⟩
    · rw [show KA.v .nil = Value.pointer none from rfl]
      have z2c := H.cell 7 rfl (o := 2) rfl
      have hfr := H.free 0 rfl jq
      obtain ⟨u1, hu1⟩ : ∃ u, ([p0.1.v, p1.1.v, p2.1.v, p0.2.v, p1.2.v, p2.2.v, l, lr, .slice At n ct, .slice Aw n cw] : List Value)[jq]? = some u := ⟨_, List.getElem?_eq_getElem (by simp only [List.length_cons, List.length_nil]; omega)⟩
      have hce := H.cell 0 rfl hu1
      clear hu1
      have hst := (H.store 0 rfl (o := jq) (u := .pointer none)).upd_mk (by simp)
      go_upto_region 26 with (fail)
      go_still_tail 8, (by kernel_rfl)
      still_call ((pick_any z2 3 _ hz2.1 hz2.2 (by omega) (by omega) rfl).mono fun _ _ h => (by obtain ⟨⟨jn, h1, h2, h3⟩, h4⟩ := h; exact ⟨by rw [h3, show jn = jq by have := HJZ.out; omega], h4.symm⟩))
      repeat still_step
      refine wpStill_nil ?_
      clear z2c
      go_upto_region 27 with (fail)
      first | refine absorb_wp hst ?_ | refine absorb_wp hst.drew ?_
      clear H hst hfr hce
      intro w4 H
      replace H : St w0 [] w4 (lay [.blk gx 61 ([p0.1.v, p1.1.v, p2.1.v, p0.2.v, p1.2.v, p2.2.v, l, lr, .slice At n ct, .slice Aw n cw].set jq (.pointer none)), led l r, ledR lr r, bigO slotO ([p0, p1, p2].set k (.nil, .nil)), .row 27 1 (.slice At n ct) n (tps.map Tp.v), .row 27 1 (.slice Aw n cw) n (tps.map Tp.u), bigO Tp.own tps, .blk go 65 [.int .i64 z0, .int .i64 z1, .int .i64 z2, .slice A3 n3 c3, .int .i64 z4, .int .u8 (u5.toNat : Int), .bool false], led (.pointer none) none, ledR (.pointer none) none, p.1.ownM, p.2.ownR, (KA.nil).ownM, (KA.nil).ownR]) := H
      have z2c := H.cell 7 rfl (o := 2) rfl
      have hfr := H.free 0 rfl (3 + jq)
      obtain ⟨u2, hu2⟩ : ∃ u, (([p0.1.v, p1.1.v, p2.1.v, p0.2.v, p1.2.v, p2.2.v, l, lr, .slice At n ct, .slice Aw n cw] : List Value).set jq (.pointer none))[3 + jq]? = some u := ⟨_, List.getElem?_eq_getElem (by simp only [List.length_set, List.length_cons, List.length_nil]; omega)⟩
      have hce := H.cell 0 rfl hu2
      clear hu2
      have hst := (H.store 0 rfl (o := 3 + jq) (u := .pointer none)).upd_mk (by simp)
      go_still_tail 8, (by kernel_rfl)
      still_call ((pick_any z2 3 _ hz2.1 hz2.2 (by omega) (by omega) rfl).mono fun _ _ h => (by obtain ⟨⟨jn, h1, h2, h3⟩, h4⟩ := h; exact ⟨by rw [h3, show jn = jq by have := HJZ.out; omega], h4.symm⟩))
      repeat still_step
      refine wpStill_nil ?_
      clear z2c
      go_wp2
      go_ret
      first | replace H := hst | replace H := hst.drew
      clear hst hfr hce
      replace H : St w0 [] _ (lay [.blk gx 61 (([p0.1.v, p1.1.v, p2.1.v, p0.2.v, p1.2.v, p2.2.v, l, lr, .slice At n ct, .slice Aw n cw].set jq (.pointer none)).set (3 + jq) (.pointer none)), led l r, ledR lr r, bigO slotO ([p0, p1, p2].set k (.nil, .nil)), .row 27 1 (.slice At n ct) n (tps.map Tp.v), .row 27 1 (.slice Aw n cw) n (tps.map Tp.u), bigO Tp.own tps, .blk go 65 [.int .i64 z0, .int .i64 z1, .int .i64 z2, .slice A3 n3 c3, .int .i64 z4, .int .u8 (u5.toNat : Int), .bool false], led (.pointer none) none, ledR (.pointer none) none, p.1.ownM, p.2.ownR, (KA.nil).ownM, (KA.nil).ownR]) := H
      obtain ⟨q0, q1, q2, hq, HQ⟩ := act_end2 (a := (KA.nil)) (b := (KA.nil)) HP.out hjq HSL.out HOK.out H
      first | exact ⟨q0, q1, q2, r, At, Aw, n, ct, cw, tps, rfl, hq, (hg.more (by omega) (by omega)), hrs, htn, by omega, htl, HQ⟩ | exact ⟨q0, q1, q2, r, At, Aw, n, ct, cw, tps, rfl, hq, (hg.more (by omega) (by omega)), hrs, htn, by omega, htl, HQ.drew⟩
    · rw [show KA.v (.live g x) = Value.pointer (some ⟨g, 0, none⟩) from rfl, show KA.v (.live g' x) = Value.pointer (some ⟨g', 0, none⟩) from rfl]
      have z2c := H.cell 7 rfl (o := 2) rfl
      have hfr := H.free 0 rfl jq
      obtain ⟨u1, hu1⟩ : ∃ u, ([p0.1.v, p1.1.v, p2.1.v, p0.2.v, p1.2.v, p2.2.v, l, lr, .slice At n ct, .slice Aw n cw] : List Value)[jq]? = some u := ⟨_, List.getElem?_eq_getElem (by simp only [List.length_cons, List.length_nil]; omega)⟩
      have hce := H.cell 0 rfl hu1
      clear hu1
      have hst := (H.store 0 rfl (o := jq) (u := .pointer (some ⟨g, 0, none⟩))).upd_mk (by simp)
      go_upto_region 26 with (fail)
      go_still_tail 8, (by kernel_rfl)
      still_call ((pick_any z2 3 _ hz2.1 hz2.2 (by omega) (by omega) rfl).mono fun _ _ h => (by obtain ⟨⟨jn, h1, h2, h3⟩, h4⟩ := h; exact ⟨by rw [h3, show jn = jq by have := HJZ.out; omega], h4.symm⟩))
      repeat still_step
      refine wpStill_nil ?_
      clear z2c
      go_upto_region 27 with (fail)
      first | refine absorb_wp hst ?_ | refine absorb_wp hst.drew ?_
      clear H hst hfr hce
      intro w4 H
      replace H : St w0 [] w4 (lay [.blk gx 61 ([p0.1.v, p1.1.v, p2.1.v, p0.2.v, p1.2.v, p2.2.v, l, lr, .slice At n ct, .slice Aw n cw].set jq (.pointer (some ⟨g, 0, none⟩))), led l r, ledR lr r, bigO slotO ([p0, p1, p2].set k (.nil, .nil)), .row 27 1 (.slice At n ct) n (tps.map Tp.v), .row 27 1 (.slice Aw n cw) n (tps.map Tp.u), bigO Tp.own tps, .blk go 65 [.int .i64 z0, .int .i64 z1, .int .i64 z2, .slice A3 n3 c3, .int .i64 z4, .int .u8 (u5.toNat : Int), .bool false], led (.pointer none) none, ledR (.pointer none) none, p.1.ownM, p.2.ownR, (KA.live g x).ownM, (KA.live g' x).ownR]) := H
      have z2c := H.cell 7 rfl (o := 2) rfl
      have hfr := H.free 0 rfl (3 + jq)
      obtain ⟨u2, hu2⟩ : ∃ u, (([p0.1.v, p1.1.v, p2.1.v, p0.2.v, p1.2.v, p2.2.v, l, lr, .slice At n ct, .slice Aw n cw] : List Value).set jq (.pointer (some ⟨g, 0, none⟩)))[3 + jq]? = some u := ⟨_, List.getElem?_eq_getElem (by simp only [List.length_set, List.length_cons, List.length_nil]; omega)⟩
      have hce := H.cell 0 rfl hu2
      clear hu2
      have hst := (H.store 0 rfl (o := 3 + jq) (u := .pointer (some ⟨g', 0, none⟩))).upd_mk (by simp)
      go_still_tail 8, (by kernel_rfl)
      still_call ((pick_any z2 3 _ hz2.1 hz2.2 (by omega) (by omega) rfl).mono fun _ _ h => (by obtain ⟨⟨jn, h1, h2, h3⟩, h4⟩ := h; exact ⟨by rw [h3, show jn = jq by have := HJZ.out; omega], h4.symm⟩))
      repeat still_step
      refine wpStill_nil ?_
      clear z2c
      go_wp2
      go_ret
      first | replace H := hst | replace H := hst.drew
      clear hst hfr hce
      replace H : St w0 [] _ (lay [.blk gx 61 (([p0.1.v, p1.1.v, p2.1.v, p0.2.v, p1.2.v, p2.2.v, l, lr, .slice At n ct, .slice Aw n cw].set jq (.pointer (some ⟨g, 0, none⟩))).set (3 + jq) (.pointer (some ⟨g', 0, none⟩))), led l r, ledR lr r, bigO slotO ([p0, p1, p2].set k (.nil, .nil)), .row 27 1 (.slice At n ct) n (tps.map Tp.v), .row 27 1 (.slice Aw n cw) n (tps.map Tp.u), bigO Tp.own tps, .blk go 65 [.int .i64 z0, .int .i64 z1, .int .i64 z2, .slice A3 n3 c3, .int .i64 z4, .int .u8 (u5.toNat : Int), .bool false], led (.pointer none) none, ledR (.pointer none) none, p.1.ownM, p.2.ownR, (KA.live g x).ownM, (KA.live g' x).ownR]) := H
      obtain ⟨q0, q1, q2, hq, HQ⟩ := act_end2 (a := (KA.live g x)) (b := (KA.live g' x)) HP.out hjq HSL.out HOK.out H
      first | exact ⟨q0, q1, q2, r, At, Aw, n, ct, cw, tps, rfl, hq, (hg.more (by omega) (by omega)), hrs, htn, by omega, htl, HQ⟩ | exact ⟨q0, q1, q2, r, At, Aw, n, ct, cw, tps, rfl, hq, (hg.more (by omega) (by omega)), hrs, htn, by omega, htl, HQ.drew⟩
  have hzz3 : (z1 == 3) = false := by simpa using hz3
  clear hz3
  by_cases hz4 : z1 = 4
  · have hzz : (z1 == 4) = true := by simpa using hz4
    clear hz4
    go_wp2_with fail
    have hc := spWipe_any l r m b p.1 HPK.out.1 H 1 10 (by omega) rfl rfl hg (by omega) (by omega)
    obtain ⟨er, Her⟩ : ∃ er, Hid (erA p.1.abs = er) := ⟨_, rfl⟩
    obtain ⟨r1, Hr1⟩ : ∃ r1, Hid (wiL p.1.abs r = r1) := ⟨_, rfl⟩
    rw [Her.out, Hr1.out] at hc
    refine hc.mono ?_
    clear hc
    rintro e wx ⟨a', ha', hav, rfl, H1⟩
    rw [upd_laid (by simp), upd_laid (by simp)] at H1
    clear H
    have H : St w0 [] wx (lay [.blk gx 61 [p0.1.v, p1.1.v, p2.1.v, p0.2.v, p1.2.v, p2.2.v, l, lr, .slice At n ct, .slice Aw n cw], led l r1, ledR lr r, bigO slotO ([p0, p1, p2].set k (.nil, .nil)), .row 27 1 (.slice At n ct) n (tps.map Tp.v), .row 27 1 (.slice Aw n cw) n (tps.map Tp.u), bigO Tp.own tps, .blk go 65 [.int .i64 z0, .int .i64 z1, .int .i64 z2, .slice A3 n3 c3, .int .i64 z4, .int .u8 (u5.toNat : Int), .bool false], led (.pointer none) none, ledR (.pointer none) none, a'.ownM, p.2.ownR]) := H1
    clear H1
    go_wp2_with fail
    have hc := rsWipe_any lr r m b p.2 (by rw [HPK.out.2]; exact HPK.out.1) H 2 11 (by omega) rfl rfl hg (by omega) (by omega)
    rw [HPK.out.2, Her.out, Hr1.out] at hc
    refine hc.mono ?_
    clear hc
    rintro e wx ⟨b', hb', hbv, rfl, H1⟩
    rw [upd_laid (by simp), upd_laid (by simp)] at H1
    clear H
    have H : St w0 [] wx (lay [.blk gx 61 [p0.1.v, p1.1.v, p2.1.v, p0.2.v, p1.2.v, p2.2.v, l, lr, .slice At n ct, .slice Aw n cw], led l r1, ledR lr r1, bigO slotO ([p0, p1, p2].set k (.nil, .nil)), .row 27 1 (.slice At n ct) n (tps.map Tp.v), .row 27 1 (.slice Aw n cw) n (tps.map Tp.u), bigO Tp.own tps, .blk go 65 [.int .i64 z0, .int .i64 z1, .int .i64 z2, .slice A3 n3 c3, .int .i64 z4, .int .u8 (u5.toNat : Int), .bool false], led (.pointer none) none, ledR (.pointer none) none, a'.ownM, b'.ownR]) := H1
    clear H1
    have heq : (er == er) = true := by simp
    go_wp2
    go_ret
    have hsl : SlotOk (a', b') := ⟨by rw [ha']; exact wiA_ok HPK.out.1, by rw [hb', ha']⟩
    obtain ⟨q0, q1, q2, hq, HQ⟩ := act_end HP.out hav hbv hsl HOK.out H
    exact ⟨q0, q1, q2, r1, At, Aw, n, ct, cw, tps, rfl, hq, (by rw [← Hr1.out]; exact (wiL_lw hg).more (by omega) (by omega)), (by rw [← Hr1.out]; exact wiL_some hrs), htn, by omega, htl, HQ⟩
  have hzz4 : (z1 == 4) = false := by simpa using hz4
  clear hz4
  by_cases hz5 : z1 = 5
  · have hzz : (z1 == 5) = true := by simpa using hz5
    clear hz5
    go_wp2_with fail
    have hc := spForm_any p.1 HPK.out.1 H 10 12 rfl rfl
    have hT1 := foB_le HPK.out.1
    obtain ⟨T1, HT1⟩ : ∃ T, Hid (foB p.1.abs = T) := ⟨_, rfl⟩
    rw [HT1.out] at hc hT1
    obtain ⟨la, Hla⟩ : ∃ la, Hid (T1.length = la) := ⟨_, rfl⟩
    rw [Hla.out] at hc hT1
    refine hc.mono ?_
    clear hc
    rintro e wx ⟨va, rfl, H1⟩
    clear H
    have H := H1.push_mk rfl
    clear H1
    obtain ⟨Aa, ca, rfl, -, -⟩ := row_form (H.row 12 rfl)
    replace H : St w0 [] wx (lay [.blk gx 61 [p0.1.v, p1.1.v, p2.1.v, p0.2.v, p1.2.v, p2.2.v, l, lr, .slice At n ct, .slice Aw n cw], led l r, ledR lr r, bigO slotO ([p0, p1, p2].set k (.nil, .nil)), .row 27 1 (.slice At n ct) n (tps.map Tp.v), .row 27 1 (.slice Aw n cw) n (tps.map Tp.u), bigO Tp.own tps, .blk go 65 [.int .i64 z0, .int .i64 z1, .int .i64 z2, .slice A3 n3 c3, .int .i64 z4, .int .u8 (u5.toNat : Int), .bool false], led (.pointer none) none, ledR (.pointer none) none, p.1.ownM, p.2.ownR, .row 5 1 (.slice Aa la ca) la (T1.map vb)]) := H
    go_wp2_with fail
    have hc := rsForm_any p.2 (by rw [HPK.out.2]; exact HPK.out.1) H 11 13 rfl rfl
    rw [HPK.out.2, HT1.out, Hla.out] at hc
    refine hc.mono ?_
    clear hc
    rintro e wx ⟨vd, rfl, H1⟩
    clear H
    have H := H1.push_mk rfl
    clear H1
    obtain ⟨Ab, cb, rfl, -, -⟩ := row_form (H.row 13 rfl)
    replace H : St w0 [] wx (lay [.blk gx 61 [p0.1.v, p1.1.v, p2.1.v, p0.2.v, p1.2.v, p2.2.v, l, lr, .slice At n ct, .slice Aw n cw], led l r, ledR lr r, bigO slotO ([p0, p1, p2].set k (.nil, .nil)), .row 27 1 (.slice At n ct) n (tps.map Tp.v), .row 27 1 (.slice Aw n cw) n (tps.map Tp.u), bigO Tp.own tps, .blk go 65 [.int .i64 z0, .int .i64 z1, .int .i64 z2, .slice A3 n3 c3, .int .i64 z4, .int .u8 (u5.toNat : Int), .bool false], led (.pointer none) none, ledR (.pointer none) none, p.1.ownM, p.2.ownR, .row 5 1 (.slice Aa la ca) la (T1.map vb), .row 5 1 (.slice Ab la cb) la (T1.map vb)]) := H
    go_wp2_with fail
    refine (spKeep_s gx _ _ _ _ _ _ _ _ _ _ _ _ _ _ _ _ _ At Aw Aa Ab n ct cw la ca cb _ _ T1 (by omega) (by omega) H).mono ?_
    rintro e w8 ⟨A6, d6, A9, d9, rfl, H1⟩
    clear H
    replace H1 : St w0 [] w8 (lay [.blk gx 61 [p0.1.v, p1.1.v, p2.1.v, p0.2.v, p1.2.v, p2.2.v, l, lr, .slice A6 (n + 1) d6, .slice A9 (n + 1) d9], led l r, ledR lr r, bigO slotO ([p0, p1, p2].set k (.nil, .nil)), .row 27 1 (.slice A6 (n + 1) d6) (n + 1) (tps.map Tp.v ++ [.slice Aa la ca]), .row 27 1 (.slice A9 (n + 1) d9) (n + 1) (tps.map Tp.u ++ [.slice Ab la cb]), bigO Tp.own tps, .blk go 65 [.int .i64 z0, .int .i64 z1, .int .i64 z2, .slice A3 n3 c3, .int .i64 z4, .int .u8 (u5.toNat : Int), .bool false], led (.pointer none) none, ledR (.pointer none) none, p.1.ownM, p.2.ownR, .row 5 1 (.slice Aa la ca) la (T1.map vb), .row 5 1 (.slice Ab la cb) la (T1.map vb)]) := H1
    replace H1 := (H1.shape_row 12 rfl Hla.out.symm rfl).shape_row 13 rfl Hla.out.symm rfl
    have H2 := St.join_mk (L := [.blk gx 61 [p0.1.v, p1.1.v, p2.1.v, p0.2.v, p1.2.v, p2.2.v, l, lr, .slice A6 (n + 1) d6, .slice A9 (n + 1) d9], led l r, ledR lr r, bigO slotO ([p0, p1, p2].set k (.nil, .nil)), .row 27 1 (.slice A6 (n + 1) d6) (n + 1) (tps.map Tp.v ++ [.slice Aa la ca]), .row 27 1 (.slice A9 (n + 1) d9) (n + 1) (tps.map Tp.u ++ [.slice Ab la cb]), bigO Tp.own tps, .blk go 65 [.int .i64 z0, .int .i64 z1, .int .i64 z2, .slice A3 n3 c3, .int .i64 z4, .int .u8 (u5.toNat : Int), .bool false], led (.pointer none) none, ledR (.pointer none) none, p.1.ownM, p.2.ownR, .row 5 1 (.slice Aa la ca) T1.length (T1.map vb)]) H1 12 rfl
    have H3 := St.tellSlot (x := ⟨.slice Aa la ca, .slice Ab la cb, T1⟩) (L0 := [.blk gx 61 [p0.1.v, p1.1.v, p2.1.v, p0.2.v, p1.2.v, p2.2.v, l, lr, .slice A6 (n + 1) d6, .slice A9 (n + 1) d9], led l r, ledR lr r, bigO slotO ([p0, p1, p2].set k (.nil, .nil)), .row 27 1 (.slice A6 (n + 1) d6) (n + 1) (tps.map Tp.v ++ [.slice Aa la ca]), .row 27 1 (.slice A9 (n + 1) d9) (n + 1) (tps.map Tp.u ++ [.slice Ab la cb]), bigO Tp.own tps, .blk go 65 [.int .i64 z0, .int .i64 z1, .int .i64 z2, .slice A3 n3 c3, .int .i64 z4, .int .u8 (u5.toNat : Int), .bool false], led (.pointer none) none, ledR (.pointer none) none, p.1.ownM, p.2.ownR]) H2 6 rfl
    clear H1 H2
    obtain ⟨TPS, HTPS⟩ : ∃ T, Hid (tps ++ [(⟨.slice Aa la ca, .slice Ab la cb, T1⟩ : Tp)] = T) := ⟨_, rfl⟩
    have hv1 : tps.map Tp.v ++ [.slice Aa la ca] = TPS.map Tp.v := by rw [← HTPS.out, List.map_append]; rfl
    have hv2 : tps.map Tp.u ++ [.slice Ab la cb] = TPS.map Tp.u := by rw [← HTPS.out, List.map_append]; rfl
    rw [hv1, hv2, HTPS.out] at H3
    have H : St w0 [] w8 (lay [.blk gx 61 [p0.1.v, p1.1.v, p2.1.v, p0.2.v, p1.2.v, p2.2.v, l, lr, .slice A6 (n + 1) d6, .slice A9 (n + 1) d9], led l r, ledR lr r, bigO slotO ([p0, p1, p2].set k (.nil, .nil)), .row 27 1 (.slice A6 (n + 1) d6) (n + 1) (TPS.map Tp.v), .row 27 1 (.slice A9 (n + 1) d9) (n + 1) (TPS.map Tp.u), bigO Tp.own TPS, .blk go 65 [.int .i64 z0, .int .i64 z1, .int .i64 z2, .slice A3 n3 c3, .int .i64 z4, .int .u8 (u5.toNat : Int), .bool false], led (.pointer none) none, ledR (.pointer none) none, p.1.ownM, p.2.ownR]) := H3
    clear H3 hv1 hv2
    have htn' : TPS.length = n + 1 := by rw [← HTPS.out, List.length_append, htn]; rfl
    have htl' : ∀ q ∈ TPS, q.l.length ≤ 65536 := by rw [← HTPS.out]; intro q hq; rcases List.mem_append.1 hq with h | h; exact htl q h; rw [List.mem_singleton.1 h]; show T1.length ≤ 65536; rw [Hla.out]; omega
    go_wp2
    go_ret
    obtain ⟨q0, q1, q2, hq, HQ⟩ := act_end HP.out rfl rfl HPK.out HOK.out H
    exact ⟨q0, q1, q2, r, A6, A9, n + 1, d6, d9, TPS, rfl, hq, (hg.more (by omega) (by omega)), hrs, htn', by omega, htl', HQ⟩
  have hzz5 : (z1 == 5) = false := by simpa using hz5
  clear hz5
  by_cases hz6 : z1 = 6
  · have hzz : (z1 == 6) = true := by simpa using hz6
    clear hz6
    have y4 := H.cell 7 rfl (o := 4) rfl
    have y5 := H.cell 7 rfl (o := 5) rfl
    go_wp2_with fail
    refine (spMade_s gx _ _ _ _ _ _ _ _ _ _ (k : Int) k rfl hk z4 u5 H rfl 12 13 rfl rfl (by omega)).mono ?_
    rintro e wx ⟨a', b', ha', hb', rfl, H1⟩
    rw [upd_push (by simp), upd_push (by simp), upd_laid (by simp)] at H1
    clear H y4 y5
    have H : St w0 [] wx (lay [.blk gx 61 (([p0.1.v, p1.1.v, p2.1.v, p0.2.v, p1.2.v, p2.2.v, l, lr, .slice At n ct, .slice Aw n cw].set k a'.v).set (3 + k) b'.v), led l r, ledR lr r, bigO slotO ([p0, p1, p2].set k (.nil, .nil)), .row 27 1 (.slice At n ct) n (tps.map Tp.v), .row 27 1 (.slice Aw n cw) n (tps.map Tp.u), bigO Tp.own tps, .blk go 65 [.int .i64 z0, .int .i64 z1, .int .i64 z2, .slice A3 n3 c3, .int .i64 z4, .int .u8 (u5.toNat : Int), .bool false], led (.pointer none) none, ledR (.pointer none) none, p.1.ownM, p.2.ownR, a'.ownM, b'.ownR]) := H1
    clear H1
    go_wp2
    go_ret
    have hsl : SlotOk (a', b') := ⟨by rw [ha', clA_ne]; exact neA_ok z4 u5, by rw [hb', ha']⟩
    obtain ⟨q0, q1, q2, hq, HQ⟩ := act_end3 hk hsl HOK.out H
    exact ⟨q0, q1, q2, r, At, Aw, n, ct, cw, tps, rfl, hq, (hg.more (by omega) (by omega)), hrs, htn, by omega, htl, HQ⟩
  have hzz6 : (z1 == 6) = false := by simpa using hz6
  clear hz6
  go_wp2_with fail
  refine (spRate_any p.1 HPK.out.1 H 10 rfl).mono ?_
  rintro e wx ⟨rfl, rfl⟩
  go_wp2_with fail
  have hc := rsRate_any p.2 (by rw [HPK.out.2]; exact HPK.out.1) H 11 rfl
  rw [HPK.out.2] at hc
  refine hc.mono ?_
  clear hc
  rintro e wx ⟨rfl, rfl⟩
  obtain ⟨er, Her⟩ : ∃ er, Hid (raA p.1.abs = er) := ⟨_, rfl⟩
  rw [Her.out]
  have heq : (er == er) = true := by simp
  go_wp2_with fail
  refine (spShut_any p.1 HPK.out.1 H 10 rfl).mono ?_
  rintro e wx ⟨rfl, rfl⟩
  go_wp2_with fail
  have hc := rsShut_any p.2 (by rw [HPK.out.2]; exact HPK.out.1) H 11 rfl
  rw [HPK.out.2] at hc
  refine hc.mono ?_
  clear hc
  rintro e wx ⟨rfl, rfl⟩
  obtain ⟨sh, Hsh⟩ : ∃ er, Hid (shA p.1.abs = er) := ⟨_, rfl⟩
  rw [Hsh.out]
  have heq2 : (sh == sh) = true := by simp
  go_wp2
  go_ret
  obtain ⟨q0, q1, q2, hq, HQ⟩ := act_end HP.out rfl rfl HPK.out HOK.out H
  exact ⟨q0, q1, q2, r, At, Aw, n, ct, cw, tps, rfl, hq, (hg.more (by omega) (by omega)), hrs, htn, by omega, htl, HQ⟩

set_option maxHeartbeats 16000000 in
theorem spAct_t (gx : Nat) (l lr : Value) (r : Option (List RunT)) (m : Nat) (b : Int) (p0 p1 p2 : KA × KA) (At Aw : Option Addr) (n ct cw : Nat) (tps : List Tp) (z0 z1 z2 : Int) (A3 : Option Addr) (n3 c3 : Nat) (l3 : List UInt8) (z4 : Int) (u5 : UInt8)
    (hok : SlotOk p0 ∧ SlotOk p1 ∧ SlotOk p2) (hg : LW r m b) (hm : m ≤ 10000) (hb : b ≤ 10000000000000000) (hrs : ∃ rs, r = some rs) (htn : tps.length = n) (hn : n ≤ 900) (htl : ∀ q ∈ tps, q.l.length ≤ 65536)
    (hz0 : -9223372036854775808 ≤ z0 ∧ z0 ≤ 9223372036854775807) (hz2 : -9223372036854775808 ≤ z2 ∧ z2 ≤ 9223372036854775807) (hR : Rd w0 1 A3 n3 (l3.map vb)) (hn3 : n3 ≤ 1000000)
    (H : St w0 [] w (lay [.blk gx 61 [p0.1.v, p1.1.v, p2.1.v, p0.2.v, p1.2.v, p2.2.v, l, lr, .slice At n ct, .slice Aw n cw], led l r, ledR lr r, bigO slotO [p0, p1, p2], .row 27 1 (.slice At n ct) n (tps.map Tp.v), .row 27 1 (.slice Aw n cw) n (tps.map Tp.u), bigO Tp.own tps])) :
    Calls Try.prog 26 #[lptr gx, .agg #[.int .i64 z0, .int .i64 z1, .int .i64 z2, .slice A3 n3 c3, .int .i64 z4, .int .u8 (u5.toNat : Int), .bool true]] w (ActPost gx l lr m b n w0) := by
  have hl3 : l3.length = n3 := by simpa using hR.1
  have HL3 := Lib.hid hl3
  clear hl3
  unfold lptr
  go_enter Try.func26, Try.ntmps26
  go_wp2_with fail
  refine absorb_calls (H.allocAt 7 rfl w.heap.size rfl _ _ |>.push_mk rfl |>.ledNil 8 rfl |>.push_mk rfl |>.ledRNil 9 rfl |>.push_mk rfl) ?_
  clear H
  intro w1 H
  generalize w.heap.size = go at H ⊢
  refine (pick_any z0 3 _ hz0.1 hz0.2 (by omega) (by omega) rfl).mono ?_
  rintro e wx ⟨⟨k, hk, -, rfl⟩, rfl⟩
  obtain ⟨p, hp⟩ : ∃ p, [p0, p1, p2][k]? = some p := ⟨_, List.getElem?_eq_getElem (by simpa using hk)⟩
  have hpk : SlotOk p := by
    have := List.mem_of_getElem? hp
    simp only [List.mem_cons, List.not_mem_nil, or_false] at this
    rcases this with rfl | rfl | rfl
    · exact hok.1
    · exact hok.2.1
    · exact hok.2.2
  obtain ⟨-, g1, g2⟩ := three_get hp l lr (.slice At n ct) (.slice Aw n cw)
  have c1 := H.cell 0 rfl g1
  have c2 := H.cell 0 rfl g2
  have c6 := H.cell 0 rfl (o := 6) rfl
  have c7 := H.cell 0 rfl (o := 7) rfl
  have ca1 := H.cell 7 rfl (o := 1) rfl
  have ca6 := H.cell 7 rfl (o := 6) rfl
  replace H := H.takeSlot (f := slotO) (e := (.nil, .nil)) (fun w => ⟨[], [], rfl, rfl, rfl, by simp⟩) 3 k rfl hp
  replace H := H.part_mk 10 rfl
  replace H : St w0 [] w1 (lay [.blk gx 61 [p0.1.v, p1.1.v, p2.1.v, p0.2.v, p1.2.v, p2.2.v, l, lr, .slice At n ct, .slice Aw n cw], led l r, ledR lr r, bigO slotO ([p0, p1, p2].set k (.nil, .nil)), .row 27 1 (.slice At n ct) n (tps.map Tp.v), .row 27 1 (.slice Aw n cw) n (tps.map Tp.u), bigO Tp.own tps, .blk go 65 [.int .i64 z0, .int .i64 z1, .int .i64 z2, .slice A3 n3 c3, .int .i64 z4, .int .u8 (u5.toNat : Int), .bool true], led (.pointer none) none, ledR (.pointer none) none, p.1.ownM, p.2.ownR]) := H
  have HP := Lib.hid hp
  have HPK := Lib.hid hpk
  have HOK := Lib.hid hok
  clear hp hpk hok g1 g2
  have hki : (k : Int) < 3 := by omega
  by_cases hz0 : z1 = 0
  · have hzz : (z1 == 0) = true := by simpa using hz0
    clear hz0
    have y3 := H.cell 7 rfl (o := 3) rfl
    go_wp2_with fail
    refine (lent_st A3 n3 c3 l3 H (H.arg0 hR) (by omega)).mono ?_
    rintro e w2 ⟨fk, tk, htk, rfl, H1⟩
    clear y3
    replace H : St w0 [] w2 (lay [.blk gx 61 [p0.1.v, p1.1.v, p2.1.v, p0.2.v, p1.2.v, p2.2.v, l, lr, .slice At n ct, .slice Aw n cw], led l r, ledR lr r, bigO slotO ([p0, p1, p2].set k (.nil, .nil)), .row 27 1 (.slice At n ct) n (tps.map Tp.v), .row 27 1 (.slice Aw n cw) n (tps.map Tp.u), bigO Tp.own tps, .blk go 65 [.int .i64 z0, .int .i64 z1, .int .i64 z2, .slice A3 n3 c3, .int .i64 z4, .int .u8 (u5.toNat : Int), .bool true], led (.pointer none) none, ledR (.pointer none) none, p.1.ownM, p.2.ownR, .row 5 1 (.slice (some ⟨fk, 0, none⟩) (n3 + 6) tk) (n3 + 6) ((l3 ++ marksB 7 0 6).map vb)]) := H1
    clear H1
    have b1 : (n3 : Int) ≤ tk := by omega
    have b2 : n3 ≤ tk := by omega
    have y3 := H.cell 7 rfl (o := 3) rfl
    go_wp2_with fail
    have hc := spWrite_any (.pointer none) none m b p.1 HPK.out.1 (some ⟨fk, 0, none⟩) n3 tk l3 H 8 10 (by omega) rfl rfl (LW.none m b) (by omega) (by omega) (fun w' X Y h => Rd.frontB (h.rd 12 rfl) HL3.out (by omega)) (by omega)
    obtain ⟨er, Her⟩ : ∃ er, Hid (wrE p.1.abs = er) := ⟨_, rfl⟩
    obtain ⟨r1, Hr1⟩ : ∃ r1, Hid (wrL p.1.abs none n3 = r1) := ⟨_, rfl⟩
    rw [Her.out, Hr1.out] at hc
    refine hc.mono ?_
    clear hc y3
    rintro e wx ⟨a', ha', hav, rfl, H1⟩
    rw [upd_laid (by simp), upd_laid (by simp)] at H1
    clear H
    have H : St w0 [] wx (lay [.blk gx 61 [p0.1.v, p1.1.v, p2.1.v, p0.2.v, p1.2.v, p2.2.v, l, lr, .slice At n ct, .slice Aw n cw], led l r, ledR lr r, bigO slotO ([p0, p1, p2].set k (.nil, .nil)), .row 27 1 (.slice At n ct) n (tps.map Tp.v), .row 27 1 (.slice Aw n cw) n (tps.map Tp.u), bigO Tp.own tps, .blk go 65 [.int .i64 z0, .int .i64 z1, .int .i64 z2, .slice A3 n3 c3, .int .i64 z4, .int .u8 (u5.toNat : Int), .bool true], led (.pointer none) r1, ledR (.pointer none) none, a'.ownM, p.2.ownR, .row 5 1 (.slice (some ⟨fk, 0, none⟩) (n3 + 6) tk) (n3 + 6) ((l3 ++ marksB 7 0 6).map vb)]) := H1
    clear H1
    have y3 := H.cell 7 rfl (o := 3) rfl
    go_wp2_with fail
    have hc := rsWrite_any (.pointer none) none m b p.2 (by rw [HPK.out.2]; exact HPK.out.1) A3 n3 c3 l3 H 9 11 (by omega) rfl rfl (LW.none m b) (by omega) (by omega) (fun w' X Y h => h.arg0 hR) (by omega)
    rw [HPK.out.2, Her.out, Hr1.out] at hc
    refine hc.mono ?_
    clear hc y3
    rintro e wx ⟨b', hb', hbv, rfl, H1⟩
    rw [upd_laid (by simp), upd_laid (by simp)] at H1
    clear H
    have H : St w0 [] wx (lay [.blk gx 61 [p0.1.v, p1.1.v, p2.1.v, p0.2.v, p1.2.v, p2.2.v, l, lr, .slice At n ct, .slice Aw n cw], led l r, ledR lr r, bigO slotO ([p0, p1, p2].set k (.nil, .nil)), .row 27 1 (.slice At n ct) n (tps.map Tp.v), .row 27 1 (.slice Aw n cw) n (tps.map Tp.u), bigO Tp.own tps, .blk go 65 [.int .i64 z0, .int .i64 z1, .int .i64 z2, .slice A3 n3 c3, .int .i64 z4, .int .u8 (u5.toNat : Int), .bool true], led (.pointer none) r1, ledR (.pointer none) r1, a'.ownM, b'.ownR, .row 5 1 (.slice (some ⟨fk, 0, none⟩) (n3 + 6) tk) (n3 + 6) ((l3 ++ marksB 7 0 6).map vb)]) := H1
    clear H1
    have y3 := H.cell 7 rfl (o := 3) rfl
    go_wp2_with fail
    refine (keptBytes_yes (some ⟨fk, 0, none⟩) A3 (n3 + 6) n3 tk c3 (l3 ++ marksB 7 0 6) l3 _ (H.rd 12 rfl) (H.arg0 hR) (by omega) (by omega) rfl).mono ?_
    rintro e w5 ⟨rfl, hb5⟩
    replace H := H.call hb5
    clear hb5 y3
    go_wp2_with fail
    refine (over_st H 12 rfl (by omega)).mono ?_
    rintro e w6 ⟨rfl, H1⟩
    rw [upd_laid (by simp)] at H1
    replace H := H1.front 12
    clear H1
    replace H : St w0 [] w6 (lay [.blk gx 61 [p0.1.v, p1.1.v, p2.1.v, p0.2.v, p1.2.v, p2.2.v, l, lr, .slice At n ct, .slice Aw n cw], led l r, ledR lr r, bigO slotO ([p0, p1, p2].set k (.nil, .nil)), .row 27 1 (.slice At n ct) n (tps.map Tp.v), .row 27 1 (.slice Aw n cw) n (tps.map Tp.u), bigO Tp.own tps, .blk go 65 [.int .i64 z0, .int .i64 z1, .int .i64 z2, .slice A3 n3 c3, .int .i64 z4, .int .u8 (u5.toNat : Int), .bool true], led (.pointer none) r1, ledR (.pointer none) r1, a'.ownM, b'.ownR]) := H
    have heq : (er == er) = true := by simp
    go_wp2
    go_ret
    have hsl : SlotOk (a', b') := ⟨by rw [ha']; exact wrA_ok HPK.out.1 l3, by rw [hb', ha']⟩
    obtain ⟨q0, q1, q2, hq, HQ⟩ := act_end HP.out hav hbv hsl HOK.out H
    exact ⟨q0, q1, q2, r, At, Aw, n, ct, cw, tps, rfl, hq, (hg.more (by omega) (by omega)), hrs, htn, by omega, htl, HQ⟩
  have hzz0 : (z1 == 0) = false := by simpa using hz0
  clear hz0
  by_cases hz1 : z1 = 1
  · have hzz : (z1 == 1) = true := by simpa using hz1
    clear hz1
    go_wp2_with fail
    have hc := spClose_any (.pointer none) none m b p.1 HPK.out.1 H 8 10 (by omega) rfl rfl (LW.none m b) (by omega) (by omega)
    obtain ⟨er, Her⟩ : ∃ er, Hid (wrE p.1.abs = er) := ⟨_, rfl⟩
    obtain ⟨r1, Hr1⟩ : ∃ r1, Hid (csL p.1.abs none = r1) := ⟨_, rfl⟩
    rw [Her.out, Hr1.out] at hc
    refine hc.mono ?_
    clear hc
    rintro e wx ⟨a', ha', hav, rfl, H1⟩
    rw [upd_laid (by simp), upd_laid (by simp)] at H1
    clear H
    have H : St w0 [] wx (lay [.blk gx 61 [p0.1.v, p1.1.v, p2.1.v, p0.2.v, p1.2.v, p2.2.v, l, lr, .slice At n ct, .slice Aw n cw], led l r, ledR lr r, bigO slotO ([p0, p1, p2].set k (.nil, .nil)), .row 27 1 (.slice At n ct) n (tps.map Tp.v), .row 27 1 (.slice Aw n cw) n (tps.map Tp.u), bigO Tp.own tps, .blk go 65 [.int .i64 z0, .int .i64 z1, .int .i64 z2, .slice A3 n3 c3, .int .i64 z4, .int .u8 (u5.toNat : Int), .bool true], led (.pointer none) r1, ledR (.pointer none) none, a'.ownM, p.2.ownR]) := H1
    clear H1
    go_wp2_with fail
    have hc := rsClose_any (.pointer none) none m b p.2 (by rw [HPK.out.2]; exact HPK.out.1) H 9 11 (by omega) rfl rfl (LW.none m b) (by omega) (by omega)
    rw [HPK.out.2, Her.out, Hr1.out] at hc
    refine hc.mono ?_
    clear hc
    rintro e wx ⟨b', hb', hbv, rfl, H1⟩
    rw [upd_laid (by simp), upd_laid (by simp)] at H1
    clear H
    have H : St w0 [] wx (lay [.blk gx 61 [p0.1.v, p1.1.v, p2.1.v, p0.2.v, p1.2.v, p2.2.v, l, lr, .slice At n ct, .slice Aw n cw], led l r, ledR lr r, bigO slotO ([p0, p1, p2].set k (.nil, .nil)), .row 27 1 (.slice At n ct) n (tps.map Tp.v), .row 27 1 (.slice Aw n cw) n (tps.map Tp.u), bigO Tp.own tps, .blk go 65 [.int .i64 z0, .int .i64 z1, .int .i64 z2, .slice A3 n3 c3, .int .i64 z4, .int .u8 (u5.toNat : Int), .bool true], led (.pointer none) r1, ledR (.pointer none) r1, a'.ownM, b'.ownR]) := H1
    clear H1
    have heq : (er == er) = true := by simp
    go_wp2
    go_ret
    have hsl : SlotOk (a', b') := ⟨by rw [ha']; exact csA_ok HPK.out.1, by rw [hb', ha']⟩
    obtain ⟨q0, q1, q2, hq, HQ⟩ := act_end HP.out hav hbv hsl HOK.out H
    exact ⟨q0, q1, q2, r, At, Aw, n, ct, cw, tps, rfl, hq, (hg.more (by omega) (by omega)), hrs, htn, by omega, htl, HQ⟩
  have hzz1 : (z1 == 1) = false := by simpa using hz1
  clear hz1
  by_cases hz2 : z1 = 2
  · have hzz : (z1 == 2) = true := by simpa using hz2
    clear hz2
    have y4 := H.cell 7 rfl (o := 4) rfl
    go_wp2_with fail
    have hc := spReadK_any (.pointer none) none m b p.1 HPK.out.1 z4 H 8 10 12 (by omega) rfl rfl rfl (LW.none m b) (by omega) (by omega)
    obtain ⟨er, Her⟩ : ∃ er, Hid (reE p.1.abs z4 = er) := ⟨_, rfl⟩
    obtain ⟨r1, Hr1⟩ : ∃ r1, Hid (reL p.1.abs none z4 = r1) := ⟨_, rfl⟩
    have hT1 := reB_le p.1.abs z4
    obtain ⟨T1, HT1⟩ : ∃ T, Hid (reB p.1.abs z4 = T) := ⟨_, rfl⟩
    rw [HT1.out] at hT1
    rw [Her.out, Hr1.out, HT1.out] at hc
    obtain ⟨la, Hla⟩ : ∃ la, Hid (T1.length = la) := ⟨_, rfl⟩
    rw [Hla.out] at hc hT1
    refine hc.mono ?_
    clear hc y4
    rintro e wx ⟨a', va, ha', hav, rfl, H1⟩
    rw [upd_laid (by simp), upd_laid (by simp)] at H1
    clear H
    have H := H1.push_mk rfl
    clear H1
    obtain ⟨Aa, ca, rfl, -, -⟩ := row_form (H.row 12 rfl)
    replace H : St w0 [] wx (lay [.blk gx 61 [p0.1.v, p1.1.v, p2.1.v, p0.2.v, p1.2.v, p2.2.v, l, lr, .slice At n ct, .slice Aw n cw], led l r, ledR lr r, bigO slotO ([p0, p1, p2].set k (.nil, .nil)), .row 27 1 (.slice At n ct) n (tps.map Tp.v), .row 27 1 (.slice Aw n cw) n (tps.map Tp.u), bigO Tp.own tps, .blk go 65 [.int .i64 z0, .int .i64 z1, .int .i64 z2, .slice A3 n3 c3, .int .i64 z4, .int .u8 (u5.toNat : Int), .bool true], led (.pointer none) r1, ledR (.pointer none) none, a'.ownM, p.2.ownR, .row 5 1 (.slice Aa la ca) la (T1.map vb)]) := H
    have y4 := H.cell 7 rfl (o := 4) rfl
    go_wp2_with fail
    have hc := rsReadK_any (.pointer none) none m b p.2 (by rw [HPK.out.2]; exact HPK.out.1) z4 H 9 11 13 (by omega) rfl rfl rfl (LW.none m b) (by omega) (by omega)
    rw [HPK.out.2, Her.out, Hr1.out, HT1.out, Hla.out] at hc
    refine hc.mono ?_
    clear hc y4
    rintro e wx ⟨b', vd, hb', hbv, rfl, H1⟩
    rw [upd_laid (by simp), upd_laid (by simp)] at H1
    clear H
    have H := H1.push_mk rfl
    clear H1
    obtain ⟨Ab, cb, rfl, -, -⟩ := row_form (H.row 13 rfl)
    replace H : St w0 [] wx (lay [.blk gx 61 [p0.1.v, p1.1.v, p2.1.v, p0.2.v, p1.2.v, p2.2.v, l, lr, .slice At n ct, .slice Aw n cw], led l r, ledR lr r, bigO slotO ([p0, p1, p2].set k (.nil, .nil)), .row 27 1 (.slice At n ct) n (tps.map Tp.v), .row 27 1 (.slice Aw n cw) n (tps.map Tp.u), bigO Tp.own tps, .blk go 65 [.int .i64 z0, .int .i64 z1, .int .i64 z2, .slice A3 n3 c3, .int .i64 z4, .int .u8 (u5.toNat : Int), .bool true], led (.pointer none) r1, ledR (.pointer none) r1, a'.ownM, b'.ownR, .row 5 1 (.slice Aa la ca) la (T1.map vb), .row 5 1 (.slice Ab la cb) la (T1.map vb)]) := H
    have heq : (er == er) = true := by simp
    go_wp2_with fail
    refine (spKeep_s gx _ _ _ _ _ _ _ _ _ _ _ _ _ _ _ _ _ At Aw Aa Ab n ct cw la ca cb _ _ T1 (by omega) (by omega) H).mono ?_
    rintro e w8 ⟨A6, d6, A9, d9, rfl, H1⟩
    clear H
    replace H1 : St w0 [] w8 (lay [.blk gx 61 [p0.1.v, p1.1.v, p2.1.v, p0.2.v, p1.2.v, p2.2.v, l, lr, .slice A6 (n + 1) d6, .slice A9 (n + 1) d9], led l r, ledR lr r, bigO slotO ([p0, p1, p2].set k (.nil, .nil)), .row 27 1 (.slice A6 (n + 1) d6) (n + 1) (tps.map Tp.v ++ [.slice Aa la ca]), .row 27 1 (.slice A9 (n + 1) d9) (n + 1) (tps.map Tp.u ++ [.slice Ab la cb]), bigO Tp.own tps, .blk go 65 [.int .i64 z0, .int .i64 z1, .int .i64 z2, .slice A3 n3 c3, .int .i64 z4, .int .u8 (u5.toNat : Int), .bool true], led (.pointer none) r1, ledR (.pointer none) r1, a'.ownM, b'.ownR, .row 5 1 (.slice Aa la ca) la (T1.map vb), .row 5 1 (.slice Ab la cb) la (T1.map vb)]) := H1
    replace H1 := (H1.shape_row 12 rfl Hla.out.symm rfl).shape_row 13 rfl Hla.out.symm rfl
    have H2 := St.join_mk (L := [.blk gx 61 [p0.1.v, p1.1.v, p2.1.v, p0.2.v, p1.2.v, p2.2.v, l, lr, .slice A6 (n + 1) d6, .slice A9 (n + 1) d9], led l r, ledR lr r, bigO slotO ([p0, p1, p2].set k (.nil, .nil)), .row 27 1 (.slice A6 (n + 1) d6) (n + 1) (tps.map Tp.v ++ [.slice Aa la ca]), .row 27 1 (.slice A9 (n + 1) d9) (n + 1) (tps.map Tp.u ++ [.slice Ab la cb]), bigO Tp.own tps, .blk go 65 [.int .i64 z0, .int .i64 z1, .int .i64 z2, .slice A3 n3 c3, .int .i64 z4, .int .u8 (u5.toNat : Int), .bool true], led (.pointer none) r1, ledR (.pointer none) r1, a'.ownM, b'.ownR, .row 5 1 (.slice Aa la ca) T1.length (T1.map vb)]) H1 12 rfl
    have H3 := St.tellSlot (x := ⟨.slice Aa la ca, .slice Ab la cb, T1⟩) (L0 := [.blk gx 61 [p0.1.v, p1.1.v, p2.1.v, p0.2.v, p1.2.v, p2.2.v, l, lr, .slice A6 (n + 1) d6, .slice A9 (n + 1) d9], led l r, ledR lr r, bigO slotO ([p0, p1, p2].set k (.nil, .nil)), .row 27 1 (.slice A6 (n + 1) d6) (n + 1) (tps.map Tp.v ++ [.slice Aa la ca]), .row 27 1 (.slice A9 (n + 1) d9) (n + 1) (tps.map Tp.u ++ [.slice Ab la cb]), bigO Tp.own tps, .blk go 65 [.int .i64 z0, .int .i64 z1, .int .i64 z2, .slice A3 n3 c3, .int .i64 z4, .int .u8 (u5.toNat : Int), .bool true], led (.pointer none) r1, ledR (.pointer none) r1, a'.ownM, b'.ownR]) H2 6 rfl
    clear H1 H2
    obtain ⟨TPS, HTPS⟩ : ∃ T, Hid (tps ++ [(⟨.slice Aa la ca, .slice Ab la cb, T1⟩ : Tp)] = T) := ⟨_, rfl⟩
    have hv1 : tps.map Tp.v ++ [.slice Aa la ca] = TPS.map Tp.v := by rw [← HTPS.out, List.map_append]; rfl
    have hv2 : tps.map Tp.u ++ [.slice Ab la cb] = TPS.map Tp.u := by rw [← HTPS.out, List.map_append]; rfl
    rw [hv1, hv2, HTPS.out] at H3
    have H : St w0 [] w8 (lay [.blk gx 61 [p0.1.v, p1.1.v, p2.1.v, p0.2.v, p1.2.v, p2.2.v, l, lr, .slice A6 (n + 1) d6, .slice A9 (n + 1) d9], led l r, ledR lr r, bigO slotO ([p0, p1, p2].set k (.nil, .nil)), .row 27 1 (.slice A6 (n + 1) d6) (n + 1) (TPS.map Tp.v), .row 27 1 (.slice A9 (n + 1) d9) (n + 1) (TPS.map Tp.u), bigO Tp.own TPS, .blk go 65 [.int .i64 z0, .int .i64 z1, .int .i64 z2, .slice A3 n3 c3, .int .i64 z4, .int .u8 (u5.toNat : Int), .bool true], led (.pointer none) r1, ledR (.pointer none) r1, a'.ownM, b'.ownR]) := H3
    clear H3 hv1 hv2
    have htn' : TPS.length = n + 1 := by rw [← HTPS.out, List.length_append, htn]; rfl
    have htl' : ∀ q ∈ TPS, q.l.length ≤ 65536 := by rw [← HTPS.out]; intro q hq; rcases List.mem_append.1 hq with h | h; exact htl q h; rw [List.mem_singleton.1 h]; show T1.length ≤ 65536; rw [Hla.out]; omega
    go_wp2
    go_ret
    have hsl : SlotOk (a', b') := ⟨by rw [ha']; exact reA_ok HPK.out.1 z4, by rw [hb', ha']⟩
    obtain ⟨q0, q1, q2, hq, HQ⟩ := act_end HP.out hav hbv hsl HOK.out H
    exact ⟨q0, q1, q2, r, A6, A9, n + 1, d6, d9, TPS, rfl, hq, (hg.more (by omega) (by omega)), hrs, htn', by omega, htl', HQ⟩
  have hzz2 : (z1 == 2) = false := by simpa using hz2
  clear hz2
  by_cases hz3 : z1 = 3
  · have hzz : (z1 == 3) = true := by simpa using hz3
    clear hz3
    go_wp2_with fail
    have hc := spClone_any p.1 HPK.out.1 H 10 12 rfl rfl
    obtain ⟨er, Her⟩ : ∃ er, Hid (erA p.1.abs = er) := ⟨_, rfl⟩
    rw [Her.out] at hc
    refine hc.mono ?_
    clear hc
    rintro e w2 ⟨a', ha', rfl, H1⟩
    clear H
    have H : St w0 [] w2 (lay [.blk gx 61 [p0.1.v, p1.1.v, p2.1.v, p0.2.v, p1.2.v, p2.2.v, l, lr, .slice At n ct, .slice Aw n cw], led l r, ledR lr r, bigO slotO ([p0, p1, p2].set k (.nil, .nil)), .row 27 1 (.slice At n ct) n (tps.map Tp.v), .row 27 1 (.slice Aw n cw) n (tps.map Tp.u), bigO Tp.own tps, .blk go 65 [.int .i64 z0, .int .i64 z1, .int .i64 z2, .slice A3 n3 c3, .int .i64 z4, .int .u8 (u5.toNat : Int), .bool true], led (.pointer none) none, ledR (.pointer none) none, p.1.ownM, p.2.ownR, a'.ownM]) := H1.push_mk rfl
    clear H1
    go_wp2_with fail
    have hc := rsClone_any p.2 (by rw [HPK.out.2]; exact HPK.out.1) H 11 13 rfl rfl
    rw [HPK.out.2, Her.out] at hc
    refine hc.mono ?_
    clear hc
    rintro e w2 ⟨b', hb', rfl, H1⟩
    clear H
    have H : St w0 [] w2 (lay [.blk gx 61 [p0.1.v, p1.1.v, p2.1.v, p0.2.v, p1.2.v, p2.2.v, l, lr, .slice At n ct, .slice Aw n cw], led l r, ledR lr r, bigO slotO ([p0, p1, p2].set k (.nil, .nil)), .row 27 1 (.slice At n ct) n (tps.map Tp.v), .row 27 1 (.slice Aw n cw) n (tps.map Tp.u), bigO Tp.own tps, .blk go 65 [.int .i64 z0, .int .i64 z1, .int .i64 z2, .slice A3 n3 c3, .int .i64 z4, .int .u8 (u5.toNat : Int), .bool true], led (.pointer none) none, ledR (.pointer none) none, p.1.ownM, p.2.ownR, a'.ownM, b'.ownR]) := H1.push_mk rfl
    clear H1
    have heq : (er == er) = true := by simp
    have hsl : SlotOk (a', b') := ⟨by rw [ha']; exact clA_ok HPK.out.1, by rw [hb', ha']⟩
    have HSL := Lib.hid hsl
    clear hsl
    obtain ⟨jq, hjq, hjz⟩ : ∃ j : Nat, j < 3 ∧ (j : Int) = z2 % (3 : Int) := ⟨(z2 % 3).toNat, by omega, by omega⟩
    have hji : (jq : Int) < 3 := by omega
    have HJZ := Lib.hid hjz
    clear hjz
    rcases KA.kind ha' hb' with ⟨rfl, rfl⟩ | ⟨g, g', x, rfl, rfl⟩
    · rw [show KA.v .nil = Value.pointer none from rfl]
      have z2c := H.cell 7 rfl (o := 2) rfl
      have hfr := H.free 0 rfl jq
      obtain ⟨u1, hu1⟩ : ∃ u, ([p0.1.v, p1.1.v, p2.1.v, p0.2.v, p1.2.v, p2.2.v, l, lr, .slice At n ct, .slice Aw n cw] : List Value)[jq]? = some u := ⟨_, List.getElem?_eq_getElem (by simp only [List.length_cons, List.length_nil]; omega)⟩
      have hce := H.cell 0 rfl hu1
      clear hu1
      have hst := (H.store 0 rfl (o := jq) (u := .pointer none)).upd_mk (by simp)
      go_upto_region 26 with (fail)
      go_still_tail 8, (by kernel_rfl)
      still_call ((pick_any z2 3 _ hz2.1 hz2.2 (by omega) (by omega) rfl).mono fun _ _ h => (by obtain ⟨⟨jn, h1, h2, h3⟩, h4⟩ := h; exact ⟨by rw [h3, show jn = jq by have := HJZ.out; omega], h4.symm⟩))
      repeat still_step
      refine wpStill_nil ?_
      clear z2c
      go_upto_region 27 with (fail)
      first | refine absorb_wp hst ?_ | refine absorb_wp hst.drew ?_
      clear H hst hfr hce
      intro w4 H
      replace H : St w0 [] w4 (lay [.blk gx 61 ([p0.1.v, p1.1.v, p2.1.v, p0.2.v, p1.2.v, p2.2.v, l, lr, .slice At n ct, .slice Aw n cw].set jq (.pointer none)), led l r, ledR lr r, bigO slotO ([p0, p1, p2].set k (.nil, .nil)), .row 27 1 (.slice At n ct) n (tps.map Tp.v), .row 27 1 (.slice Aw n cw) n (tps.map Tp.u), bigO Tp.own tps, .blk go 65 [.int .i64 z0, .int .i64 z1, .int .i64 z2, .slice A3 n3 c3, .int .i64 z4, .int .u8 (u5.toNat : Int), .bool true], led (.pointer none) none, ledR (.pointer none) none, p.1.ownM, p.2.ownR, (KA.nil).ownM, (KA.nil).ownR]) := H
      have z2c := H.cell 7 rfl (o := 2) rfl
      have hfr := H.free 0 rfl (3 + jq)
      obtain ⟨u2, hu2⟩ : ∃ u, (([p0.1.v, p1.1.v, p2.1.v, p0.2.v, p1.2.v, p2.2.v, l, lr, .slice At n ct, .slice Aw n cw] : List Value).set jq (.pointer none))[3 + jq]? = some u := ⟨_, List.getElem?_eq_getElem (by simp only [List.length_set, List.length_cons, List.length_nil]; omega)⟩
      have hce := H.cell 0 rfl hu2
      clear hu2
      have hst := (H.store 0 rfl (o := 3 + jq) (u := .pointer none)).upd_mk (by simp)
      go_still_tail 8, (by kernel_rfl)
      still_call ((pick_any z2 3 _ hz2.1 hz2.2 (by omega) (by omega) rfl).mono fun _ _ h => (by obtain ⟨⟨jn, h1, h2, h3⟩, h4⟩ := h; exact ⟨by rw [h3, show jn = jq by have := HJZ.out; omega], h4.symm⟩))
      repeat still_step
      refine wpStill_nil ?_
      clear z2c
      go_wp2
      go_ret
      first | replace H := hst | replace H := hst.drew
      clear hst hfr hce
      replace H : St w0 [] _ (lay [.blk gx 61 (([p0.1.v, p1.1.v, p2.1.v, p0.2.v, p1.2.v, p2.2.v, l, lr, .slice At n ct, .slice Aw n cw].set jq (.pointer none)).set (3 + jq) (.pointer none)), led l r, ledR lr r, bigO slotO ([p0, p1, p2].set k (.nil, .nil)), .row 27 1 (.slice At n ct) n (tps.map Tp.v), .row 27 1 (.slice Aw n cw) n (tps.map Tp.u), bigO Tp.own tps, .blk go 65 [.int .i64 z0, .int .i64 z1, .int .i64 z2, .slice A3 n3 c3, .int .i64 z4, .int .u8 (u5.toNat : Int), .bool true], led (.pointer none) none, ledR (.pointer none) none, p.1.ownM, p.2.ownR, (KA.nil).ownM, (KA.nil).ownR]) := H
      obtain ⟨q0, q1, q2, hq, HQ⟩ := act_end2 (a := (KA.nil)) (b := (KA.nil)) HP.out hjq HSL.out HOK.out H
      first | exact ⟨q0, q1, q2, r, At, Aw, n, ct, cw, tps, rfl, hq, (hg.more (by omega) (by omega)), hrs, htn, by omega, htl, HQ⟩ | exact ⟨q0, q1, q2, r, At, Aw, n, ct, cw, tps, rfl, hq, (hg.more (by omega) (by omega)), hrs, htn, by omega, htl, HQ.drew⟩
    · rw [show KA.v (.live g x) = Value.pointer (some ⟨g, 0, none⟩) from rfl, show KA.v (.live g' x) = Value.pointer (some ⟨g', 0, none⟩) from rfl]
      have z2c := H.cell 7 rfl (o := 2) rfl
      have hfr := H.free 0 rfl jq
      obtain ⟨u1, hu1⟩ : ∃ u, ([p0.1.v, p1.1.v, p2.1.v, p0.2.v, p1.2.v, p2.2.v, l, lr, .slice At n ct, .slice Aw n cw] : List Value)[jq]? = some u := ⟨_, List.getElem?_eq_getElem (by simp only [List.length_cons, List.length_nil]; omega)⟩
      have hce := H.cell 0 rfl hu1
      clear hu1
      have hst := (H.store 0 rfl (o := jq) (u := .pointer (some ⟨g, 0, none⟩))).upd_mk (by simp)
      go_upto_region 26 with (fail)
      go_still_tail 8, (by kernel_rfl)
      still_call ((pick_any z2 3 _ hz2.1 hz2.2 (by omega) (by omega) rfl).mono fun _ _ h => (by obtain ⟨⟨jn, h1, h2, h3⟩, h4⟩ := h; exact ⟨by rw [h3, show jn = jq by have := HJZ.out; omega], h4.symm⟩))
      repeat still_step
      refine wpStill_nil ?_
      clear z2c
      go_upto_region 27 with (fail)
      first | refine absorb_wp hst ?_ | refine absorb_wp hst.drew ?_
      clear H hst hfr hce
      intro w4 H
      replace H : St w0 [] w4 (lay [.blk gx 61 ([p0.1.v, p1.1.v, p2.1.v, p0.2.v, p1.2.v, p2.2.v, l, lr, .slice At n ct, .slice Aw n cw].set jq (.pointer (some ⟨g, 0, none⟩))), led l r, ledR lr r, bigO slotO ([p0, p1, p2].set k (.nil, .nil)), .row 27 1 (.slice At n ct) n (tps.map Tp.v), .row 27 1 (.slice Aw n cw) n (tps.map Tp.u), bigO Tp.own tps, .blk go 65 [.int .i64 z0, .int .i64 z1, .int .i64 z2, .slice A3 n3 c3, .int .i64 z4, .int .u8 (u5.toNat : Int), .bool true], led (.pointer none) none, ledR (.pointer none) none, p.1.ownM, p.2.ownR, (KA.live g x).ownM, (KA.live g' x).ownR]) := H
      have z2c := H.cell 7 rfl (o := 2) rfl
      have hfr := H.free 0 rfl (3 + jq)
      obtain ⟨u2, hu2⟩ : ∃ u, (([p0.1.v, p1.1.v, p2.1.v, p0.2.v, p1.2.v, p2.2.v, l, lr, .slice At n ct, .slice Aw n cw] : List Value).set jq (.pointer (some ⟨g, 0, none⟩)))[3 + jq]? = some u := ⟨_, List.getElem?_eq_getElem (by simp only [List.length_set, List.length_cons, List.length_nil]; omega)⟩
      have hce := H.cell 0 rfl hu2
      clear hu2
      have hst := (H.store 0 rfl (o := 3 + jq) (u := .pointer (some ⟨g', 0, none⟩))).upd_mk (by simp)
      go_still_tail 8, (by kernel_rfl)
      still_call ((pick_any z2 3 _ hz2.1 hz2.2 (by omega) (by omega) rfl).mono fun _ _ h => (by obtain ⟨⟨jn, h1, h2, h3⟩, h4⟩ := h; exact ⟨by rw [h3, show jn = jq by have := HJZ.out; omega], h4.symm⟩))
      repeat still_step
      refine wpStill_nil ?_
      clear z2c
      go_wp2
      go_ret
      first | replace H := hst | replace H := hst.drew
      clear hst hfr hce
      replace H : St w0 [] _ (lay [.blk gx 61 (([p0.1.v, p1.1.v, p2.1.v, p0.2.v, p1.2.v, p2.2.v, l, lr, .slice At n ct, .slice Aw n cw].set jq (.pointer (some ⟨g, 0, none⟩))).set (3 + jq) (.pointer (some ⟨g', 0, none⟩))), led l r, ledR lr r, bigO slotO ([p0, p1, p2].set k (.nil, .nil)), .row 27 1 (.slice At n ct) n (tps.map Tp.v), .row 27 1 (.slice Aw n cw) n (tps.map Tp.u), bigO Tp.own tps, .blk go 65 [.int .i64 z0, .int .i64 z1, .int .i64 z2, .slice A3 n3 c3, .int .i64 z4, .int .u8 (u5.toNat : Int), .bool true], led (.pointer none) none, ledR (.pointer none) none, p.1.ownM, p.2.ownR, (KA.live g x).ownM, (KA.live g' x).ownR]) := H
      obtain ⟨q0, q1, q2, hq, HQ⟩ := act_end2 (a := (KA.live g x)) (b := (KA.live g' x)) HP.out hjq HSL.out HOK.out H
      first | exact ⟨q0, q1, q2, r, At, Aw, n, ct, cw, tps, rfl, hq, (hg.more (by omega) (by omega)), hrs, htn, by omega, htl, HQ⟩ | exact ⟨q0, q1, q2, r, At, Aw, n, ct, cw, tps, rfl, hq, (hg.more (by omega) (by omega)), hrs, htn, by omega, htl, HQ.drew⟩
  have hzz3 : (z1 == 3) = false := by simpa using hz3
  clear hz3
  by_cases hz4 : z1 = 4
  · have hzz : (z1 == 4) = true := by simpa using hz4
    clear hz4
    go_wp2_with fail
    have hc := spWipe_any (.pointer none) none m b p.1 HPK.out.1 H 8 10 (by omega) rfl rfl (LW.none m b) (by omega) (by omega)
    obtain ⟨er, Her⟩ : ∃ er, Hid (erA p.1.abs = er) := ⟨_, rfl⟩
    obtain ⟨r1, Hr1⟩ : ∃ r1, Hid (wiL p.1.abs none = r1) := ⟨_, rfl⟩
    rw [Her.out, Hr1.out] at hc
    refine hc.mono ?_
    clear hc
    rintro e wx ⟨a', ha', hav, rfl, H1⟩
    rw [upd_laid (by simp), upd_laid (by simp)] at H1
    clear H
    have H : St w0 [] wx (lay [.blk gx 61 [p0.1.v, p1.1.v, p2.1.v, p0.2.v, p1.2.v, p2.2.v, l, lr, .slice At n ct, .slice Aw n cw], led l r, ledR lr r, bigO slotO ([p0, p1, p2].set k (.nil, .nil)), .row 27 1 (.slice At n ct) n (tps.map Tp.v), .row 27 1 (.slice Aw n cw) n (tps.map Tp.u), bigO Tp.own tps, .blk go 65 [.int .i64 z0, .int .i64 z1, .int .i64 z2, .slice A3 n3 c3, .int .i64 z4, .int .u8 (u5.toNat : Int), .bool true], led (.pointer none) r1, ledR (.pointer none) none, a'.ownM, p.2.ownR]) := H1
    clear H1
    go_wp2_with fail
    have hc := rsWipe_any (.pointer none) none m b p.2 (by rw [HPK.out.2]; exact HPK.out.1) H 9 11 (by omega) rfl rfl (LW.none m b) (by omega) (by omega)
    rw [HPK.out.2, Her.out, Hr1.out] at hc
    refine hc.mono ?_
    clear hc
    rintro e wx ⟨b', hb', hbv, rfl, H1⟩
    rw [upd_laid (by simp), upd_laid (by simp)] at H1
    clear H
    have H : St w0 [] wx (lay [.blk gx 61 [p0.1.v, p1.1.v, p2.1.v, p0.2.v, p1.2.v, p2.2.v, l, lr, .slice At n ct, .slice Aw n cw], led l r, ledR lr r, bigO slotO ([p0, p1, p2].set k (.nil, .nil)), .row 27 1 (.slice At n ct) n (tps.map Tp.v), .row 27 1 (.slice Aw n cw) n (tps.map Tp.u), bigO Tp.own tps, .blk go 65 [.int .i64 z0, .int .i64 z1, .int .i64 z2, .slice A3 n3 c3, .int .i64 z4, .int .u8 (u5.toNat : Int), .bool true], led (.pointer none) r1, ledR (.pointer none) r1, a'.ownM, b'.ownR]) := H1
    clear H1
    have heq : (er == er) = true := by simp
    go_wp2
    go_ret
    have hsl : SlotOk (a', b') := ⟨by rw [ha']; exact wiA_ok HPK.out.1, by rw [hb', ha']⟩
    obtain ⟨q0, q1, q2, hq, HQ⟩ := act_end HP.out hav hbv hsl HOK.out H
    exact ⟨q0, q1, q2, r, At, Aw, n, ct, cw, tps, rfl, hq, (hg.more (by omega) (by omega)), hrs, htn, by omega, htl, HQ⟩
  have hzz4 : (z1 == 4) = false := by simpa using hz4
  clear hz4
  by_cases hz5 : z1 = 5
  · have hzz : (z1 == 5) = true := by simpa using hz5
    clear hz5
    go_wp2_with fail
    have hc := spForm_any p.1 HPK.out.1 H 10 12 rfl rfl
    have hT1 := foB_le HPK.out.1
    obtain ⟨T1, HT1⟩ : ∃ T, Hid (foB p.1.abs = T) := ⟨_, rfl⟩
    rw [HT1.out] at hc hT1
    obtain ⟨la, Hla⟩ : ∃ la, Hid (T1.length = la) := ⟨_, rfl⟩
    rw [Hla.out] at hc hT1
    refine hc.mono ?_
    clear hc
    rintro e wx ⟨va, rfl, H1⟩
    clear H
    have H := H1.push_mk rfl
    clear H1
    obtain ⟨Aa, ca, rfl, -, -⟩ := row_form (H.row 12 rfl)
    replace H : St w0 [] wx (lay [.blk gx 61 [p0.1.v, p1.1.v, p2.1.v, p0.2.v, p1.2.v, p2.2.v, l, lr, .slice At n ct, .slice Aw n cw], led l r, ledR lr r, bigO slotO ([p0, p1, p2].set k (.nil, .nil)), .row 27 1 (.slice At n ct) n (tps.map Tp.v), .row 27 1 (.slice Aw n cw) n (tps.map Tp.u), bigO Tp.own tps, .blk go 65 [.int .i64 z0, .int .i64 z1, .int .i64 z2, .slice A3 n3 c3, .int .i64 z4, .int .u8 (u5.toNat : Int), .bool true], led (.pointer none) none, ledR (.pointer none) none, p.1.ownM, p.2.ownR, .row 5 1 (.slice Aa la ca) la (T1.map vb)]) := H
    go_wp2_with fail
    have hc := rsForm_any p.2 (by rw [HPK.out.2]; exact HPK.out.1) H 11 13 rfl rfl
    rw [HPK.out.2, HT1.out, Hla.out] at hc
    refine hc.mono ?_
    clear hc
    rintro e wx ⟨vd, rfl, H1⟩
    clear H
    have H := H1.push_mk rfl
    clear H1
    obtain ⟨Ab, cb, rfl, -, -⟩ := row_form (H.row 13 rfl)
    replace H : St w0 [] wx (lay [.blk gx 61 [p0.1.v, p1.1.v, p2.1.v, p0.2.v, p1.2.v, p2.2.v, l, lr, .slice At n ct, .slice Aw n cw], led l r, ledR lr r, bigO slotO ([p0, p1, p2].set k (.nil, .nil)), .row 27 1 (.slice At n ct) n (tps.map Tp.v), .row 27 1 (.slice Aw n cw) n (tps.map Tp.u), bigO Tp.own tps, .blk go 65 [.int .i64 z0, .int .i64 z1, .int .i64 z2, .slice A3 n3 c3, .int .i64 z4, .int .u8 (u5.toNat : Int), .bool true], led (.pointer none) none, ledR (.pointer none) none, p.1.ownM, p.2.ownR, .row 5 1 (.slice Aa la ca) la (T1.map vb), .row 5 1 (.slice Ab la cb) la (T1.map vb)]) := H
    go_wp2_with fail
    refine (spKeep_s gx _ _ _ _ _ _ _ _ _ _ _ _ _ _ _ _ _ At Aw Aa Ab n ct cw la ca cb _ _ T1 (by omega) (by omega) H).mono ?_
    rintro e w8 ⟨A6, d6, A9, d9, rfl, H1⟩
    clear H
    replace H1 : St w0 [] w8 (lay [.blk gx 61 [p0.1.v, p1.1.v, p2.1.v, p0.2.v, p1.2.v, p2.2.v, l, lr, .slice A6 (n + 1) d6, .slice A9 (n + 1) d9], led l r, ledR lr r, bigO slotO ([p0, p1, p2].set k (.nil, .nil)), .row 27 1 (.slice A6 (n + 1) d6) (n + 1) (tps.map Tp.v ++ [.slice Aa la ca]), .row 27 1 (.slice A9 (n + 1) d9) (n + 1) (tps.map Tp.u ++ [.slice Ab la cb]), bigO Tp.own tps, .blk go 65 [.int .i64 z0, .int .i64 z1, .int .i64 z2, .slice A3 n3 c3, .int .i64 z4, .int .u8 (u5.toNat : Int), .bool true], led (.pointer none) none, ledR (.pointer none) none, p.1.ownM, p.2.ownR, .row 5 1 (.slice Aa la ca) la (T1.map vb), .row 5 1 (.slice Ab la cb) la (T1.map vb)]) := H1
    replace H1 := (H1.shape_row 12 rfl Hla.out.symm rfl).shape_row 13 rfl Hla.out.symm rfl
    have H2 := St.join_mk (L := [.blk gx 61 [p0.1.v, p1.1.v, p2.1.v, p0.2.v, p1.2.v, p2.2.v, l, lr, .slice A6 (n + 1) d6, .slice A9 (n + 1) d9], led l r, ledR lr r, bigO slotO ([p0, p1, p2].set k (.nil, .nil)), .row 27 1 (.slice A6 (n + 1) d6) (n + 1) (tps.map Tp.v ++ [.slice Aa la ca]), .row 27 1 (.slice A9 (n + 1) d9) (n + 1) (tps.map Tp.u ++ [.slice Ab la cb]), bigO Tp.own tps, .blk go 65 [.int .i64 z0, .int .i64 z1, .int .i64 z2, .slice A3 n3 c3, .int .i64 z4, .int .u8 (u5.toNat : Int), .bool true], led (.pointer none) none, ledR (.pointer none) none, p.1.ownM, p.2.ownR, .row 5 1 (.slice Aa la ca) T1.length (T1.map vb)]) H1 12 rfl
    have H3 := St.tellSlot (x := ⟨.slice Aa la ca, .slice Ab la cb, T1⟩) (L0 := [.blk gx 61 [p0.1.v, p1.1.v, p2.1.v, p0.2.v, p1.2.v, p2.2.v, l, lr, .slice A6 (n + 1) d6, .slice A9 (n + 1) d9], led l r, ledR lr r, bigO slotO ([p0, p1, p2].set k (.nil, .nil)), .row 27 1 (.slice A6 (n + 1) d6) (n + 1) (tps.map Tp.v ++ [.slice Aa la ca]), .row 27 1 (.slice A9 (n + 1) d9) (n + 1) (tps.map Tp.u ++ [.slice Ab la cb]), bigO Tp.own tps, .blk go 65 [.int .i64 z0, .int .i64 z1, .int .i64 z2, .slice A3 n3 c3, .int .i64 z4, .int .u8 (u5.toNat : Int), .bool true], led (.pointer none) none, ledR (.pointer none) none, p.1.ownM, p.2.ownR]) H2 6 rfl
    clear H1 H2
    obtain ⟨TPS, HTPS⟩ : ∃ T, Hid (tps ++ [(⟨.slice Aa la ca, .slice Ab la cb, T1⟩ : Tp)] = T) := ⟨_, rfl⟩
    have hv1 : tps.map Tp.v ++ [.slice Aa la ca] = TPS.map Tp.v := by rw [← HTPS.out, List.map_append]; rfl
    have hv2 : tps.map Tp.u ++ [.slice Ab la cb] = TPS.map Tp.u := by rw [← HTPS.out, List.map_append]; rfl
    rw [hv1, hv2, HTPS.out] at H3
    have H : St w0 [] w8 (lay [.blk gx 61 [p0.1.v, p1.1.v, p2.1.v, p0.2.v, p1.2.v, p2.2.v, l, lr, .slice A6 (n + 1) d6, .slice A9 (n + 1) d9], led l r, ledR lr r, bigO slotO ([p0, p1, p2].set k (.nil, .nil)), .row 27 1 (.slice A6 (n + 1) d6) (n + 1) (TPS.map Tp.v), .row 27 1 (.slice A9 (n + 1) d9) (n + 1) (TPS.map Tp.u), bigO Tp.own TPS, .blk go 65 [.int .i64 z0, .int .i64 z1, .int .i64 z2, .slice A3 n3 c3, .int .i64 z4, .int .u8 (u5.toNat : Int), .bool true], led (.pointer none) none, ledR (.pointer none) none, p.1.ownM, p.2.ownR]) := H3
    clear H3 hv1 hv2
    have htn' : TPS.length = n + 1 := by rw [← HTPS.out, List.length_append, htn]; rfl
    have htl' : ∀ q ∈ TPS, q.l.length ≤ 65536 := by rw [← HTPS.out]; intro q hq; rcases List.mem_append.1 hq with h | h; exact htl q h; rw [List.mem_singleton.1 h]; show T1.length ≤ 65536; rw [Hla.out]; omega
    go_wp2
    go_ret
    obtain ⟨q0, q1, q2, hq, HQ⟩ := act_end HP.out rfl rfl HPK.out HOK.out H
    exact ⟨q0, q1, q2, r, A6, A9, n + 1, d6, d9, TPS, rfl, hq, (hg.more (by omega) (by omega)), hrs, htn', by omega, htl', HQ⟩
  have hzz5 : (z1 == 5) = false := by simpa using hz5
  clear hz5
  by_cases hz6 : z1 = 6
  · have hzz : (z1 == 6) = true := by simpa using hz6
    clear hz6
    have y4 := H.cell 7 rfl (o := 4) rfl
    have y5 := H.cell 7 rfl (o := 5) rfl
    go_wp2_with fail
    refine (spMade_s gx _ _ _ _ _ _ _ _ _ _ (k : Int) k rfl hk z4 u5 H rfl 12 13 rfl rfl (by omega)).mono ?_
    rintro e wx ⟨a', b', ha', hb', rfl, H1⟩
    rw [upd_push (by simp), upd_push (by simp), upd_laid (by simp)] at H1
    clear H y4 y5
    have H : St w0 [] wx (lay [.blk gx 61 (([p0.1.v, p1.1.v, p2.1.v, p0.2.v, p1.2.v, p2.2.v, l, lr, .slice At n ct, .slice Aw n cw].set k a'.v).set (3 + k) b'.v), led l r, ledR lr r, bigO slotO ([p0, p1, p2].set k (.nil, .nil)), .row 27 1 (.slice At n ct) n (tps.map Tp.v), .row 27 1 (.slice Aw n cw) n (tps.map Tp.u), bigO Tp.own tps, .blk go 65 [.int .i64 z0, .int .i64 z1, .int .i64 z2, .slice A3 n3 c3, .int .i64 z4, .int .u8 (u5.toNat : Int), .bool true], led (.pointer none) none, ledR (.pointer none) none, p.1.ownM, p.2.ownR, a'.ownM, b'.ownR]) := H1
    clear H1
    go_wp2
    go_ret
    have hsl : SlotOk (a', b') := ⟨by rw [ha', clA_ne]; exact neA_ok z4 u5, by rw [hb', ha']⟩
    obtain ⟨q0, q1, q2, hq, HQ⟩ := act_end3 hk hsl HOK.out H
    exact ⟨q0, q1, q2, r, At, Aw, n, ct, cw, tps, rfl, hq, (hg.more (by omega) (by omega)), hrs, htn, by omega, htl, HQ⟩
  have hzz6 : (z1 == 6) = false := by simpa using hz6
  clear hz6
  go_wp2_with fail
  refine (spRate_any p.1 HPK.out.1 H 10 rfl).mono ?_
  rintro e wx ⟨rfl, rfl⟩
  go_wp2_with fail
  have hc := rsRate_any p.2 (by rw [HPK.out.2]; exact HPK.out.1) H 11 rfl
  rw [HPK.out.2] at hc
  refine hc.mono ?_
  clear hc
  rintro e wx ⟨rfl, rfl⟩
  obtain ⟨er, Her⟩ : ∃ er, Hid (raA p.1.abs = er) := ⟨_, rfl⟩
  rw [Her.out]
  have heq : (er == er) = true := by simp
  go_wp2_with fail
  refine (spShut_any p.1 HPK.out.1 H 10 rfl).mono ?_
  rintro e wx ⟨rfl, rfl⟩
  go_wp2_with fail
  have hc := rsShut_any p.2 (by rw [HPK.out.2]; exact HPK.out.1) H 11 rfl
  rw [HPK.out.2] at hc
  refine hc.mono ?_
  clear hc
  rintro e wx ⟨rfl, rfl⟩
  obtain ⟨sh, Hsh⟩ : ∃ er, Hid (shA p.1.abs = er) := ⟨_, rfl⟩
  rw [Hsh.out]
  have heq2 : (sh == sh) = true := by simp
  go_wp2
  go_ret
  obtain ⟨q0, q1, q2, hq, HQ⟩ := act_end HP.out rfl rfl HPK.out HOK.out H
  exact ⟨q0, q1, q2, r, At, Aw, n, ct, cw, tps, rfl, hq, (hg.more (by omega) (by omega)), hrs, htn, by omega, htl, HQ⟩
end
end Go.Proofs.Ytgjlclihgpahbaa

namespace Go.Proofs.Ytgjlclihgpahbaa
open Go.RowKit
set_option linter.unusedVariables false

theorem xb_kept {w w' : World} {gx : Nat} {C : Array Value} {T : TypeId} {row : Option Nat} (h : w.heap[gx]? = some (.cells C T (0, 0))) (hg : w.grownBy w' row) (hne : row ≠ some gx) : w'.heap[gx]? = some (.cells C T (0, 0)) := by
  rw [hg.block gx (lt_of_heap h) (Ne.symm hne)]; exact h
theorem xb_alloc {w : World} {gx : Nat} {C : Array Value} {T : TypeId} (h : w.heap[gx]? = some (.cells C T (0, 0))) (o : Obj) : (w.alloc o).heap[gx]? = some (.cells C T (0, 0)) := by
  have hb := ((Below.refl w.heap.size w).alloc (Nat.le_refl _) o).block gx (lt_of_heap h)
  rw [hb]; exact h
theorem OwnB.neX {w : World} {base gx : Nat} {v : Value} {l : List UInt8} {C : Array Value} {T : TypeId} (h : OwnB w base v l) (hx : w.heap[gx]? = some (.cells C T (0, 0))) (hT : T ≠ 5) : v.ownBlock ≠ some gx := by
  intro e
  rcases h.2 with ⟨rfl, h0⟩ | ⟨g, cap, cur, rfl, hb, hg, -⟩
  · cases e
  · have e' : g = gx := by injection e
    subst e'
    rw [hx] at hg
    injection hg with hg
    injection hg with h1 h2 h3
    exact hT h2

set_option maxRecDepth 100000 in
set_option maxHeartbeats 2000000 in
theorem apartBytes_keep (gL N cL base : Nat) (vs : List Value) (ls : List (List UInt8)) (w : World) (hL : LR w gL N cL vs) (hF : Fam w base N (F1 vs ls 0)) (hN : N ≤ 1000) (hbase : base ≤ w.heap.size)
    (gx : Nat) (C : Array Value) (T : TypeId) (hT1 : T ≠ 5) (hT2 : T ≠ 27) (hX : w.heap[gx]? = some (.cells C T (0, 0)))
    (hlen : ∀ j, j < N → (ls.getD j []).length ≤ 140737488355320) :
    Calls Try.prog 29 #[.slice (some ⟨gL, 0, none⟩) N cL] w fun e w' => e = .returned (.bool true) ∧ Below base w w' ∧ w'.heap[gx]? = some (.cells C T (0, 0)) := by
  obtain ⟨i0, hi0, hz0, hz1, hz2⟩ := info_parts u8_info
  obtain ⟨i1, hi1, hy0, hy1, hy2⟩ := info_parts lb_info
  have HL := Lib.hid hlen
  clear hlen
  go_enter Try.func29, Try.ntmps29
  go_wp2
  go_loopw [3] (fun i wr => ∃ k : Nat, k ≤ N ∧ i = .int .i64 k ∧ Fam wr base N (F1 vs ls k) ∧ LR wr gL N cL vs ∧ (Below base w wr ∧ wr.heap[gx]? = some (.cells C T (0, 0)))) (fun i _ => N - (intOf i).toNat)
  case atStart => exact ⟨0, Nat.zero_le _, rfl, hF, hL, Below.refl _ _, hX⟩
  case round =>
    obtain ⟨k, hk, rfl, hFk, hLk, hBk⟩ := hrel
    by_cases hlt : k < N
    · have hcell := hLk.cell hlt
      have hown := hFk.one hlt (F1_at vs ls k)
      obtain ⟨A, n, c, hv, hn, -⟩ := hown.shape
      have hnb : n ≤ 140737488355320 := by rw [hn.out]; exact HL.out k hlt
      rw [hv] at hcell
      have HV := Lib.hid hv
      clear hv hown
      obtain ⟨wo, rfl⟩ : ∃ wo : World, wo = wr := ⟨_, rfl⟩
      go_wp2
      go_loopw [4] (fun i wr => ∃ q : Nat, q ≤ n ∧ i = .int .i64 q ∧ Fam wr base N (F1i vs ls k q) ∧ LR wr gL N cL vs ∧ (Below base w wr ∧ wr.heap[gx]? = some (.cells C T (0, 0)))) (fun i _ => n - (intOf i).toNat)
      case atStart => exact ⟨0, Nat.zero_le _, rfl, by rw [F1i_zero]; exact hFk, hLk, hBk⟩
      case round =>
        obtain ⟨q, hq, rfl, hFq, hLq, hBq⟩ := hrel
        have hcellq := hLq.cell hlt
        rw [HV.out] at hcellq
        clear hcell
        by_cases hlq : q < n
        · have hFk' := F1i_at vs ls k q
          rw [HV.out] at hFk'
          have hown := hFq.one hlt hFk'
          obtain ⟨g, rfl, hbg, hgs⟩ := hown.form (by omega)
          obtain ⟨x, -, hcb⟩ := hown.cellAt (k := q) (by have := hn.out; simp only [List.length_append, marksB_length, List.length_drop]; omega)
          have hfr := hown.frozenAt q
          have hst := hFq.store hlt hFk' q (markB (k + 10) q)
          have hgr := (hown.stored q (markB (k + 10) q)).2
          have hne : g ≠ gL := fun e => hLq.ne hown (by rw [e]; rfl)
          have HFK := Lib.hid hFk'
          clear hFk'
          go_wp2
          have hw1 : IntKind.i64.wrap ((k : Int) + 10) = (k : Int) + 10 := IntWalk.i64_in _ (by omega)
          go_still_tail 10, (by kernel_rfl)
          clear hw1
          still_call ((markB_at (a := (k : Int) + 10) (k + 10) q (by omega) rfl _ (by omega) (by omega)).mono fun _ _ h => ⟨h.1, h.2.symm⟩)
          repeat still_step
          refine wpStill_nil ?_
          go_wp2
          go_roundw
          case rel =>
            refine ⟨q + 1, by omega, by go_num, ?_, hLq.kept (grownBy_drew hgr) hne, hBq.1.grown (grownBy_drew hgr) (by have := hBq.1.size; omega) (fun g' h => by injection h with h; omega), xb_kept hBq.2 (grownBy_drew hgr) (fun e => OwnB.neX hown hBq.2 hT1 e)⟩
            have e := F1i_succ vs ls k q (by have := hn.out; omega)
            rw [HV.out] at e
            rw [← e]
            exact hst.drew
          case measure => simp [intOf]; omega
        · have hqn : q = n := by omega
          subst hqn
          go_wp2
          go_roundw
          case rel => exact ⟨k + 1, by omega, by go_num, by rw [← F1i_end, ← hn.out]; exact hFq, hLq, hBq⟩
          case measure => simp [intOf]; omega
    · have hkN : N = k := by omega
      subst hkN
      go_wp2
      go_loopw [5, 6] (fun v i wr => ∃ (k : Nat) (Gs : List Value), k ≤ N ∧ i = .int .i64 k ∧ Hid (Gs.length = k) ∧ Fam wr base N (F2 vs ls Gs k) ∧ LR wr gL N cL vs ∧ wr.ownsRow w.heap.size 27 1 v k Gs ∧ (Below base w wr ∧ wr.heap[gx]? = some (.cells C T (0, 0)))) (fun _ i _ => N - (intOf i).toNat)
      case atStart => exact ⟨0, [], Nat.zero_le _, rfl, rfl, hFk.congr (F2_start vs ls N), hLk, World.ownsRow_nil _ _ _ _, hBk⟩
      case round =>
        clear hFk hLk hBk
        obtain ⟨k, Gs, hk, rfl, hGs, hFk, hLk, hGk, hBk⟩ := hrel
        by_cases hlt : k < N
        · have hcell := hLk.cell hlt
          have hFa := F2_at vs ls Gs k
          have hown := hFk.one hlt hFa
          obtain ⟨A, n, c, hv, hn, -⟩ := hown.shape
          rw [marksB_length] at hn
          have hnb : n ≤ 140737488355320 := by rw [hn.out]; exact HL.out k hlt
          have hd := hFk.dup hFa
          rw [F2i_zero] at hd
          rw [hv] at hcell hd
          have HV := Lib.hid hv
          clear hv hown hFa
          obtain ⟨wo, rfl⟩ : ∃ wo : World, wo = wr := ⟨_, rfl⟩
          go_wp2
          go_loopw [7, 8] (fun v i wr => ∃ q : Nat, q ≤ 6 ∧ i = .int .i64 q ∧ Fam wr base N (F2i vs ls Gs k v q) ∧ LR wr gL N cL vs ∧ wr.ownsRow w.heap.size 27 1 u5 k Gs ∧ (Below base w wr ∧ wr.heap[gx]? = some (.cells C T (0, 0)))) (fun _ i _ => 6 - (intOf i).toNat)
          case atStart => exact ⟨0, Nat.zero_le _, rfl, hd, hLk, hGk, hBk⟩
          case round =>
            clear hFk hLk hGk hBk hcell hd
            obtain ⟨q, hq, rfl, hFq, hLq, hGq, hBq⟩ := hrel
            have hcell := hLq.cell hlt
            rw [HV.out] at hcell
            by_cases hlq : q < 6
            · have hFa := F2i_at vs ls Gs k u7 q
              have ho7 : OwnB wr base u7 (marksB (k + 10) 0 (n + q)) := hFq.own k hlt (u7, _) (by rw [hFa, hn.out]; exact List.mem_cons_of_mem _ (List.mem_singleton.2 rfl))
              have hbs : base ≤ wr.heap.size := by have := hBq.1.size; omega
              have ho7r : (wr.alloc (.cells #[vb (markB (k + 10) (n + q))] 5)).ownsRow base 5 1 u7 (n + q) ((marksB (k + 10) 0 (n + q)).map vb) := by
                have := ho7.alloc (.cells #[vb (markB (k + 10) (n + q))] 5)
                unfold OwnB at this
                rwa [marksB_length] at this
              have HFA := Lib.hid hFa
              clear hFa
              go_wp2_with (first | (go_at_call 49; refine (markB_at (a := (k : Int) + 10) (b := (n : Int) + q) (k + 10) (n + q) (by omega) (by omega) _ (by omega) (by omega)).mono ?_; rintro e w2 ⟨rfl, rfl⟩) | (at_builtin; refine wpList_append_two _ rfl (.tmp 50) (.tmp 61) 27 rfl base 5 i0 (.int .u8 0) 1 Try.underlying27 hi0 hz0 hz1 hz2 rfl _ _ _ rfl ho7r ⟨wr.heap.size, 0, none⟩ 1 1 [vb (markB (k + 10) (n + q))] rfl (by omega) rfl (cell_one_new _ _ _) (by simp [Value.oneCell']) (by simp only [maxLen]; omega) (by omega) (by simp; omega) ?_; intro v2 w2 ho2 hcase))
              have ho3 := OwnB.of_mark ho2
              have hgr := two_grown hcase
              have hF3 := (hFq.alloc (.cells #[vb (markB (k + 10) (n + q))] 5)).append hlt HFA.out (by rw [marksB_length, marksB_length]; omega) (by rw [marksB_length]; exact marksB_take _ _ _ _ (by omega)) (by rw [marksB_length, ← hn.out]; exact marksB_take _ _ _ _ (by omega)) ho3 hcase
              have hL3 := LR.kept' (World.ownsRow.alloc hLq (.cells #[vb (markB (k + 10) (n + q))] 5)) hgr (hLq.ne ho7)
              have hG3 := (hGq.alloc (.cells #[vb (markB (k + 10) (n + q))] 5)).kept hgr (rows_ne hGq ho7 (by decide))
              have hB3 := And.intro ((hBq.1.alloc hbs (.cells #[vb (markB (k + 10) (n + q))] 5)).grown hgr (by simp; omega) (fun g e => (ho7.lt g e).1)) (xb_kept (xb_alloc hBq.2 (.cells #[vb (markB (k + 10) (n + q))] 5)) hgr (OwnB.neX ho7 hBq.2 hT1))
              go_roundw
              case rel =>
                refine ⟨q + 1, by omega, by go_num, ?_, hL3, hG3, hB3⟩
                rw [← F2i_succ, ← hn.out, ← Nat.add_assoc]
                rw [← hn.out] at hF3
                exact hF3
              case measure => simp [intOf]; omega
            · have hq6 : q = 6 := by omega
              subst hq6
              clear hcell
              have hbs : w.heap.size ≤ wr.heap.size := hBq.1.size
              have ho7 : OwnB wr base u7 (marksB (k + 10) 0 (n + 6)) := hFq.own k hlt (u7, _) (by rw [F2i_at, hn.out]; exact List.mem_cons_of_mem _ (List.mem_singleton.2 rfl))
              obtain ⟨A7, n7, c7, rfl, -⟩ := ho7.shape
              have hgn : Gs.length ≤ 1000 := by have := hGs.out; omega
              rw [F2i_end _ _ _ _ _ hGs.out] at hFq
              go_wp2_with (at_builtin; refine wpList_append_own _ rfl (.tmp 63) (.tmp 65) 48 rfl w.heap.size 27 i1 (.slice none 0 0) 1 24 Try.underlying48 hi1 hy0 hy1 hy2 rfl (by decide) _ _ _ rfl (hGq.alloc _) ⟨wr.heap.size, 0, none⟩ 1 1 [.slice A7 n7 c7] rfl rfl (cell_one_new _ _ _) (by simp [Value.oneCell']) (by simp only [maxLen]; omega) (by omega) (by simp; omega) ?_; intro v2 w2 ho2 hgr hnil)
              have hgL := hL.lt
              have hF3 := (hFq.alloc (.cells #[.slice A7 n7 c7] 27)).kept hgr (fun j hj p hp => rows_ne (hFq.own j hj p hp) hGq (by decide))
              have hL3 := LR.kept' (World.ownsRow.alloc hLq (.cells #[.slice A7 n7 c7] 27)) hgr (fun e => by have := (hGq.lt _ e).1; omega)
              have hB3 := And.intro ((hBq.1.alloc (by omega) (.cells #[.slice A7 n7 c7] 27)).grown hgr (by simp; omega) (fun g e => by have := (hGq.lt g e).1; omega)) (xb_kept (xb_alloc hBq.2 (.cells #[.slice A7 n7 c7] 27)) hgr (fun e => by have h1 := (hGq.lt _ e).1; have h2 := lt_of_heap hX; omega))
              go_roundw
              case rel => exact ⟨k + 1, Gs ++ [.slice A7 n7 c7], by omega, by go_num, by rw [List.length_append, hGs.out]; rfl, hF3, hL3, ho2, hB3⟩
              case measure => simp [intOf]; omega
        · have hkN : N = k := by omega
          subst hkN
          obtain ⟨w3, rfl⟩ : ∃ w3 : World, w3 = wr := ⟨_, rfl⟩
          go_wp2
          go_loopw [9] (fun i wr => ∃ k q : Nat, k ≤ N ∧ i = .int .i64 k ∧ wr = w3.drewN q) (fun i _ => N - (intOf i).toNat)
          case atStart => exact ⟨0, 0, Nat.zero_le _, rfl, rfl⟩
          case round =>
            obtain ⟨k, q, hk, rfl, rfl⟩ := hrel
            by_cases hlt : k < N
            · obtain ⟨gG, cG, rfl, hgG, -⟩ := World.ownsRow.form hGk (by omega)
              have hkG : k < Gs.length := by have := hGs.out; omega
              have hcG : w3.cell? ⟨gG, k, none⟩ = some Gs[k] := by rw [World.ownsRow.cellAt hGk k (by omega), List.getElem?_eq_getElem hkG]
              have hcell := hLk.cell hlt
              have hFa : F2 vs ls Gs N k = [(vs.getD k (.slice none 0 0), marksB (k + 10) 0 (ls.getD k []).length), (Gs[k], marksB (k + 10) 0 ((ls.getD k []).length + 6))] := by
                simp only [F2, hlt, if_true]
                rw [List.getD_eq_getElem?_getD (l := Gs), List.getElem?_eq_getElem hkG]
                rfl
              have hoV := hFk.own k hlt (vs.getD k (.slice none 0 0), _) (by rw [hFa]; exact List.mem_cons_self)
              have hoG := hFk.own k hlt (Gs[k], _) (by rw [hFa]; exact List.mem_cons_of_mem _ (List.mem_singleton.2 rfl))
              simp only at hoV hoG
              obtain ⟨A, n, c, hv, hn, -⟩ := hoV.shape
              obtain ⟨A', n', c', hv', hn', -⟩ := hoG.shape
              have hnb : n ≤ 140737488355320 := by rw [hn.out, marksB_length]; exact HL.out k hlt
              have hnn : n' = n + 6 := by rw [hn.out, hn'.out, marksB_length, marksB_length]
              have hlen := hn.out
              rw [marksB_length] at hlen
              rw [← hlen, hv] at hoV
              rw [← hlen, hv'] at hoG
              rw [hv] at hcell
              rw [hv'] at hcG
              subst hnn
              clear hv hv' hn hn' hlen hFa
              go_wp2
              go_loopw [10] (fun i wr => ∃ t q : Nat, t ≤ n + 6 ∧ i = .int .i64 t ∧ wr = w3.drewN q) (fun i _ => n + 6 - (intOf i).toNat)
              case atStart => exact ⟨0, q, Nat.zero_le _, rfl, rfl⟩
              case round =>
                obtain ⟨t, q', ht, rfl, rfl⟩ := hrel
                by_cases hlt' : t < n + 6
                · obtain ⟨g', rfl, hcg'⟩ := hoG.markAt hlt'
                  have hw1 : IntKind.i64.wrap ((k : Int) + 10) = (k : Int) + 10 := IntWalk.i64_in _ (by omega)
                  have hb1 : (((markB (k + 10) t).toNat : Int) != ((markB (k + 10) t).toNat : Int)) = false := by simp
                  by_cases hln : t < n
                  · obtain ⟨g, rfl, hcg⟩ := hoV.markAt hln
                    have hb2 : decide ((t : Int) < n) = true := by simp; omega
                    go_wp2
                    go_quiet ((go_at_call 49; exact quiet_add_left ((markB_at (a := (k : Int) + 10) (k + 10) t (by omega) rfl _ (by omega) (by omega)))))
                    go_wp2
                    go_roundw
                    case rel => exact ⟨t + 1, q' + nq, by omega, by go_num, by simp⟩
                    case measure => simp [intOf]; omega
                  · have hb2 : decide ((t : Int) < n) = false := by simp; omega
                    go_wp2
                    go_quiet ((go_at_call 49; exact quiet_add_left ((markB_at (a := (k : Int) + 10) (k + 10) t (by omega) rfl _ (by omega) (by omega)))))
                    go_wp2
                    go_roundw
                    case rel => exact ⟨t + 1, q' + nq, by omega, by go_num, by simp⟩
                    case measure => simp [intOf]; omega
                · go_wp2
                  go_roundw
                  case rel => exact ⟨k + 1, q', by omega, by go_num, rfl⟩
                  case measure => simp [intOf]; omega
            · go_wp2
              go_ret
              exact ⟨rfl, bdrewN hBk.1 q, hBk.2⟩

set_option maxRecDepth 100000 in
theorem apart_keep {w0 w : World} {E : Env} (H : St w0 [] w E) (k kt : Nat) (tps : List Tp) (A : Option Addr) (n c : Nat) (hk : E k = some (bigO Tp.own tps)) (ht : E kt = some (.row 27 1 (.slice A n c) n (tps.map Tp.v))) (hn : tps.length = n) (hn' : n ≤ 1000) (gx : Nat) (C : Array Value) (T : TypeId) (hT1 : T ≠ 5) (hT2 : T ≠ 27) (hX : w.heap[gx]? = some (.cells C T (0, 0))) (hl : ∀ p ∈ tps, p.l.length ≤ 140737488355320) :
    Calls Try.prog 29 #[.slice A n c] w fun e w' => e = .returned (.bool true) ∧ Below w0.heap.size w0 w' ∧ w'.heap[gx]? = some (.cells C T (0, 0)) := by
  rcases (H.row kt ht).2 with ⟨e, -⟩ | ⟨gL, cap, cur, e, -⟩
  · rw [e]
    refine (apart_nil w).mono ?_
    rintro e w' ⟨rfl, rfl⟩
    exact ⟨rfl, H.below, hX⟩
  · injection e with e1 e2 e3
    subst e1
    obtain ⟨F, hF, hF0, -, -⟩ := H.change k hk
    obtain ⟨k1, k2⟩ := tp_hp hF
    have hp : Hp w w0.heap.size (tps.map fun p => (p.v, p.l)) := by
      refine ⟨fun i p hp => ?_, fun i j p q hij hp hq => ?_⟩
      · rw [List.getElem?_map] at hp
        obtain ⟨t, h1, rfl⟩ := Option.map_eq_some_iff.1 hp
        obtain ⟨a, b⟩ := k1 i t h1
        exact ownsRow_base a fun g hg => by have := hF0 g (b g hg); simpa using this
      · rw [List.getElem?_map] at hp hq
        obtain ⟨t, h1, rfl⟩ := Option.map_eq_some_iff.1 hp
        obtain ⟨s, h2, rfl⟩ := Option.map_eq_some_iff.1 hq
        exact k2 i j t s hij h1 h2
    have hfam := hp.fam
    rw [List.length_map, hn, List.map_map, List.map_map] at hfam
    have hL : LR w gL n c (tps.map Tp.v) := H.row kt ht
    refine (apartBytes_keep gL n c w0.heap.size _ _ w hL hfam hn' H.low.size gx C T hT1 hT2 hX ?_).mono fun e w' he => ⟨he.1, H.below.trans he.2.1, he.2.2⟩
    intro j hj
    rw [List.getD_eq_getElem?_getD, List.getElem?_map, List.getElem?_eq_getElem (by omega)]
    exact hl _ (List.getElem_mem _)
end Go.Proofs.Ytgjlclihgpahbaa

namespace Go.Proofs.Ytgjlclihgpahbaa
open Go.RowKit
set_option linter.unusedVariables false
set_option maxRecDepth 100000

attribute [local irreducible] permB kBytes kPerm kFrom

theorem spAct_s {w0 w : World} (gx : Nat) (l lr : Value) (r : Option (List RunT)) (m : Nat) (b : Int) (p0 p1 p2 : KA × KA) (At Aw : Option Addr) (n ct cw : Nat) (tps : List Tp) (z0 z1 z2 : Int) (A3 : Option Addr) (n3 c3 : Nat) (l3 : List UInt8) (z4 : Int) (u5 : UInt8) (b6 : Bool)
    (hok : SlotOk p0 ∧ SlotOk p1 ∧ SlotOk p2) (hg : LW r m b) (hm : m ≤ 10000) (hb : b ≤ 10000000000000000) (hrs : ∃ rs, r = some rs) (htn : tps.length = n) (hn : n ≤ 900) (htl : ∀ q ∈ tps, q.l.length ≤ 65536)
    (hz0 : -9223372036854775808 ≤ z0 ∧ z0 ≤ 9223372036854775807) (hz2 : -9223372036854775808 ≤ z2 ∧ z2 ≤ 9223372036854775807) (hR : Rd w0 1 A3 n3 (l3.map vb)) (hn3 : n3 ≤ 1000000)
    (H : St w0 [] w (lay [.blk gx 61 [p0.1.v, p1.1.v, p2.1.v, p0.2.v, p1.2.v, p2.2.v, l, lr, .slice At n ct, .slice Aw n cw], led l r, ledR lr r, bigO slotO [p0, p1, p2], .row 27 1 (.slice At n ct) n (tps.map Tp.v), .row 27 1 (.slice Aw n cw) n (tps.map Tp.u), bigO Tp.own tps])) :
    Calls Try.prog 26 #[lptr gx, .agg #[.int .i64 z0, .int .i64 z1, .int .i64 z2, .slice A3 n3 c3, .int .i64 z4, .int .u8 (u5.toNat : Int), .bool b6]] w (ActPost gx l lr m b n w0) := by
  cases b6 with
  | false => exact spAct_f gx l lr r m b p0 p1 p2 At Aw n ct cw tps z0 z1 z2 A3 n3 c3 l3 z4 u5 hok hg hm hb hrs htn hn htl hz0 hz2 hR hn3 H
  | true => exact spAct_t gx l lr r m b p0 p1 p2 At Aw n ct cw tps z0 z1 z2 A3 n3 c3 l3 z4 u5 hok hg hm hb hrs htn hn htl hz0 hz2 hR hn3 H

theorem spact_size : (Try.prog.info? 65).map (·.size) = some 7 := by kernel_rfl

theorem made_end {w0 w : World} {F0 : List Nat} {L1 L2 T U V : Own} {p0 p1 p2 : KA × KA} {q gx : Nat} {c d e f : Value} (hq : q < 3) {a b : KA} (hab : SlotOk (a, b)) (hok : SlotOk p0 ∧ SlotOk p1 ∧ SlotOk p2)
    (H : St w0 F0 w (lay [.blk gx 61 (([p0.1.v, p1.1.v, p2.1.v, p0.2.v, p1.2.v, p2.2.v, c, d, e, f].set q a.v).set (3 + q) b.v), L1, L2, bigO slotO [p0, p1, p2], T, U, V, a.ownM, b.ownR])) :
    ∃ q0 q1 q2 : KA × KA, (SlotOk q0 ∧ SlotOk q1 ∧ SlotOk q2) ∧ St w0 F0 w (lay [.blk gx 61 [q0.1.v, q1.1.v, q2.1.v, q0.2.v, q1.2.v, q2.2.v, c, d, e, f], L1, L2, bigO slotO [q0, q1, q2], T, U, V]) := by
  obtain ⟨C, hC⟩ : ∃ C, (([p0.1.v, p1.1.v, p2.1.v, p0.2.v, p1.2.v, p2.2.v, c, d, e, f].set q a.v).set (3 + q) b.v) = C := ⟨_, rfl⟩
  rw [hC] at H
  have H1 := St.join_mk (L := [.blk gx 61 C, L1, L2, bigO slotO [p0, p1, p2], T, U, V, a.ownM]) H 7 rfl
  have H5 := St.putSlot (f := slotO) (x := (a, b)) (L0 := [.blk gx 61 C, L1, L2, bigO slotO [p0, p1, p2], T, U, V]) H1 3 q rfl (by simpa using hq)
  rw [← hC] at H5
  match q, hq with
  | 0, hq => exact ⟨(a, b), p1, p2, ⟨hab, hok.2⟩, H5⟩
  | 1, hq => exact ⟨p0, (a, b), p2, ⟨hok.1, hab, hok.2.2⟩, H5⟩
  | 2, hq => exact ⟨p0, p1, (a, b), ⟨hok.1, hok.2.1, hab⟩, H5⟩

set_option maxHeartbeats 16000000 in
theorem spongeCalls_walk (Z1 : Int) (f : UInt8) (A : Option Addr) (n c : Nat) (ks : List SpactR) (w : World) (hZ1 : -9223372036854775808 ≤ Z1) (hZ2 : Z1 ≤ 9223372036854775807) (hA : Rd w 7 A n (spactsV ks)) (hn : n ≤ 17592186043904) (hks : ∀ s ∈ ks, s.Ok w) :
    Calls Try.prog 5 #[.int .i64 Z1, .int .u8 (f.toNat : Int), .slice A n c] w fun e w' => e = .returned (.bool true) ∧ Below w.heap.size w w' := by
  have hlks : ks.length = n := by have := hA.1; rw [spactsV_length] at this; omega
  have HLK := Lib.hid hlks
  have HKS := Lib.hid hks
  clear hlks hks
  have H0 := St.start_lay w []
  have ksz := spact_size
  go_enter Try.func5, Try.ntmps5
  go_wp2_with fail
  refine (lives_s).mono ?_
  rintro e w2 ⟨rfl, hb2⟩
  have H := H0.call hb2
  clear hb2 H0
  go_wp2_with fail
  refine (spSmall_s A n c ks w2 (H.arg0 hA) hn (fun s hs => (HKS.out s hs).m3)).mono ?_
  rintro e w4 ⟨bs, rfl, hsm, hb⟩
  replace H := H.call hb
  clear hb
  cases bs with
  | false =>
    go_wp2
    go_ret
    exact ⟨rfl, H.below⟩
  | true =>
  have hn60 : n ≤ 60 := (hsm rfl).1
  have h6000 : ∀ (j : Nat) (s : SpactR), ks[j]? = some s → s.n3 ≤ 6000 := by
    intro j s hs
    have h1 := (hsm rfl).2
    have hj : j < ks.length := (List.getElem?_eq_some_iff.1 hs).1
    have h2 := sumTo_mem spactN (k := n) hs (by rw [← HLK.out]; exact hj)
    have h3 : s.n3 ≤ spactN s := Nat.le_add_right _ _
    omega
  have HS4 := Lib.hid h6000
  clear hsm h6000 hn
  go_wp2_with fail
  refine (ledger_new H 1 rfl).mono ?_
  rintro e w5 ⟨l, rfl, H1⟩
  clear H
  go_wp2_with fail
  refine (refLedger_new H1 2 rfl).mono ?_
  rintro e w6 ⟨lr, rfl, H2⟩
  clear H1
  obtain ⟨gl, -, -, rfl, -⟩ := H2.ledRead 1 rfl
  obtain ⟨gr, rfl, -⟩ := H2.ledROpen 2 rfl
  have HA0 := H2.allocAt 0 rfl w6.heap.size rfl #[.pointer none, .pointer none, .pointer none, .pointer none, .pointer none, .pointer none, .pointer (some ⟨gl, 0, none⟩), .pointer (some ⟨gr, 0, none⟩), .slice none 0 0, .slice none 0 0] 61
  clear H2
  unfold lptr
  go_wp2_with fail
  refine absorb_calls HA0 ?_
  clear HA0
  intro w7 H7
  generalize w6.heap.size = gx at H7 ⊢
  have Hb := ((((H7.push 3 rfl (Below.refl _ _) (A := bigO slotO [((KA.nil, KA.nil) : KA × KA), ((KA.nil, KA.nil) : KA × KA), ((KA.nil, KA.nil) : KA × KA)]) (F := []) ⟨[], [], rfl, ⟨[], [], rfl, rfl, rfl, by simp⟩, ⟨[], [], rfl, ⟨[], [], rfl, rfl, rfl, by simp⟩, ⟨[], [], rfl, ⟨[], [], rfl, rfl, rfl, by simp⟩, rfl, by simp⟩, by simp⟩, by simp⟩ (by simp)).nilRow 4 rfl 27 1).nilRow 5 rfl 27 1).nothing 6 rfl)
  clear H7
  have H : St w [] w7 (lay [.blk gx 61 [.pointer none, .pointer none, .pointer none, .pointer none, .pointer none, .pointer none, lptr gl, lptr gr, .slice none 0 0, .slice none 0 0], led (lptr gl) (some []), ledR (lptr gr) (some []), bigO slotO [((KA.nil, KA.nil) : KA × KA), ((KA.nil, KA.nil) : KA × KA), ((KA.nil, KA.nil) : KA × KA)], .row 27 1 (.slice none 0 0) 0 [], .row 27 1 (.slice none 0 0) 0 [], bigO Tp.own []]) := Hb.sub fun k C hC => by
    match k, hC with
    | 0, hC => cases (Option.some.inj hC); rfl
    | 1, hC => cases (Option.some.inj hC); rfl
    | 2, hC => cases (Option.some.inj hC); rfl
    | 3, hC => cases (Option.some.inj hC); rfl
    | 4, hC => cases (Option.some.inj hC); rfl
    | 5, hC => cases (Option.some.inj hC); rfl
    | 6, hC => cases (Option.some.inj hC); rfl
    | k + 7, hC => simp [lay] at hC
  clear Hb
  have hok0 : SlotOk ((KA.nil, KA.nil) : KA × KA) := ⟨fun x e => (by cases e), rfl⟩
  refine (spMade_s gx _ _ _ _ _ _ _ _ _ _ 0 0 rfl (by omega) Z1 f H rfl 7 8 rfl rfl (by omega)).mono ?_
  rintro e w8 ⟨a', b', ha', hb', rfl, H1⟩
  rw [upd_push (by simp), upd_push (by simp), upd_laid (by simp)] at H1
  have hsl : SlotOk (a', b') := ⟨by rw [ha', clA_ne]; exact neA_ok Z1 f, by rw [hb', ha']⟩
  obtain ⟨p0, p1, p2, hok, H2⟩ := made_end (p0 := ((KA.nil, KA.nil) : KA × KA)) (p1 := ((KA.nil, KA.nil) : KA × KA)) (p2 := ((KA.nil, KA.nil) : KA × KA)) (q := 0) (by omega) hsl ⟨hok0, hok0, hok0⟩ H1
  clear H H1 ha' hb' hsl
  go_wp2_with fail
  refine (spMade_s gx _ _ _ _ _ _ _ _ _ _ 1 1 rfl (by omega) 136 f H2 rfl 7 8 rfl rfl (by omega)).mono ?_
  rintro e w9 ⟨a', b', ha', hb', rfl, H1⟩
  rw [upd_push (by simp), upd_push (by simp), upd_laid (by simp)] at H1
  have hsl : SlotOk (a', b') := ⟨by rw [ha', clA_ne]; exact neA_ok 136 f, by rw [hb', ha']⟩
  obtain ⟨q0, q1, q2, hok', H2⟩ := made_end (q := 1) (by omega) hsl hok H1
  clear H1 ha' hb' hsl hok hok0
  go_wp2
  go_loopw [9] (fun i wr => ∃ (j : Nat) (p0 p1 p2 : KA × KA) (r : Option (List RunT)) (At Aw : Option Addr) (nt ct cw : Nat) (tps : List Tp), j ≤ n ∧ i = .int .i64 (j : Int) ∧ (SlotOk p0 ∧ SlotOk p1 ∧ SlotOk p2) ∧ LW r (2 * j) (((j : Nat) : Int) * 200000000) ∧ (∃ rs, r = some rs) ∧ tps.length = nt ∧ nt ≤ j ∧ (∀ q ∈ tps, q.l.length ≤ 65536) ∧ St w [] wr (lay [.blk gx 61 [p0.1.v, p1.1.v, p2.1.v, p0.2.v, p1.2.v, p2.2.v, lptr gl, lptr gr, .slice At nt ct, .slice Aw nt cw], led (lptr gl) r, ledR (lptr gr) r, bigO slotO [p0, p1, p2], .row 27 1 (.slice At nt ct) nt (tps.map Tp.v), .row 27 1 (.slice Aw nt cw) nt (tps.map Tp.u), bigO Tp.own tps])) (fun i _ => n - (intOf i).toNat)
  case atStart => exact ⟨0, q0, q1, q2, some [], none, none, 0, 0, 0, [], Nat.zero_le _, rfl, hok', LW.nil.more (by omega) (by omega), ⟨_, rfl⟩, rfl, by omega, by simp, H2⟩
  case round =>
    clear H2 hok'
    obtain ⟨j, p0, p1, p2, r, At, Aw, nt, ct, cw, tps, hj, rfl, hok, hg, hrs, htn, hnt, htl, H⟩ := hrel
    by_cases hlt : j < n
    · obtain ⟨x, hx⟩ : ∃ v, ks[j]? = some v := ⟨_, List.getElem?_eq_getElem (by rw [HLK.out]; exact hlt)⟩
      obtain ⟨ad, of, rfl, hr0⟩ := spact_range (H.arg0 hA) hx
      have hxk := HKS.out x (List.mem_of_getElem? hx)
      have hx4 := HS4.out j x hx
      have hr : wr.rangeAt ad (of + j * 7) [.int .i64 x.z0, .int .i64 x.z1, .int .i64 x.z2, .slice x.A3 x.n3 x.c3, .int .i64 x.z4, .int .u8 (x.u5.toNat : Int), .bool x.b6] := hr0
      have HXK := Lib.hid hxk
      have HR := Lib.hid hr
      clear hr0 hr hxk hx
      have hji : (j : Int) < n := by omega
      have HOK := Lib.hid hok
      have HTL := Lib.hid htl
      clear hok htl
      go_wp2_with (refine wpList_load_mid rfl 65 (.tmp 45) rfl ad (of + j * 7) rfl [.int .i64 x.z0, .int .i64 x.z1, .int .i64 x.z2, .slice x.A3 x.n3 x.c3, .int .i64 x.z4, .int .u8 (x.u5.toNat : Int), .bool x.b6] _ HR.out Try.underlying65 rfl (by rw [ksz]; rfl) ?_)
      refine (spAct_s gx (lptr gl) (lptr gr) r (2 * j) (((j : Nat) : Int) * 200000000) p0 p1 p2 At Aw nt ct cw tps x.z0 x.z1 x.z2 x.A3 x.n3 x.c3 x.l3 x.z4 x.u5 x.b6 HOK.out hg (by omega) (by omega) hrs htn (by omega) HTL.out HXK.out.i0 HXK.out.i2 HXK.out.r3 (by omega) H).mono ?_
      rintro e w10 ⟨q0, q1, q2, r2, At2, Aw2, nt2, ct2, cw2, tps2, rfl, hok2, hg2, ⟨rs, rfl⟩, htn2, hnt2, htl2, H2⟩
      clear H HR hg hrs htn
      go_upto_region 13 with (fail)
      refine absorb_wp H2 ?_
      clear H2
      intro w11 H
      replace H := H.drew
      refine wp_region_held_drew (S := fun w' : World => St w [] w' (lay [.blk gx 61 [q0.1.v, q1.1.v, q2.1.v, q0.2.v, q1.2.v, q2.2.v, lptr gl, lptr gr, .slice At2 nt2 ct2, .slice Aw2 nt2 cw2], led (lptr gl) (some rs), ledR (lptr gr) (some rs), bigO slotO [q0, q1, q2], .row 27 1 (.slice At2 nt2 ct2) nt2 (tps2.map Tp.v), .row 27 1 (.slice Aw2 nt2 cw2) nt2 (tps2.map Tp.u), bigO Tp.own tps2])) (by kernel_rfl) ?_ (fun hHeld => ?_)
      · exact H
      refine takeV 0 rfl (by intro w h; clear h; go_simp; try with_reducible rfl) (by kernel_rfl) (by kernel_rfl) (by kernel_rfl) (by exact fun _ _ _ h => h) (by rfl) (by assumption) ?_
      try simp only [Act.put, List.setIfInBounds_toArray, List.set_cons_zero, List.set_cons_succ]
      refine takeV 1 rfl (by intro w h; clear h; go_simp; try with_reducible rfl) (by kernel_rfl) (by kernel_rfl) (by kernel_rfl) (by exact fun _ _ _ h => h) (by rfl) (by assumption) ?_
      try simp only [Act.put, List.setIfInBounds_toArray, List.set_cons_zero, List.set_cons_succ]
      refine takeV 2 rfl (by intro w h; clear h; go_simp; try with_reducible rfl) (by kernel_rfl) (by kernel_rfl) (by kernel_rfl) (by exact fun _ _ _ h => h) (by rfl) (by assumption) ?_
      try simp only [Act.put, List.setIfInBounds_toArray, List.set_cons_zero, List.set_cons_succ]
      refine takeV 3 rfl (by intro w h; clear h; go_simp; try with_reducible rfl) (by kernel_rfl) (by kernel_rfl) (by kernel_rfl) (by exact fun _ _ _ h => h) (by rfl) (by assumption) ?_
      try simp only [Act.put, List.setIfInBounds_toArray, List.set_cons_zero, List.set_cons_succ]
      refine takeV 4 rfl (by intro w h; clear h; go_simp; try with_reducible rfl) (by kernel_rfl) (by kernel_rfl) (by kernel_rfl) (by exact fun _ _ _ h => h) (by rfl) (by assumption) ?_
      try simp only [Act.put, List.setIfInBounds_toArray, List.set_cons_zero, List.set_cons_succ]
      refine takeV 5 rfl (by intro w h; clear h; go_simp; try with_reducible rfl) (by kernel_rfl) (by kernel_rfl) (by kernel_rfl) (by exact fun _ _ _ h => h) (by rfl) (by assumption) ?_
      try simp only [Act.put, List.setIfInBounds_toArray, List.set_cons_zero, List.set_cons_succ]
      refine takeV 6 rfl (by intro w h; have hc := h.cell 0 rfl (o := 6) rfl; clear h; go_simp; try with_reducible rfl) (by kernel_rfl) (by kernel_rfl) (by kernel_rfl) (by exact fun _ _ _ h => h) (by rfl) (by assumption) ?_
      try simp only [Act.put, List.setIfInBounds_toArray, List.set_cons_zero, List.set_cons_succ]
      refine takeV 8 rfl (by intro w h; clear h; go_simp; try with_reducible rfl) (by kernel_rfl) (by kernel_rfl) (by kernel_rfl) (by exact fun _ _ _ h => h) (by rfl) (by assumption) ?_
      try simp only [Act.put, List.setIfInBounds_toArray, List.set_cons_zero, List.set_cons_succ]
      refine takeV 9 rfl (by intro w h; clear h; go_simp; try with_reducible rfl) (by kernel_rfl) (by kernel_rfl) (by kernel_rfl) (by exact fun _ _ _ h => h) (by rfl) (by assumption) ?_
      try simp only [Act.put, List.setIfInBounds_toArray, List.set_cons_zero, List.set_cons_succ]
      refine takeV 10 rfl (by intro w h; clear h; go_simp; try with_reducible rfl) (by kernel_rfl) (by kernel_rfl) (by kernel_rfl) (by exact fun _ _ _ h => h) (by rfl) (by assumption) ?_
      try simp only [Act.put, List.setIfInBounds_toArray, List.set_cons_zero, List.set_cons_succ]
      refine takeV 11 rfl (by intro w h; have hc := h.cell 0 rfl (o := 7) rfl; clear h; go_simp; try with_reducible rfl) (by kernel_rfl) (by kernel_rfl) (by kernel_rfl) (by exact fun _ _ _ h => h) (by rfl) (by assumption) ?_
      try simp only [Act.put, List.setIfInBounds_toArray, List.set_cons_zero, List.set_cons_succ]
      have hnn : (total rs != total rs) = false := by simp
      refine take_call 7 rfl (by kernel_rfl) (fun K hK => ?_)
      try go_simp
      refine (ledger_len_w H 1 rfl).mono ?_
      rintro e wx ⟨rfl, rfl⟩
      refine hK.out _ _ ?_ (fun hHeld => ?_)
      · exact H
      clear hK K
      try simp only [Act.put, List.setIfInBounds_toArray, List.set_cons_zero, List.set_cons_succ]
      refine take_call 12 rfl (by kernel_rfl) (fun K hK => ?_)
      try go_simp
      refine (refLen_w (2 * j + 2) _ H 2 rfl hg2 (by omega) (by omega)).mono ?_
      rintro e wx ⟨rfl, rfl⟩
      refine hK.out _ _ ?_ (fun hHeld => ?_)
      · exact H
      clear hK K
      try simp only [Act.put, List.setIfInBounds_toArray, List.set_cons_zero, List.set_cons_succ]
      refine takeV 13 rfl (by intro w h; clear h; go_simp; try with_reducible rfl) (by kernel_rfl) (by kernel_rfl) (by kernel_rfl) (by exact fun _ _ _ h => h) (by rfl) (by assumption) ?_
      try simp only [Act.put, List.setIfInBounds_toArray, List.set_cons_zero, List.set_cons_succ]
      refine takeV 14 rfl (by intro w h; clear h; go_simp; try with_reducible rfl) (by kernel_rfl) (by kernel_rfl) (by kernel_rfl) (by exact fun _ _ _ h => h) (by rfl) (by assumption) ?_
      try simp only [Act.put, List.setIfInBounds_toArray, List.set_cons_zero, List.set_cons_succ]
      refine wpAnyH_done (by kernel_rfl) ?_ _
      go_wp2
      go_roundw
      case rel => exact ⟨j + 1, q0, q1, q2, some rs, At2, Aw2, nt2, ct2, cw2, tps2, by omega, by go_num, hok2, hg2.more (by omega) (by omega), ⟨_, rfl⟩, htn2, by omega, htl2, H⟩
      case measure => simp [intOf]; omega
    · obtain rfl : j = n := by omega
      have hji : ¬ (j : Int) < j := by omega
      obtain ⟨rs, rfl⟩ := hrs
      have HTL := Lib.hid htl
      have HTN := Lib.hid htn
      have HOK := Lib.hid hok
      clear htl htn hlt hok
      have hnt60 : nt ≤ 60 := by omega
      go_wp2
      go_loopw [11] (fun i wr => ∃ q : Nat, q ≤ nt ∧ i = .int .i64 (q : Int) ∧ St w [] wr (lay [.blk gx 61 [p0.1.v, p1.1.v, p2.1.v, p0.2.v, p1.2.v, p2.2.v, lptr gl, lptr gr, .slice At nt ct, .slice Aw nt cw], led (lptr gl) (some rs), ledR (lptr gr) (some rs), bigO slotO [p0, p1, p2], .row 27 1 (.slice At nt ct) nt (tps.map Tp.v), .row 27 1 (.slice Aw nt cw) nt (tps.map Tp.u), bigO Tp.own tps])) (fun i _ => nt - (intOf i).toNat)
      case atStart => exact ⟨0, Nat.zero_le _, rfl, H⟩
      case round =>
        clear H
        obtain ⟨q, hq, rfl, H⟩ := hrel
        have x8 := H.cell 0 rfl (o := 8) rfl
        by_cases hlq : q < nt
        · have hqi : (q : Int) < nt := by omega
          obtain ⟨⟨tv, tu, tl⟩, htp⟩ : ∃ v, tps[q]? = some v := ⟨_, List.getElem?_eq_getElem (by rw [HTN.out]; exact hlq)⟩
          obtain ⟨G, G1, G2, -, ⟨hG1, -⟩, ⟨hG2, -⟩, -⟩ := H.bigRow 6 rfl htp
          obtain ⟨Av, cv, e1, -, -⟩ := row_form hG1
          obtain ⟨Au, cu, e2, -, -⟩ := row_form hG2
          simp only at e1 e2
          subst e1 e2
          obtain ⟨At', ct', et, -, hAt⟩ := row_form (H.row 4 rfl)
          injection et with et1 et2 et3
          subst et1
          obtain ⟨gT, rfl, -⟩ := hAt (by omega)
          obtain ⟨Aw', cw', ew, -, hAw⟩ := row_form (H.row 5 rfl)
          injection ew with ew1 ew2 ew3
          subst ew1
          obtain ⟨gU, rfl, -⟩ := hAw (by omega)
          have htl := HTL.out _ (List.mem_of_getElem? htp)
          simp only at htl
          clear et2 et3 ew2 ew3 hAt hAw hG1 hG2
          have HTP := Lib.hid htp
          clear htp
          go_upto_region 18 with (fail)
          refine absorb_wp H ?_
          clear H x8
          intro w11 H
          replace H := H.drew
          refine wp_region_held_drew (S := fun w' : World => St w [] w' (lay [.blk gx 61 [p0.1.v, p1.1.v, p2.1.v, p0.2.v, p1.2.v, p2.2.v, lptr gl, lptr gr, .slice (some ⟨gT, 0, none⟩) nt ct, .slice (some ⟨gU, 0, none⟩) nt cw], led (lptr gl) (some rs), ledR (lptr gr) (some rs), bigO slotO [p0, p1, p2], .row 27 1 (.slice (some ⟨gT, 0, none⟩) nt ct) nt (tps.map Tp.v), .row 27 1 (.slice (some ⟨gU, 0, none⟩) nt cw) nt (tps.map Tp.u), bigO Tp.own tps])) (by kernel_rfl) ?_ (fun hHeld => ?_)
          · exact H
          refine takeV 0 rfl (by intro w h; clear h; go_simp; try with_reducible rfl) (by kernel_rfl) (by kernel_rfl) (by kernel_rfl) (by exact fun _ _ _ h => h) (by rfl) (by assumption) ?_
          try simp only [Act.put, List.setIfInBounds_toArray, List.set_cons_zero, List.set_cons_succ]
          refine takeV 1 rfl (by intro w h; clear h; go_simp; try with_reducible rfl) (by kernel_rfl) (by kernel_rfl) (by kernel_rfl) (by exact fun _ _ _ h => h) (by rfl) (by assumption) ?_
          try simp only [Act.put, List.setIfInBounds_toArray, List.set_cons_zero, List.set_cons_succ]
          refine takeV 2 rfl (by intro w h; clear h; go_simp; try with_reducible rfl) (by kernel_rfl) (by kernel_rfl) (by kernel_rfl) (by exact fun _ _ _ h => h) (by rfl) (by assumption) ?_
          try simp only [Act.put, List.setIfInBounds_toArray, List.set_cons_zero, List.set_cons_succ]
          refine takeV 3 rfl (by intro w h; have hc := h.cell 0 rfl (o := 8) rfl; clear h; go_simp; try with_reducible rfl) (by kernel_rfl) (by kernel_rfl) (by kernel_rfl) (by exact fun _ _ _ h => h) (by rfl) (by assumption) ?_
          try simp only [Act.put, List.setIfInBounds_toArray, List.set_cons_zero, List.set_cons_succ]
          refine takeV 4 rfl (by intro w h; clear h; go_simp; try with_reducible rfl) (by kernel_rfl) (by kernel_rfl) (by kernel_rfl) (by exact fun _ _ _ h => h) (by rfl) (by assumption) ?_
          try simp only [Act.put, List.setIfInBounds_toArray, List.set_cons_zero, List.set_cons_succ]
          refine takeV 5 rfl (by intro w h; clear h; go_simp; try with_reducible rfl) (by kernel_rfl) (by kernel_rfl) (by kernel_rfl) (by exact fun _ _ _ h => h) (by rfl) (by assumption) ?_
          try simp only [Act.put, List.setIfInBounds_toArray, List.set_cons_zero, List.set_cons_succ]
          refine takeV 6 rfl (by intro w h; have hc := tp_cell (f := Tp.v) (h.row 4 rfl) HTP.out HTN.out; clear h; go_simp; try with_reducible rfl) (by kernel_rfl) (by kernel_rfl) (by kernel_rfl) (by exact fun _ _ _ h => h) (by rfl) (by assumption) ?_
          try simp only [Act.put, List.setIfInBounds_toArray, List.set_cons_zero, List.set_cons_succ]
          refine takeV 7 rfl (by intro w h; clear h; go_simp; try with_reducible rfl) (by kernel_rfl) (by kernel_rfl) (by kernel_rfl) (by exact fun _ _ _ h => h) (by rfl) (by assumption) ?_
          try simp only [Act.put, List.setIfInBounds_toArray, List.set_cons_zero, List.set_cons_succ]
          refine takeV 8 rfl (by intro w h; clear h; go_simp; try with_reducible rfl) (by kernel_rfl) (by kernel_rfl) (by kernel_rfl) (by exact fun _ _ _ h => h) (by rfl) (by assumption) ?_
          try simp only [Act.put, List.setIfInBounds_toArray, List.set_cons_zero, List.set_cons_succ]
          refine takeV 9 rfl (by intro w h; clear h; go_simp; try with_reducible rfl) (by kernel_rfl) (by kernel_rfl) (by kernel_rfl) (by exact fun _ _ _ h => h) (by rfl) (by assumption) ?_
          try simp only [Act.put, List.setIfInBounds_toArray, List.set_cons_zero, List.set_cons_succ]
          refine takeV 10 rfl (by intro w h; have hc := h.cell 0 rfl (o := 9) rfl; clear h; go_simp; try with_reducible rfl) (by kernel_rfl) (by kernel_rfl) (by kernel_rfl) (by exact fun _ _ _ h => h) (by rfl) (by assumption) ?_
          try simp only [Act.put, List.setIfInBounds_toArray, List.set_cons_zero, List.set_cons_succ]
          refine takeV 11 rfl (by intro w h; clear h; go_simp; try with_reducible rfl) (by kernel_rfl) (by kernel_rfl) (by kernel_rfl) (by exact fun _ _ _ h => h) (by rfl) (by assumption) ?_
          try simp only [Act.put, List.setIfInBounds_toArray, List.set_cons_zero, List.set_cons_succ]
          refine takeV 12 rfl (by intro w h; clear h; go_simp; try with_reducible rfl) (by kernel_rfl) (by kernel_rfl) (by kernel_rfl) (by exact fun _ _ _ h => h) (by rfl) (by assumption) ?_
          try simp only [Act.put, List.setIfInBounds_toArray, List.set_cons_zero, List.set_cons_succ]
          refine takeV 13 rfl (by intro w h; have hc := tp_cell (f := Tp.u) (h.row 5 rfl) HTP.out HTN.out; clear h; go_simp; try with_reducible rfl) (by kernel_rfl) (by kernel_rfl) (by kernel_rfl) (by exact fun _ _ _ h => h) (by rfl) (by assumption) ?_
          try simp only [Act.put, List.setIfInBounds_toArray, List.set_cons_zero, List.set_cons_succ]
          refine take_call 14 rfl (by kernel_rfl) (fun K hK => ?_)
          try go_simp
          obtain ⟨G, G1, G2, -, ⟨hG1, -⟩, ⟨hG2, -⟩, -⟩ := H.bigRow 6 rfl HTP.out
          refine (sameBytes_yes Av Au tl.length tl.length cv cu tl tl _ (Rd.of_own hG1) (Rd.of_own hG2) (by omega) (by omega) rfl).mono ?_
          rintro e wx ⟨rfl, hb⟩
          clear hG1 hG2
          replace H := H.call hb
          refine hK.out _ _ ?_ (fun hHeld => ?_)
          · exact H
          clear hK K
          try simp only [Act.put, List.setIfInBounds_toArray, List.set_cons_zero, List.set_cons_succ]
          refine takeV 15 rfl (by intro w h; clear h; go_simp; try with_reducible rfl) (by kernel_rfl) (by kernel_rfl) (by kernel_rfl) (by exact fun _ _ _ h => h) (by rfl) (by assumption) ?_
          try simp only [Act.put, List.setIfInBounds_toArray, List.set_cons_zero, List.set_cons_succ]
          refine wpAnyH_done (by kernel_rfl) ?_ _
          go_wp2
          go_roundw
          case rel => exact ⟨q + 1, by omega, by go_num, H⟩
          case measure => simp [intOf]; omega
        · obtain rfl : q = nt := by omega
          have hqi : ¬ (q : Int) < q := by omega
          go_wp2
          go_loopw [13] (fun i wr => ∃ (y : Nat) (p0 p1 p2 : KA × KA) (r : Option (List RunT)) (At Aw : Option Addr) (nt ct cw : Nat) (tps : List Tp), y ≤ 3 ∧ i = .int .i64 (y : Int) ∧ (SlotOk p0 ∧ SlotOk p1 ∧ SlotOk p2) ∧ LW r (2 * j + 2 * y) ((((j + y) : Nat) : Int) * 200000000) ∧ (∃ rs, r = some rs) ∧ tps.length = nt ∧ nt ≤ 60 + y ∧ (∀ q ∈ tps, q.l.length ≤ 65536) ∧ St w [] wr (lay [.blk gx 61 [p0.1.v, p1.1.v, p2.1.v, p0.2.v, p1.2.v, p2.2.v, lptr gl, lptr gr, .slice At nt ct, .slice Aw nt cw], led (lptr gl) r, ledR (lptr gr) r, bigO slotO [p0, p1, p2], .row 27 1 (.slice At nt ct) nt (tps.map Tp.v), .row 27 1 (.slice Aw nt cw) nt (tps.map Tp.u), bigO Tp.own tps])) (fun i _ => 3 - (intOf i).toNat)
          case atStart => exact ⟨0, p0, p1, p2, some rs, At, Aw, q, ct, cw, tps, Nat.zero_le _, rfl, HOK.out, hg.more (by omega) (by omega), ⟨_, rfl⟩, HTN.out, by omega, HTL.out, H⟩
          case round =>
            clear H HOK HTN HTL hg x8
            obtain ⟨y, p0, p1, p2, r, At, Aw, nt, ct, cw, tps, hy, rfl, hok, hg, hrs, htn, hnt, htl, H⟩ := hrel
            by_cases hly : y < 3
            · have hyi : (y : Int) < 3 := by omega
              go_wp2_with fail
              refine (spAct_f gx (lptr gl) (lptr gr) r (2 * j + 2 * y) (((j + y : Nat) : Int) * 200000000) p0 p1 p2 At Aw nt ct cw tps (y : Int) 5 0 none 0 0 [] 0 0 hok hg (by omega) (by omega) hrs htn (by omega) htl (by omega) (by omega) Rd.none_ (by omega) H).mono ?_
              rintro e w10 ⟨q0, q1, q2, r2, At2, Aw2, nt2, ct2, cw2, tps2, rfl, hok2, hg2, hrs2, htn2, hnt2, htl2, H2⟩
              clear H
              go_wp2
              go_roundw
              case rel => exact ⟨y + 1, q0, q1, q2, r2, At2, Aw2, nt2, ct2, cw2, tps2, by omega, by go_num, hok2, hg2.more (by omega) (by omega), hrs2, htn2, by omega, htl2, H2⟩
              case measure => simp [intOf]; omega
            · obtain rfl : y = 3 := by omega
              obtain ⟨rs, rfl⟩ := hrs
              rw [show ((3 : Nat) : Int) = 3 from rfl]
              have HTL := Lib.hid htl
              have HTN := Lib.hid htn
              clear htl htn hok
              go_upto_region 27 with (fail)
              refine absorb_wp H ?_
              clear H
              intro w11 H
              replace H := H.drew
              have hX := H.blk 0 rfl
              refine wp_region_held_drew (S := fun w' : World => w'.heap[gx]? = some (.cells ([p0.1.v, p1.1.v, p2.1.v, p0.2.v, p1.2.v, p2.2.v, lptr gl, lptr gr, .slice At nt ct, .slice Aw nt cw] : List Value).toArray 61 (0, 0))) (by kernel_rfl) ?_ (fun hHeld => ?_)
              · exact hX
              refine takeV 0 rfl (by intro w h; clear h; go_simp; try with_reducible rfl) (by kernel_rfl) (by kernel_rfl) (by kernel_rfl) (by exact fun _ _ _ h => h) (by rfl) (by assumption) ?_
              try simp only [Act.put, List.setIfInBounds_toArray, List.set_cons_zero, List.set_cons_succ]
              refine takeV 1 rfl (by intro w h; clear h; go_simp; try with_reducible rfl) (by kernel_rfl) (by kernel_rfl) (by kernel_rfl) (by exact fun _ _ _ h => h) (by rfl) (by assumption) ?_
              try simp only [Act.put, List.setIfInBounds_toArray, List.set_cons_zero, List.set_cons_succ]
              refine takeV 2 rfl (by intro w h; clear h; go_simp; try with_reducible rfl) (by kernel_rfl) (by kernel_rfl) (by kernel_rfl) (by exact fun _ _ _ h => h) (by rfl) (by assumption) ?_
              try simp only [Act.put, List.setIfInBounds_toArray, List.set_cons_zero, List.set_cons_succ]
              refine takeV 3 rfl (by intro w h; have hc := hx_cell (o := 6) h rfl; clear h; go_simp; try with_reducible rfl) (by kernel_rfl) (by kernel_rfl) (by kernel_rfl) (by exact fun _ _ _ h => h) (by rfl) (by assumption) ?_
              try simp only [Act.put, List.setIfInBounds_toArray, List.set_cons_zero, List.set_cons_succ]
              refine takeV 5 rfl (by intro w h; clear h; go_simp; try with_reducible rfl) (by kernel_rfl) (by kernel_rfl) (by kernel_rfl) (by exact fun _ _ _ h => h) (by rfl) (by assumption) ?_
              try simp only [Act.put, List.setIfInBounds_toArray, List.set_cons_zero, List.set_cons_succ]
              refine takeV 6 rfl (by intro w h; clear h; go_simp; try with_reducible rfl) (by kernel_rfl) (by kernel_rfl) (by kernel_rfl) (by exact fun _ _ _ h => h) (by rfl) (by assumption) ?_
              try simp only [Act.put, List.setIfInBounds_toArray, List.set_cons_zero, List.set_cons_succ]
              refine takeV 7 rfl (by intro w h; clear h; go_simp; try with_reducible rfl) (by kernel_rfl) (by kernel_rfl) (by kernel_rfl) (by exact fun _ _ _ h => h) (by rfl) (by assumption) ?_
              try simp only [Act.put, List.setIfInBounds_toArray, List.set_cons_zero, List.set_cons_succ]
              refine takeV 8 rfl (by intro w h; have hc := hx_cell (o := 7) h rfl; clear h; go_simp; try with_reducible rfl) (by kernel_rfl) (by kernel_rfl) (by kernel_rfl) (by exact fun _ _ _ h => h) (by rfl) (by assumption) ?_
              try simp only [Act.put, List.setIfInBounds_toArray, List.set_cons_zero, List.set_cons_succ]
              refine take_call 4 rfl (by kernel_rfl) (fun K hK => ?_)
              try go_simp
              refine (ledger_runs_w (2 * j + 2 * 3) _ H 1 rfl hg (by omega) 7 rfl).mono ?_
              rintro e wx ⟨va, rfl, H1⟩
              clear H
              have H := H1.push_mk rfl
              clear H1
              obtain ⟨Aa, ca, rfl, -, -⟩ := row_shape (H.row 7 rfl)
              have hX2 := H.blk 0 rfl
              refine hK.out _ _ ?_ (fun hHeld => ?_)
              · exact hX2
              clear hK K
              try simp only [Act.put, List.setIfInBounds_toArray, List.set_cons_zero, List.set_cons_succ]
              refine take_call 9 rfl (by kernel_rfl) (fun K hK => ?_)
              try go_simp
              refine (refRuns_w (2 * j + 2 * 3) _ H 2 rfl hg (by omega) 8 rfl).mono ?_
              rintro e wx ⟨vd, rfl, H1⟩
              clear H
              have H := H1.push_mk rfl
              clear H1
              obtain ⟨Ad, cd, rfl, -, -⟩ := row_shape (H.row 8 rfl)
              have hX3 := H.blk 0 rfl
              refine hK.out _ _ ?_ (fun hHeld => ?_)
              · exact hX3
              clear hK K
              try simp only [Act.put, List.setIfInBounds_toArray, List.set_cons_zero, List.set_cons_succ]
              refine take_call 10 rfl (by kernel_rfl) (fun K hK => ?_)
              try go_simp
              have hrl : rs.length ≤ 1000 := by have h := (hg rs rfl).2.1; omega
              refine (sameRuns_any Aa Ad ca cd rs rs (H.rd 7 rfl) (H.rd 8 rfl) (by omega) (by omega)).mono ?_
              rintro e wh ⟨rfl, kd, rfl⟩
              replace H := (H.drewN kd).front 7
              rw [decide_eq_true rfl]
              replace H : St w [] _ (lay [.blk gx 61 [p0.1.v, p1.1.v, p2.1.v, p0.2.v, p1.2.v, p2.2.v, lptr gl, lptr gr, .slice At nt ct, .slice Aw nt cw], led (lptr gl) (some rs), ledR (lptr gr) (some rs), bigO slotO [p0, p1, p2], .row 27 1 (.slice At nt ct) nt (tps.map Tp.v), .row 27 1 (.slice Aw nt cw) nt (tps.map Tp.u), bigO Tp.own tps]) := H
              have hX4 := H.blk 0 rfl
              refine hK.out _ _ ?_ (fun hHeld => ?_)
              · exact hX4
              clear hK K
              try simp only [Act.put, List.setIfInBounds_toArray, List.set_cons_zero, List.set_cons_succ]
              refine takeV 11 rfl (by intro w h; clear h; go_simp; try with_reducible rfl) (by kernel_rfl) (by kernel_rfl) (by kernel_rfl) (by exact fun _ _ _ h => h) (by rfl) (by assumption) ?_
              try simp only [Act.put, List.setIfInBounds_toArray, List.set_cons_zero, List.set_cons_succ]
              refine takeV 12 rfl (by intro w h; clear h; go_simp; try with_reducible rfl) (by kernel_rfl) (by kernel_rfl) (by kernel_rfl) (by exact fun _ _ _ h => h) (by rfl) (by assumption) ?_
              try simp only [Act.put, List.setIfInBounds_toArray, List.set_cons_zero, List.set_cons_succ]
              refine takeV 13 rfl (by intro w h; clear h; go_simp; try with_reducible rfl) (by kernel_rfl) (by kernel_rfl) (by kernel_rfl) (by exact fun _ _ _ h => h) (by rfl) (by assumption) ?_
              try simp only [Act.put, List.setIfInBounds_toArray, List.set_cons_zero, List.set_cons_succ]
              refine takeV 14 rfl (by intro w h; clear h; go_simp; try with_reducible rfl) (by kernel_rfl) (by kernel_rfl) (by kernel_rfl) (by exact fun _ _ _ h => h) (by rfl) (by assumption) ?_
              try simp only [Act.put, List.setIfInBounds_toArray, List.set_cons_zero, List.set_cons_succ]
              refine takeV 15 rfl (by intro w h; have hc := hx_cell (o := 8) h rfl; clear h; go_simp; try with_reducible rfl) (by kernel_rfl) (by kernel_rfl) (by kernel_rfl) (by exact fun _ _ _ h => h) (by rfl) (by assumption) ?_
              try simp only [Act.put, List.setIfInBounds_toArray, List.set_cons_zero, List.set_cons_succ]
              refine take_call 16 rfl (by kernel_rfl) (fun K hK => ?_)
              try go_simp
              refine (apart_keep H 6 4 tps At nt ct rfl rfl HTN.out (by omega) gx _ 61 (by decide) (by decide) (H.blk 0 rfl) (fun p hp => by have := HTL.out p hp; omega)).mono ?_
              rintro e wz ⟨rfl, hbz, hX5⟩
              refine hK.out _ _ ?_ (fun hHeld => ?_)
              · exact hX5
              clear hK K
              try simp only [Act.put, List.setIfInBounds_toArray, List.set_cons_zero, List.set_cons_succ]
              refine takeV 17 rfl (by intro w h; clear h; go_simp; try with_reducible rfl) (by kernel_rfl) (by kernel_rfl) (by kernel_rfl) (by exact fun _ _ _ h => h) (by rfl) (by assumption) ?_
              try simp only [Act.put, List.setIfInBounds_toArray, List.set_cons_zero, List.set_cons_succ]
              refine takeV 18 rfl (by intro w h; clear h; go_simp; try with_reducible rfl) (by kernel_rfl) (by kernel_rfl) (by kernel_rfl) (by exact fun _ _ _ h => h) (by rfl) (by assumption) ?_
              try simp only [Act.put, List.setIfInBounds_toArray, List.set_cons_zero, List.set_cons_succ]
              refine wpAnyH_done (by kernel_rfl) ?_ _
              go_wp2
              go_ret
              exact ⟨rfl, hbz⟩
end Go.Proofs.Ytgjlclihgpahbaa
