/- Texts of this claim, merged: OpN, OpR, OpD, Heap, Apart, Held, KitO, OpL, LawOReads. -/
import Derived.Deep.Cut
import Derived.Test.YtgfhnbjpdhdhgaaRows
import Derived.Deep.RegionHeld3
import Derived.StillTail
import Derived.Test.YtgfhnbjpdhdhgaaMgA
set_option linter.unusedVariables false

namespace Go.Proofs.Ytgfhnbjpdhdhgaa
open Go.RowKit
set_option linter.unusedVariables false

/-- n bytes from a on -/
def fld (l : List UInt8) (a n : Nat) : List UInt8 := (l.drop a).take n
theorem fld_length (l : List UInt8) (a n : Nat) (h : a + n ≤ l.length) : (fld l a n).length = n := by simp [fld]; omega
theorem Rd.fld {w : World} {b o n : Nat} {l : List UInt8} (h : Rd w 1 (some ⟨b, o, none⟩) n (l.map vb)) (a m : Nat) (hm : a + m ≤ n) {A : Option Addr} (hA : A = some ⟨b, o + a, none⟩) : Rd w 1 A m ((fld l a m).map vb) := by
  have hl : l.length = n := by simpa using h.1
  refine ⟨by simp [Go.Proofs.Ytgfhnbjpdhdhgaa.fld]; omega, fun hn => ⟨_, hA, ?_, fun j u hu => ?_⟩⟩
  · obtain ⟨ad, e, hb, -⟩ := h.2 (by omega)
    injection e with e; subst e; exact hb
  · obtain ⟨ad, e, -, hc⟩ := h.2 (by omega)
    injection e with e; subst e
    have hj : j < ((Go.Proofs.Ytgfhnbjpdhdhgaa.fld l a m).map vb).length := (List.getElem?_eq_some_iff.1 hu).1
    have hj2 : j < m := by simp [Go.Proofs.Ytgfhnbjpdhdhgaa.fld] at hj; omega
    have h2 := hc (a + j) u (by
      rw [← hu]
      simp [Go.Proofs.Ytgfhnbjpdhdhgaa.fld, List.getElem?_drop, hj2])
    rw [Addr.add_mid] at h2 ⊢
    rw [Nat.add_assoc]; exact h2

theorem Rd.fld_if {w : World} {b o n : Nat} {l : List UInt8} (h : Rd w 1 (some ⟨b, o, none⟩) n (l.map vb)) (a m c : Nat) (hm : a + m ≤ n) (hc : n ≤ c) : Rd w 1 (if c = a then some ⟨b, o, none⟩ else some ⟨b, o + a, none⟩) m ((Go.Proofs.Ytgfhnbjpdhdhgaa.fld l a m).map vb) := by
  by_cases hca : c = a
  · obtain rfl : m = 0 := by omega
    exact ⟨by simp [Go.Proofs.Ytgfhnbjpdhdhgaa.fld], fun h => by omega⟩
  · exact h.fld a m hm (by rw [if_neg hca])
/-- a word of 64 bits as a whole number -/
def i64N (x : Nat) : Int := IntKind.i64.wrap (x : Int)
def Held (p : Prop) : Prop := p
theorem hold_here {p : Prop} (h : Held p) : p := h
theorem Held.go {p : Prop} (h : p) : Held p := h
structure NextR where
  k : UInt8
  h : Int
  a : UInt8
  c : Int
  o : Int
  d : List UInt8
  m : List UInt8
  N : Nat
  e : Int
def noNext : NextR := ⟨0, 0, 0, 0, 0, [], [], 0, 300⟩
def nD (l : List UInt8) : Nat := tk (fld l 26 3)
def nM (l : List UInt8) : Nat := tk (fld l 29 3)
def nextR (l : List UInt8) : NextR :=
  if 32 ≤ l.length ∧ 32 + nD l + nM l ≤ l.length then
    ⟨l.getD 0 0, i64N (tk (fld l 2 8)), l.getD 1 0, i64N (tk (fld l 10 8)), i64N (tk (fld l 18 8)), fld l 32 (nD l), fld l (32 + nD l) (nM l), 32 + nD l + nM l, 0⟩
  else noNext
def decR (l : List UInt8) : NextR := if (nextR l).e = 0 ∧ (nextR l).N = l.length then nextR l else noNext

theorem results_cell2 {P : Program} {fn : Func} {p q r : Tmp} {ty : TypeId} (h : fn.results = #[.cell p ty, .tmp q, .tmp r]) (tmps : Array Value) (w : World) (g : Nat) (t : TypeId) (cs : Array Value) (fr : Nat × Nat) (d : TypeDesc)
    (hp : tmps.getD p undef = .pointer (some ⟨g, 0, none⟩)) (hg : w.heap[g]? = some (.cells cs t fr))
    (hu : P.underlying ty = some d) (hd : (match d with | .struct _ | .array _ _ => true | _ => false) = true) (hi : (P.info? ty).map (·.size) = some cs.size) :
    (results fn tmps).run P w = .ok (.tuple #[.agg cs, tmps.getD q undef, tmps.getD r undef]) w := by
  have hp' : tmps[p]?.getD undef = .pointer (some ⟨g, 0, none⟩) := by simpa using hp
  simp [results, h, hp', asAddr, run_loadVar_row w g t ty cs fr d hg hu hd hi, Result.andThen]
theorem results_cell1 {P : Program} {fn : Func} {p q : Tmp} {ty : TypeId} (h : fn.results = #[.cell p ty, .tmp q]) (tmps : Array Value) (w : World) (g : Nat) (t : TypeId) (cs : Array Value) (fr : Nat × Nat) (d : TypeDesc)
    (hp : tmps.getD p undef = .pointer (some ⟨g, 0, none⟩)) (hg : w.heap[g]? = some (.cells cs t fr))
    (hu : P.underlying ty = some d) (hd : (match d with | .struct _ | .array _ _ => true | _ => false) = true) (hi : (P.info? ty).map (·.size) = some cs.size) :
    (results fn tmps).run P w = .ok (.tuple #[.agg cs, tmps.getD q undef]) w := by
  have hp' : tmps[p]?.getD undef = .pointer (some ⟨g, 0, none⟩) := by simpa using hp
  simp [results, h, hp', asAddr, run_loadVar_row w g t ty cs fr d hg hu hd hi, Result.andThen]
theorem op_size : (Try.prog.info? 31).map (·.size) = some 7 := by kernel_rfl

theorem rd_getD {w : World} {b o n : Nat} {l : List UInt8} (h : Rd w 1 (some ⟨b, o, none⟩) n (l.map vb)) (hl : l.length = n) (k : Nat) (hk : k < n) : w.cell? ⟨b, o + k, none⟩ = some (vb (l.getD k 0)) := by
  obtain ⟨ad, e, -, hc⟩ := h.2 (by omega)
  injection e with e; subst e
  have := hc k (vb (l.getD k 0)) (by rw [List.getElem?_map, List.getD_eq_getElem?_getD, List.getElem?_eq_getElem (by omega)]; rfl)
  rwa [Addr.add_mid] at this
theorem absorb_post {Q : Exit → Act → World → Prop} {a : Act} {w0 w : World} {F0 : List Nat} {E : Env} (H : St w0 F0 w E) (h : ∀ w', St w0 F0 w' E → Q .normal a w') : Q .normal a w := h w H
theorem Rd.zero {w : World} {A : Option Addr} {m : Nat} (h : m = 0) : Rd w 1 A m (([] : List UInt8).map vb) := ⟨by simp [h], fun h' => by omega⟩
theorem St.shape_row {w0 w : World} {F0 : List Nat} {L : List Own} {e : TypeId} {v : Value} {n n' : Nat} {xs xs' : List Value} (H : St w0 F0 w (lay L)) (k : Nat) (hk : L[k]? = some (.row e 1 v n xs)) (hn : n = n') (hx : xs = xs') : St w0 F0 w (lay (L.set k (.row e 1 v n' xs'))) := by
  subst hn hx
  have h := List.getElem?_eq_some_iff.1 hk
  obtain ⟨h1, h2⟩ := h
  rw [← h2, List.set_getElem_self]
  exact H
/-- what a call of Next tells -/
def NextP (l : List UInt8) (w : World) (e : Ending) (w' : World) : Prop :=
  ∃ v5 v6, e = .returned (.tuple #[opV (nextR l).k (nextR l).h (nextR l).a (nextR l).c (nextR l).o v5 v6, .int .i64 ((nextR l).N : Int), .int .i64 (nextR l).e]) ∧
    St w [] w' (lay [.row 5 1 v5 (nextR l).d.length ((nextR l).d.map vb), .row 5 1 v6 (nextR l).m.length ((nextR l).m.map vb)])
theorem NextP.no {l : List UInt8} {w w' : World} (h : nextR l = noNext) (hb : Below w.heap.size w w') : NextP l w (.returned (.tuple #[opV 0 0 0 0 0 (.slice none 0 0) (.slice none 0 0), .int .i64 0, .int .i64 300])) w' := by
  refine ⟨.slice none 0 0, .slice none 0 0, by rw [h]; rfl, ?_⟩
  rw [h]
  exact ((((St.start_lay w []).call hb).nilRow 0 rfl _ _).push_mk rfl |>.nilRow 1 rfl _ _).push_mk rfl
theorem NextP.ok {l : List UInt8} {w w' : World} {v5 v6 : Value} {n5 n6 N : Nat} {x5 x6 : List Value} (h : 32 ≤ l.length ∧ 32 + nD l + nM l ≤ l.length) (H : St w [] w' (lay [.row 5 1 v5 n5 x5, .row 5 1 v6 n6 x6])) (h5 : n5 = nD l) (h6 : n6 = nM l) (hx5 : x5 = (fld l 32 (nD l)).map vb) (hx6 : x6 = (fld l (32 + nD l) (nM l)).map vb) (hN : N = 32 + nD l + nM l) :
    NextP l w (.returned (.tuple #[opV (l.getD 0 0) (i64N (tk (fld l 2 8))) (l.getD 1 0) (i64N (tk (fld l 10 8))) (i64N (tk (fld l 18 8))) v5 v6, .int .i64 (N : Int), .int .i64 0])) w' := by
  have hr : nextR l = ⟨l.getD 0 0, i64N (tk (fld l 2 8)), l.getD 1 0, i64N (tk (fld l 10 8)), i64N (tk (fld l 18 8)), fld l 32 (nD l), fld l (32 + nD l) (nM l), 32 + nD l + nM l, 0⟩ := by unfold nextR; rw [if_pos h]
  refine ⟨v5, v6, by rw [hr]; subst hN; rfl, ?_⟩
  rw [hr]
  simp only
  rw [fld_length _ _ _ (by omega), fld_length _ _ _ (by omega), ← h5, ← h6]
  rw [← h5] at hx5 hx6
  rw [← h6] at hx6
  rw [← hx5, ← hx6]
  exact H

set_option maxHeartbeats 1000000 in
theorem next_s (A : Option Addr) (n c : Nat) (l : List UInt8) (w : World) (hR : Rd w 1 A n (l.map vb)) (hc : n ≤ c) (hn : n ≤ 140737488351232) :
    Calls Try.prog 22 #[.slice A n c] w (NextP l w) := by
  have hl : l.length = n := by simpa using hR.1
  by_cases h32 : 32 ≤ n
  · obtain ⟨b, o, rfl, -, -⟩ := hR.flat (by omega) (by omega)
    have hdm1 : ((nD l : Nat) : Int) ≤ 16777215 := by have := tk_lt (fld l 26 3); rw [fld_length _ _ _ (by omega)] at this; unfold nD; omega
    have hdm2 : ((nM l : Nat) : Int) ≤ 16777215 := by have := tk_lt (fld l 29 3); rw [fld_length _ _ _ (by omega)] at this; unfold nM; omega
    have hok : (32 ≤ l.length ∧ 32 + nD l + nM l ≤ l.length) ↔ 32 + nD l + nM l ≤ n := by omega
    have HOK := Lib.hid hok
    clear hok
    have HL := Lib.hid hl
    clear hl
    have G := Lib.hid (fun (a m c' : Nat) (w' : World) (ha : a + m ≤ n) (hm : m ≤ 8) (h' : Rd w' 1 (some ⟨b, o, none⟩) n (l.map vb)) => taken_s (some ⟨b, o + a, none⟩) m c' _ w' (h'.fld a m ha rfl) hm)
    have k29 : (29 : Int) ≤ c := by omega
    have k32 : (32 : Int) ≤ c := by omega
    have q26 : ¬ c = 26 := by omega
    have q29 : ¬ c = 29 := by omega
    go_enter Try.func22, Try.ntmps22
    go_wp2_with fail
    refine absorb_wp (St.start_lay w [] |>.allocAt 0 rfl w.heap.size rfl _ _ |>.push_mk rfl) ?_
    intro w1 H
    generalize hga : w.heap.size = ga at H ⊢
    clear hga
    have hr1 := H.arg0 hR
    go_quiet ((go_at_call 57; exact quiet_left (G.out _ _ _ _ (by omega) (by omega) (hr1.drewN _))))
    replace H := H.drewN nq
    generalize w1.drewN nq = w2 at H ⊢
    change Hid ((32 ≤ l.length ∧ 32 + tk (fld l 26 3) + tk (fld l 29 3) ≤ l.length) ↔ 32 + tk (fld l 26 3) + tk (fld l 29 3) ≤ n) at HOK
    change ((tk (fld l 26 3) : Nat) : Int) ≤ 16777215 at hdm1
    change ((tk (fld l 29 3) : Nat) : Int) ≤ 16777215 at hdm2
    generalize hD : tk (fld l 26 3) = D at hdm1 HOK ⊢
    generalize hM : tk (fld l 29 3) = M at hdm2 HOK ⊢
    have HD := Lib.hid hD
    have HM := Lib.hid hM
    clear hD hM
    have w1' : wrap64 (D : Int) = D := IntWalk.wrap64_in _ (by omega)
    have w2' : wrap64 (M : Int) = M := IntWalk.wrap64_in _ (by omega)
    rw [w1', w2']
    clear w1' w2'
    by_cases hend : 32 + D + M ≤ n
    · have hend' : ¬ (n : Int) < 32 + D + M := by omega
      go_wp2_with fail
      have hrA := H.arg0 hR
      have hr1 : Rd w2.drew 1 (some ⟨b, o, none⟩) n (l.map vb) := hrA
      have hr2 : ∀ x : Obj, Rd (w2.alloc x).drew 1 (some ⟨b, o, none⟩) n (l.map vb) := fun x => (hrA.below ((Below.refl _ _).alloc (Nat.le_refl _) x)).drew_
      have c0 : w2.drew.cell? ⟨b, o, none⟩ = some (vb (l.getD 0 0)) := rd_getD hr1 HL.out 0 (by omega)
      have c1 : w2.drew.cell? ⟨b, o + 1, none⟩ = some (vb (l.getD 1 0)) := rd_getD hr1 HL.out 1 (by omega)
      have c2 : ∀ x : Obj, (w2.alloc x).drew.cell? ⟨b, o, none⟩ = some (vb (l.getD 0 0)) ∧ (w2.alloc x).drew.cell? ⟨b, o + 1, none⟩ = some (vb (l.getD 1 0)) := fun x => ⟨rd_getD (hr2 x) HL.out 0 (by omega), rd_getD (hr2 x) HL.out 1 (by omega)⟩
      have C2 := Lib.hid c2
      have R2 := Lib.hid hr2
      clear c2 hr2 k29 k32 q26 q29 hrA
      obtain ⟨b0, B0⟩ : ∃ x, Hid (l.getD 0 0 = x) := ⟨_, rfl⟩
      obtain ⟨b1, B1⟩ : ∃ x, Hid (l.getD 1 0 = x) := ⟨_, rfl⟩
      rw [B0.out] at c0 C2
      rw [B1.out] at c1 C2
      obtain ⟨x2, X2⟩ : ∃ x, Hid (IntKind.i64.wrap ((tk (fld l 2 8) : Nat) : Int) = x) := ⟨_, rfl⟩
      obtain ⟨x10, X10⟩ : ∃ x, Hid (IntKind.i64.wrap ((tk (fld l 10 8) : Nat) : Int) = x) := ⟨_, rfl⟩
      obtain ⟨x18, X18⟩ : ∃ x, Hid (IntKind.i64.wrap ((tk (fld l 18 8) : Nat) : Int) = x) := ⟨_, rfl⟩
      go_cut [8] from 30 (fun v wr => ∃ gb, v = .pointer (some ⟨gb, 0, none⟩) ∧ St w [] wr (lay [.blk ga 31 [.int .u8 0, .int .i64 0, .int .u8 0, .int .i64 0, .int .i64 0, .slice none 0 0, .slice none 0 0], .blk gb 31 [.int .u8 (b0.toNat : Int), .int .i64 x2, .int .u8 (b1.toNat : Int), .int .i64 x10, .int .i64 x18, .slice none 0 0, .slice none 0 0]]))
      case first =>
        obtain rfl := X2.out
        obtain rfl := X10.out
        obtain rfl := X18.out
        have k0 : (0 : Int) < n := by omega
        have k0' : 0 < n := by omega
        have k1 : (1 : Int) < n := by omega
        have k10 : (10 : Int) ≤ c := by omega
        have k18 : (18 : Int) ≤ c := by omega
        have k26 : (26 : Int) ≤ c := by omega
        have q2 : ¬ c = 2 := by omega
        have q10 : ¬ c = 10 := by omega
        have q18 : ¬ c = 18 := by omega
        go_region_held3 (fun w' => w'.cell? ⟨b, o, none⟩ = some (vb b0) ∧ w'.cell? ⟨b, o + 1, none⟩ = some (vb b1)) (first | with_reducible exact ⟨c0, c1⟩ | with_reducible exact C2.out _) ((go_at_call 57; refine (G.out _ _ _ _ ?_ ?_ ?_).mono ?_; (omega); (omega); (first | with_reducible exact hr1 | with_reducible exact R2.out _); rintro e w9 ⟨rfl, rfl⟩))
        all_goals
          go_wp2
          go_meet
          exact ⟨w2.heap.size, rfl, ((H.allocAt 1 rfl w2.heap.size rfl _ _).push_mk rfl).drew⟩
      case rest =>
        clear C2 R2 c0 c1 hr1 H
        obtain ⟨gb, rfl, H5⟩ := hcut
        have kc : (32 : Int) + D ≤ c := by omega
        have ke : (32 : Int) + D + M ≤ c := by omega
        obtain ⟨i0, hi0, hz0, hz1, hz2⟩ := info_parts u8_info
        by_cases q32 : c = 32
        · have qt : (c = 32) = True := eq_true q32
          have qu : (c = 32 + D) = True := eq_true (by omega)
          have QQ := Lib.hid q32
          clear q32
          go_wp2_with (at_builtin; refine hold_here ?_)
          refine Held.go ?_
          have H6 := (H5.lit 2 rfl 5 #[] 0 rfl (by omega) wc.heap.size rfl).push_mk rfl
          have hr6 := H6.row 2 rfl
          refine wpList_append_any _ rfl (.tmp 49) (.tmp 53) _ rfl 0 5 i0 (.int .u8 0) 1 1 Try.underlying25 hi0 hz0 hz1 hz2 rfl (by omega) (.slice (some ⟨wc.heap.size, 0, none⟩) 0 0) 0 [] rfl hr6 _ _ _ (([] : List UInt8).map vb) rfl (Rd.zero ?hz8) (vb_one _) ?b18 ?b28 (by omega) ?_
          case hz8 => have := QQ.out; omega
          case b18 => simp only [maxLen]; omega
          case b28 => omega
          intro v8 wx hownx hgx hatx
          refine absorb_list ((H6.grow 2 rfl hownx hgx hatx).upd_mk (by simp)) ?_
          clear hr6 H6 hownx hgx hatx H5
          intro w8 H8
          replace H8 := St.shape_row H8 2 rfl (n' := D) (xs' := (fld l 32 D).map vb) (by first | omega | (have := QQ.out; omega)) (by first | (simp [fld]; done) | (simp [fld]; have := QQ.out; omega))
          obtain ⟨A8, c8, rfl, -⟩ := row_form (H8.row 2 rfl)
          have f5 := H8.cell 1 rfl (o := 5) rfl
          have g5 := H8.free 1 rfl 5
          have f6 := H8.cell 1 rfl (o := 6) rfl
          have g6 := H8.free 1 rfl 6
          go_wp2_with (at_builtin; refine hold_here ?_)
          refine Held.go ?_
          replace H8 := (H8.store 1 rfl (o := 5) (u := .slice A8 D c8)).upd_mk (by simp)
          have H6 := (H8.lit 3 rfl 5 #[] 0 rfl (by omega) w8.heap.size (by simp [World.setCell])).push_mk rfl
          have hr6 := H6.row 3 rfl
          refine wpList_append_any _ rfl (.tmp 56) (.tmp 61) _ rfl 0 5 i0 (.int .u8 0) 1 1 Try.underlying25 hi0 hz0 hz1 hz2 rfl (by omega) (.slice (some ⟨w8.heap.size, 0, none⟩) 0 0) 0 [] rfl hr6 _ _ _ (([] : List UInt8).map vb) rfl (Rd.zero ?hz9) (vb_one _) ?b19 ?b29 (by omega) ?_
          case hz9 => have := QQ.out; omega
          case b19 => simp only [maxLen]; omega
          case b29 => omega
          intro v9 wx hownx hgx hatx
          refine absorb_list ((H6.grow 3 rfl hownx hgx hatx).upd_mk (by simp)) ?_
          clear hr6 H6 hownx hgx hatx H8
          intro w9 H9
          replace H9 := St.shape_row H9 3 rfl (n' := M) (xs' := (fld l (32 + D) M).map vb) (by first | omega | (have := QQ.out; omega)) (by first | (simp [fld]; done) | (simp [fld]; have := QQ.out; omega))
          obtain ⟨A9, c9, rfl, -⟩ := row_form (H9.row 3 rfl)
          have f5 := H9.cell 1 rfl (o := 5) rfl
          have g5 := H9.free 1 rfl 5
          have f6 := H9.cell 1 rfl (o := 6) rfl
          have g6 := H9.free 1 rfl 6
          have HX : St w [] (w9.setCell ⟨gb, 6, none⟩ (.slice A9 M c9)) (lay [.blk ga 31 [.int .u8 0, .int .i64 0, .int .u8 0, .int .i64 0, .int .i64 0, .slice none 0 0, .slice none 0 0], .blk gb 31 [.int .u8 (b0.toNat : Int), .int .i64 x2, .int .u8 (b1.toNat : Int), .int .i64 x10, .int .i64 x18, .slice A8 D c8, .slice A9 M c9], .row 5 1 (.slice A8 D c8) D ((fld l 32 D).map vb), .row 5 1 (.slice A9 M c9) M ((fld l (32 + D) M).map vb)]) := (H9.store 1 rfl (o := 6) (u := .slice A9 M c9)).upd_mk (by simp)
          have hb := HX.blk 1 rfl
          have ht := HX.there 0 rfl
          go_wp2_with (first | (refine wpList_load_row rfl 31 (.tmp 8) rfl gb rfl _ _ _ _ hb Try.underlying31 rfl op_size ?_) | (refine wpList_store_mid rfl 31 (.tmp 2) (.tmp 64) rfl ga 0 (List.toArray [.int .u8 (b0.toNat : Int), .int .i64 x2, .int .u8 (b1.toNat : Int), .int .i64 x10, .int .i64 x18, .slice A8 D c8, .slice A9 M c9]) rfl rfl ht op_size (all_oneCell_toArray (by simp [Value.oneCell'])) ?_))
          have HY : St w [] ((w9.setCell ⟨gb, 6, none⟩ (.slice A9 M c9)).setCells ga 0 [.int .u8 (b0.toNat : Int), .int .i64 x2, .int .u8 (b1.toNat : Int), .int .i64 x10, .int .i64 x18, .slice A8 D c8, .slice A9 M c9]) (lay [.blk ga 31 [.int .u8 (b0.toNat : Int), .int .i64 x2, .int .u8 (b1.toNat : Int), .int .i64 x10, .int .i64 x18, .slice A8 D c8, .slice A9 M c9], .blk gb 31 [.int .u8 (b0.toNat : Int), .int .i64 x2, .int .u8 (b1.toNat : Int), .int .i64 x10, .int .i64 x18, .slice A8 D c8, .slice A9 M c9], .row 5 1 (.slice A8 D c8) D ((fld l 32 D).map vb), .row 5 1 (.slice A9 M c9) M ((fld l (32 + D) M).map vb)]) := (HX.storeAll 0 rfl (vs := [.int .u8 (b0.toNat : Int), .int .i64 x2, .int .u8 (b1.toNat : Int), .int .i64 x10, .int .i64 x18, .slice A8 D c8, .slice A9 M c9]) rfl).upd_mk (by simp)
          refine bodyPost_ret (results_cell2 rfl _ _ ga 31 _ _ _ rfl (HY.blk 0 rfl) Try.underlying31 rfl op_size) rfl ?_
          have hP := NextP.ok (w := w) (N := 32 + D + M) (by unfold nD nM; rw [HD.out, HM.out]; exact HOK.out.2 hend) (HY.pick (E' := lay [.row 5 1 (.slice A8 D c8) D ((fld l 32 D).map vb), .row 5 1 (.slice A9 M c9) M ((fld l (32 + D) M).map vb)]) (fun k => k + 2) (fun i j h => by omega) (fun k A hA => hA)) HD.out.symm HM.out.symm (by rw [nD, HD.out]) (by rw [nD, nM, HD.out, HM.out]) (by rw [nD, nM, HD.out, HM.out])
          rw [B0.out, B1.out] at hP
          rw [show i64N (tk (fld l 2 8)) = x2 from X2.out, show i64N (tk (fld l 10 8)) = x10 from X10.out, show i64N (tk (fld l 18 8)) = x18 from X18.out] at hP
          exact hP
        · by_cases qD : c = 32 + D
          · have qu : (c = 32 + D) = True := eq_true qD
            have QQ := Lib.hid qD
            clear qD
            go_wp2_with (at_builtin; refine hold_here ?_)
            refine Held.go ?_
            have H6 := (H5.lit 2 rfl 5 #[] 0 rfl (by omega) wc.heap.size rfl).push_mk rfl
            have hr6 := H6.row 2 rfl
            have hra : Rd (wc.alloc (.cells #[] 5)) 1 (some ⟨b, o + 32, none⟩) (32 + D - 32) ((fld l 32 (32 + D - 32)).map vb) := (H6.arg0 hR).fld 32 (32 + D - 32) (by omega) rfl
            refine wpList_append_any _ rfl (.tmp 49) (.tmp 53) _ rfl 0 5 i0 (.int .u8 0) 1 1 Try.underlying25 hi0 hz0 hz1 hz2 rfl (by omega) (.slice (some ⟨wc.heap.size, 0, none⟩) 0 0) 0 [] rfl hr6 (some ⟨b, o + 32, none⟩) (32 + D - 32) (c - 32) _ rfl hra (vb_one _) ?b18 ?b28 (by omega) ?_
            case b18 => simp only [maxLen]; omega
            case b28 => omega
            intro v8 wx hownx hgx hatx
            refine absorb_list ((H6.grow 2 rfl hownx hgx hatx).upd_mk (by simp)) ?_
            clear hr6 H6 hra hownx hgx hatx H5
            intro w8 H8
            replace H8 := St.shape_row H8 2 rfl (n' := D) (xs' := (fld l 32 D).map vb) (by first | omega | (have := QQ.out; omega)) (by first | (simp [fld]; done) | (simp [fld]; have := QQ.out; omega))
            obtain ⟨A8, c8, rfl, -⟩ := row_form (H8.row 2 rfl)
            have f5 := H8.cell 1 rfl (o := 5) rfl
            have g5 := H8.free 1 rfl 5
            have f6 := H8.cell 1 rfl (o := 6) rfl
            have g6 := H8.free 1 rfl 6
            go_wp2_with (at_builtin; refine hold_here ?_)
            refine Held.go ?_
            replace H8 := (H8.store 1 rfl (o := 5) (u := .slice A8 D c8)).upd_mk (by simp)
            have H6 := (H8.lit 3 rfl 5 #[] 0 rfl (by omega) w8.heap.size (by simp [World.setCell])).push_mk rfl
            have hr6 := H6.row 3 rfl
            refine wpList_append_any _ rfl (.tmp 56) (.tmp 61) _ rfl 0 5 i0 (.int .u8 0) 1 1 Try.underlying25 hi0 hz0 hz1 hz2 rfl (by omega) (.slice (some ⟨w8.heap.size, 0, none⟩) 0 0) 0 [] rfl hr6 _ _ _ (([] : List UInt8).map vb) rfl (Rd.zero ?hz9) (vb_one _) ?b19 ?b29 (by omega) ?_
            case hz9 => have := QQ.out; omega
            case b19 => simp only [maxLen]; omega
            case b29 => omega
            intro v9 wx hownx hgx hatx
            refine absorb_list ((H6.grow 3 rfl hownx hgx hatx).upd_mk (by simp)) ?_
            clear hr6 H6 hownx hgx hatx H8
            intro w9 H9
            replace H9 := St.shape_row H9 3 rfl (n' := M) (xs' := (fld l (32 + D) M).map vb) (by first | omega | (have := QQ.out; omega)) (by first | (simp [fld]; done) | (simp [fld]; have := QQ.out; omega))
            obtain ⟨A9, c9, rfl, -⟩ := row_form (H9.row 3 rfl)
            have f5 := H9.cell 1 rfl (o := 5) rfl
            have g5 := H9.free 1 rfl 5
            have f6 := H9.cell 1 rfl (o := 6) rfl
            have g6 := H9.free 1 rfl 6
            have HX : St w [] (w9.setCell ⟨gb, 6, none⟩ (.slice A9 M c9)) (lay [.blk ga 31 [.int .u8 0, .int .i64 0, .int .u8 0, .int .i64 0, .int .i64 0, .slice none 0 0, .slice none 0 0], .blk gb 31 [.int .u8 (b0.toNat : Int), .int .i64 x2, .int .u8 (b1.toNat : Int), .int .i64 x10, .int .i64 x18, .slice A8 D c8, .slice A9 M c9], .row 5 1 (.slice A8 D c8) D ((fld l 32 D).map vb), .row 5 1 (.slice A9 M c9) M ((fld l (32 + D) M).map vb)]) := (H9.store 1 rfl (o := 6) (u := .slice A9 M c9)).upd_mk (by simp)
            have hb := HX.blk 1 rfl
            have ht := HX.there 0 rfl
            go_wp2_with (first | (refine wpList_load_row rfl 31 (.tmp 8) rfl gb rfl _ _ _ _ hb Try.underlying31 rfl op_size ?_) | (refine wpList_store_mid rfl 31 (.tmp 2) (.tmp 64) rfl ga 0 (List.toArray [.int .u8 (b0.toNat : Int), .int .i64 x2, .int .u8 (b1.toNat : Int), .int .i64 x10, .int .i64 x18, .slice A8 D c8, .slice A9 M c9]) rfl rfl ht op_size (all_oneCell_toArray (by simp [Value.oneCell'])) ?_))
            have HY : St w [] ((w9.setCell ⟨gb, 6, none⟩ (.slice A9 M c9)).setCells ga 0 [.int .u8 (b0.toNat : Int), .int .i64 x2, .int .u8 (b1.toNat : Int), .int .i64 x10, .int .i64 x18, .slice A8 D c8, .slice A9 M c9]) (lay [.blk ga 31 [.int .u8 (b0.toNat : Int), .int .i64 x2, .int .u8 (b1.toNat : Int), .int .i64 x10, .int .i64 x18, .slice A8 D c8, .slice A9 M c9], .blk gb 31 [.int .u8 (b0.toNat : Int), .int .i64 x2, .int .u8 (b1.toNat : Int), .int .i64 x10, .int .i64 x18, .slice A8 D c8, .slice A9 M c9], .row 5 1 (.slice A8 D c8) D ((fld l 32 D).map vb), .row 5 1 (.slice A9 M c9) M ((fld l (32 + D) M).map vb)]) := (HX.storeAll 0 rfl (vs := [.int .u8 (b0.toNat : Int), .int .i64 x2, .int .u8 (b1.toNat : Int), .int .i64 x10, .int .i64 x18, .slice A8 D c8, .slice A9 M c9]) rfl).upd_mk (by simp)
            refine bodyPost_ret (results_cell2 rfl _ _ ga 31 _ _ _ rfl (HY.blk 0 rfl) Try.underlying31 rfl op_size) rfl ?_
            have hP := NextP.ok (w := w) (N := 32 + D + M) (by unfold nD nM; rw [HD.out, HM.out]; exact HOK.out.2 hend) (HY.pick (E' := lay [.row 5 1 (.slice A8 D c8) D ((fld l 32 D).map vb), .row 5 1 (.slice A9 M c9) M ((fld l (32 + D) M).map vb)]) (fun k => k + 2) (fun i j h => by omega) (fun k A hA => hA)) HD.out.symm HM.out.symm (by rw [nD, HD.out]) (by rw [nD, nM, HD.out, HM.out]) (by rw [nD, nM, HD.out, HM.out])
            rw [B0.out, B1.out] at hP
            rw [show i64N (tk (fld l 2 8)) = x2 from X2.out, show i64N (tk (fld l 10 8)) = x10 from X10.out, show i64N (tk (fld l 18 8)) = x18 from X18.out] at hP
            exact hP
          · skip
            go_wp2_with (at_builtin; refine hold_here ?_)
            refine Held.go ?_
            have H6 := (H5.lit 2 rfl 5 #[] 0 rfl (by omega) wc.heap.size rfl).push_mk rfl
            have hr6 := H6.row 2 rfl
            have hra : Rd (wc.alloc (.cells #[] 5)) 1 (some ⟨b, o + 32, none⟩) (32 + D - 32) ((fld l 32 (32 + D - 32)).map vb) := (H6.arg0 hR).fld 32 (32 + D - 32) (by omega) rfl
            refine wpList_append_any _ rfl (.tmp 49) (.tmp 53) _ rfl 0 5 i0 (.int .u8 0) 1 1 Try.underlying25 hi0 hz0 hz1 hz2 rfl (by omega) (.slice (some ⟨wc.heap.size, 0, none⟩) 0 0) 0 [] rfl hr6 (some ⟨b, o + 32, none⟩) (32 + D - 32) (c - 32) _ rfl hra (vb_one _) ?b18 ?b28 (by omega) ?_
            case b18 => simp only [maxLen]; omega
            case b28 => omega
            intro v8 wx hownx hgx hatx
            refine absorb_list ((H6.grow 2 rfl hownx hgx hatx).upd_mk (by simp)) ?_
            clear hr6 H6 hra hownx hgx hatx H5
            intro w8 H8
            replace H8 := St.shape_row H8 2 rfl (n' := D) (xs' := (fld l 32 D).map vb) (by first | omega | (have := QQ.out; omega)) (by first | (simp [fld]; done) | (simp [fld]; have := QQ.out; omega))
            obtain ⟨A8, c8, rfl, -⟩ := row_form (H8.row 2 rfl)
            have f5 := H8.cell 1 rfl (o := 5) rfl
            have g5 := H8.free 1 rfl 5
            have f6 := H8.cell 1 rfl (o := 6) rfl
            have g6 := H8.free 1 rfl 6
            go_wp2_with (at_builtin; refine hold_here ?_)
            refine Held.go ?_
            replace H8 := (H8.store 1 rfl (o := 5) (u := .slice A8 D c8)).upd_mk (by simp)
            have H6 := (H8.lit 3 rfl 5 #[] 0 rfl (by omega) w8.heap.size (by simp [World.setCell])).push_mk rfl
            have hr6 := H6.row 3 rfl
            have hra : Rd ((w8.setCell ⟨gb, 5, none⟩ (.slice A8 D c8)).alloc (.cells #[] 5)) 1 (some ⟨b, o + (32 + D), none⟩) M ((fld l (32 + D) M).map vb) := (H6.arg0 hR).fld (32 + D) M (by omega) rfl
            refine wpList_append_any _ rfl (.tmp 56) (.tmp 61) _ rfl 0 5 i0 (.int .u8 0) 1 1 Try.underlying25 hi0 hz0 hz1 hz2 rfl (by omega) (.slice (some ⟨w8.heap.size, 0, none⟩) 0 0) 0 [] rfl hr6 (some ⟨b, o + (32 + D), none⟩) M (c - (32 + D)) _ rfl hra (vb_one _) ?b19 ?b29 (by omega) ?_
            case b19 => simp only [maxLen]; omega
            case b29 => omega
            intro v9 wx hownx hgx hatx
            refine absorb_list ((H6.grow 3 rfl hownx hgx hatx).upd_mk (by simp)) ?_
            clear hr6 H6 hra hownx hgx hatx H8
            intro w9 H9
            replace H9 := St.shape_row H9 3 rfl (n' := M) (xs' := (fld l (32 + D) M).map vb) (by first | omega | (have := QQ.out; omega)) (by first | (simp [fld]; done) | (simp [fld]; have := QQ.out; omega))
            obtain ⟨A9, c9, rfl, -⟩ := row_form (H9.row 3 rfl)
            have f5 := H9.cell 1 rfl (o := 5) rfl
            have g5 := H9.free 1 rfl 5
            have f6 := H9.cell 1 rfl (o := 6) rfl
            have g6 := H9.free 1 rfl 6
            have HX : St w [] (w9.setCell ⟨gb, 6, none⟩ (.slice A9 M c9)) (lay [.blk ga 31 [.int .u8 0, .int .i64 0, .int .u8 0, .int .i64 0, .int .i64 0, .slice none 0 0, .slice none 0 0], .blk gb 31 [.int .u8 (b0.toNat : Int), .int .i64 x2, .int .u8 (b1.toNat : Int), .int .i64 x10, .int .i64 x18, .slice A8 D c8, .slice A9 M c9], .row 5 1 (.slice A8 D c8) D ((fld l 32 D).map vb), .row 5 1 (.slice A9 M c9) M ((fld l (32 + D) M).map vb)]) := (H9.store 1 rfl (o := 6) (u := .slice A9 M c9)).upd_mk (by simp)
            have hb := HX.blk 1 rfl
            have ht := HX.there 0 rfl
            go_wp2_with (first | (refine wpList_load_row rfl 31 (.tmp 8) rfl gb rfl _ _ _ _ hb Try.underlying31 rfl op_size ?_) | (refine wpList_store_mid rfl 31 (.tmp 2) (.tmp 64) rfl ga 0 (List.toArray [.int .u8 (b0.toNat : Int), .int .i64 x2, .int .u8 (b1.toNat : Int), .int .i64 x10, .int .i64 x18, .slice A8 D c8, .slice A9 M c9]) rfl rfl ht op_size (all_oneCell_toArray (by simp [Value.oneCell'])) ?_))
            have HY : St w [] ((w9.setCell ⟨gb, 6, none⟩ (.slice A9 M c9)).setCells ga 0 [.int .u8 (b0.toNat : Int), .int .i64 x2, .int .u8 (b1.toNat : Int), .int .i64 x10, .int .i64 x18, .slice A8 D c8, .slice A9 M c9]) (lay [.blk ga 31 [.int .u8 (b0.toNat : Int), .int .i64 x2, .int .u8 (b1.toNat : Int), .int .i64 x10, .int .i64 x18, .slice A8 D c8, .slice A9 M c9], .blk gb 31 [.int .u8 (b0.toNat : Int), .int .i64 x2, .int .u8 (b1.toNat : Int), .int .i64 x10, .int .i64 x18, .slice A8 D c8, .slice A9 M c9], .row 5 1 (.slice A8 D c8) D ((fld l 32 D).map vb), .row 5 1 (.slice A9 M c9) M ((fld l (32 + D) M).map vb)]) := (HX.storeAll 0 rfl (vs := [.int .u8 (b0.toNat : Int), .int .i64 x2, .int .u8 (b1.toNat : Int), .int .i64 x10, .int .i64 x18, .slice A8 D c8, .slice A9 M c9]) rfl).upd_mk (by simp)
            refine bodyPost_ret (results_cell2 rfl _ _ ga 31 _ _ _ rfl (HY.blk 0 rfl) Try.underlying31 rfl op_size) rfl ?_
            have hP := NextP.ok (w := w) (N := 32 + D + M) (by unfold nD nM; rw [HD.out, HM.out]; exact HOK.out.2 hend) (HY.pick (E' := lay [.row 5 1 (.slice A8 D c8) D ((fld l 32 D).map vb), .row 5 1 (.slice A9 M c9) M ((fld l (32 + D) M).map vb)]) (fun k => k + 2) (fun i j h => by omega) (fun k A hA => hA)) HD.out.symm HM.out.symm (by rw [nD, HD.out]) (by rw [nD, nM, HD.out, HM.out]) (by rw [nD, nM, HD.out, HM.out])
            rw [B0.out, B1.out] at hP
            rw [show i64N (tk (fld l 2 8)) = x2 from X2.out, show i64N (tk (fld l 10 8)) = x10 from X10.out, show i64N (tk (fld l 18 8)) = x18 from X18.out] at hP
            exact hP
    · have hend' : (n : Int) < 32 + D + M := by omega
      go_wp2_with (refine wpList_store_mid rfl 31 (.tmp 2) (.tmp 29) rfl ga 0 _ rfl rfl (H.there 0 rfl) op_size (by simp [Value.oneCell']) ?_)
      have H4 := (H.storeAll 0 rfl (vs := [.int .u8 0, .int .i64 0, .int .u8 0, .int .i64 0, .int .i64 0, .slice none 0 0, .slice none 0 0]) rfl).upd_mk (by simp)
      refine bodyPost_ret (results_cell2 rfl _ _ ga 31 _ _ _ rfl (H4.blk 0 rfl) Try.underlying31 rfl op_size) rfl (NextP.no ?_ H4.below)
      have h2 := HOK.out
      rw [← HD.out, ← HM.out] at h2 hend
      unfold nextR nD nM
      rw [if_neg (fun h3 => hend (h2.1 h3))]
  · have HL := Lib.hid hl
    clear hl
    have h32' : (n : Int) < 32 := by omega
    go_enter Try.func22, Try.ntmps22
    go_wp2_with fail
    refine bodyPost_ret (results_cell2 rfl _ _ w.heap.size 31 #[.int .u8 0, .int .i64 0, .int .u8 0, .int .i64 0, .int .i64 0, .slice none 0 0, .slice none 0 0] _ _ rfl (heap_alloc_new _ _) Try.underlying31 rfl op_size) rfl (NextP.no ?_ ((Below.refl _ _).alloc (Nat.le_refl _) _))
    unfold nextR
    rw [if_neg (by rw [HL.out]; omega)]
end Go.Proofs.Ytgfhnbjpdhdhgaa

namespace Go.Proofs.Ytgfhnbjpdhdhgaa
open Go.RowKit
set_option linter.unusedVariables false

theorem Rd.fld2 {w : World} {b o n : Nat} {l : List UInt8} (h : Rd w 1 (some ⟨b, o, none⟩) n (l.map vb)) (a m m' : Nat) (hm : a + m ≤ n) (he : m' = m) {A : Option Addr} (hA : A = some ⟨b, o + a, none⟩) : Rd w 1 A m' ((Go.Proofs.Ytgfhnbjpdhdhgaa.fld l a m).map vb) := by
  subst he; exact h.fld a m' hm hA
theorem Rd.zero2 {w : World} {A : Option Addr} {a m m' : Nat} {l : List UInt8} (h : m' = 0) (he : m = 0) : Rd w 1 A m' ((Go.Proofs.Ytgfhnbjpdhdhgaa.fld l a m).map vb) := by
  subst h he
  exact ⟨by simp [Go.Proofs.Ytgfhnbjpdhdhgaa.fld], fun h' => by omega⟩

set_option maxHeartbeats 400000 in
theorem refCopied_any (A : Option Addr) (n c : Nat) (l : List UInt8) (w : World) (h : Rd w 1 A n (l.map vb)) (hn : n ≤ 140737488355328) :
    Calls Try.prog 59 #[.slice A n c] w fun e w' => ∃ v, e = .returned v ∧ OwnB w' w.heap.size v l ∧ Below w.heap.size w w' := by
  obtain ⟨i0, hi0, hz0, hz1, hz2⟩ := info_parts u8_info
  have hl : n = l.length := by simpa using h.1.symm
  subst hl
  go_enter Try.func59, Try.ntmps59
  go_wp2_with (at_builtin; refine wpList_append_any _ rfl (.tmp 4) (.tmp 5) _ rfl w.heap.size 5 i0 _ 1 1 Try.underlying25 hi0 hz0 hz1 hz2 rfl (by omega) (.slice none 0 0) 0 [] rfl ⟨by simp, .inl ⟨rfl, rfl⟩⟩ A l.length c (l.map vb) rfl h (vb_one _) (by simp only [maxLen]; omega) (by omega) (Nat.le_refl _) ?_; intro v1 w1 hown1 hg1 hat1; have hbw1 : Below w.heap.size w w1 := (Below.refl _ _).grown hg1 (Nat.le_refl _) (by simp [Value.ownBlock]))
  go_ret
  exact ⟨v1, rfl, by simpa [OwnB] using hown1, hbw1⟩

set_option maxHeartbeats 4000000 in
theorem refNext_s (A : Option Addr) (n c : Nat) (l : List UInt8) (w : World) (hR : Rd w 1 A n (l.map vb)) (hc : n ≤ c) (hn : n ≤ 140737488351232) :
    Calls Try.prog 24 #[.slice A n c] w (NextP l w) := by
  have hl : l.length = n := by simpa using hR.1
  by_cases h32 : 32 ≤ n
  · obtain ⟨b, o, rfl, -, -⟩ := hR.flat (by omega) (by omega)
    have hdm1 : ((nD l : Nat) : Int) ≤ 16777215 := by have := tk_lt (fld l 26 3); rw [fld_length _ _ _ (by omega)] at this; unfold nD; omega
    have hdm2 : ((nM l : Nat) : Int) ≤ 16777215 := by have := tk_lt (fld l 29 3); rw [fld_length _ _ _ (by omega)] at this; unfold nM; omega
    have hok : (32 ≤ l.length ∧ 32 + nD l + nM l ≤ l.length) ↔ 32 + nD l + nM l ≤ n := by omega
    have HOK := Lib.hid hok
    clear hok
    have HL := Lib.hid hl
    clear hl
    have G := Lib.hid (fun (a m c' : Nat) (w' : World) (ha : a + m ≤ n) (hm : m ≤ 8) (h' : Rd w' 1 (some ⟨b, o, none⟩) n (l.map vb)) => refTaken_s (some ⟨b, o + a, none⟩) m c' _ w' (h'.fld a m ha rfl) hm)
    have g1 : ∀ (c' : Nat) (w' : World), Rd w' 1 (some ⟨b, o, none⟩) n (l.map vb) → Calls Try.prog 58 #[.slice (some ⟨b, o + 26, none⟩) 3 c'] w' fun e w'' => e = .returned (.int .u64 (nD l : Nat)) ∧ w' = w'' := fun c' w' h' => G.out 26 3 c' w' (by omega) (by omega) h'
    have g2 : ∀ (c' : Nat) (w' : World), Rd w' 1 (some ⟨b, o, none⟩) n (l.map vb) → Calls Try.prog 58 #[.slice (some ⟨b, o + 29, none⟩) 3 c'] w' fun e w'' => e = .returned (.int .u64 (nM l : Nat)) ∧ w' = w'' := fun c' w' h' => G.out 29 3 c' w' (by omega) (by omega) h'
    have G1 := Lib.hid g1
    have G2 := Lib.hid g2
    clear g1 g2
    obtain ⟨D, HD⟩ : ∃ D, Hid (nD l = D) := ⟨_, rfl⟩
    obtain ⟨M, HM⟩ : ∃ M, Hid (nM l = M) := ⟨_, rfl⟩
    rw [HD.out] at hdm1 G1 HOK
    rw [HM.out] at hdm2 G2 HOK
    have k29 : (29 : Int) ≤ c := by omega
    have k32 : (32 : Int) ≤ c := by omega
    have q26 : ¬ c = 26 := by omega
    have q29 : ¬ c = 29 := by omega
    go_enter Try.func24, Try.ntmps24
    go_wp2_with fail
    refine absorb_calls (St.start_lay w [] |>.allocAt 0 rfl w.heap.size rfl _ _ |>.push_mk rfl) ?_
    intro w2 H
    generalize hga : w.heap.size = ga at H ⊢
    clear hga
    have hrA := H.arg0 hR
    refine (G1.out _ _ hrA).mono ?_
    rintro e wx ⟨rfl, rfl⟩
    go_wp2_with fail
    refine (G2.out _ _ hrA).mono ?_
    rintro e wx ⟨rfl, rfl⟩
    by_cases hend : 32 + D + M ≤ n
    · have hend' : ¬ (n : Int) < 32 + D + M := by omega
      go_wp2_with fail
      have hr1 : Rd w2.drew 1 (some ⟨b, o, none⟩) n (l.map vb) := hrA
      have hr2 : ∀ x : Obj, Rd (w2.alloc x).drew 1 (some ⟨b, o, none⟩) n (l.map vb) := fun x => (hrA.below ((Below.refl _ _).alloc (Nat.le_refl _) x)).drew_
      have c0 : w2.drew.cell? ⟨b, o, none⟩ = some (vb (l.getD 0 0)) := rd_getD hr1 HL.out 0 (by omega)
      have c1 : w2.drew.cell? ⟨b, o + 1, none⟩ = some (vb (l.getD 1 0)) := rd_getD hr1 HL.out 1 (by omega)
      have c2 : ∀ x : Obj, (w2.alloc x).drew.cell? ⟨b, o, none⟩ = some (vb (l.getD 0 0)) ∧ (w2.alloc x).drew.cell? ⟨b, o + 1, none⟩ = some (vb (l.getD 1 0)) := fun x => ⟨rd_getD (hr2 x) HL.out 0 (by omega), rd_getD (hr2 x) HL.out 1 (by omega)⟩
      have C2 := Lib.hid c2
      have R2 := Lib.hid hr2
      clear c2 hr2 k29 k32 q26 q29 hrA
      obtain ⟨b0, B0⟩ : ∃ x, Hid (l.getD 0 0 = x) := ⟨_, rfl⟩
      obtain ⟨b1, B1⟩ : ∃ x, Hid (l.getD 1 0 = x) := ⟨_, rfl⟩
      rw [B0.out] at c0 C2
      rw [B1.out] at c1 C2
      obtain ⟨x2, X2⟩ : ∃ x, Hid (IntKind.i64.wrap ((tk (fld l 2 8) : Nat) : Int) = x) := ⟨_, rfl⟩
      obtain ⟨x10, X10⟩ : ∃ x, Hid (IntKind.i64.wrap ((tk (fld l 10 8) : Nat) : Int) = x) := ⟨_, rfl⟩
      obtain ⟨x18, X18⟩ : ∃ x, Hid (IntKind.i64.wrap ((tk (fld l 18 8) : Nat) : Int) = x) := ⟨_, rfl⟩
      go_cut [7] from 28 (fun v wr => ∃ gb, v = .pointer (some ⟨gb, 0, none⟩) ∧ St w [] wr (lay [.blk ga 31 [.int .u8 0, .int .i64 0, .int .u8 0, .int .i64 0, .int .i64 0, .slice none 0 0, .slice none 0 0], .blk gb 31 [.int .u8 (b0.toNat : Int), .int .i64 x2, .int .u8 (b1.toNat : Int), .int .i64 x10, .int .i64 x18, .slice none 0 0, .slice none 0 0]]))
      case first =>
        obtain rfl := X2.out
        obtain rfl := X10.out
        obtain rfl := X18.out
        have k0 : (0 : Int) < n := by omega
        have k0' : 0 < n := by omega
        have k1 : (1 : Int) < n := by omega
        have k10 : (10 : Int) ≤ c := by omega
        have k18 : (18 : Int) ≤ c := by omega
        have k26 : (26 : Int) ≤ c := by omega
        have q2 : ¬ c = 2 := by omega
        have q10 : ¬ c = 10 := by omega
        have q18 : ¬ c = 18 := by omega
        go_region_held3 (fun w' => w'.cell? ⟨b, o, none⟩ = some (vb b0) ∧ w'.cell? ⟨b, o + 1, none⟩ = some (vb b1)) (first | with_reducible exact ⟨c0, c1⟩ | with_reducible exact C2.out _) ((go_at_call 58; refine (G.out _ _ _ _ ?_ ?_ ?_).mono ?_; (omega); (omega); (first | with_reducible exact hr1 | with_reducible exact R2.out _); rintro e w9 ⟨rfl, rfl⟩))
        all_goals
          go_wp2
          go_meet
          exact ⟨w2.heap.size, rfl, ((H.allocAt 1 rfl w2.heap.size rfl _ _).push_mk rfl).drew⟩
      case rest =>
        clear C2 R2 c0 c1 hr1 H
        obtain ⟨gb, rfl, H5⟩ := hcut
        have kc : (32 : Int) + D ≤ c := by omega
        have ke : (32 : Int) + D + M ≤ c := by omega
        by_cases q32 : c = 32
        · have qt : (c = 32) = True := eq_true q32
          have qu : (c = 32 + D) = True := eq_true (by omega)
          have QQ := Lib.hid q32
          clear q32
          go_wp2_with fail
          any_goals (first | (exfalso; have := QQ.out; omega) | skip)
          refine (refCopied_any _ _ _ (fld l (32) D) _ ?hr8 (by omega)).mono ?_
          case hr8 => exact Rd.zero2 (by have := QQ.out; omega) (by have := QQ.out; omega)
          rintro e wx ⟨v8, rfl, hox, hbx⟩
          have H8 := (H5.pushOwnB 2 rfl hox hbx).push_mk rfl
          replace H8 := St.shape_row H8 2 rfl (n' := D) (fld_length _ _ _ (by have := HL.out; omega)) rfl
          clear hox hbx H5
          obtain ⟨A8, c8, rfl, -⟩ := row_form (H8.row 2 rfl)
          have f5 := H8.cell 1 rfl (o := 5) rfl
          have g5 := H8.free 1 rfl 5
          have f6 := H8.cell 1 rfl (o := 6) rfl
          have g6 := H8.free 1 rfl 6
          go_wp2_with fail
          any_goals (first | (exfalso; have := QQ.out; omega) | skip)
          replace H8 := (H8.store 1 rfl (o := 5) (u := .slice A8 D c8)).upd_mk (by simp)
          refine (refCopied_any _ _ _ (fld l (32 + D) M) _ ?hr9 (by omega)).mono ?_
          case hr9 => exact Rd.zero2 (by have := QQ.out; omega) (by have := QQ.out; omega)
          rintro e wx ⟨v9, rfl, hox, hbx⟩
          have H9 := (H8.pushOwnB 3 rfl hox hbx).push_mk rfl
          replace H9 := St.shape_row H9 3 rfl (n' := M) (fld_length _ _ _ (by have := HL.out; omega)) rfl
          clear hox hbx H8
          obtain ⟨A9, c9, rfl, -⟩ := row_form (H9.row 3 rfl)
          have f5 := H9.cell 1 rfl (o := 5) rfl
          have g5 := H9.free 1 rfl 5
          have f6 := H9.cell 1 rfl (o := 6) rfl
          have g6 := H9.free 1 rfl 6
          have HX : St w [] (wx.setCell ⟨gb, 6, none⟩ (.slice A9 M c9)) (lay [.blk ga 31 [.int .u8 0, .int .i64 0, .int .u8 0, .int .i64 0, .int .i64 0, .slice none 0 0, .slice none 0 0], .blk gb 31 [.int .u8 (b0.toNat : Int), .int .i64 x2, .int .u8 (b1.toNat : Int), .int .i64 x10, .int .i64 x18, .slice A8 D c8, .slice A9 M c9], .row 5 1 (.slice A8 D c8) D ((fld l 32 D).map vb), .row 5 1 (.slice A9 M c9) M ((fld l (32 + D) M).map vb)]) := (H9.store 1 rfl (o := 6) (u := .slice A9 M c9)).upd_mk (by simp)
          have hb := HX.blk 1 rfl
          have ht := HX.there 0 rfl
          go_wp2_with (first | (refine wpList_load_row rfl 31 (.tmp 7) rfl gb rfl _ _ _ _ hb Try.underlying31 rfl op_size ?_) | (refine wpList_store_mid rfl 31 (.tmp 2) (.tmp 63) rfl ga 0 (List.toArray [.int .u8 (b0.toNat : Int), .int .i64 x2, .int .u8 (b1.toNat : Int), .int .i64 x10, .int .i64 x18, .slice A8 D c8, .slice A9 M c9]) rfl rfl ht op_size (all_oneCell_toArray (by simp [Value.oneCell'])) ?_))
          have HY : St w [] ((wx.setCell ⟨gb, 6, none⟩ (.slice A9 M c9)).setCells ga 0 [.int .u8 (b0.toNat : Int), .int .i64 x2, .int .u8 (b1.toNat : Int), .int .i64 x10, .int .i64 x18, .slice A8 D c8, .slice A9 M c9]) (lay [.blk ga 31 [.int .u8 (b0.toNat : Int), .int .i64 x2, .int .u8 (b1.toNat : Int), .int .i64 x10, .int .i64 x18, .slice A8 D c8, .slice A9 M c9], .blk gb 31 [.int .u8 (b0.toNat : Int), .int .i64 x2, .int .u8 (b1.toNat : Int), .int .i64 x10, .int .i64 x18, .slice A8 D c8, .slice A9 M c9], .row 5 1 (.slice A8 D c8) D ((fld l 32 D).map vb), .row 5 1 (.slice A9 M c9) M ((fld l (32 + D) M).map vb)]) := (HX.storeAll 0 rfl (vs := [.int .u8 (b0.toNat : Int), .int .i64 x2, .int .u8 (b1.toNat : Int), .int .i64 x10, .int .i64 x18, .slice A8 D c8, .slice A9 M c9]) rfl).upd_mk (by simp)
          refine bodyPost_ret (results_cell2 rfl _ _ ga 31 _ _ _ rfl (HY.blk 0 rfl) Try.underlying31 rfl op_size) rfl ?_
          have hP := NextP.ok (w := w) (N := 32 + D + M) (by rw [HD.out, HM.out]; exact HOK.out.2 hend) (HY.pick (E' := lay [.row 5 1 (.slice A8 D c8) D ((fld l 32 D).map vb), .row 5 1 (.slice A9 M c9) M ((fld l (32 + D) M).map vb)]) (fun k => k + 2) (fun i j h => by omega) (fun k A hA => hA)) HD.out.symm HM.out.symm (by rw [HD.out]) (by rw [HD.out, HM.out]) (by rw [HD.out, HM.out])
          rw [B0.out, B1.out] at hP
          rw [show i64N (tk (fld l 2 8)) = x2 from X2.out, show i64N (tk (fld l 10 8)) = x10 from X10.out, show i64N (tk (fld l 18 8)) = x18 from X18.out] at hP
          exact hP
        · by_cases qD : c = 32 + D
          · have qu : (c = 32 + D) = True := eq_true qD
            have QQ := Lib.hid qD
            clear qD
            go_wp2_with fail
            any_goals (first | (exfalso; have := QQ.out; omega) | skip)
            refine (refCopied_any _ _ _ (fld l (32) D) _ ?hr8 (by omega)).mono ?_
            case hr8 => exact (H5.arg0 hR).fld2 (32) D _ (by omega) (by omega) rfl
            rintro e wx ⟨v8, rfl, hox, hbx⟩
            have H8 := (H5.pushOwnB 2 rfl hox hbx).push_mk rfl
            replace H8 := St.shape_row H8 2 rfl (n' := D) (fld_length _ _ _ (by have := HL.out; omega)) rfl
            clear hox hbx H5
            obtain ⟨A8, c8, rfl, -⟩ := row_form (H8.row 2 rfl)
            have f5 := H8.cell 1 rfl (o := 5) rfl
            have g5 := H8.free 1 rfl 5
            have f6 := H8.cell 1 rfl (o := 6) rfl
            have g6 := H8.free 1 rfl 6
            go_wp2_with fail
            any_goals (first | (exfalso; have := QQ.out; omega) | skip)
            replace H8 := (H8.store 1 rfl (o := 5) (u := .slice A8 D c8)).upd_mk (by simp)
            refine (refCopied_any _ _ _ (fld l (32 + D) M) _ ?hr9 (by omega)).mono ?_
            case hr9 => exact Rd.zero2 (by have := QQ.out; omega) (by have := QQ.out; omega)
            rintro e wx ⟨v9, rfl, hox, hbx⟩
            have H9 := (H8.pushOwnB 3 rfl hox hbx).push_mk rfl
            replace H9 := St.shape_row H9 3 rfl (n' := M) (fld_length _ _ _ (by have := HL.out; omega)) rfl
            clear hox hbx H8
            obtain ⟨A9, c9, rfl, -⟩ := row_form (H9.row 3 rfl)
            have f5 := H9.cell 1 rfl (o := 5) rfl
            have g5 := H9.free 1 rfl 5
            have f6 := H9.cell 1 rfl (o := 6) rfl
            have g6 := H9.free 1 rfl 6
            have HX : St w [] (wx.setCell ⟨gb, 6, none⟩ (.slice A9 M c9)) (lay [.blk ga 31 [.int .u8 0, .int .i64 0, .int .u8 0, .int .i64 0, .int .i64 0, .slice none 0 0, .slice none 0 0], .blk gb 31 [.int .u8 (b0.toNat : Int), .int .i64 x2, .int .u8 (b1.toNat : Int), .int .i64 x10, .int .i64 x18, .slice A8 D c8, .slice A9 M c9], .row 5 1 (.slice A8 D c8) D ((fld l 32 D).map vb), .row 5 1 (.slice A9 M c9) M ((fld l (32 + D) M).map vb)]) := (H9.store 1 rfl (o := 6) (u := .slice A9 M c9)).upd_mk (by simp)
            have hb := HX.blk 1 rfl
            have ht := HX.there 0 rfl
            go_wp2_with (first | (refine wpList_load_row rfl 31 (.tmp 7) rfl gb rfl _ _ _ _ hb Try.underlying31 rfl op_size ?_) | (refine wpList_store_mid rfl 31 (.tmp 2) (.tmp 63) rfl ga 0 (List.toArray [.int .u8 (b0.toNat : Int), .int .i64 x2, .int .u8 (b1.toNat : Int), .int .i64 x10, .int .i64 x18, .slice A8 D c8, .slice A9 M c9]) rfl rfl ht op_size (all_oneCell_toArray (by simp [Value.oneCell'])) ?_))
            have HY : St w [] ((wx.setCell ⟨gb, 6, none⟩ (.slice A9 M c9)).setCells ga 0 [.int .u8 (b0.toNat : Int), .int .i64 x2, .int .u8 (b1.toNat : Int), .int .i64 x10, .int .i64 x18, .slice A8 D c8, .slice A9 M c9]) (lay [.blk ga 31 [.int .u8 (b0.toNat : Int), .int .i64 x2, .int .u8 (b1.toNat : Int), .int .i64 x10, .int .i64 x18, .slice A8 D c8, .slice A9 M c9], .blk gb 31 [.int .u8 (b0.toNat : Int), .int .i64 x2, .int .u8 (b1.toNat : Int), .int .i64 x10, .int .i64 x18, .slice A8 D c8, .slice A9 M c9], .row 5 1 (.slice A8 D c8) D ((fld l 32 D).map vb), .row 5 1 (.slice A9 M c9) M ((fld l (32 + D) M).map vb)]) := (HX.storeAll 0 rfl (vs := [.int .u8 (b0.toNat : Int), .int .i64 x2, .int .u8 (b1.toNat : Int), .int .i64 x10, .int .i64 x18, .slice A8 D c8, .slice A9 M c9]) rfl).upd_mk (by simp)
            refine bodyPost_ret (results_cell2 rfl _ _ ga 31 _ _ _ rfl (HY.blk 0 rfl) Try.underlying31 rfl op_size) rfl ?_
            have hP := NextP.ok (w := w) (N := 32 + D + M) (by rw [HD.out, HM.out]; exact HOK.out.2 hend) (HY.pick (E' := lay [.row 5 1 (.slice A8 D c8) D ((fld l 32 D).map vb), .row 5 1 (.slice A9 M c9) M ((fld l (32 + D) M).map vb)]) (fun k => k + 2) (fun i j h => by omega) (fun k A hA => hA)) HD.out.symm HM.out.symm (by rw [HD.out]) (by rw [HD.out, HM.out]) (by rw [HD.out, HM.out])
            rw [B0.out, B1.out] at hP
            rw [show i64N (tk (fld l 2 8)) = x2 from X2.out, show i64N (tk (fld l 10 8)) = x10 from X10.out, show i64N (tk (fld l 18 8)) = x18 from X18.out] at hP
            exact hP
          · skip
            go_wp2_with fail
            any_goals (first | (exfalso; have := QQ.out; omega) | skip)
            refine (refCopied_any _ _ _ (fld l (32) D) _ ?hr8 (by omega)).mono ?_
            case hr8 => exact (H5.arg0 hR).fld2 (32) D _ (by omega) (by omega) rfl
            rintro e wx ⟨v8, rfl, hox, hbx⟩
            have H8 := (H5.pushOwnB 2 rfl hox hbx).push_mk rfl
            replace H8 := St.shape_row H8 2 rfl (n' := D) (fld_length _ _ _ (by have := HL.out; omega)) rfl
            clear hox hbx H5
            obtain ⟨A8, c8, rfl, -⟩ := row_form (H8.row 2 rfl)
            have f5 := H8.cell 1 rfl (o := 5) rfl
            have g5 := H8.free 1 rfl 5
            have f6 := H8.cell 1 rfl (o := 6) rfl
            have g6 := H8.free 1 rfl 6
            go_wp2_with fail
            any_goals (first | (exfalso; have := QQ.out; omega) | skip)
            replace H8 := (H8.store 1 rfl (o := 5) (u := .slice A8 D c8)).upd_mk (by simp)
            refine (refCopied_any _ _ _ (fld l (32 + D) M) _ ?hr9 (by omega)).mono ?_
            case hr9 => exact (H8.arg0 hR).fld2 (32 + D) M _ (by omega) (by omega) rfl
            rintro e wx ⟨v9, rfl, hox, hbx⟩
            have H9 := (H8.pushOwnB 3 rfl hox hbx).push_mk rfl
            replace H9 := St.shape_row H9 3 rfl (n' := M) (fld_length _ _ _ (by have := HL.out; omega)) rfl
            clear hox hbx H8
            obtain ⟨A9, c9, rfl, -⟩ := row_form (H9.row 3 rfl)
            have f5 := H9.cell 1 rfl (o := 5) rfl
            have g5 := H9.free 1 rfl 5
            have f6 := H9.cell 1 rfl (o := 6) rfl
            have g6 := H9.free 1 rfl 6
            have HX : St w [] (wx.setCell ⟨gb, 6, none⟩ (.slice A9 M c9)) (lay [.blk ga 31 [.int .u8 0, .int .i64 0, .int .u8 0, .int .i64 0, .int .i64 0, .slice none 0 0, .slice none 0 0], .blk gb 31 [.int .u8 (b0.toNat : Int), .int .i64 x2, .int .u8 (b1.toNat : Int), .int .i64 x10, .int .i64 x18, .slice A8 D c8, .slice A9 M c9], .row 5 1 (.slice A8 D c8) D ((fld l 32 D).map vb), .row 5 1 (.slice A9 M c9) M ((fld l (32 + D) M).map vb)]) := (H9.store 1 rfl (o := 6) (u := .slice A9 M c9)).upd_mk (by simp)
            have hb := HX.blk 1 rfl
            have ht := HX.there 0 rfl
            go_wp2_with (first | (refine wpList_load_row rfl 31 (.tmp 7) rfl gb rfl _ _ _ _ hb Try.underlying31 rfl op_size ?_) | (refine wpList_store_mid rfl 31 (.tmp 2) (.tmp 63) rfl ga 0 (List.toArray [.int .u8 (b0.toNat : Int), .int .i64 x2, .int .u8 (b1.toNat : Int), .int .i64 x10, .int .i64 x18, .slice A8 D c8, .slice A9 M c9]) rfl rfl ht op_size (all_oneCell_toArray (by simp [Value.oneCell'])) ?_))
            have HY : St w [] ((wx.setCell ⟨gb, 6, none⟩ (.slice A9 M c9)).setCells ga 0 [.int .u8 (b0.toNat : Int), .int .i64 x2, .int .u8 (b1.toNat : Int), .int .i64 x10, .int .i64 x18, .slice A8 D c8, .slice A9 M c9]) (lay [.blk ga 31 [.int .u8 (b0.toNat : Int), .int .i64 x2, .int .u8 (b1.toNat : Int), .int .i64 x10, .int .i64 x18, .slice A8 D c8, .slice A9 M c9], .blk gb 31 [.int .u8 (b0.toNat : Int), .int .i64 x2, .int .u8 (b1.toNat : Int), .int .i64 x10, .int .i64 x18, .slice A8 D c8, .slice A9 M c9], .row 5 1 (.slice A8 D c8) D ((fld l 32 D).map vb), .row 5 1 (.slice A9 M c9) M ((fld l (32 + D) M).map vb)]) := (HX.storeAll 0 rfl (vs := [.int .u8 (b0.toNat : Int), .int .i64 x2, .int .u8 (b1.toNat : Int), .int .i64 x10, .int .i64 x18, .slice A8 D c8, .slice A9 M c9]) rfl).upd_mk (by simp)
            refine bodyPost_ret (results_cell2 rfl _ _ ga 31 _ _ _ rfl (HY.blk 0 rfl) Try.underlying31 rfl op_size) rfl ?_
            have hP := NextP.ok (w := w) (N := 32 + D + M) (by rw [HD.out, HM.out]; exact HOK.out.2 hend) (HY.pick (E' := lay [.row 5 1 (.slice A8 D c8) D ((fld l 32 D).map vb), .row 5 1 (.slice A9 M c9) M ((fld l (32 + D) M).map vb)]) (fun k => k + 2) (fun i j h => by omega) (fun k A hA => hA)) HD.out.symm HM.out.symm (by rw [HD.out]) (by rw [HD.out, HM.out]) (by rw [HD.out, HM.out])
            rw [B0.out, B1.out] at hP
            rw [show i64N (tk (fld l 2 8)) = x2 from X2.out, show i64N (tk (fld l 10 8)) = x10 from X10.out, show i64N (tk (fld l 18 8)) = x18 from X18.out] at hP
            exact hP
    · have hend' : (n : Int) < 32 + D + M := by omega
      go_wp2_with (refine wpList_store_mid rfl 31 (.tmp 2) (.tmp 27) rfl ga 0 _ rfl rfl (H.there 0 rfl) op_size (by simp [Value.oneCell']) ?_)
      have H4 := (H.storeAll 0 rfl (vs := [.int .u8 0, .int .i64 0, .int .u8 0, .int .i64 0, .int .i64 0, .slice none 0 0, .slice none 0 0]) rfl).upd_mk (by simp)
      refine bodyPost_ret (results_cell2 rfl _ _ ga 31 _ _ _ rfl (H4.blk 0 rfl) Try.underlying31 rfl op_size) rfl (NextP.no ?_ H4.below)
      have h2 := HOK.out
      rw [← HD.out, ← HM.out] at h2 hend
      unfold nextR
      rw [if_neg (fun h3 => hend (h2.1 h3))]
  · have HL := Lib.hid hl
    clear hl
    have h32' : (n : Int) < 32 := by omega
    go_enter Try.func24, Try.ntmps24
    go_wp2_with fail
    refine bodyPost_ret (results_cell2 rfl _ _ w.heap.size 31 #[.int .u8 0, .int .i64 0, .int .u8 0, .int .i64 0, .int .i64 0, .slice none 0 0, .slice none 0 0] _ _ rfl (heap_alloc_new _ _) Try.underlying31 rfl op_size) rfl (NextP.no ?_ ((Below.refl _ _).alloc (Nat.le_refl _) _))
    unfold nextR
    rw [if_neg (by rw [HL.out]; omega)]
end Go.Proofs.Ytgfhnbjpdhdhgaa

namespace Go.Proofs.Ytgfhnbjpdhdhgaa
open Go.RowKit
set_option linter.unusedVariables false

/-- what a call of Decode tells -/
def DecP (l : List UInt8) (w : World) (e : Ending) (w' : World) : Prop :=
  ∃ v5 v6, e = .returned (.tuple #[opV (decR l).k (decR l).h (decR l).a (decR l).c (decR l).o v5 v6, .int .i64 (decR l).e]) ∧
    St w [] w' (lay [.row 5 1 v5 (decR l).d.length ((decR l).d.map vb), .row 5 1 v6 (decR l).m.length ((decR l).m.map vb)])
theorem DecP.no {l : List UInt8} {w w' : World} (h : decR l = noNext) (hb : Below w.heap.size w w') : DecP l w (.returned (.tuple #[opV 0 0 0 0 0 (.slice none 0 0) (.slice none 0 0), .int .i64 300])) w' := by
  refine ⟨.slice none 0 0, .slice none 0 0, by rw [h]; rfl, ?_⟩
  rw [h]
  exact ((((St.start_lay w []).call hb).nilRow 0 rfl _ _).push_mk rfl |>.nilRow 1 rfl _ _).push_mk rfl
theorem decR_of (l : List UInt8) : ((nextR l).e = 0 → (nextR l).N = l.length → decR l = nextR l) ∧ (((nextR l).e ≠ 0 ∨ (nextR l).N ≠ l.length) → decR l = noNext) := by
  unfold decR
  refine ⟨fun h1 h2 => if_pos ⟨h1, h2⟩, fun h => if_neg ?_⟩
  rcases h with h | h
  · exact fun h' => h h'.1
  · exact fun h' => h h'.2

set_option maxHeartbeats 2000000 in
theorem decode_s (A : Option Addr) (n c : Nat) (l : List UInt8) (w : World) (hR : Rd w 1 A n (l.map vb)) (hc : n ≤ c) (hn : n ≤ 140737488351232) :
    Calls Try.prog 21 #[.slice A n c] w (DecP l w) := by
  have hl : l.length = n := by simpa using hR.1
  have HL := Lib.hid hl
  clear hl
  have H0 := St.start_lay w []
  go_enter Try.func21, Try.ntmps21
  go_wp2_with fail
  refine absorb_calls (H0.allocAt 0 rfl w.heap.size rfl _ _ |>.push_mk rfl) ?_
  intro w1 H
  generalize hga : w.heap.size = ga at H ⊢
  clear hga H0
  refine (next_s A n c l w1 (H.arg0 hR) hc hn).mono ?_
  rintro e w2 ⟨v5, v6, rfl, HN⟩
  have H2 := H.also HN
  clear HN H
  have hd := decR_of l
  obtain ⟨A5, c5, rfl, -⟩ := row_form (H2.row 1 rfl)
  obtain ⟨A6, c6, rfl, -⟩ := row_form (H2.row 2 rfl)
  obtain ⟨r, hr⟩ : ∃ r, nextR l = r := ⟨_, rfl⟩
  rw [hr] at hd H2 ⊢
  clear hr
  obtain ⟨k, h, a, cn, ou, dd, mm, NN, ee⟩ := r
  simp only at hd H2 ⊢
  have HD := Lib.hid hd
  clear hd
  obtain ⟨n5, N5⟩ : ∃ x, Hid (dd.length = x) := ⟨_, rfl⟩
  obtain ⟨n6, N6⟩ : ∃ x, Hid (mm.length = x) := ⟨_, rfl⟩
  rw [N5.out, N6.out] at H2 ⊢
  obtain ⟨ng, NG⟩ : ∃ x, Hid (w2.heap.size = x) := ⟨_, rfl⟩
  by_cases he : ee = 0
  · subst he
    by_cases hN : NN = n
    · have hne : ((NN : Int) != n) = false := by rw [hN]; simp
      have HN := Lib.hid hN
      clear hN
      have HA := (H2.allocAt 3 rfl w2.heap.size rfl #[.int .u8 (k.toNat : Int), .int .i64 h, .int .u8 (a.toNat : Int), .int .i64 cn, .int .i64 ou, .slice A5 n5 c5, .slice A6 n6 c6] 31)
      have HX : St w [] (w2.alloc (.cells #[.int .u8 (k.toNat : Int), .int .i64 h, .int .u8 (a.toNat : Int), .int .i64 cn, .int .i64 ou, .slice A5 n5 c5, .slice A6 n6 c6] 31)) (lay [.blk ga 31 [.int .u8 0, .int .i64 0, .int .u8 0, .int .i64 0, .int .i64 0, .slice none 0 0, .slice none 0 0], .row 5 1 (.slice A5 n5 c5) n5 (dd.map vb), .row 5 1 (.slice A6 n6 c6) n6 (mm.map vb), .blk w2.heap.size 31 [.int .u8 (k.toNat : Int), .int .i64 h, .int .u8 (a.toNat : Int), .int .i64 cn, .int .i64 ou, .slice A5 n5 c5, .slice A6 n6 c6]]) := HA.push_mk rfl
      have hb := HX.blk 3 rfl
      have ht := HX.there 0 rfl
      go_wp2_with (first | (refine wpList_load_row rfl 31 (.tmp 4) rfl w2.heap.size rfl _ _ _ _ hb Try.underlying31 rfl op_size ?_) | (refine wpList_store_mid rfl 31 (.tmp 2) (.tmp 22) rfl ga 0 (List.toArray [.int .u8 (k.toNat : Int), .int .i64 h, .int .u8 (a.toNat : Int), .int .i64 cn, .int .i64 ou, .slice A5 n5 c5, .slice A6 n6 c6]) rfl rfl ht op_size (all_oneCell_toArray (by simp [Value.oneCell'])) ?_))
      have HY : St w [] ((w2.alloc (.cells #[.int .u8 (k.toNat : Int), .int .i64 h, .int .u8 (a.toNat : Int), .int .i64 cn, .int .i64 ou, .slice A5 n5 c5, .slice A6 n6 c6] 31)).setCells ga 0 [.int .u8 (k.toNat : Int), .int .i64 h, .int .u8 (a.toNat : Int), .int .i64 cn, .int .i64 ou, .slice A5 n5 c5, .slice A6 n6 c6]) (lay [.blk ga 31 [.int .u8 (k.toNat : Int), .int .i64 h, .int .u8 (a.toNat : Int), .int .i64 cn, .int .i64 ou, .slice A5 n5 c5, .slice A6 n6 c6], .row 5 1 (.slice A5 n5 c5) n5 (dd.map vb), .row 5 1 (.slice A6 n6 c6) n6 (mm.map vb), .blk w2.heap.size 31 [.int .u8 (k.toNat : Int), .int .i64 h, .int .u8 (a.toNat : Int), .int .i64 cn, .int .i64 ou, .slice A5 n5 c5, .slice A6 n6 c6]]) := (HX.storeAll 0 rfl (vs := [.int .u8 (k.toNat : Int), .int .i64 h, .int .u8 (a.toNat : Int), .int .i64 cn, .int .i64 ou, .slice A5 n5 c5, .slice A6 n6 c6]) rfl).upd_mk (by simp)
      refine bodyPost_ret (results_cell1 rfl _ _ ga 31 _ _ _ rfl (HY.blk 0 rfl) Try.underlying31 rfl op_size) rfl ?_
      have hdd := HD.out.1 (by simp) (HN.out.trans HL.out.symm)
      refine ⟨.slice A5 n5 c5, .slice A6 n6 c6, by rw [hdd]; rfl, ?_⟩
      rw [hdd]
      simp only
      rw [N5.out, N6.out]
      exact HY.pick (fun k => k + 1) (fun i j h => by omega) (fun k A hA => by match k with | 0 => exact hA | 1 => exact hA | k + 2 => simp [lay] at hA)
    · have hne : ((NN : Int) != n) = true := by simp only [bne_iff_ne, ne_eq]; omega
      have HN := Lib.hid hN
      clear hN
      have HX : St w [] (w2.alloc (.cells #[.int .u8 (k.toNat : Int), .int .i64 h, .int .u8 (a.toNat : Int), .int .i64 cn, .int .i64 ou, .slice A5 n5 c5, .slice A6 n6 c6] 31)) (lay [.blk ga 31 [.int .u8 0, .int .i64 0, .int .u8 0, .int .i64 0, .int .i64 0, .slice none 0 0, .slice none 0 0], .row 5 1 (.slice A5 n5 c5) n5 (dd.map vb), .row 5 1 (.slice A6 n6 c6) n6 (mm.map vb), .blk w2.heap.size 31 [.int .u8 (k.toNat : Int), .int .i64 h, .int .u8 (a.toNat : Int), .int .i64 cn, .int .i64 ou, .slice A5 n5 c5, .slice A6 n6 c6]]) := (H2.allocAt 3 rfl w2.heap.size rfl #[.int .u8 (k.toNat : Int), .int .i64 h, .int .u8 (a.toNat : Int), .int .i64 cn, .int .i64 ou, .slice A5 n5 c5, .slice A6 n6 c6] 31).push_mk rfl
      have ht := HX.there 0 rfl
      go_wp2_with (refine wpList_store_mid rfl 31 (.tmp 2) (.tmp 21) rfl ga 0 _ rfl rfl ht op_size (by simp [Value.oneCell']) ?_)
      have HY := (HX.storeAll 0 rfl (vs := [.int .u8 0, .int .i64 0, .int .u8 0, .int .i64 0, .int .i64 0, .slice none 0 0, .slice none 0 0]) rfl).upd_mk (by simp)
      refine bodyPost_ret (results_cell1 rfl _ _ ga 31 _ _ _ rfl (HY.blk 0 rfl) Try.underlying31 rfl op_size) rfl ?_
      exact DecP.no (HD.out.2 (.inr (fun h => HN.out (h.trans HL.out)))) HY.below
  · have hee : (ee != 0) = true := by simpa using he
    have HE := Lib.hid he
    clear he
    have HX : St w [] (w2.alloc (.cells #[.int .u8 (k.toNat : Int), .int .i64 h, .int .u8 (a.toNat : Int), .int .i64 cn, .int .i64 ou, .slice A5 n5 c5, .slice A6 n6 c6] 31)) (lay [.blk ga 31 [.int .u8 0, .int .i64 0, .int .u8 0, .int .i64 0, .int .i64 0, .slice none 0 0, .slice none 0 0], .row 5 1 (.slice A5 n5 c5) n5 (dd.map vb), .row 5 1 (.slice A6 n6 c6) n6 (mm.map vb), .blk w2.heap.size 31 [.int .u8 (k.toNat : Int), .int .i64 h, .int .u8 (a.toNat : Int), .int .i64 cn, .int .i64 ou, .slice A5 n5 c5, .slice A6 n6 c6]]) := (H2.allocAt 3 rfl w2.heap.size rfl #[.int .u8 (k.toNat : Int), .int .i64 h, .int .u8 (a.toNat : Int), .int .i64 cn, .int .i64 ou, .slice A5 n5 c5, .slice A6 n6 c6] 31).push_mk rfl
    have ht := HX.there 0 rfl
    go_wp2_with (refine wpList_store_mid rfl 31 (.tmp 2) (.tmp 21) rfl ga 0 _ rfl rfl ht op_size (by simp [Value.oneCell']) ?_)
    have HY := (HX.storeAll 0 rfl (vs := [.int .u8 0, .int .i64 0, .int .u8 0, .int .i64 0, .int .i64 0, .slice none 0 0, .slice none 0 0]) rfl).upd_mk (by simp)
    refine bodyPost_ret (results_cell1 rfl _ _ ga 31 _ _ _ rfl (HY.blk 0 rfl) Try.underlying31 rfl op_size) rfl ?_
    exact DecP.no (HD.out.2 (.inl HE.out)) HY.below

set_option maxHeartbeats 2000000 in
theorem refDecode_s (A : Option Addr) (n c : Nat) (l : List UInt8) (w : World) (hR : Rd w 1 A n (l.map vb)) (hc : n ≤ c) (hn : n ≤ 140737488351232) :
    Calls Try.prog 23 #[.slice A n c] w (DecP l w) := by
  have hl : l.length = n := by simpa using hR.1
  have HL := Lib.hid hl
  clear hl
  have H0 := St.start_lay w []
  go_enter Try.func23, Try.ntmps23
  go_wp2_with fail
  refine absorb_calls (H0.allocAt 0 rfl w.heap.size rfl _ _ |>.push_mk rfl) ?_
  intro w1 H
  generalize hga : w.heap.size = ga at H ⊢
  clear hga H0
  refine (refNext_s A n c l w1 (H.arg0 hR) hc hn).mono ?_
  rintro e w2 ⟨v5, v6, rfl, HN⟩
  have H2 := H.also HN
  clear HN H
  have hd := decR_of l
  obtain ⟨A5, c5, rfl, -⟩ := row_form (H2.row 1 rfl)
  obtain ⟨A6, c6, rfl, -⟩ := row_form (H2.row 2 rfl)
  obtain ⟨r, hr⟩ : ∃ r, nextR l = r := ⟨_, rfl⟩
  rw [hr] at hd H2 ⊢
  clear hr
  obtain ⟨k, h, a, cn, ou, dd, mm, NN, ee⟩ := r
  simp only at hd H2 ⊢
  have HD := Lib.hid hd
  clear hd
  obtain ⟨n5, N5⟩ : ∃ x, Hid (dd.length = x) := ⟨_, rfl⟩
  obtain ⟨n6, N6⟩ : ∃ x, Hid (mm.length = x) := ⟨_, rfl⟩
  rw [N5.out, N6.out] at H2 ⊢
  obtain ⟨ng, NG⟩ : ∃ x, Hid (w2.heap.size = x) := ⟨_, rfl⟩
  by_cases he : ee = 0
  · subst he
    by_cases hN : NN = n
    · have hne : ((NN : Int) != n) = false := by rw [hN]; simp
      have HN := Lib.hid hN
      clear hN
      have HA := (H2.allocAt 3 rfl w2.heap.size rfl #[.int .u8 (k.toNat : Int), .int .i64 h, .int .u8 (a.toNat : Int), .int .i64 cn, .int .i64 ou, .slice A5 n5 c5, .slice A6 n6 c6] 31)
      have HX : St w [] (w2.alloc (.cells #[.int .u8 (k.toNat : Int), .int .i64 h, .int .u8 (a.toNat : Int), .int .i64 cn, .int .i64 ou, .slice A5 n5 c5, .slice A6 n6 c6] 31)) (lay [.blk ga 31 [.int .u8 0, .int .i64 0, .int .u8 0, .int .i64 0, .int .i64 0, .slice none 0 0, .slice none 0 0], .row 5 1 (.slice A5 n5 c5) n5 (dd.map vb), .row 5 1 (.slice A6 n6 c6) n6 (mm.map vb), .blk w2.heap.size 31 [.int .u8 (k.toNat : Int), .int .i64 h, .int .u8 (a.toNat : Int), .int .i64 cn, .int .i64 ou, .slice A5 n5 c5, .slice A6 n6 c6]]) := HA.push_mk rfl
      have hb := HX.blk 3 rfl
      have ht := HX.there 0 rfl
      go_wp2_with (first | (refine wpList_load_row rfl 31 (.tmp 4) rfl w2.heap.size rfl _ _ _ _ hb Try.underlying31 rfl op_size ?_) | (refine wpList_store_mid rfl 31 (.tmp 2) (.tmp 22) rfl ga 0 (List.toArray [.int .u8 (k.toNat : Int), .int .i64 h, .int .u8 (a.toNat : Int), .int .i64 cn, .int .i64 ou, .slice A5 n5 c5, .slice A6 n6 c6]) rfl rfl ht op_size (all_oneCell_toArray (by simp [Value.oneCell'])) ?_))
      have HY : St w [] ((w2.alloc (.cells #[.int .u8 (k.toNat : Int), .int .i64 h, .int .u8 (a.toNat : Int), .int .i64 cn, .int .i64 ou, .slice A5 n5 c5, .slice A6 n6 c6] 31)).setCells ga 0 [.int .u8 (k.toNat : Int), .int .i64 h, .int .u8 (a.toNat : Int), .int .i64 cn, .int .i64 ou, .slice A5 n5 c5, .slice A6 n6 c6]) (lay [.blk ga 31 [.int .u8 (k.toNat : Int), .int .i64 h, .int .u8 (a.toNat : Int), .int .i64 cn, .int .i64 ou, .slice A5 n5 c5, .slice A6 n6 c6], .row 5 1 (.slice A5 n5 c5) n5 (dd.map vb), .row 5 1 (.slice A6 n6 c6) n6 (mm.map vb), .blk w2.heap.size 31 [.int .u8 (k.toNat : Int), .int .i64 h, .int .u8 (a.toNat : Int), .int .i64 cn, .int .i64 ou, .slice A5 n5 c5, .slice A6 n6 c6]]) := (HX.storeAll 0 rfl (vs := [.int .u8 (k.toNat : Int), .int .i64 h, .int .u8 (a.toNat : Int), .int .i64 cn, .int .i64 ou, .slice A5 n5 c5, .slice A6 n6 c6]) rfl).upd_mk (by simp)
      refine bodyPost_ret (results_cell1 rfl _ _ ga 31 _ _ _ rfl (HY.blk 0 rfl) Try.underlying31 rfl op_size) rfl ?_
      have hdd := HD.out.1 (by simp) (HN.out.trans HL.out.symm)
      refine ⟨.slice A5 n5 c5, .slice A6 n6 c6, by rw [hdd]; rfl, ?_⟩
      rw [hdd]
      simp only
      rw [N5.out, N6.out]
      exact HY.pick (fun k => k + 1) (fun i j h => by omega) (fun k A hA => by match k with | 0 => exact hA | 1 => exact hA | k + 2 => simp [lay] at hA)
    · have hne : ((NN : Int) != n) = true := by simp only [bne_iff_ne, ne_eq]; omega
      have HN := Lib.hid hN
      clear hN
      have HX : St w [] (w2.alloc (.cells #[.int .u8 (k.toNat : Int), .int .i64 h, .int .u8 (a.toNat : Int), .int .i64 cn, .int .i64 ou, .slice A5 n5 c5, .slice A6 n6 c6] 31)) (lay [.blk ga 31 [.int .u8 0, .int .i64 0, .int .u8 0, .int .i64 0, .int .i64 0, .slice none 0 0, .slice none 0 0], .row 5 1 (.slice A5 n5 c5) n5 (dd.map vb), .row 5 1 (.slice A6 n6 c6) n6 (mm.map vb), .blk w2.heap.size 31 [.int .u8 (k.toNat : Int), .int .i64 h, .int .u8 (a.toNat : Int), .int .i64 cn, .int .i64 ou, .slice A5 n5 c5, .slice A6 n6 c6]]) := (H2.allocAt 3 rfl w2.heap.size rfl #[.int .u8 (k.toNat : Int), .int .i64 h, .int .u8 (a.toNat : Int), .int .i64 cn, .int .i64 ou, .slice A5 n5 c5, .slice A6 n6 c6] 31).push_mk rfl
      have ht := HX.there 0 rfl
      go_wp2_with (refine wpList_store_mid rfl 31 (.tmp 2) (.tmp 21) rfl ga 0 _ rfl rfl ht op_size (by simp [Value.oneCell']) ?_)
      have HY := (HX.storeAll 0 rfl (vs := [.int .u8 0, .int .i64 0, .int .u8 0, .int .i64 0, .int .i64 0, .slice none 0 0, .slice none 0 0]) rfl).upd_mk (by simp)
      refine bodyPost_ret (results_cell1 rfl _ _ ga 31 _ _ _ rfl (HY.blk 0 rfl) Try.underlying31 rfl op_size) rfl ?_
      exact DecP.no (HD.out.2 (.inr (fun h => HN.out (h.trans HL.out)))) HY.below
  · have hee : (ee != 0) = true := by simpa using he
    have HE := Lib.hid he
    clear he
    have HX : St w [] (w2.alloc (.cells #[.int .u8 (k.toNat : Int), .int .i64 h, .int .u8 (a.toNat : Int), .int .i64 cn, .int .i64 ou, .slice A5 n5 c5, .slice A6 n6 c6] 31)) (lay [.blk ga 31 [.int .u8 0, .int .i64 0, .int .u8 0, .int .i64 0, .int .i64 0, .slice none 0 0, .slice none 0 0], .row 5 1 (.slice A5 n5 c5) n5 (dd.map vb), .row 5 1 (.slice A6 n6 c6) n6 (mm.map vb), .blk w2.heap.size 31 [.int .u8 (k.toNat : Int), .int .i64 h, .int .u8 (a.toNat : Int), .int .i64 cn, .int .i64 ou, .slice A5 n5 c5, .slice A6 n6 c6]]) := (H2.allocAt 3 rfl w2.heap.size rfl #[.int .u8 (k.toNat : Int), .int .i64 h, .int .u8 (a.toNat : Int), .int .i64 cn, .int .i64 ou, .slice A5 n5 c5, .slice A6 n6 c6] 31).push_mk rfl
    have ht := HX.there 0 rfl
    go_wp2_with (refine wpList_store_mid rfl 31 (.tmp 2) (.tmp 21) rfl ga 0 _ rfl rfl ht op_size (by simp [Value.oneCell']) ?_)
    have HY := (HX.storeAll 0 rfl (vs := [.int .u8 0, .int .i64 0, .int .u8 0, .int .i64 0, .int .i64 0, .slice none 0 0, .slice none 0 0]) rfl).upd_mk (by simp)
    refine bodyPost_ret (results_cell1 rfl _ _ ga 31 _ _ _ rfl (HY.blk 0 rfl) Try.underlying31 rfl op_size) rfl ?_
    exact DecP.no (HD.out.2 (.inl HE.out)) HY.below
end Go.Proofs.Ytgfhnbjpdhdhgaa

namespace Go.Proofs.Ytgfhnbjpdhdhgaa
open Go.RowKit

theorem OwnB.len_eq {w : World} {base n c : Nat} {A : Option Addr} {l : List UInt8} (h : OwnB w base (.slice A n c) l) : n = l.length := by
  rcases h.2 with ⟨h', h2⟩ | ⟨g', cap', cur, h', _⟩
  · injection h' with _ h3; omega
  · injection h'
theorem OwnB.form {w : World} {base n c : Nat} {A : Option Addr} {l : List UInt8} (h : OwnB w base (.slice A n c) l) (hn : 0 < n) : ∃ g, A = some ⟨g, 0, none⟩ ∧ base ≤ g ∧ g < w.heap.size := by
  rcases h.2 with ⟨h', h2⟩ | ⟨g', cap', cur, h', hb, hg, _⟩
  · injection h' with _ h3; omega
  · injection h' with h4 _; exact ⟨g', h4, hb, (Array.getElem?_eq_some_iff.1 hg).1⟩
theorem OwnB.lt {w : World} {base : Nat} {v : Value} {l : List UInt8} (h : OwnB w base v l) : ∀ g, v.ownBlock = some g → base ≤ g ∧ g < w.heap.size := World.ownsRow.lt h
theorem OwnB.kept {w w' : World} {base : Nat} {v : Value} {l : List UInt8} {row : Option Nat} (h : OwnB w base v l) (hg : w.grownBy w' row) (hne : v.ownBlock = none ∨ v.ownBlock ≠ row) : OwnB w' base v l := World.ownsRow.kept h hg hne
theorem OwnB.drewN {w : World} {base : Nat} {v : Value} {l : List UInt8} (h : OwnB w base v l) (n : Nat) : OwnB (w.drewN n) base v l := h
theorem OwnB.alloc {w : World} {base : Nat} {v : Value} {l : List UInt8} (h : OwnB w base v l) (o : Obj) : OwnB (w.alloc o) base v l := World.ownsRow.alloc h o

theorem OwnB.lent {w : World} {base n : Nat} {v : Value} {l : List UInt8} (h : OwnB w base v (l ++ marksB 7 0 6)) (hn : l.length = n) : ∃ g c, v = .slice (some ⟨g, 0, none⟩) (n + 6) c ∧ n + 6 ≤ c ∧ base ≤ g ∧ g < w.heap.size := by
  rcases h.2 with ⟨rfl, h0⟩ | ⟨g, cap, cur, rfl, hb, hg, hnc, _⟩
  · rw [List.length_append, marksB_length] at h0; omega
  · rw [List.length_append, marksB_length, hn] at hnc ⊢
    exact ⟨g, cap, rfl, hnc, hb, (Array.getElem?_eq_some_iff.1 hg).1⟩
theorem OwnB.front {w : World} {base g n c : Nat} {l m : List UInt8} (h : OwnB w base (.slice (some ⟨g, 0, none⟩) n c) (l ++ m)) : OwnB w base (.slice (some ⟨g, 0, none⟩) l.length c) l := by
  rcases h.2 with ⟨h', _⟩ | ⟨g', cap, cur, h', hb, hg, hnc, hcm, hs, htk⟩
  · cases h'
  injection h' with e1 e2 e3
  injection e1 with e1
  injection e1 with e1
  subst e1 e2 e3
  rw [List.length_append] at hnc htk
  refine ⟨by simp, .inr ⟨g, c, cur, rfl, hb, hg, by omega, hcm, hs, ?_⟩⟩
  have : (cur.toList.take ((l.length + m.length) * 1)).take (l.length * 1) = ((l ++ m).map vb).take (l.length * 1) := by rw [htk]
  rw [List.take_take, Nat.min_eq_left (by omega)] at this
  rw [this, List.map_append, Nat.mul_one]
  exact List.take_left' (by simp)

/-- Two owned rows on one block: after the longer one has been gone on with in place, the shorter one is as it was. -/
theorem OwnB.same_block {w w' : World} {base : Nat} {v u : Value} {l m : List UInt8} {b : Nat} (hv : OwnB w base v l) (hu : OwnB w' base u m) (hg : w.heap[b]? ≠ none)
    (hvb : v.ownBlock = some b) (hub : u.ownBlock = some b) (hcap : ∀ n n' c c', v = .slice (some ⟨b, 0, none⟩) n c → u = .slice (some ⟨b, 0, none⟩) n' c' → c = c') (hpre : l = m.take l.length) : OwnB w' base v l := by
  rcases hv.2 with ⟨rfl, _⟩ | ⟨g, cap, cur, rfl, hb, hgg, hnc, hcm, hsz, htk⟩
  · simp [Value.ownBlock] at hvb
  rcases hu.2 with ⟨rfl, _⟩ | ⟨g', cap', cur', rfl, hb', hgg', hnc', hcm', hsz', htk'⟩
  · simp [Value.ownBlock] at hub
  simp [Value.ownBlock] at hvb hub
  subst hvb
  subst hub
  have hc := hcap _ _ _ _ rfl rfl
  subst hc
  refine ⟨by simp, .inr ⟨g', cap, cur', rfl, hb, hgg', hnc, hcm, hsz', ?_⟩⟩
  have h1 : l.length ≤ m.length := by rw [hpre]; simp [List.length_take]; omega
  have h2 : (cur'.toList.take (m.length * 1)).take (l.length * 1) = (m.map vb).take (l.length * 1) := by rw [htk']
  rw [List.take_take, Nat.min_eq_left (by omega)] at h2
  rw [h2, Nat.mul_one, ← List.map_take, ← hpre]

/-- What an append onto an owned row leaves: the same row gone on with, or a new one. -/
theorem append_two {P : Program} (w : World) (base : Nat) (t ty e : TypeId) (i : TypeInfo) (z : Value) (bytes : Nat) (ht : P.underlying t = some (.slice e)) (hi : P.info? e = some i) (hz : i.zero = some z)
    (hsize : i.size = 1) (hby : i.bytes = bytes) (hzs : z.cells.size = 1)
    (v : Value) (n : Nat) (xs : List Value) (hown : w.ownsRow base e 1 v n xs)
    (a : Addr) (m c : Nat) (news : List Value) (hm : 0 < m) (hl : news.length = m * 1) (hnews : ∀ j u, news[j]? = some u → w.cell? (a.add j) = some u) (h1 : ∀ u ∈ news, u.oneCell' = true)
    (h63 : n + m ≤ maxLen) (hbytes : (n + m) * bytes ≤ 140737488355328) (hbase : base ≤ w.heap.size) :
    ∃ v' w', (Builtin.append_ #[t, t] ty #[v, .slice (some a) m c]).run P w = .ok v' w' ∧ w'.ownsRow base e 1 v' (n + m) (xs ++ news) ∧
      ((∃ g cap, v = .slice (some ⟨g, 0, none⟩) n cap ∧ v' = .slice (some ⟨g, 0, none⟩) (n + m) cap ∧ w.grownBy w' (some g)) ∨
       (v'.ownBlock = some w.heap.size ∧ Below w.heap.size w w')) := by
  subst hby
  have hsmall : n + m ≤ 9223372036854775807 := by simp only [maxLen] at h63; omega
  have hlen : (xs ++ news).length = (n + m) * 1 := by rw [List.length_append, hown.1, hl, Nat.add_mul]
  have grown : ∀ (old : Nat), old < n + m →
      (w.drew.alloc (.cells (xs.toArray ++ news.toArray ++ Builtin.zeroCells z.cells (grownCap w (n + m) old e - (n + m))) e)).ownsRow base e 1
        (.slice (some ⟨w.heap.size, 0, none⟩) (n + m) (grownCap w (n + m) old e)) (n + m) (xs ++ news) := by
    intro old ho
    have hge := grownCap_ge w (n + m) old e
    have hcm : grownCap w (n + m) old e ≤ maxLen := grownCap_le_maxLen w (n + m) old e h63
    refine ⟨hlen, .inr ⟨w.heap.size, _, _, rfl, hbase, heap_alloc_new w.drew _, hge, hcm, ?_, ?_⟩⟩
    · simp only [Array.size_append, List.size_toArray, size_zeroCells, hzs, hown.1, hl]
      omega
    · simp only [Array.toList_append, List.append_assoc]
      rw [← List.append_assoc, ← hlen]
      exact List.take_left
  have hbel : ∀ o, Below w.heap.size w (w.drew.alloc o) := fun o => (Below.refl _ _).drew.alloc (Nat.le_refl _) _
  rcases hown.2 with ⟨rfl, rfl⟩ | ⟨g, cap, cur, rfl, hbg, hg, hnc, hcm, hcs, htake⟩
  · have hx : xs = [] := List.eq_nil_of_length_eq_zero (by simpa using hown.1)
    subst hx
    have hr := run_append_nil (P := P) w t ty e i z ht hi hz a m c news (by rw [hsize]; exact hl) hnews (by omega) (by omega) (by have hb := hbytes; simp only [Nat.zero_add] at hb; omega)
    have hgr := grown 0 (by omega)
    simp only [Nat.zero_add, List.nil_append, Array.empty_append] at hgr ⊢
    exact ⟨_, _, hr, hgr, .inr ⟨rfl, hbel _⟩⟩
  · by_cases hroom : n + m ≤ cap
    · have hfit : n * i.size + news.length ≤ cur.size := by rw [hsize, hl, hcs, ← Nat.add_mul]; exact Nat.mul_le_mul_right _ hroom
      have hr := run_append_room (P := P) w t ty e i ht hi g n cap cur hg a m c news (by rw [hsize]; exact hl) hnews h1 hroom hfit
      refine ⟨_, _, hr, ⟨hlen, .inr ⟨g, cap, _, rfl, hbg, setRow_heap w g cur _ e _ hg, hroom, hcm, ?_, ?_⟩⟩, .inl ⟨g, cap, rfl, rfl, ⟨rfl, rfl, rfl, by simp, fun k _ hk => setRow_other w g k _ (fun e => hk (by simp [e]))⟩⟩⟩
      · simp only [List.size_toArray, List.length_append, List.length_take, List.length_drop, Array.length_toList]
        rw [hsize]
        omega
      · rw [hsize, htake, ← hlen]
        exact List.take_left
    · have holds : ∀ j u, xs[j]? = some u → w.cell? ((⟨g, 0, none⟩ : Addr).add j) = some u := hown.cells (g := g) rfl
      have hr := run_append_grow (P := P) w t ty e i z ht hi hz ⟨g, 0, none⟩ n cap xs (by rw [hsize]; exact hown.1) holds a m c news (by rw [hsize]; exact hl) hnews (by omega) (by omega) (growslice_fits (by omega) hbytes)
      exact ⟨_, _, hr, grown cap (by omega), .inr ⟨rfl, hbel _⟩⟩

theorem wp_append_two {P : Program} (w : World) {o : Oper} {a : Act} {K : Act → World → Prop} {Q : Exit → Act → World → Prop} (s x : Operand) (t : TypeId)
    (ho : o.op = .call { callee := .builtin .append, args := #[s, x], argTypes := #[t, t] })
    (base : Nat) (e : TypeId) (i : TypeInfo) (z : Value) (bytes : Nat) (ht : P.underlying t = some (.slice e)) (hi : P.info? e = some i) (hz : i.zero = some z)
    (hsize : i.size = 1) (hby : i.bytes = bytes) (hzs : z.cells.size = 1)
    (v : Value) (n : Nat) (xs : List Value) (hs : a.eval s = v) (hown : w.ownsRow base e 1 v n xs)
    (ad : Addr) (m c : Nat) (news : List Value) (hx : a.eval x = .slice (some ad) m c) (hm : 0 < m) (hl : news.length = m * 1) (hnews : ∀ j u, news[j]? = some u → w.cell? (ad.add j) = some u) (h1 : ∀ u ∈ news, u.oneCell' = true)
    (h63 : n + m ≤ maxLen) (hbytes : (n + m) * bytes ≤ 140737488355328) (hbase : base ≤ w.heap.size)
    (h : ∀ v' w', w'.ownsRow base e 1 v' (n + m) (xs ++ news) → ((∃ g cap, v = .slice (some ⟨g, 0, none⟩) n cap ∧ v' = .slice (some ⟨g, 0, none⟩) (n + m) cap ∧ w.grownBy w' (some g)) ∨
       (v'.ownBlock = some w.heap.size ∧ Below w.heap.size w w')) → K (a.put o.dst v') w') : o.wp P a w K Q := by
  obtain ⟨v', w', hr, h2, h3⟩ := append_two (P := P) w base t o.type e i z bytes ht hi hz hsize hby hzs v n xs hown ad m c news hm hl hnews h1 h63 hbytes hbase
  unfold Oper.wp execOp
  simp only [ho, resolve, invoke, builtin, Sem.run_bind, Sem.run_pure, Result.andThen_ok, List.map_toArray, List.map_cons, List.map_nil, hs, hx, hr]
  exact h v' w' h2 h3

theorem wpList_append_two {P : Program} (w : World) {ops : Array Oper} {rest : List Oper} {o : Oper} {a : Act} {Q : Exit → Act → World → Prop} (hgd : o.guard = none) (s x : Operand) (t : TypeId)
    (ho : o.op = .call { callee := .builtin .append, args := #[s, x], argTypes := #[t, t] })
    (base : Nat) (e : TypeId) (i : TypeInfo) (z : Value) (bytes : Nat) (ht : P.underlying t = some (.slice e)) (hi : P.info? e = some i) (hz : i.zero = some z)
    (hsize : i.size = 1) (hby : i.bytes = bytes) (hzs : z.cells.size = 1)
    (v : Value) (n : Nat) (xs : List Value) (hs : a.eval s = v) (hown : w.ownsRow base e 1 v n xs)
    (ad : Addr) (m c : Nat) (news : List Value) (hx : a.eval x = .slice (some ad) m c) (hm : 0 < m) (hl : news.length = m * 1) (hnews : ∀ j u, news[j]? = some u → w.cell? (ad.add j) = some u) (h1 : ∀ u ∈ news, u.oneCell' = true)
    (h63 : n + m ≤ maxLen) (hbytes : (n + m) * bytes ≤ 140737488355328) (hbase : base ≤ w.heap.size)
    (h : ∀ v' w', w'.ownsRow base e 1 v' (n + m) (xs ++ news) → ((∃ g cap, v = .slice (some ⟨g, 0, none⟩) n cap ∧ v' = .slice (some ⟨g, 0, none⟩) (n + m) cap ∧ w.grownBy w' (some g)) ∨
       (v'.ownBlock = some w.heap.size ∧ Below w.heap.size w w')) → wpList P ops Q rest (a.put o.dst v') w') : wpList P ops Q (o :: rest) a w :=
  wpList_plain hgd fun _ hK => wp_append_two w s x t ho base e i z bytes ht hi hz hsize hby hzs v n xs hs hown ad m c news hx hm hl hnews h1 h63 hbytes hbase fun v' w' h2 h3 => hK _ _ (h v' w' h2 h3)

theorem two_grown {w w' : World} {n m : Nat} {v v' : Value}
    (hcase : (∃ g cap, v = .slice (some ⟨g, 0, none⟩) n cap ∧ v' = .slice (some ⟨g, 0, none⟩) (n + m) cap ∧ w.grownBy w' (some g)) ∨ (v'.ownBlock = some w.heap.size ∧ Below w.heap.size w w')) : w.grownBy w' v.ownBlock := by
  rcases hcase with ⟨g, cap, rfl, rfl, hg⟩ | ⟨_, hb⟩
  · exact hg
  · exact ⟨hb.os, hb.tape, hb.output, hb.size, fun k hk _ => hb.block k hk⟩
theorem OwnB.of_mark {w : World} {base a n : Nat} {v : Value} (h : w.ownsRow base 5 1 v (n + 1) ((marksB a 0 n).map vb ++ [vb (markB a n)])) : OwnB w base v (marksB a 0 (n + 1)) := by
  rw [marksB_succ, Nat.zero_add]
  apply OwnB.of_push
  rw [marksB_length]
  exact h

/-- Families: index j < N has some owned slices; different indexes never share a block. -/
structure Fam (w : World) (base : Nat) (N : Nat) (F : Nat → List (Value × List UInt8)) : Prop where
  own : ∀ j, j < N → ∀ p ∈ F j, OwnB w base p.1 p.2
  apart : ∀ i j, i < N → j < N → i ≠ j → ∀ p ∈ F i, ∀ q ∈ F j, p.1.ownBlock = none ∨ p.1.ownBlock ≠ q.1.ownBlock

theorem Fam.congr {w : World} {base N : Nat} {F G : Nat → List (Value × List UInt8)} (h : Fam w base N F) (hFG : ∀ j, j < N → G j = F j) : Fam w base N G :=
  ⟨fun j hj p hp => h.own j hj p (by rwa [← hFG j hj]), fun i j hi hj hne p hp q hq => h.apart i j hi hj hne p (by rwa [← hFG i hi]) q (by rwa [← hFG j hj])⟩
theorem Fam.below {w w' : World} {base N : Nat} {F : Nat → List (Value × List UInt8)} (h : Fam w base N F) (hb : Below w.heap.size w w') : Fam w' base N F :=
  ⟨fun j hj p hp => (h.own j hj p hp).below hb, h.apart⟩
theorem Fam.alloc {w : World} {base N : Nat} {F : Nat → List (Value × List UInt8)} (h : Fam w base N F) (o : Obj) : Fam (w.alloc o) base N F :=
  ⟨fun j hj p hp => (h.own j hj p hp).alloc o, h.apart⟩
theorem Fam.drewN {w : World} {base N : Nat} {F : Nat → List (Value × List UInt8)} (h : Fam w base N F) (n : Nat) : Fam (w.drewN n) base N F := ⟨h.own, h.apart⟩
theorem Fam.kept {w w' : World} {base N : Nat} {F : Nat → List (Value × List UInt8)} {row : Option Nat} (h : Fam w base N F) (hg : w.grownBy w' row) (hne : ∀ j, j < N → ∀ p ∈ F j, p.1.ownBlock = none ∨ p.1.ownBlock ≠ row) : Fam w' base N F :=
  ⟨fun j hj p hp => (h.own j hj p hp).kept hg (hne j hj p hp), h.apart⟩

theorem Fam.drew {w : World} {base N : Nat} {F : Nat → List (Value × List UInt8)} (h : Fam w base N F) : Fam w.drew base N F := ⟨h.own, h.apart⟩
theorem Fam.dup {w : World} {base N k : Nat} {p : Value × List UInt8} {F : Nat → List (Value × List UInt8)} (h : Fam w base N F) (hF : F k = [p]) : Fam w base N (fun j => if j = k then [p, p] else F j) := by
  have hm : ∀ j q, q ∈ (if j = k then [p, p] else F j) → q ∈ F j := by
    intro j q hq
    by_cases hj : j = k
    · subst hj; simp at hq; subst hq; rw [hF]; simp
    · simpa [hj] using hq
  exact ⟨fun j hj q hq => h.own j hj q (hm j q hq), fun i j hi hj hne q hq r hr => h.apart i j hi hj hne q (hm i q hq) r (hm j r hr)⟩
theorem rows_ne {w : World} {b b' : Nat} {e e' : TypeId} {v u : Value} {n m : Nat} {xs ys : List Value} (h : w.ownsRow b e 1 v n xs) (h' : w.ownsRow b' e' 1 u m ys) (hne : e ≠ e') : v.ownBlock = none ∨ v.ownBlock ≠ u.ownBlock := by
  rcases h.2 with ⟨rfl, _⟩ | ⟨g, cap, cur, rfl, _, hg, _⟩
  · exact .inl rfl
  rcases h'.2 with ⟨rfl, _⟩ | ⟨g', cap', cur', rfl, _, hg', _⟩
  · exact .inr (by simp [Value.ownBlock])
  · refine .inr (fun e => ?_)
    have : g = g' := by simpa [Value.ownBlock] using e
    subst this
    rw [hg] at hg'
    injection hg' with hg'
    injection hg' with _ h2
    exact hne h2

/-- A store into the only slice of index k. -/
theorem Fam.store {w : World} {base N k g n c : Nat} {l : List UInt8} {F : Nat → List (Value × List UInt8)} (h : Fam w base N F) (hk : k < N) (hF : F k = [(.slice (some ⟨g, 0, none⟩) n c, l)]) (i : Nat) (b : UInt8) :
    Fam (w.setCell ⟨g, i, none⟩ (.int .u8 (b.toNat : Int))) base N (fun j => if j = k then [(.slice (some ⟨g, 0, none⟩) n c, l.set i b)] else F j) := by
  have hmem : ((.slice (some ⟨g, 0, none⟩) n c, l) : Value × List UInt8) ∈ F k := by rw [hF]; simp
  have ho : OwnB w base (.slice (some ⟨g, 0, none⟩) n c) l := h.own k hk _ hmem
  obtain ⟨h1, h2⟩ := ho.stored i b
  refine ⟨fun j hj p hp => ?_, fun i' j hi hj hne p hp q hq => ?_⟩
  · by_cases hjk : j = k
    · simp only [hjk, if_true, List.mem_singleton] at hp
      subst hp
      exact h1
    · simp only [hjk, if_false] at hp
      exact (h.own j hj p hp).kept h2 (h.apart j k hj hk hjk p hp _ hmem)
  · by_cases hik : i' = k
    · have hjk : j ≠ k := fun e => hne (hik.trans e.symm)
      simp only [hik, if_true, List.mem_singleton] at hp
      simp only [hjk, if_false] at hq
      subst hp
      exact h.apart k j hk hj (fun e => hjk e.symm) _ hmem q hq
    · simp only [hik, if_false] at hp
      by_cases hjk : j = k
      · simp only [hjk, if_true, List.mem_singleton] at hq
        subst hq
        exact h.apart i' k hi hk hik p hp (_, l) hmem
      · simp only [hjk, if_false] at hq
        exact h.apart i' j hi hj hne p hp q hq

/-- An append onto one of the slices of index k: a second one of that index, no longer than it, stays. -/
theorem Fam.append {w w' : World} {base N k n m : Nat} {v v' v0 : Value} {l0 l l' : List UInt8} {F : Nat → List (Value × List UInt8)} (h : Fam w base N F) (hk : k < N) (hF : F k = [(v0, l0), (v, l)])
    (hl0 : l0.length ≤ l.length) (hpre : l0 = l.take l0.length) (hpre' : l = l'.take l.length) (hown : OwnB w' base v' l')
    (hcase : (∃ g cap, v = .slice (some ⟨g, 0, none⟩) n cap ∧ v' = .slice (some ⟨g, 0, none⟩) (n + m) cap ∧ w.grownBy w' (some g)) ∨ (v'.ownBlock = some w.heap.size ∧ Below w.heap.size w w')) :
    Fam w' base N (fun j => if j = k then [(v0, l0), (v', l')] else F j) := by
  have ho0 : OwnB w base v0 l0 := h.own k hk (v0, l0) (by rw [hF]; simp)
  have ho1 : OwnB w base v l := h.own k hk (v, l) (by rw [hF]; simp)
  have hlt : ∀ j, j < N → ∀ p ∈ F j, p.1.ownBlock ≠ some w.heap.size := fun j hj p hp e => by
    have := ((h.own j hj p hp).lt _ e).2
    omega
  have hblk : v'.ownBlock = v.ownBlock ∨ v'.ownBlock = some w.heap.size := by
    rcases hcase with ⟨g, cap, rfl, rfl, _⟩ | ⟨h1, _⟩
    · exact .inl rfl
    · exact .inr h1
  have hold : ∀ j, j < N → j ≠ k → ∀ p ∈ F j, OwnB w' base p.1 p.2 := by
    intro j hj hjk p hp
    rcases hcase with ⟨g, cap, rfl, rfl, hg⟩ | ⟨_, hb⟩
    · exact (h.own j hj p hp).kept hg (h.apart j k hj hk hjk p hp (.slice (some ⟨g, 0, none⟩) n cap, l) (by rw [hF]; simp))
    · exact (h.own j hj p hp).below hb
  have h0' : OwnB w' base v0 l0 := by
    rcases hcase with ⟨g, cap, hv, hv', hg⟩ | ⟨_, hb⟩
    · by_cases hb0 : v0.ownBlock = some g
      · refine OwnB.same_block (b := g) ho0 hown ?_ hb0 (by rw [hv']; rfl) ?_ ?_
        · intro e
          have := (ho0.lt g hb0).2
          rw [Array.getElem?_eq_none_iff] at e
          omega
        · intro n0 n1 c0 c1 e0 e1
          subst hv
          rw [hv'] at e1
          rcases ho0.2 with ⟨h', _⟩ | ⟨g0, cap0, cur0, h', _, hgg0, _, _, hs0, _⟩
          · rw [h'] at hb0; simp [Value.ownBlock] at hb0
          rcases ho1.2 with ⟨h1', _⟩ | ⟨g1, cap1, cur1, h1', _, hgg1, _, _, hs1, _⟩
          · cases h1'
          injection h1' with e2 e3 e4
          injection e2 with e2
          injection e2 with e2
          rw [e0] at h'
          injection h' with f2 f3 f4
          injection f2 with f2
          injection f2 with f2
          injection e1 with _ _ e5
          subst e2 f2
          rw [hgg0] at hgg1
          injection hgg1 with hgg1
          injection hgg1 with hgg1
          subst hgg1
          omega
        · rw [hpre]
          have e : l.take l0.length = (l'.take l.length).take l0.length := by rw [← hpre']
          rw [List.length_take, Nat.min_eq_left hl0, e, List.take_take, Nat.min_eq_left hl0]
      · exact ho0.kept hg (.inr hb0)
    · exact ho0.below hb
  refine ⟨fun j hj p hp => ?_, fun i j hi hj hne p hp q hq => ?_⟩
  · by_cases hjk : j = k
    · simp only [hjk, if_true, List.mem_cons, List.not_mem_nil, or_false] at hp
      rcases hp with rfl | rfl
      · exact h0'
      · exact hown
    · simp only [hjk, if_false] at hp
      exact hold j hj hjk p hp
  · by_cases hik : i = k
    · have hjk : j ≠ k := fun e => hne (hik.trans e.symm)
      simp only [hik, if_true, List.mem_cons, List.not_mem_nil, or_false] at hp
      simp only [hjk, if_false] at hq
      rcases hp with rfl | rfl
      · exact h.apart k j hk hj (fun e => hjk e.symm) (v0, l0) (by rw [hF]; simp) q hq
      · rcases hblk with e | e
        · simp only [e]
          exact h.apart k j hk hj (fun e => hjk e.symm) (v, l) (by rw [hF]; simp) q hq
        · simp only [e]
          exact .inr (fun e' => hlt j hj q hq e'.symm)
    · simp only [hik, if_false] at hp
      by_cases hjk : j = k
      · simp only [hjk, if_true, List.mem_cons, List.not_mem_nil, or_false] at hq
        rcases hq with rfl | rfl
        · exact h.apart i k hi hk hik p hp (v0, l0) (by rw [hF]; simp)
        · rcases hblk with e | e
          · simp only [e]
            exact h.apart i k hi hk hik p hp (v, l) (by rw [hF]; simp)
          · simp only [e]
            exact .inr (hlt i hi p hp)
      · simp only [hjk, if_false] at hq
        exact h.apart i j hi hj hne p hp q hq

/-- A list of owned slices, no two on one block. -/
structure Hp (w : World) (base : Nat) (ps : List (Value × List UInt8)) : Prop where
  own : ∀ (i : Nat) p, ps[i]? = some p → OwnB w base p.1 p.2
  apart : ∀ (i j : Nat) p q, i ≠ j → ps[i]? = some p → ps[j]? = some q → p.1.ownBlock = none ∨ p.1.ownBlock ≠ q.1.ownBlock
theorem Hp.nil (w : World) (base : Nat) : Hp w base [] := ⟨fun i p h => by simp at h, fun i j p q _ h => by simp at h⟩
theorem Hp.below {w w' : World} {base : Nat} {ps : List (Value × List UInt8)} (h : Hp w base ps) (hb : Below w.heap.size w w') : Hp w' base ps := ⟨fun i p hp => (h.own i p hp).below hb, h.apart⟩
theorem Hp.push {w w' : World} {base : Nat} {ps : List (Value × List UInt8)} {v : Value} {l : List UInt8} (h : Hp w base ps) (hb : Below w.heap.size w w') (ho : OwnB w' w.heap.size v l) (hs : base ≤ w.heap.size) : Hp w' base (ps ++ [(v, l)]) := by
  have key : ∀ (i : Nat) p, (ps ++ [(v, l)])[i]? = some p → ps[i]? = some p ∨ (i = ps.length ∧ p = (v, l)) := by
    intro i p hp
    rcases Nat.lt_or_ge i ps.length with hi | hi
    · rw [List.getElem?_append_left hi] at hp; exact .inl hp
    · rw [List.getElem?_append_right hi] at hp
      have : i - ps.length = 0 := by
        rcases Nat.eq_zero_or_pos (i - ps.length) with h0 | h0
        · exact h0
        · rw [List.getElem?_eq_none (by simp; omega)] at hp; cases hp
      rw [this] at hp
      simp only [List.getElem?_cons_zero, Option.some.injEq] at hp
      exact .inr ⟨by omega, hp.symm⟩
  have hnew : ∀ (i : Nat) p, ps[i]? = some p → v.ownBlock = none ∨ v.ownBlock ≠ p.1.ownBlock := by
    intro i p hp
    cases hv : v.ownBlock with
    | none => exact .inl rfl
    | some g =>
      refine .inr (fun e => ?_)
      have h1 := (ho.lt g hv).1
      have h2 := ((h.own i p hp).lt g e.symm).2
      omega
  have hnew' : ∀ (i : Nat) p, ps[i]? = some p → p.1.ownBlock = none ∨ p.1.ownBlock ≠ v.ownBlock := by
    intro i p hp
    cases hv : p.1.ownBlock with
    | none => exact .inl rfl
    | some g =>
      refine .inr (fun e => ?_)
      have h1 := (ho.lt g e.symm).1
      have h2 := ((h.own i p hp).lt g hv).2
      omega
  refine ⟨fun i p hp => ?_, fun i j p q hij hp hq => ?_⟩
  · rcases key i p hp with h1 | ⟨_, rfl⟩
    · exact (h.own i p h1).below hb
    · exact ho.more hs
  · rcases key i p hp with h1 | ⟨e1, rfl⟩
    · rcases key j q hq with h2 | ⟨e2, rfl⟩
      · exact h.apart i j p q hij h1 h2
      · exact hnew' i p h1
    · rcases key j q hq with h2 | ⟨e2, rfl⟩
      · exact hnew j q h2
      · exact absurd (e1.trans e2.symm) hij
theorem Hp.over {w w' : World} {base g i : Nat} {ps : List (Value × List UInt8)} {v : Value} {l l' : List UInt8} (h : Hp w base ps) (hi : ps[i]? = some (v, l)) (hv : v.ownBlock = some g) (hg : w.grownBy w' (some g)) (ho : OwnB w' base v l') : Hp w' base (ps.set i (v, l')) := by
  have hlt : i < ps.length := (List.getElem?_eq_some_iff.1 hi).1
  have key : ∀ (j : Nat) p, (ps.set i (v, l'))[j]? = some p → (j ≠ i ∧ ps[j]? = some p) ∨ (j = i ∧ p = (v, l')) := by
    intro j p hp
    by_cases hj : j = i
    · subst hj; rw [List.getElem?_set_self hlt] at hp; injection hp with hp; exact .inr ⟨rfl, hp.symm⟩
    · rw [List.getElem?_set_ne (fun e => hj e.symm)] at hp; exact .inl ⟨hj, hp⟩
  refine ⟨fun j p hp => ?_, fun j k p q hjk hp hq => ?_⟩
  · rcases key j p hp with ⟨hne, h1⟩ | ⟨_, rfl⟩
    · exact (h.own j p h1).kept hg (by have := h.apart j i p _ hne h1 hi; rwa [hv] at this)
    · exact ho
  · rcases key j p hp with ⟨h1, h2⟩ | ⟨rfl, rfl⟩
    · rcases key k q hq with ⟨h3, h4⟩ | ⟨rfl, rfl⟩
      · exact h.apart j k p q hjk h2 h4
      · exact h.apart j k p (v, l) hjk h2 hi
    · rcases key k q hq with ⟨h3, h4⟩ | ⟨e, _⟩
      · exact h.apart j k (v, l) q hjk hi h4
      · exact absurd e.symm hjk
/-- Some of them. -/
theorem Hp.sel {w : World} {base : Nat} {ps qs : List (Value × List UInt8)} (h : Hp w base ps) (is : List Nat) (hn : is.Nodup) (hq : qs.map some = is.map fun i => ps[i]?) : Hp w base qs := by
  have key : ∀ (j : Nat) p, qs[j]? = some p → ∃ i, is[j]? = some i ∧ ps[i]? = some p := by
    intro j p hp
    have h1 : (qs.map some)[j]? = some (some p) := by rw [List.getElem?_map, hp]; rfl
    rw [hq, List.getElem?_map] at h1
    cases hi : is[j]? with
    | none => rw [hi] at h1; cases h1
    | some i => rw [hi] at h1; injection h1 with h1; exact ⟨i, rfl, h1⟩
  refine ⟨fun j p hp => ?_, fun j k p q hjk hp hq' => ?_⟩
  · obtain ⟨i, _, h1⟩ := key j p hp
    exact h.own i p h1
  · obtain ⟨i, hi, h1⟩ := key j p hp
    obtain ⟨i', hi', h2⟩ := key k q hq'
    refine h.apart i i' p q (fun e => hjk ?_) h1 h2
    subst e
    exact (List.getElem?_inj (List.getElem?_eq_some_iff.1 hi).1 hn).1 (hi.trans hi'.symm)

/-- The state of a call: what was there when it began is as it was; its own slices of bytes. -/
structure OSt (w0 w : World) (ps : List (Value × List UInt8)) : Prop where
  low : Below w0.heap.size w0 w
  hp : Hp w w0.heap.size ps
theorem OSt.start (w : World) : OSt w w [] := ⟨Below.refl _ _, Hp.nil _ _⟩
section
variable {w0 w w' : World} {ps : List (Value × List UInt8)}
theorem OSt.call (h : OSt w0 w ps) (hb : Below w.heap.size w w') : OSt w0 w' ps := ⟨h.low.trans (hb.mono h.low.size), h.hp.below hb⟩
theorem OSt.name (h : OSt w0 w ps) : ∃ qs, qs = ps ∧ OSt w0 w qs := ⟨ps, rfl, h⟩
theorem OSt.drewN (h : OSt w0 w ps) (n : Nat) : OSt w0 (w.drewN n) ps := h.call (bdrewN (Below.refl _ _) n)
theorem OSt.drew (h : OSt w0 w ps) : OSt w0 w.drew ps := h.call (Below.refl _ _).drew
theorem OSt.push {v : Value} {l : List UInt8} (h : OSt w0 w ps) (ho : OwnB w' w.heap.size v l) (hb : Below w.heap.size w w') : OSt w0 w' (ps ++ [(v, l)]) := ⟨h.low.trans (hb.mono h.low.size), h.hp.push hb ho h.low.size⟩
theorem OSt.arg {size n : Nat} {A : Option Addr} {xs : List Value} (h : OSt w0 w ps) (hr : Rd w0 size A n xs) : Rd w size A n xs := hr.below h.low
theorem OSt.get {v : Value} {l : List UInt8} (h : OSt w0 w ps) (i : Nat) (hi : ps[i]? = some (v, l)) : OwnB w w0.heap.size v l := h.hp.own i _ hi
theorem OSt.rd {A : Option Addr} {n c : Nat} {l : List UInt8} (h : OSt w0 w ps) (i : Nat) (hi : ps[i]? = some (.slice A n c, l)) : Rd w 1 A n (l.map vb) := by
  have ho := h.get i hi
  have hn := ho.len_eq
  subst hn
  exact Rd.of_own ho
theorem OSt.pre {g N c n : Nat} {l m : List UInt8} (h : OSt w0 w ps) (i : Nat) (hi : ps[i]? = some (.slice (some ⟨g, 0, none⟩) N c, l ++ m)) (hn : l.length = n) : Rd w 1 (some ⟨g, 0, none⟩) n (l.map vb) := by
  subst hn
  exact Rd.of_own (h.get i hi).front
theorem OSt.overs {g n c N : Nat} {l : List UInt8} {w2 : World} (h : OSt w0 w ps) (i : Nat) (hi : ps[i]? = some (.slice (some ⟨g, 0, none⟩) n c, l)) (ho : OwnB w2 w0.heap.size (.slice (some ⟨g, 0, none⟩) n c) (marksB 9 0 N)) (hg : w.grownBy w2 (some g)) : OSt w0 w2 (ps.set i (.slice (some ⟨g, 0, none⟩) n c, marksB 9 0 N)) := by
  have ho1 := h.get i hi
  exact ⟨h.low.grown hg h.low.size (fun k e => by injection e with e; subst e; exact (ho1.lt _ rfl).1), h.hp.over hi rfl hg ho⟩
theorem OSt.over {v : Value} {l l' : List UInt8} {g : Nat} (h : OSt w0 w ps) (i : Nat) (hi : ps[i]? = some (v, l)) (hv : v.ownBlock = some g) (hg : w.grownBy w' (some g)) (ho : OwnB w' w0.heap.size v l') : OSt w0 w' (ps.set i (v, l')) :=
  ⟨h.low.grown hg h.low.size (fun k e => by injection e with e; subst e; exact ((h.get i hi).lt _ hv).1), h.hp.over hi hv hg ho⟩
end
end Go.Proofs.Ytgfhnbjpdhdhgaa

namespace Go.Proofs.Ytgfhnbjpdhdhgaa
open Go.RowKit

theorem lb_info : (Try.prog.info? 25).map (fun i => (i.zero, i.size, i.bytes)) = some (some (.slice none 0 0), 1, 24) := by kernel_rfl

/-- the list that is handed in -/
def LR (w : World) (gL N cL : Nat) (vs : List Value) : Prop := w.ownsRow 0 25 1 (.slice (some ⟨gL, 0, none⟩) N cL) N vs
theorem LR.cell {w : World} {gL N cL k : Nat} {vs : List Value} (h : LR w gL N cL vs) (hk : k < N) : w.cell? ⟨gL, k, none⟩ = some (vs.getD k (.slice none 0 0)) := by
  have hl := h.1
  have := World.ownsRow.cellAt h k (by omega)
  rw [this, List.getD_eq_getElem?_getD, List.getElem?_eq_getElem (by omega)]
  rfl
theorem LR.ne {w : World} {gL N cL base : Nat} {vs : List Value} {v : Value} {l : List UInt8} (h : LR w gL N cL vs) (ho : OwnB w base v l) : v.ownBlock ≠ some gL := by
  rcases h.2 with ⟨h', _⟩ | ⟨g', cap', cur, h', _, hg, _⟩
  · cases h'
  injection h' with h1
  injection h1 with h1
  injection h1 with h1
  subst h1
  rcases ho.2 with ⟨rfl, _⟩ | ⟨g, cap, cur', rfl, _, hgg, _⟩
  · simp [Value.ownBlock]
  · intro e
    have : g = gL := by simpa [Value.ownBlock] using e
    subst this
    rw [hg] at hgg
    injection hgg with hgg
    injection hgg with _ h2
    exact absurd h2 (by decide)
theorem LR.below {w w' : World} {gL N cL : Nat} {vs : List Value} (h : LR w gL N cL vs) (hb : Below w.heap.size w w') : LR w' gL N cL vs :=
  World.ownsRow.kept h (row := none) ⟨hb.os, hb.tape, hb.output, hb.size, fun k hk _ => hb.block k hk⟩ (.inr (by simp [Value.ownBlock]))
theorem LR.kept' {w w' : World} {gL N cL : Nat} {vs : List Value} {row : Option Nat} (h : LR w gL N cL vs) (hg : w.grownBy w' row) (hne : row ≠ some gL) : LR w' gL N cL vs :=
  World.ownsRow.kept h hg (.inr (by simp only [Value.ownBlock]; exact fun e => hne e.symm))
theorem LR.kept {w w' : World} {gL N cL g : Nat} {vs : List Value} (h : LR w gL N cL vs) (hg : w.grownBy w' (some g)) (hne : g ≠ gL) : LR w' gL N cL vs :=
  World.ownsRow.kept h hg (.inr (by simp [Value.ownBlock]; exact fun e => hne e.symm))

/-- after round k of the first loop -/
def F1 (vs : List Value) (ls : List (List UInt8)) (k : Nat) : Nat → List (Value × List UInt8) := fun j =>
  [(vs.getD j (.slice none 0 0), if j < k then marksB (j + 10) 0 (ls.getD j []).length else ls.getD j [])]
def F1i (vs : List Value) (ls : List (List UInt8)) (k i : Nat) : Nat → List (Value × List UInt8) := fun j =>
  if j = k then [(vs.getD k (.slice none 0 0), marksB (k + 10) 0 i ++ (ls.getD k []).drop i)] else F1 vs ls k j
theorem Fam.one {w : World} {base N j : Nat} {F : Nat → List (Value × List UInt8)} {v : Value} {l : List UInt8} (h : Fam w base N F) (hj : j < N) (hF : F j = [(v, l)]) : OwnB w base v l := h.own j hj (v, l) (by rw [hF]; simp)
theorem F1_at (vs : List Value) (ls : List (List UInt8)) (k : Nat) : F1 vs ls k k = [(vs.getD k (.slice none 0 0), ls.getD k [])] := by simp [F1]
theorem F1i_zero (vs : List Value) (ls : List (List UInt8)) (k : Nat) : F1i vs ls k 0 = F1 vs ls k := by
  funext j
  unfold F1i F1
  by_cases h : j = k
  · subst h; simp [marksB]
  · simp [h]
theorem F1i_end (vs : List Value) (ls : List (List UInt8)) (k : Nat) : F1i vs ls k (ls.getD k []).length = F1 vs ls (k + 1) := by
  funext j
  unfold F1i F1
  by_cases h : j = k
  · subst h; simp [marksB]
  · have : (j < k + 1) ↔ (j < k) := by omega
    simp [h, this]
theorem F1i_at (vs : List Value) (ls : List (List UInt8)) (k i : Nat) : F1i vs ls k i k = [(vs.getD k (.slice none 0 0), marksB (k + 10) 0 i ++ (ls.getD k []).drop i)] := by simp [F1i]
theorem F1i_succ (vs : List Value) (ls : List (List UInt8)) (k i : Nat) (h : i < (ls.getD k []).length) :
    (fun j => if j = k then [(vs.getD k (.slice none 0 0), (marksB (k + 10) 0 i ++ (ls.getD k []).drop i).set i (markB (k + 10) i))] else F1i vs ls k i j) = F1i vs ls k (i + 1) := by
  have hs := over_step (m := k + 10) h
  rw [Nat.zero_add] at hs
  funext j
  by_cases hj : j = k
  · subst hj; simp only [F1i, if_true]; rw [hs]
  · simp only [F1i, hj, if_false]

/-- after round k of the second loop: beside each slice, from 0 to k - 1, what it was gone on with -/
def F2 (vs : List Value) (ls : List (List UInt8)) (Gs : List Value) (k : Nat) : Nat → List (Value × List UInt8) := fun j =>
  if j < k then [(vs.getD j (.slice none 0 0), marksB (j + 10) 0 (ls.getD j []).length), (Gs.getD j (.slice none 0 0), marksB (j + 10) 0 ((ls.getD j []).length + 6))]
  else [(vs.getD j (.slice none 0 0), marksB (j + 10) 0 (ls.getD j []).length)]
def F2i (vs : List Value) (ls : List (List UInt8)) (Gs : List Value) (k : Nat) (g : Value) (i : Nat) : Nat → List (Value × List UInt8) := fun j =>
  if j = k then [(vs.getD k (.slice none 0 0), marksB (k + 10) 0 (ls.getD k []).length), (g, marksB (k + 10) 0 ((ls.getD k []).length + i))] else F2 vs ls Gs k j
theorem F2_start (vs : List Value) (ls : List (List UInt8)) (N : Nat) : ∀ j, j < N → F2 vs ls [] 0 j = F1 vs ls N j := by
  intro j hj
  simp [F1, F2, hj]
theorem F2_at (vs : List Value) (ls : List (List UInt8)) (Gs : List Value) (k : Nat) : F2 vs ls Gs k k = [(vs.getD k (.slice none 0 0), marksB (k + 10) 0 (ls.getD k []).length)] := by simp [F2]
theorem F2i_zero (vs : List Value) (ls : List (List UInt8)) (Gs : List Value) (k : Nat) :
    (fun j => if j = k then [((vs.getD k (.slice none 0 0)), marksB (k + 10) 0 (ls.getD k []).length), ((vs.getD k (.slice none 0 0)), marksB (k + 10) 0 (ls.getD k []).length)] else F2 vs ls Gs k j) = F2i vs ls Gs k (vs.getD k (.slice none 0 0)) 0 := by
  funext j; simp [F2i]
theorem F2i_at (vs : List Value) (ls : List (List UInt8)) (Gs : List Value) (k : Nat) (g : Value) (i : Nat) : F2i vs ls Gs k g i k = [(vs.getD k (.slice none 0 0), marksB (k + 10) 0 (ls.getD k []).length), (g, marksB (k + 10) 0 ((ls.getD k []).length + i))] := by simp [F2i]
theorem F2i_succ (vs : List Value) (ls : List (List UInt8)) (Gs : List Value) (k : Nat) (g g' : Value) (i : Nat) :
    (fun j => if j = k then [(vs.getD k (.slice none 0 0), marksB (k + 10) 0 (ls.getD k []).length), (g', marksB (k + 10) 0 ((ls.getD k []).length + (i + 1)))] else F2i vs ls Gs k g i j) = F2i vs ls Gs k g' (i + 1) := by
  funext j
  by_cases hj : j = k <;> simp [F2i, hj]
theorem F2i_end (vs : List Value) (ls : List (List UInt8)) (Gs : List Value) (k : Nat) (g : Value) (hG : Gs.length = k) : F2i vs ls Gs k g 6 = F2 vs ls (Gs ++ [g]) (k + 1) := by
  funext j
  by_cases hj : j = k
  · subst hj; subst hG; simp [F2i, F2]
  · simp only [F2i, hj, if_false, F2]
    by_cases hjk : j < k
    · have h1 : j < k + 1 := by omega
      have h2 : (Gs ++ [g]).getD j (.slice none 0 0) = Gs.getD j (.slice none 0 0) := by
        rw [List.getD_eq_getElem?_getD, List.getD_eq_getElem?_getD, List.getElem?_append_left (by omega)]
      simp only [hjk, h1, if_true, h2]
    · have h1 : ¬ j < k + 1 := by omega
      simp only [hjk, h1, if_false]
theorem marksB_take (k s n m : Nat) (h : n ≤ m) : marksB k s n = (marksB k s m).take n := by
  simp [marksB, ← List.map_take, List.take_range, Nat.min_eq_left h]

theorem marksB_get {a n i : Nat} (h : i < n) : (marksB a 0 n)[i]? = some (markB a i) := by
  simp [marksB, h]
theorem OwnB.markAt {w : World} {base a n m c i : Nat} {A : Option Addr} (h : OwnB w base (.slice A m c) (marksB a 0 n)) (hi : i < n) :
    ∃ g, A = some ⟨g, 0, none⟩ ∧ w.cell? ⟨g, i, none⟩ = some (.int .u8 ((markB a i).toNat : Int)) := by
  have hm := h.len_eq
  rw [marksB_length] at hm
  obtain ⟨g, rfl, -⟩ := h.form (by omega)
  obtain ⟨x, hx, hc⟩ := h.cellAt (k := i) (by rw [marksB_length]; exact hi)
  rw [marksB_get hi] at hx
  injection hx with hx
  subst hx
  exact ⟨g, rfl, hc⟩
theorem LR.lit (w : World) (cs : Array Value) (n : Nat) (hn : cs.size = n) (h : n ≤ 1000) : LR (w.alloc (.cells cs 25)) w.heap.size n n cs.toList :=
  World.ownsRow_lit w cs n (Nat.zero_le _) (by simp only [maxLen]; omega) (by omega)
theorem LR.name {w : World} {gL N cL : Nat} {vs : List Value} (h : LR w gL N cL vs) : ∃ us, us = vs ∧ LR w gL N cL us := ⟨vs, rfl, h⟩
theorem LR.lt {w : World} {gL N cL : Nat} {vs : List Value} (h : LR w gL N cL vs) : gL < w.heap.size := (World.ownsRow.lt h gL rfl).2

set_option maxRecDepth 100000 in
set_option maxHeartbeats 2000000 in
theorem apartBytes_any (gL N cL base : Nat) (vs : List Value) (ls : List (List UInt8)) (w : World) (hL : LR w gL N cL vs) (hF : Fam w base N (F1 vs ls 0)) (hN : N ≤ 1000) (hbase : base ≤ w.heap.size)
    (hlen : ∀ j, j < N → (ls.getD j []).length ≤ 140737488355320) :
    Calls Try.prog 28 #[.slice (some ⟨gL, 0, none⟩) N cL] w fun e w' => e = .returned (.bool true) ∧ Below base w w' := by
  obtain ⟨i0, hi0, hz0, hz1, hz2⟩ := info_parts u8_info
  obtain ⟨i1, hi1, hy0, hy1, hy2⟩ := info_parts lb_info
  have HL := Lib.hid hlen
  clear hlen
  go_enter Try.func28, Try.ntmps28
  go_wp2
  go_loopw [3] (fun i wr => ∃ k : Nat, k ≤ N ∧ i = .int .i64 k ∧ Fam wr base N (F1 vs ls k) ∧ LR wr gL N cL vs ∧ Below base w wr) (fun i _ => N - (intOf i).toNat)
  case atStart => exact ⟨0, Nat.zero_le _, rfl, hF, hL, Below.refl _ _⟩
  case round =>
    obtain ⟨k, hk, rfl, hFk, hLk, hBk⟩ := hrel
    by_cases hlt : k < N
    · have hcell := hLk.cell hlt
      have hown := hFk.one hlt (F1_at vs ls k)
      obtain ⟨A, n, c, hv, hn, -⟩ := hown.shape
      have hnb : n ≤ 140737488355320 := by rw [hn.out]; exact HL.out k hlt
      rw [hv] at hcell
      have HV := Lib.hid hv
      clear hv hown
      obtain ⟨wo, rfl⟩ : ∃ wo : World, wo = wr := ⟨_, rfl⟩
      go_wp2
      go_loopw [4] (fun i wr => ∃ q : Nat, q ≤ n ∧ i = .int .i64 q ∧ Fam wr base N (F1i vs ls k q) ∧ LR wr gL N cL vs ∧ Below base w wr) (fun i _ => n - (intOf i).toNat)
      case atStart => exact ⟨0, Nat.zero_le _, rfl, by rw [F1i_zero]; exact hFk, hLk, hBk⟩
      case round =>
        obtain ⟨q, hq, rfl, hFq, hLq, hBq⟩ := hrel
        have hcellq := hLq.cell hlt
        rw [HV.out] at hcellq
        clear hcell
        by_cases hlq : q < n
        · have hFk' := F1i_at vs ls k q
          rw [HV.out] at hFk'
          have hown := hFq.one hlt hFk'
          obtain ⟨g, rfl, hbg, hgs⟩ := hown.form (by omega)
          obtain ⟨x, -, hcb⟩ := hown.cellAt (k := q) (by have := hn.out; simp only [List.length_append, marksB_length, List.length_drop]; omega)
          have hfr := hown.frozenAt q
          have hst := hFq.store hlt hFk' q (markB (k + 10) q)
          have hgr := (hown.stored q (markB (k + 10) q)).2
          have hne : g ≠ gL := fun e => hLq.ne hown (by rw [e]; rfl)
          have HFK := Lib.hid hFk'
          clear hFk'
          go_wp2
          have hw1 : IntKind.i64.wrap ((k : Int) + 10) = (k : Int) + 10 := IntWalk.i64_in _ (by omega)
          go_still_tail 10, (by kernel_rfl)
          clear hw1
          still_call ((markB_at (a := (k : Int) + 10) (k + 10) q (by omega) rfl _ (by omega) (by omega)).mono fun _ _ h => ⟨h.1, h.2.symm⟩)
          repeat still_step
          refine wpStill_nil ?_
          go_wp2
          go_roundw
          case rel =>
            refine ⟨q + 1, by omega, by go_num, ?_, hLq.kept (grownBy_drew hgr) hne, (hBq.grown (grownBy_drew hgr) (by have := hBq.size; omega) (fun g' h => by injection h with h; omega))⟩
            have e := F1i_succ vs ls k q (by have := hn.out; omega)
            rw [HV.out] at e
            rw [← e]
            exact hst.drew
          case measure => simp [intOf]; omega
        · have hqn : q = n := by omega
          subst hqn
          go_wp2
          go_roundw
          case rel => exact ⟨k + 1, by omega, by go_num, by rw [← F1i_end, ← hn.out]; exact hFq, hLq, hBq⟩
          case measure => simp [intOf]; omega
    · have hkN : N = k := by omega
      subst hkN
      go_wp2
      go_loopw [5, 6] (fun v i wr => ∃ (k : Nat) (Gs : List Value), k ≤ N ∧ i = .int .i64 k ∧ Hid (Gs.length = k) ∧ Fam wr base N (F2 vs ls Gs k) ∧ LR wr gL N cL vs ∧ wr.ownsRow w.heap.size 25 1 v k Gs ∧ Below base w wr) (fun _ i _ => N - (intOf i).toNat)
      case atStart => exact ⟨0, [], Nat.zero_le _, rfl, rfl, hFk.congr (F2_start vs ls N), hLk, World.ownsRow_nil _ _ _ _, hBk⟩
      case round =>
        clear hFk hLk hBk
        obtain ⟨k, Gs, hk, rfl, hGs, hFk, hLk, hGk, hBk⟩ := hrel
        by_cases hlt : k < N
        · have hcell := hLk.cell hlt
          have hFa := F2_at vs ls Gs k
          have hown := hFk.one hlt hFa
          obtain ⟨A, n, c, hv, hn, -⟩ := hown.shape
          rw [marksB_length] at hn
          have hnb : n ≤ 140737488355320 := by rw [hn.out]; exact HL.out k hlt
          have hd := hFk.dup hFa
          rw [F2i_zero] at hd
          rw [hv] at hcell hd
          have HV := Lib.hid hv
          clear hv hown hFa
          obtain ⟨wo, rfl⟩ : ∃ wo : World, wo = wr := ⟨_, rfl⟩
          go_wp2
          go_loopw [7, 8] (fun v i wr => ∃ q : Nat, q ≤ 6 ∧ i = .int .i64 q ∧ Fam wr base N (F2i vs ls Gs k v q) ∧ LR wr gL N cL vs ∧ wr.ownsRow w.heap.size 25 1 u5 k Gs ∧ Below base w wr) (fun _ i _ => 6 - (intOf i).toNat)
          case atStart => exact ⟨0, Nat.zero_le _, rfl, hd, hLk, hGk, hBk⟩
          case round =>
            clear hFk hLk hGk hBk hcell hd
            obtain ⟨q, hq, rfl, hFq, hLq, hGq, hBq⟩ := hrel
            have hcell := hLq.cell hlt
            rw [HV.out] at hcell
            by_cases hlq : q < 6
            · have hFa := F2i_at vs ls Gs k u7 q
              have ho7 : OwnB wr base u7 (marksB (k + 10) 0 (n + q)) := hFq.own k hlt (u7, _) (by rw [hFa, hn.out]; exact List.mem_cons_of_mem _ (List.mem_singleton.2 rfl))
              have hbs : base ≤ wr.heap.size := by have := hBq.size; omega
              have ho7r : (wr.alloc (.cells #[vb (markB (k + 10) (n + q))] 5)).ownsRow base 5 1 u7 (n + q) ((marksB (k + 10) 0 (n + q)).map vb) := by
                have := ho7.alloc (.cells #[vb (markB (k + 10) (n + q))] 5)
                unfold OwnB at this
                rwa [marksB_length] at this
              have HFA := Lib.hid hFa
              clear hFa
              go_wp2_with (first | (go_at_call 56; refine (markB_at (a := (k : Int) + 10) (b := (n : Int) + q) (k + 10) (n + q) (by omega) (by omega) _ (by omega) (by omega)).mono ?_; rintro e w2 ⟨rfl, rfl⟩) | (at_builtin; refine wpList_append_two _ rfl (.tmp 50) (.tmp 61) 25 rfl base 5 i0 (.int .u8 0) 1 Try.underlying25 hi0 hz0 hz1 hz2 rfl _ _ _ rfl ho7r ⟨wr.heap.size, 0, none⟩ 1 1 [vb (markB (k + 10) (n + q))] rfl (by omega) rfl (cell_one_new _ _ _) (by simp [Value.oneCell']) (by simp only [maxLen]; omega) (by omega) (by simp; omega) ?_; intro v2 w2 ho2 hcase))
              have ho3 := OwnB.of_mark ho2
              have hgr := two_grown hcase
              have hF3 := (hFq.alloc (.cells #[vb (markB (k + 10) (n + q))] 5)).append hlt HFA.out (by rw [marksB_length, marksB_length]; omega) (by rw [marksB_length]; exact marksB_take _ _ _ _ (by omega)) (by rw [marksB_length, ← hn.out]; exact marksB_take _ _ _ _ (by omega)) ho3 hcase
              have hL3 := LR.kept' (World.ownsRow.alloc hLq (.cells #[vb (markB (k + 10) (n + q))] 5)) hgr (hLq.ne ho7)
              have hG3 := (hGq.alloc (.cells #[vb (markB (k + 10) (n + q))] 5)).kept hgr (rows_ne hGq ho7 (by decide))
              have hB3 := (hBq.alloc hbs (.cells #[vb (markB (k + 10) (n + q))] 5)).grown hgr (by simp; omega) (fun g e => (ho7.lt g e).1)
              go_roundw
              case rel =>
                refine ⟨q + 1, by omega, by go_num, ?_, hL3, hG3, hB3⟩
                rw [← F2i_succ, ← hn.out, ← Nat.add_assoc]
                rw [← hn.out] at hF3
                exact hF3
              case measure => simp [intOf]; omega
            · have hq6 : q = 6 := by omega
              subst hq6
              clear hcell
              have hbs : w.heap.size ≤ wr.heap.size := hBq.size
              have ho7 : OwnB wr base u7 (marksB (k + 10) 0 (n + 6)) := hFq.own k hlt (u7, _) (by rw [F2i_at, hn.out]; exact List.mem_cons_of_mem _ (List.mem_singleton.2 rfl))
              obtain ⟨A7, n7, c7, rfl, -⟩ := ho7.shape
              have hgn : Gs.length ≤ 1000 := by have := hGs.out; omega
              rw [F2i_end _ _ _ _ _ hGs.out] at hFq
              go_wp2_with (at_builtin; refine wpList_append_own _ rfl (.tmp 63) (.tmp 65) 41 rfl w.heap.size 25 i1 (.slice none 0 0) 1 24 Try.underlying41 hi1 hy0 hy1 hy2 rfl (by decide) _ _ _ rfl (hGq.alloc _) ⟨wr.heap.size, 0, none⟩ 1 1 [.slice A7 n7 c7] rfl rfl (cell_one_new _ _ _) (by simp [Value.oneCell']) (by simp only [maxLen]; omega) (by omega) (by simp; omega) ?_; intro v2 w2 ho2 hgr hnil)
              have hgL := hL.lt
              have hF3 := (hFq.alloc (.cells #[.slice A7 n7 c7] 25)).kept hgr (fun j hj p hp => rows_ne (hFq.own j hj p hp) hGq (by decide))
              have hL3 := LR.kept' (World.ownsRow.alloc hLq (.cells #[.slice A7 n7 c7] 25)) hgr (fun e => by have := (hGq.lt _ e).1; omega)
              have hB3 := (hBq.alloc (by omega) (.cells #[.slice A7 n7 c7] 25)).grown hgr (by simp; omega) (fun g e => by have := (hGq.lt g e).1; omega)
              go_roundw
              case rel => exact ⟨k + 1, Gs ++ [.slice A7 n7 c7], by omega, by go_num, by rw [List.length_append, hGs.out]; rfl, hF3, hL3, ho2, hB3⟩
              case measure => simp [intOf]; omega
        · have hkN : N = k := by omega
          subst hkN
          obtain ⟨w3, rfl⟩ : ∃ w3 : World, w3 = wr := ⟨_, rfl⟩
          go_wp2
          go_loopw [9] (fun i wr => ∃ k q : Nat, k ≤ N ∧ i = .int .i64 k ∧ wr = w3.drewN q) (fun i _ => N - (intOf i).toNat)
          case atStart => exact ⟨0, 0, Nat.zero_le _, rfl, rfl⟩
          case round =>
            obtain ⟨k, q, hk, rfl, rfl⟩ := hrel
            by_cases hlt : k < N
            · obtain ⟨gG, cG, rfl, hgG, -⟩ := World.ownsRow.form hGk (by omega)
              have hkG : k < Gs.length := by have := hGs.out; omega
              have hcG : w3.cell? ⟨gG, k, none⟩ = some Gs[k] := by rw [World.ownsRow.cellAt hGk k (by omega), List.getElem?_eq_getElem hkG]
              have hcell := hLk.cell hlt
              have hFa : F2 vs ls Gs N k = [(vs.getD k (.slice none 0 0), marksB (k + 10) 0 (ls.getD k []).length), (Gs[k], marksB (k + 10) 0 ((ls.getD k []).length + 6))] := by
                simp only [F2, hlt, if_true]
                rw [List.getD_eq_getElem?_getD (l := Gs), List.getElem?_eq_getElem hkG]
                rfl
              have hoV := hFk.own k hlt (vs.getD k (.slice none 0 0), _) (by rw [hFa]; exact List.mem_cons_self)
              have hoG := hFk.own k hlt (Gs[k], _) (by rw [hFa]; exact List.mem_cons_of_mem _ (List.mem_singleton.2 rfl))
              simp only at hoV hoG
              obtain ⟨A, n, c, hv, hn, -⟩ := hoV.shape
              obtain ⟨A', n', c', hv', hn', -⟩ := hoG.shape
              have hnb : n ≤ 140737488355320 := by rw [hn.out, marksB_length]; exact HL.out k hlt
              have hnn : n' = n + 6 := by rw [hn.out, hn'.out, marksB_length, marksB_length]
              have hlen := hn.out
              rw [marksB_length] at hlen
              rw [← hlen, hv] at hoV
              rw [← hlen, hv'] at hoG
              rw [hv] at hcell
              rw [hv'] at hcG
              subst hnn
              clear hv hv' hn hn' hlen hFa
              go_wp2
              go_loopw [10] (fun i wr => ∃ t q : Nat, t ≤ n + 6 ∧ i = .int .i64 t ∧ wr = w3.drewN q) (fun i _ => n + 6 - (intOf i).toNat)
              case atStart => exact ⟨0, q, Nat.zero_le _, rfl, rfl⟩
              case round =>
                obtain ⟨t, q', ht, rfl, rfl⟩ := hrel
                by_cases hlt' : t < n + 6
                · obtain ⟨g', rfl, hcg'⟩ := hoG.markAt hlt'
                  have hw1 : IntKind.i64.wrap ((k : Int) + 10) = (k : Int) + 10 := IntWalk.i64_in _ (by omega)
                  have hb1 : (((markB (k + 10) t).toNat : Int) != ((markB (k + 10) t).toNat : Int)) = false := by simp
                  by_cases hln : t < n
                  · obtain ⟨g, rfl, hcg⟩ := hoV.markAt hln
                    have hb2 : decide ((t : Int) < n) = true := by simp; omega
                    go_wp2
                    go_quiet ((go_at_call 56; exact quiet_add_left ((markB_at (a := (k : Int) + 10) (k + 10) t (by omega) rfl _ (by omega) (by omega)))))
                    go_wp2
                    go_roundw
                    case rel => exact ⟨t + 1, q' + nq, by omega, by go_num, by simp⟩
                    case measure => simp [intOf]; omega
                  · have hb2 : decide ((t : Int) < n) = false := by simp; omega
                    go_wp2
                    go_quiet ((go_at_call 56; exact quiet_add_left ((markB_at (a := (k : Int) + 10) (k + 10) t (by omega) rfl _ (by omega) (by omega)))))
                    go_wp2
                    go_roundw
                    case rel => exact ⟨t + 1, q' + nq, by omega, by go_num, by simp⟩
                    case measure => simp [intOf]; omega
                · go_wp2
                  go_roundw
                  case rel => exact ⟨k + 1, q', by omega, by go_num, rfl⟩
                  case measure => simp [intOf]; omega
            · go_wp2
              go_ret
              exact ⟨rfl, bdrewN hBk q⟩

theorem Hp.fam {w : World} {base : Nat} {ps : List (Value × List UInt8)} (h : Hp w base ps) : Fam w base ps.length (F1 (ps.map (·.1)) (ps.map (·.2)) 0) := by
  have key : ∀ j, j < ps.length → ∃ p, ps[j]? = some p ∧ F1 (ps.map (·.1)) (ps.map (·.2)) 0 j = [p] := by
    intro j hj
    refine ⟨ps[j], List.getElem?_eq_getElem hj, ?_⟩
    simp [F1, List.getElem?_eq_getElem hj]
  refine ⟨fun j hj p hp => ?_, fun i j hi hj hij p hp q hq => ?_⟩
  · obtain ⟨r, hr, e⟩ := key j hj
    rw [e] at hp
    rw [List.mem_singleton.1 hp]
    exact h.own j r hr
  · obtain ⟨r, hr, e⟩ := key i hi
    obtain ⟨t, ht, e'⟩ := key j hj
    rw [e] at hp
    rw [e'] at hq
    rw [List.mem_singleton.1 hp, List.mem_singleton.1 hq]
    exact h.apart i j r t hij hr ht

/-- ApartBytes at a list just written out of slices of the call's own. -/
theorem apartBytes_lit {w0 w : World} {ps : List (Value × List UInt8)} (h : OSt w0 w ps) (qs : List (Value × List UInt8)) (is : List Nat) (hn : is.Nodup) (hq : qs.map some = is.map fun i => ps[i]?) (n : Nat) (hN : qs.length = n) (hN' : n ≤ 1000)
    (hlen : ∀ p ∈ qs, p.2.length ≤ 140737488355320) (cs : Array Value) (hcs : cs = (qs.map (·.1)).toArray) :
    Calls Try.prog 28 #[.slice (some ⟨w.heap.size, 0, none⟩) n n] (w.alloc (.cells cs 25)) fun e w' => e = .returned (.bool true) ∧ Below w0.heap.size w0 w' := by
  subst hN hcs
  have hsz := h.low.size
  have hL : LR (w.alloc (.cells (qs.map (·.1)).toArray 25)) w.heap.size qs.length qs.length (qs.map (·.1)) := by
    have := World.ownsRow_lit (base := 0) (e := 25) (size := 1) w (qs.map (·.1)).toArray qs.length (Nat.zero_le _) (by simp only [maxLen]; omega) (by simp)
    simpa [LR] using this
  have h1 := h.call ((Below.refl _ _).alloc (Nat.le_refl _) (.cells (qs.map (·.1)).toArray 25))
  have hF := (h1.hp.sel is hn hq).fam
  refine (apartBytes_any w.heap.size qs.length qs.length w0.heap.size _ _ _ hL hF hN' (by simp; omega) ?_).mono fun e w' he => ⟨he.1, h1.low.trans he.2⟩
  intro j hj
  rw [List.getD_eq_getElem?_getD, List.getElem?_map, List.getElem?_eq_getElem hj]
  exact hlen _ (List.getElem_mem hj)

theorem apartBytes_list {w0 w : World} {ps : List (Value × List UInt8)} (h : OSt w0 w ps) (qs : List (Value × List UInt8)) (is : List Nat) (hn : is.Nodup) (hq : qs.map some = is.map fun i => ps[i]?) (n gL cL : Nat) (vs : List Value) (hL : LR w gL n cL vs)
    (hvs : vs = qs.map (·.1)) (hN : qs.length = n) (hN' : n ≤ 1000) (hlen : ∀ p ∈ qs, p.2.length ≤ 140737488355320) :
    Calls Try.prog 28 #[.slice (some ⟨gL, 0, none⟩) n cL] w fun e w' => e = .returned (.bool true) ∧ Below w0.heap.size w0 w' := by
  subst hN hvs
  have hF := (h.hp.sel is hn hq).fam
  refine (apartBytes_any gL qs.length cL w0.heap.size _ _ _ hL hF hN' h.low.size ?_).mono fun e w' he => ⟨he.1, h.low.trans he.2⟩
  intro j hj
  rw [List.getD_eq_getElem?_getD, List.getElem?_map, List.getElem?_eq_getElem hj]
  exact hlen _ (List.getElem_mem hj)
end Go.Proofs.Ytgfhnbjpdhdhgaa

namespace Go.Proofs.Ytgfhnbjpdhdhgaa
open Go
section
variable {P : Program} {l : List Oper} {Q : Exit → Act → World → Prop} {md : Region.Mode} {S : World → Prop} {o : Oper} {rest : List Oper} {fuel : Nat} {listed : Array Bool} {a : Act} {w : World}

theorem drop_at {i : Nat} (h : l.drop i = o :: rest) : l.toArray[i]? = some o := by
  have h2 := congrArg (fun m => m[0]?) h
  simp only [List.getElem?_drop, Nat.add_zero, List.getElem?_cons_zero] at h2
  simpa using h2
/-- a load of a whole array -/
theorem take_load {ty : TypeId} {x : Operand} {d : TypeDesc} (i g : Nat) (cs : List Value) (hS : ∀ w, S w → w.rangeAt g 0 cs) (hu : P.underlying ty = some d) (hl : (P.info? ty).map (·.size) = some cs.length)
    (hi : l.drop i = o :: rest) (hs : Region.noSelect l.toArray = true) (hf : Region.free md l.toArray listed i = true) (hr : (Region.ready md l.toArray listed).contains i = true)
    (hQ : ∀ c a w, Q (.panic c) (a.put o.dst (.agg cs.toArray)) w → Q (.panic c) a w) (hd : d.isRow = true) (hw : Region.wanted o (yielded l.toArray a.tmps) = true)
    (ho : o.op = .load ty x) (hx : a.eval x = .pointer (some ⟨g, 0, none⟩)) (hSw : S w)
    (h : wpAnyH P md l.toArray Q S fuel (listed.setIfInBounds i true) (a.put o.dst (.agg cs.toArray)) w) : wpAnyH P md l.toArray Q S (fuel + 1) listed a w :=
  wpAnyH_take (drop_at hi) hs hf hr hQ (yieldsIf_load_mid hw ty x ho g 0 hx cs d hS hu hd hl) hSw h
/-- an operation that reads nothing -/
theorem take_pure (i : Nat) (v : Value) (hi : l.drop i = o :: rest) (hs : Region.noSelect l.toArray = true) (hf : Region.free md l.toArray listed i = true) (hr : (Region.ready md l.toArray listed).contains i = true)
    (hQ : ∀ c a w, Q (.panic c) (a.put o.dst v) w → Q (.panic c) a w) (hw : Region.wanted o (yielded l.toArray a.tmps) = true) (hv : ∀ w, S w → (execOp a.eval o).run P w = .ok (.value v) w) (hSw : S w)
    (h : wpAnyH P md l.toArray Q S fuel (listed.setIfInBounds i true) (a.put o.dst v) w) : wpAnyH P md l.toArray Q S (fuel + 1) listed a w :=
  wpAnyH_take (drop_at hi) hs hf hr hQ (.inl ⟨hw, hv⟩) hSw h
/-- one alone may come up -/
theorem take_call (i : Nat) (hi : l.drop i = o :: rest) (hr : Region.ready md l.toArray listed = [i])
    (h : ∀ K' : Act → World → Prop, Shut (∀ a w, S w → (S w → wpAnyH P md l.toArray Q S fuel (listed.setIfInBounds i true) a w) → K' a w) → if Region.wanted o (yielded l.toArray a.tmps) = true then Oper.wp P o a w K' Q else K' (a.put o.dst undef) w) :
    wpAnyH P md l.toArray Q S (fuel + 1) listed a w :=
  wpAnyH_ready hr (by simp) (AllReadyH.cons (drop_at hi) h AllReadyH.nil)
end
end Go.Proofs.Ytgfhnbjpdhdhgaa

namespace Go.Proofs.Ytgfhnbjpdhdhgaa
open Go.RowKit
set_option linter.unusedVariables false

theorem St.rows_ne {w0 w : World} {F0 : List Nat} {E : Env} {e e' : TypeId} {s s' n n' : Nat} {v v' : Value} {xs xs' : List Value} (H : St w0 F0 w E) (i j : Nat) (hij : i ≠ j) (hi : E i = some (.row e s v n xs)) (hj : E j = some (.row e' s' v' n' xs')) : v.ownBlock = none ∨ v.ownBlock ≠ v'.ownBlock := by
  obtain ⟨F, ⟨-, e1⟩, -, hd, -⟩ := H.change i hi
  obtain ⟨G, ⟨-, e2⟩, hd'⟩ := hd j _ (fun e => hij e.symm) hj
  cases hv : v.ownBlock with
  | none => exact .inl rfl
  | some g =>
    refine .inr fun h => ?_
    exact hd' g (by rw [e2, ← h]; simp) (by rw [e1, hv]; simp)

theorem St.hp {w0 w : World} {E : Env} (H : St w0 [] w E) (ps : List (Value × List UInt8)) (f : Nat → Nat) (hf : ∀ i j, i < ps.length → j < ps.length → f i = f j → i = j) (h : ∀ i p, ps[i]? = some p → E (f i) = some (.row 5 1 p.1 p.2.length (p.2.map vb))) : Hp w w0.heap.size ps := by
  refine ⟨fun i p hp => H.ownRow (f i) (h i p hp), fun i j p q hij hp hq => ?_⟩
  have li := (List.getElem?_eq_some_iff.1 hp).1
  have lj := (List.getElem?_eq_some_iff.1 hq).1
  exact H.rows_ne (f i) (f j) (fun e => hij (hf i j li lj e)) (h i p hp) (h j q hq)

theorem apart_st {w0 w : World} {E : Env} (H : St w0 [] w E) (ps : List (Value × List UInt8)) (f : Nat → Nat) (hf : ∀ i j, i < ps.length → j < ps.length → f i = f j → i = j) (h : ∀ i p, ps[i]? = some p → E (f i) = some (.row 5 1 p.1 p.2.length (p.2.map vb)))
    (n : Nat) (hN : ps.length = n) (hN' : n ≤ 1000) (hlen : ∀ p ∈ ps, p.2.length ≤ 140737488355320) (cs : Array Value) (hcs : cs = (ps.map (·.1)).toArray) :
    Calls Try.prog 28 #[.slice (some ⟨w.heap.size, 0, none⟩) n n] (w.alloc (.cells cs 25)) fun e w' => e = .returned (.bool true) ∧ Below w0.heap.size w0 w' := by
  subst hN hcs
  have hsz := H.low.size
  have hL : LR (w.alloc (.cells (ps.map (·.1)).toArray 25)) w.heap.size ps.length ps.length (ps.map (·.1)) := by
    have := World.ownsRow_lit (base := 0) (e := 25) (size := 1) w (ps.map (·.1)).toArray ps.length (Nat.zero_le _) (by simp only [maxLen]; omega) (by simp)
    simpa [LR] using this
  have h1 := H.call ((Below.refl _ _).alloc (Nat.le_refl _) (.cells (ps.map (·.1)).toArray 25))
  have hF := (h1.hp ps f hf h).fam
  refine (apartBytes_any w.heap.size ps.length ps.length w0.heap.size _ _ _ hL hF hN' (by simp; omega) ?_).mono fun e w' he => ⟨he.1, h1.below.trans he.2⟩
  intro j hj
  rw [List.getD_eq_getElem?_getD, List.getElem?_map, List.getElem?_eq_getElem hj]
  exact hlen _ (List.getElem_mem hj)

theorem over_st {w0 w : World} {F0 : List Nat} {E : Env} {g n c : Nat} {l : List UInt8} (H : St w0 F0 w E) (i : Nat) (hi : E i = some (.row 5 1 (.slice (some ⟨g, 0, none⟩) n c) n (l.map vb))) (hn : n ≤ 140737488355328) :
    Calls Try.prog 27 #[.slice (some ⟨g, 0, none⟩) n c] w fun e w' => e = .returned (.tuple #[]) ∧ St w0 F0 w' (upd E i (.row 5 1 (.slice (some ⟨g, 0, none⟩) n c) n ((marksB 9 0 n).map vb))) := by
  have hr := H.row i hi
  have hl : n = l.length := by have := hr.1; simp at this; omega
  have ho : OwnB w 0 (.slice (some ⟨g, 0, none⟩) n c) l := by unfold OwnB; rw [← hl]; exact hr
  refine (overBytes_any 0 g c n l w ho hl hn).mono ?_
  rintro e w' ⟨rfl, ho', hg⟩
  refine ⟨rfl, H.grow i hi ?_ hg (.inl rfl)⟩
  unfold OwnB at ho'
  rw [marksB_length] at ho'
  exact ho'

set_option maxHeartbeats 1000000 in
theorem sameOp_yes (k : UInt8) (h : Int) (a : UInt8) (cn ou : Int) (A B A' B' : Option Addr) (n m c d n' m' c' d' : Nat) (xs ys : List UInt8) (w : World) (hA : Rd w 1 A n (xs.map vb)) (hB : Rd w 1 B m (ys.map vb)) (hA' : Rd w 1 A' n' (xs.map vb)) (hB' : Rd w 1 B' m' (ys.map vb))
    (hn : n ≤ 9223372036854775807) (hm : m ≤ 9223372036854775807) :
    Calls Try.prog 25 #[opV k h a cn ou (.slice A n c) (.slice B m d), opV k h a cn ou (.slice A' n' c') (.slice B' m' d')] w fun e w' => e = .returned (.bool true) ∧ Below w.heap.size w w' := by
  have hl : n' = n := by have h1 := hA.1; have h2 := hA'.1; simp at h1 h2; omega
  have hl' : m' = m := by have h1 := hB.1; have h2 := hB'.1; simp at h1 h2; omega
  subst hl hl'
  have e1 : (h == h) = true := by simp
  have e2 : (cn == cn) = true := by simp
  have e3 : (ou == ou) = true := by simp
  have H0 := St.start_lay w []
  go_enter Try.func25, Try.ntmps25
  go_wp2_with fail
  refine absorb_calls (H0.allocAt 0 rfl w.heap.size rfl _ _ |>.push_mk rfl |>.allocAt 1 rfl (w.heap.size + 1) (by simp) _ _ |>.push_mk rfl) ?_
  intro w1 H
  generalize w.heap.size + 1 = gb at H ⊢
  generalize hga : w.heap.size = ga at H ⊢
  clear hga H0
  refine (sameBytes_quiet A A' n' n' c c' xs xs w1 (H.arg0 hA) (H.arg0 hA') hn hn rfl).mono ?_
  rintro e w2 ⟨rfl, q, rfl⟩
  replace H := H.drewN q
  generalize w1.drewN q = w2 at H ⊢
  have c0 := H.cell 0 rfl (o := 6) rfl
  have c1 := H.cell 1 rfl (o := 6) rfl
  go_wp2_with fail
  refine (sameBytes_quiet B B' m' m' d d' ys ys w2 (H.arg0 hB) (H.arg0 hB') hm hm rfl).mono ?_
  rintro e w3 ⟨rfl, q', rfl⟩
  replace H := H.drewN q'
  go_wp2_with fail
  go_ret
  exact ⟨rfl, H.below⟩
end Go.Proofs.Ytgfhnbjpdhdhgaa

namespace Go.Proofs.Ytgfhnbjpdhdhgaa
open Go.RowKit
set_option linter.unusedVariables false

theorem load_guard {P : Program} {ops : Array Oper} {rest : List Oper} {o : Oper} {a : Act} {w : World} {Q : Exit → Act → World → Prop} (hw : Region.wanted o (yielded ops a.tmps) = true) (ty : TypeId) (x : Operand) (ho : o.op = .load ty x)
    (g : Nat) (hx : a.eval x = .pointer (some ⟨g, 0, none⟩)) (t : TypeId) (cs : Array Value) (fr : Nat × Nat) (d : TypeDesc) (hg : w.heap[g]? = some (.cells cs t fr))
    (hu : P.underlying ty = some d) (hd : (match d with | .struct _ | .array _ _ => true | _ => false) = true) (hi : (P.info? ty).map (·.size) = some cs.size)
    (h : wpList P ops Q rest (a.put o.dst (.agg cs)) w) : wpList P ops Q (o :: rest) a w := by
  unfold wpList
  rw [if_pos hw]
  exact .inl (wp_load_row ty x ho g hx t cs fr d hg hu hd hi h)

theorem lv_dec : decR (encB 10 5 0 0 0 [] []) = ⟨10, 5, 0, 0, 0, [], [], 32, 0⟩ := by kernel_rfl
theorem lv_len : (encB 10 5 0 0 0 [] []).length = 32 := by kernel_rfl
theorem lv_0 : (encB 10 5 0 0 0 [] [])[0]? = some 10 := by kernel_rfl
theorem lv_9 : (encB 10 5 0 0 0 [] [])[9]? = some 5 := by kernel_rfl
theorem encode_drop (w : World) : Calls Try.prog 29 #[.agg #[.int .u8 10, .int .i64 5, .int .u8 0, .int .i64 0, .int .i64 0, .slice none 0 0, .slice none 0 0]] w fun e w' => ∃ v, e = .returned (.tuple #[v, .int .i64 0]) ∧ OwnB w' w.heap.size v (encB 10 5 0 0 0 [] []) ∧ Below w.heap.size w w' :=
  encode_s 10 5 0 0 0 none 0 0 none 0 0 [] [] w Rd.none_ Rd.none_ (by omega) (by omega)

set_option maxHeartbeats 1000000 in
theorem lives_s (w : World) : Calls Try.prog 19 #[] w fun e w' => e = .returned (.bool true) ∧ Below w.heap.size w w' := by
  obtain ⟨L, HL⟩ : ∃ L, Hid (encB 10 5 0 0 0 [] [] = L) := ⟨_, rfl⟩
  have H0 := St.start_lay w []
  go_enter Try.func19, Try.ntmps19
  go_wp2_with fail
  refine (encode_drop w).mono ?_
  rintro e w1 ⟨v1, rfl, ho1, hb1⟩
  have H := (H0.pushOwnB 0 rfl ho1 hb1).push_mk rfl
  replace H := H.shape_row 0 rfl (n' := 32) (xs' := L.map vb) lv_len (by rw [HL.out])
  clear H0 ho1 hb1
  obtain ⟨A1, c1, rfl, hc1, hA1⟩ := row_form (H.row 0 rfl)
  obtain ⟨g1, rfl, -⟩ := hA1 (by omega)
  clear hA1
  go_wp2_with fail
  refine (decode_s _ 32 c1 L w1 (H.rd 0 rfl) hc1 (by omega)).mono ?_
  rintro e w2 ⟨v5, v6, rfl, HN⟩
  replace H := H.also HN
  clear HN
  rw [← HL.out, lv_dec] at H
  rw [← HL.out, lv_dec]
  replace H : St w [] w2 (lay [.row 5 1 (.slice (some ⟨g1, 0, none⟩) 32 c1) 32 ((encB 10 5 0 0 0 [] []).map vb), .row 5 1 v5 0 [], .row 5 1 v6 0 []]) := H
  have b0 := World.ownsRow.cellAt (H.row 0 rfl) 0 (by omega)
  have b9 := World.ownsRow.cellAt (H.row 0 rfl) 9 (by omega)
  rw [List.getElem?_map, lv_0] at b0
  rw [List.getElem?_map, lv_9] at b9
  obtain ⟨A5, d5, rfl, -⟩ := row_form (H.row 1 rfl)
  obtain ⟨A6, d6, rfl, -⟩ := row_form (H.row 2 rfl)
  clear HL
  generalize (encB 10 5 0 0 0 [] []).map vb = LL at H
  replace b0 : w2.cell? ⟨g1, 0, none⟩ = some (.int .u8 10) := b0
  replace b9 : w2.cell? ⟨g1, 9, none⟩ = some (.int .u8 5) := b9
  have hg1 := (World.ownsRow.lt (H.row 0 rfl) g1 rfl).2
  go_wp2
  go_ret
  exact ⟨rfl, (H.below).trans ((Below.refl _ _).alloc (by have := H.low.size; omega) _)⟩
end Go.Proofs.Ytgfhnbjpdhdhgaa

namespace Go.Proofs.Ytgfhnbjpdhdhgaa
open Go.RowKit
set_option linter.unusedVariables false

theorem nD_le (l : List UInt8) (h : 32 ≤ l.length) : nD l ≤ 16777215 := by have := tk_lt (fld l 26 3); rw [fld_length _ _ _ (by omega)] at this; unfold nD; omega
theorem nM_le (l : List UInt8) (h : 32 ≤ l.length) : nM l ≤ 16777215 := by have := tk_lt (fld l 29 3); rw [fld_length _ _ _ (by omega)] at this; unfold nM; omega
theorem nextR_le (l : List UInt8) : (nextR l).d.length ≤ 16777215 ∧ (nextR l).m.length ≤ 16777215 := by
  unfold nextR
  split
  · rename_i h
    have h1 := nD_le l h.1
    have h2 := nM_le l h.1
    simp only
    rw [fld_length _ _ _ (by omega), fld_length _ _ _ (by omega)]
    exact ⟨h1, h2⟩
  · exact ⟨by simp [noNext], by simp [noNext]⟩
theorem decR_le (l : List UInt8) : (decR l).d.length ≤ 16777215 ∧ (decR l).m.length ≤ 16777215 := by
  unfold decR
  split
  · exact nextR_le l
  · exact ⟨by simp [noNext], by simp [noNext]⟩
theorem Rd.front {w : World} {A : Option Addr} {n m : Nat} {l k : List UInt8} (h : Rd w 1 A m ((l ++ k).map vb)) (hn : l.length = n) (hm : n ≤ m) : Rd w 1 A n (l.map vb) := by
  have := h.take hm
  rw [List.take_left' hn] at this
  exact this
theorem b_bne (x : Int) : (x != x) = false := by simp

set_option maxRecDepth 100000 in
set_option maxHeartbeats 4000000 in
theorem opReads_walk (A : Option Addr) (n c : Nat) (l : List UInt8) (w : World) (hR : Rd w 1 A n (l.map vb)) (hn : n ≤ 140737488351232) (hc : n ≤ c) :
    Calls Try.prog 4 #[.slice A n c] w fun e w' => e = .returned (.bool true) ∧ Below w.heap.size w w' := by
  have hl : l.length = n := by simpa using hR.1
  have HL := Lib.hid hl
  clear hl
  have H := St.start_lay w []
  go_enter Try.func4, Try.ntmps4
  go_wp2_with fail
  refine (lives_s w).mono ?_
  rintro e w1 ⟨rfl, hb1⟩
  replace H := H.call hb1
  go_wp2_with fail
  refine (lentBytes_any A n c l w1 (H.arg0 hR) (by omega)).mono ?_
  rintro e w2 ⟨v0, rfl, ho, hb2⟩
  obtain ⟨gF, cF, rfl, hcF, -, -⟩ := ho.lent HL.out
  replace H := (H.pushOwnB 0 rfl ho hb2).push_mk rfl
  have LX : Hid ((l ++ marksB 7 0 6).length = n + 6) := by unfold Hid; rw [List.length_append, marksB_length, HL.out]
  replace H := H.shape_row 0 rfl LX.out rfl
  clear ho hb1 hb2 LX
  generalize hX : l ++ marksB 7 0 6 = X at H
  have HX := Lib.hid hX
  clear hX
  replace H : St w [] w2 (lay [.row 5 1 (.slice (some ⟨gF, 0, none⟩) (n + 6) cF) (n + 6) (X.map vb)]) := H
  go_wp2_with fail
  refine (decode_s _ n cF l _ (Rd.front (k := marksB 7 0 6) (m := n + 6) (by rw [HX.out]; exact H.rd 0 rfl) HL.out (by omega)) (by omega) hn).mono ?_
  rintro e wx ⟨vD, uD, rfl, HN⟩
  replace H := H.also HN
  clear HN
  have leD := decR_le l
  obtain ⟨rD, hrD⟩ : ∃ r, decR l = r := ⟨_, rfl⟩
  rw [hrD] at H leD ⊢
  have HRD := Lib.hid hrD
  clear hrD
  obtain ⟨kD, hD, aD, cD, oD, dD, mD, ND, eD⟩ := rD
  simp only at H leD ⊢
  have LED := Lib.hid leD
  clear leD
  obtain ⟨AD, pD, rfl, -⟩ := row_form (H.row 1 rfl)
  obtain ⟨BD, qD, rfl, -⟩ := row_form (H.row 2 rfl)
  go_wp2_with fail
  refine absorb_calls (H.allocAt 3 rfl wx.heap.size rfl _ _ |>.push_mk rfl) ?_
  clear H
  intro wy H
  generalize wx.heap.size = gD at H ⊢
  replace H : St w [] wy (lay [.row 5 1 (.slice (some ⟨gF, 0, none⟩) (n + 6) cF) (n + 6) (X.map vb), .row 5 1 (.slice AD dD.length pD) dD.length (dD.map vb), .row 5 1 (.slice BD mD.length qD) mD.length (mD.map vb), .blk gD 31 [.int .u8 (kD.toNat : Int), .int .i64 hD, .int .u8 (aD.toNat : Int), .int .i64 cD, .int .i64 oD, .slice AD dD.length pD, .slice BD mD.length qD]]) := H
  refine (next_s _ n cF l _ (Rd.front (k := marksB 7 0 6) (m := n + 6) (by rw [HX.out]; exact H.rd 0 rfl) HL.out (by omega)) (by omega) hn).mono ?_
  rintro e wx ⟨vN, uN, rfl, HN⟩
  replace H := H.also HN
  clear HN
  have leN := nextR_le l
  obtain ⟨rN, hrN⟩ : ∃ r, nextR l = r := ⟨_, rfl⟩
  rw [hrN] at H leN ⊢
  have HRN := Lib.hid hrN
  clear hrN
  obtain ⟨kN, hN, aN, cN, oN, dN, mN, NN, eN⟩ := rN
  simp only at H leN ⊢
  have LEN := Lib.hid leN
  clear leN
  obtain ⟨AN, pN, rfl, -⟩ := row_form (H.row 4 rfl)
  obtain ⟨BN, qN, rfl, -⟩ := row_form (H.row 5 rfl)
  go_wp2_with fail
  refine absorb_calls (H.allocAt 6 rfl wx.heap.size rfl _ _ |>.push_mk rfl) ?_
  clear H
  intro wy H
  generalize wx.heap.size = gN at H ⊢
  replace H : St w [] wy (lay [.row 5 1 (.slice (some ⟨gF, 0, none⟩) (n + 6) cF) (n + 6) (X.map vb), .row 5 1 (.slice AD dD.length pD) dD.length (dD.map vb), .row 5 1 (.slice BD mD.length qD) mD.length (mD.map vb), .blk gD 31 [.int .u8 (kD.toNat : Int), .int .i64 hD, .int .u8 (aD.toNat : Int), .int .i64 cD, .int .i64 oD, .slice AD dD.length pD, .slice BD mD.length qD], .row 5 1 (.slice AN dN.length pN) dN.length (dN.map vb), .row 5 1 (.slice BN mN.length qN) mN.length (mN.map vb), .blk gN 31 [.int .u8 (kN.toNat : Int), .int .i64 hN, .int .u8 (aN.toNat : Int), .int .i64 cN, .int .i64 oN, .slice AN dN.length pN, .slice BN mN.length qN]]) := H
  refine (refDecode_s A n c l _ (H.arg0 hR) hc hn).mono ?_
  rintro e wx ⟨vE, uE, rfl, HN⟩
  replace H := H.also HN
  clear HN
  rw [HRD.out] at H ⊢
  simp only at H ⊢
  obtain ⟨AE, pE, rfl, -⟩ := row_form (H.row 7 rfl)
  obtain ⟨BE, qE, rfl, -⟩ := row_form (H.row 8 rfl)
  go_wp2_with fail
  refine absorb_calls (H.allocAt 9 rfl wx.heap.size rfl _ _ |>.push_mk rfl) ?_
  clear H
  intro wy H
  generalize wx.heap.size = gE at H ⊢
  replace H : St w [] wy (lay [.row 5 1 (.slice (some ⟨gF, 0, none⟩) (n + 6) cF) (n + 6) (X.map vb), .row 5 1 (.slice AD dD.length pD) dD.length (dD.map vb), .row 5 1 (.slice BD mD.length qD) mD.length (mD.map vb), .blk gD 31 [.int .u8 (kD.toNat : Int), .int .i64 hD, .int .u8 (aD.toNat : Int), .int .i64 cD, .int .i64 oD, .slice AD dD.length pD, .slice BD mD.length qD], .row 5 1 (.slice AN dN.length pN) dN.length (dN.map vb), .row 5 1 (.slice BN mN.length qN) mN.length (mN.map vb), .blk gN 31 [.int .u8 (kN.toNat : Int), .int .i64 hN, .int .u8 (aN.toNat : Int), .int .i64 cN, .int .i64 oN, .slice AN dN.length pN, .slice BN mN.length qN], .row 5 1 (.slice AE dD.length pE) dD.length (dD.map vb), .row 5 1 (.slice BE mD.length qE) mD.length (mD.map vb), .blk gE 31 [.int .u8 (kD.toNat : Int), .int .i64 hD, .int .u8 (aD.toNat : Int), .int .i64 cD, .int .i64 oD, .slice AE dD.length pE, .slice BE mD.length qE]]) := H
  refine (refNext_s A n c l _ (H.arg0 hR) hc hn).mono ?_
  rintro e wx ⟨vM, uM, rfl, HN⟩
  replace H := H.also HN
  clear HN
  rw [HRN.out] at H ⊢
  simp only at H ⊢
  obtain ⟨AM, pM, rfl, -⟩ := row_form (H.row 10 rfl)
  obtain ⟨BM, qM, rfl, -⟩ := row_form (H.row 11 rfl)
  have f1 := b_bne eD
  have f2 := b_bne eN
  have f3 := b_bne (NN : Int)
  have HA := (H.allocAt 12 rfl wx.heap.size rfl #[.int .u8 (kN.toNat : Int), .int .i64 hN, .int .u8 (aN.toNat : Int), .int .i64 cN, .int .i64 oN, .slice AM dN.length pM, .slice BM mN.length qM] 31).push_mk rfl
  replace HA : St w [] (wx.alloc (.cells #[.int .u8 (kN.toNat : Int), .int .i64 hN, .int .u8 (aN.toNat : Int), .int .i64 cN, .int .i64 oN, .slice AM dN.length pM, .slice BM mN.length qM] 31)) (lay [.row 5 1 (.slice (some ⟨gF, 0, none⟩) (n + 6) cF) (n + 6) (X.map vb), .row 5 1 (.slice AD dD.length pD) dD.length (dD.map vb), .row 5 1 (.slice BD mD.length qD) mD.length (mD.map vb), .blk gD 31 [.int .u8 (kD.toNat : Int), .int .i64 hD, .int .u8 (aD.toNat : Int), .int .i64 cD, .int .i64 oD, .slice AD dD.length pD, .slice BD mD.length qD], .row 5 1 (.slice AN dN.length pN) dN.length (dN.map vb), .row 5 1 (.slice BN mN.length qN) mN.length (mN.map vb), .blk gN 31 [.int .u8 (kN.toNat : Int), .int .i64 hN, .int .u8 (aN.toNat : Int), .int .i64 cN, .int .i64 oN, .slice AN dN.length pN, .slice BN mN.length qN], .row 5 1 (.slice AE dD.length pE) dD.length (dD.map vb), .row 5 1 (.slice BE mD.length qE) mD.length (mD.map vb), .blk gE 31 [.int .u8 (kD.toNat : Int), .int .i64 hD, .int .u8 (aD.toNat : Int), .int .i64 cD, .int .i64 oD, .slice AE dD.length pE, .slice BE mD.length qE], .row 5 1 (.slice AM dN.length pM) dN.length (dN.map vb), .row 5 1 (.slice BM mN.length qM) mN.length (mN.map vb), .blk wx.heap.size 31 [.int .u8 (kN.toNat : Int), .int .i64 hN, .int .u8 (aN.toNat : Int), .int .i64 cN, .int .i64 oN, .slice AM dN.length pM, .slice BM mN.length qM]]) := HA
  clear H
  go_wp2_with (first | (refine load_guard (by rfl) 31 (.tmp 5) rfl gD rfl _ _ _ _ (HA.blk 3 rfl) Try.underlying31 rfl op_size ?_) | (refine wpList_load_row rfl 31 (.tmp 5) rfl gD rfl _ _ _ _ (HA.blk 3 rfl) Try.underlying31 rfl op_size ?_) | (refine load_guard (by rfl) 31 (.tmp 10) rfl gE rfl _ _ _ _ (HA.blk 9 rfl) Try.underlying31 rfl op_size ?_) | (refine wpList_load_row rfl 31 (.tmp 10) rfl gE rfl _ _ _ _ (HA.blk 9 rfl) Try.underlying31 rfl op_size ?_) | (refine load_guard (by rfl) 31 (.tmp 7) rfl gN rfl _ _ _ _ (HA.blk 6 rfl) Try.underlying31 rfl op_size ?_) | (refine wpList_load_row rfl 31 (.tmp 7) rfl gN rfl _ _ _ _ (HA.blk 6 rfl) Try.underlying31 rfl op_size ?_) | (refine load_guard (by rfl) 31 (.tmp 12) rfl wx.heap.size rfl _ _ _ _ (HA.blk 12 rfl) Try.underlying31 rfl op_size ?_) | (refine wpList_load_row rfl 31 (.tmp 12) rfl wx.heap.size rfl _ _ _ _ (HA.blk 12 rfl) Try.underlying31 rfl op_size ?_))
  refine absorb_calls HA ?_
  generalize wx.heap.size = gM
  clear HA
  intro wy H
  refine (sameOp_yes kD hD aD cD oD AD BD AE BE dD.length mD.length pD qD dD.length mD.length pE qE dD mD _ (H.rd 1 rfl) (H.rd 2 rfl) (H.rd 7 rfl) (H.rd 8 rfl) (by have := LED.out; omega) (by have := LED.out; omega)).mono ?_
  rintro e wx ⟨rfl, hbx⟩
  replace H := H.call hbx
  clear hbx
  go_wp2_with (first | (refine load_guard (by rfl) 31 (.tmp 5) rfl gD rfl _ _ _ _ (H.blk 3 rfl) Try.underlying31 rfl op_size ?_) | (refine wpList_load_row rfl 31 (.tmp 5) rfl gD rfl _ _ _ _ (H.blk 3 rfl) Try.underlying31 rfl op_size ?_) | (refine load_guard (by rfl) 31 (.tmp 10) rfl gE rfl _ _ _ _ (H.blk 9 rfl) Try.underlying31 rfl op_size ?_) | (refine wpList_load_row rfl 31 (.tmp 10) rfl gE rfl _ _ _ _ (H.blk 9 rfl) Try.underlying31 rfl op_size ?_) | (refine load_guard (by rfl) 31 (.tmp 7) rfl gN rfl _ _ _ _ (H.blk 6 rfl) Try.underlying31 rfl op_size ?_) | (refine wpList_load_row rfl 31 (.tmp 7) rfl gN rfl _ _ _ _ (H.blk 6 rfl) Try.underlying31 rfl op_size ?_) | (refine load_guard (by rfl) 31 (.tmp 12) rfl gM rfl _ _ _ _ (H.blk 12 rfl) Try.underlying31 rfl op_size ?_) | (refine wpList_load_row rfl 31 (.tmp 12) rfl gM rfl _ _ _ _ (H.blk 12 rfl) Try.underlying31 rfl op_size ?_))
  refine (sameOp_yes kN hN aN cN oN AN BN AM BM dN.length mN.length pN qN dN.length mN.length pM qM dN mN _ (H.rd 4 rfl) (H.rd 5 rfl) (H.rd 10 rfl) (H.rd 11 rfl) (by have := LEN.out; omega) (by have := LEN.out; omega)).mono ?_
  rintro e wx ⟨rfl, hbx⟩
  replace H := H.call hbx
  clear hbx
  go_wp2_with fail
  refine (keptBytes_yes _ A (n + 6) n cF c X l _ (H.rd 0 rfl) (H.arg0 hR) (by omega) (by omega) HX.out.symm).mono ?_
  rintro e wx ⟨rfl, hbx⟩
  replace H := H.call hbx
  clear hbx
  go_wp2_with fail
  refine (over_st H 0 rfl (by omega)).mono ?_
  rintro e wx ⟨rfl, H'⟩
  replace H := H'.upd_mk (by simp)
  clear H'
  have HM : Hid ((marksB 9 0 (n + 6)).length = n + 6) := marksB_length _ _ _
  generalize marksB 9 0 (n + 6) = Y at H HM
  replace H : St w [] wx (lay [.row 5 1 (.slice (some ⟨gF, 0, none⟩) (n + 6) cF) (n + 6) (Y.map vb), .row 5 1 (.slice AD dD.length pD) dD.length (dD.map vb), .row 5 1 (.slice BD mD.length qD) mD.length (mD.map vb), .blk gD 31 [.int .u8 (kD.toNat : Int), .int .i64 hD, .int .u8 (aD.toNat : Int), .int .i64 cD, .int .i64 oD, .slice AD dD.length pD, .slice BD mD.length qD], .row 5 1 (.slice AN dN.length pN) dN.length (dN.map vb), .row 5 1 (.slice BN mN.length qN) mN.length (mN.map vb), .blk gN 31 [.int .u8 (kN.toNat : Int), .int .i64 hN, .int .u8 (aN.toNat : Int), .int .i64 cN, .int .i64 oN, .slice AN dN.length pN, .slice BN mN.length qN], .row 5 1 (.slice AE dD.length pE) dD.length (dD.map vb), .row 5 1 (.slice BE mD.length qE) mD.length (mD.map vb), .blk gE 31 [.int .u8 (kD.toNat : Int), .int .i64 hD, .int .u8 (aD.toNat : Int), .int .i64 cD, .int .i64 oD, .slice AE dD.length pE, .slice BE mD.length qE], .row 5 1 (.slice AM dN.length pM) dN.length (dN.map vb), .row 5 1 (.slice BM mN.length qM) mN.length (mN.map vb), .blk gM 31 [.int .u8 (kN.toNat : Int), .int .i64 hN, .int .u8 (aN.toNat : Int), .int .i64 cN, .int .i64 oN, .slice AM dN.length pM, .slice BM mN.length qM]]) := H
  go_wp2_with (first | (refine load_guard (by rfl) 31 (.tmp 5) rfl gD rfl _ _ _ _ (H.blk 3 rfl) Try.underlying31 rfl op_size ?_) | (refine wpList_load_row rfl 31 (.tmp 5) rfl gD rfl _ _ _ _ (H.blk 3 rfl) Try.underlying31 rfl op_size ?_) | (refine load_guard (by rfl) 31 (.tmp 10) rfl gE rfl _ _ _ _ (H.blk 9 rfl) Try.underlying31 rfl op_size ?_) | (refine wpList_load_row rfl 31 (.tmp 10) rfl gE rfl _ _ _ _ (H.blk 9 rfl) Try.underlying31 rfl op_size ?_) | (refine load_guard (by rfl) 31 (.tmp 7) rfl gN rfl _ _ _ _ (H.blk 6 rfl) Try.underlying31 rfl op_size ?_) | (refine wpList_load_row rfl 31 (.tmp 7) rfl gN rfl _ _ _ _ (H.blk 6 rfl) Try.underlying31 rfl op_size ?_) | (refine load_guard (by rfl) 31 (.tmp 12) rfl gM rfl _ _ _ _ (H.blk 12 rfl) Try.underlying31 rfl op_size ?_) | (refine wpList_load_row rfl 31 (.tmp 12) rfl gM rfl _ _ _ _ (H.blk 12 rfl) Try.underlying31 rfl op_size ?_))
  refine (sameOp_yes kD hD aD cD oD AD BD AE BE dD.length mD.length pD qD dD.length mD.length pE qE dD mD _ (H.rd 1 rfl) (H.rd 2 rfl) (H.rd 7 rfl) (H.rd 8 rfl) (by have := LED.out; omega) (by have := LED.out; omega)).mono ?_
  rintro e wx ⟨rfl, hbx⟩
  replace H := H.call hbx
  clear hbx
  go_wp2_with (first | (refine load_guard (by rfl) 31 (.tmp 5) rfl gD rfl _ _ _ _ (H.blk 3 rfl) Try.underlying31 rfl op_size ?_) | (refine wpList_load_row rfl 31 (.tmp 5) rfl gD rfl _ _ _ _ (H.blk 3 rfl) Try.underlying31 rfl op_size ?_) | (refine load_guard (by rfl) 31 (.tmp 10) rfl gE rfl _ _ _ _ (H.blk 9 rfl) Try.underlying31 rfl op_size ?_) | (refine wpList_load_row rfl 31 (.tmp 10) rfl gE rfl _ _ _ _ (H.blk 9 rfl) Try.underlying31 rfl op_size ?_) | (refine load_guard (by rfl) 31 (.tmp 7) rfl gN rfl _ _ _ _ (H.blk 6 rfl) Try.underlying31 rfl op_size ?_) | (refine wpList_load_row rfl 31 (.tmp 7) rfl gN rfl _ _ _ _ (H.blk 6 rfl) Try.underlying31 rfl op_size ?_) | (refine load_guard (by rfl) 31 (.tmp 12) rfl gM rfl _ _ _ _ (H.blk 12 rfl) Try.underlying31 rfl op_size ?_) | (refine wpList_load_row rfl 31 (.tmp 12) rfl gM rfl _ _ _ _ (H.blk 12 rfl) Try.underlying31 rfl op_size ?_))
  refine (sameOp_yes kN hN aN cN oN AN BN AM BM dN.length mN.length pN qN dN.length mN.length pM qM dN mN _ (H.rd 4 rfl) (H.rd 5 rfl) (H.rd 10 rfl) (H.rd 11 rfl) (by have := LEN.out; omega) (by have := LEN.out; omega)).mono ?_
  rintro e wx ⟨rfl, hbx⟩
  replace H := H.call hbx
  clear hbx
  have x1 := H.cell 3 rfl (o := 5) rfl
  have x2 := H.cell 3 rfl (o := 6) rfl
  have x3 := H.cell 6 rfl (o := 5) rfl
  have x4 := H.cell 6 rfl (o := 6) rfl
  replace H := H.shape_row 0 rfl (n' := Y.length) (xs' := Y.map vb) HM.out.symm rfl
  go_wp2_with fail
  refine (apart_st H [(.slice AD dD.length pD, dD), (.slice BD mD.length qD, mD), (.slice AN dN.length pN, dN), (.slice BN mN.length qN, mN), (.slice (some ⟨gF, 0, none⟩) (n + 6) cF, Y)] (fun i => [1, 2, 4, 5, 0].getD i 99) (fun i j hi hj => (by decide : ∀ i < 5, ∀ j < 5, [1, 2, 4, 5, 0].getD i 99 = [1, 2, 4, 5, 0].getD j 99 → i = j) i hi j hj) ?_ 5 rfl (by omega) ?_ _ rfl).mono ?_
  · intro i p hp
    match i, hp with
    | 0, hp => cases hp; rfl
    | 1, hp => cases hp; rfl
    | 2, hp => cases hp; rfl
    | 3, hp => cases hp; rfl
    | 4, hp => cases hp; rfl
    | i + 5, hp => simp at hp
  · intro p hp
    have h1 := LED.out
    have h2 := LEN.out
    have h3 := HM.out
    simp only [List.mem_cons, List.not_mem_nil, or_false] at hp
    rcases hp with rfl | rfl | rfl | rfl | rfl <;> simp only <;> omega
  rintro e wz ⟨rfl, hbz⟩
  go_wp2_with fail
  go_ret
  exact ⟨rfl, hbz⟩
end Go.Proofs.Ytgfhnbjpdhdhgaa
