/- Texts of this claim, merged: Apart, Held, BSt, ShNum, ShPad, Rot, KecS, Turn, QTail, KecW, KecC, Runs, LedP, LedQ. -/
import Derived.Test.YthoopaknldkclaaRows
import Derived.Deep.RegionHeld3
import Derived.StillTail
import Derived.Deep.Cut
import Derived.Lib.AppendZerosOnto
import Derived.KernelRfl
import Derived.Deep.Quiet
import Derived.BigQuiet
import Derived.Laws.BitsAllLaws
import Derived.Test.YthoopaknldkclaaMgA
set_option linter.unusedVariables false

namespace Go.Proofs.Ythoopaknldkclaa
open Go.RowKit

theorem lb_info : (Try.prog.info? 22).map (fun i => (i.zero, i.size, i.bytes)) = some (some (.slice none 0 0), 1, 24) := by kernel_rfl

/-- the list that is handed in -/
def LR (w : World) (gL N cL : Nat) (vs : List Value) : Prop := w.ownsRow 0 22 1 (.slice (some ⟨gL, 0, none⟩) N cL) N vs
theorem LR.cell {w : World} {gL N cL k : Nat} {vs : List Value} (h : LR w gL N cL vs) (hk : k < N) : w.cell? ⟨gL, k, none⟩ = some (vs.getD k (.slice none 0 0)) := by
  have hl := h.1
  have := World.ownsRow.cellAt h k (by omega)
  rw [this, List.getD_eq_getElem?_getD, List.getElem?_eq_getElem (by omega)]
  rfl
theorem LR.ne {w : World} {gL N cL base : Nat} {vs : List Value} {v : Value} {l : List UInt8} (h : LR w gL N cL vs) (ho : OwnB w base v l) : v.ownBlock ≠ some gL := by
  rcases h.2 with ⟨h', _⟩ | ⟨g', cap', cur, h', _, hg, _⟩
  · cases h'
  injection h' with h1
  injection h1 with h1
  injection h1 with h1
  subst h1
  rcases ho.2 with ⟨rfl, _⟩ | ⟨g, cap, cur', rfl, _, hgg, _⟩
  · simp [Value.ownBlock]
  · intro e
    have : g = gL := by simpa [Value.ownBlock] using e
    subst this
    rw [hg] at hgg
    injection hgg with hgg
    injection hgg with _ h2
    exact absurd h2 (by decide)
theorem LR.below {w w' : World} {gL N cL : Nat} {vs : List Value} (h : LR w gL N cL vs) (hb : Below w.heap.size w w') : LR w' gL N cL vs :=
  World.ownsRow.kept h (row := none) ⟨hb.os, hb.tape, hb.output, hb.size, fun k hk _ => hb.block k hk⟩ (.inr (by simp [Value.ownBlock]))
theorem LR.kept' {w w' : World} {gL N cL : Nat} {vs : List Value} {row : Option Nat} (h : LR w gL N cL vs) (hg : w.grownBy w' row) (hne : row ≠ some gL) : LR w' gL N cL vs :=
  World.ownsRow.kept h hg (.inr (by simp only [Value.ownBlock]; exact fun e => hne e.symm))
theorem LR.kept {w w' : World} {gL N cL g : Nat} {vs : List Value} (h : LR w gL N cL vs) (hg : w.grownBy w' (some g)) (hne : g ≠ gL) : LR w' gL N cL vs :=
  World.ownsRow.kept h hg (.inr (by simp [Value.ownBlock]; exact fun e => hne e.symm))

/-- after round k of the first loop -/
def F1 (vs : List Value) (ls : List (List UInt8)) (k : Nat) : Nat → List (Value × List UInt8) := fun j =>
  [(vs.getD j (.slice none 0 0), if j < k then marksB (j + 10) 0 (ls.getD j []).length else ls.getD j [])]
def F1i (vs : List Value) (ls : List (List UInt8)) (k i : Nat) : Nat → List (Value × List UInt8) := fun j =>
  if j = k then [(vs.getD k (.slice none 0 0), marksB (k + 10) 0 i ++ (ls.getD k []).drop i)] else F1 vs ls k j
theorem Fam.one {w : World} {base N j : Nat} {F : Nat → List (Value × List UInt8)} {v : Value} {l : List UInt8} (h : Fam w base N F) (hj : j < N) (hF : F j = [(v, l)]) : OwnB w base v l := h.own j hj (v, l) (by rw [hF]; simp)
theorem F1_at (vs : List Value) (ls : List (List UInt8)) (k : Nat) : F1 vs ls k k = [(vs.getD k (.slice none 0 0), ls.getD k [])] := by simp [F1]
theorem F1i_zero (vs : List Value) (ls : List (List UInt8)) (k : Nat) : F1i vs ls k 0 = F1 vs ls k := by
  funext j
  unfold F1i F1
  by_cases h : j = k
  · subst h; simp [marksB]
  · simp [h]
theorem F1i_end (vs : List Value) (ls : List (List UInt8)) (k : Nat) : F1i vs ls k (ls.getD k []).length = F1 vs ls (k + 1) := by
  funext j
  unfold F1i F1
  by_cases h : j = k
  · subst h; simp [marksB]
  · have : (j < k + 1) ↔ (j < k) := by omega
    simp [h, this]
theorem F1i_at (vs : List Value) (ls : List (List UInt8)) (k i : Nat) : F1i vs ls k i k = [(vs.getD k (.slice none 0 0), marksB (k + 10) 0 i ++ (ls.getD k []).drop i)] := by simp [F1i]
theorem F1i_succ (vs : List Value) (ls : List (List UInt8)) (k i : Nat) (h : i < (ls.getD k []).length) :
    (fun j => if j = k then [(vs.getD k (.slice none 0 0), (marksB (k + 10) 0 i ++ (ls.getD k []).drop i).set i (markB (k + 10) i))] else F1i vs ls k i j) = F1i vs ls k (i + 1) := by
  have hs := over_step (m := k + 10) h
  rw [Nat.zero_add] at hs
  funext j
  by_cases hj : j = k
  · subst hj; simp only [F1i, if_true]; rw [hs]
  · simp only [F1i, hj, if_false]

/-- after round k of the second loop: beside each slice, from 0 to k - 1, what it was gone on with -/
def F2 (vs : List Value) (ls : List (List UInt8)) (Gs : List Value) (k : Nat) : Nat → List (Value × List UInt8) := fun j =>
  if j < k then [(vs.getD j (.slice none 0 0), marksB (j + 10) 0 (ls.getD j []).length), (Gs.getD j (.slice none 0 0), marksB (j + 10) 0 ((ls.getD j []).length + 6))]
  else [(vs.getD j (.slice none 0 0), marksB (j + 10) 0 (ls.getD j []).length)]
def F2i (vs : List Value) (ls : List (List UInt8)) (Gs : List Value) (k : Nat) (g : Value) (i : Nat) : Nat → List (Value × List UInt8) := fun j =>
  if j = k then [(vs.getD k (.slice none 0 0), marksB (k + 10) 0 (ls.getD k []).length), (g, marksB (k + 10) 0 ((ls.getD k []).length + i))] else F2 vs ls Gs k j
theorem F2_start (vs : List Value) (ls : List (List UInt8)) (N : Nat) : ∀ j, j < N → F2 vs ls [] 0 j = F1 vs ls N j := by
  intro j hj
  simp [F1, F2, hj]
theorem F2_at (vs : List Value) (ls : List (List UInt8)) (Gs : List Value) (k : Nat) : F2 vs ls Gs k k = [(vs.getD k (.slice none 0 0), marksB (k + 10) 0 (ls.getD k []).length)] := by simp [F2]
theorem F2i_zero (vs : List Value) (ls : List (List UInt8)) (Gs : List Value) (k : Nat) :
    (fun j => if j = k then [((vs.getD k (.slice none 0 0)), marksB (k + 10) 0 (ls.getD k []).length), ((vs.getD k (.slice none 0 0)), marksB (k + 10) 0 (ls.getD k []).length)] else F2 vs ls Gs k j) = F2i vs ls Gs k (vs.getD k (.slice none 0 0)) 0 := by
  funext j; simp [F2i]
theorem F2i_at (vs : List Value) (ls : List (List UInt8)) (Gs : List Value) (k : Nat) (g : Value) (i : Nat) : F2i vs ls Gs k g i k = [(vs.getD k (.slice none 0 0), marksB (k + 10) 0 (ls.getD k []).length), (g, marksB (k + 10) 0 ((ls.getD k []).length + i))] := by simp [F2i]
theorem F2i_succ (vs : List Value) (ls : List (List UInt8)) (Gs : List Value) (k : Nat) (g g' : Value) (i : Nat) :
    (fun j => if j = k then [(vs.getD k (.slice none 0 0), marksB (k + 10) 0 (ls.getD k []).length), (g', marksB (k + 10) 0 ((ls.getD k []).length + (i + 1)))] else F2i vs ls Gs k g i j) = F2i vs ls Gs k g' (i + 1) := by
  funext j
  by_cases hj : j = k <;> simp [F2i, hj]
theorem F2i_end (vs : List Value) (ls : List (List UInt8)) (Gs : List Value) (k : Nat) (g : Value) (hG : Gs.length = k) : F2i vs ls Gs k g 6 = F2 vs ls (Gs ++ [g]) (k + 1) := by
  funext j
  by_cases hj : j = k
  · subst hj; subst hG; simp [F2i, F2]
  · simp only [F2i, hj, if_false, F2]
    by_cases hjk : j < k
    · have h1 : j < k + 1 := by omega
      have h2 : (Gs ++ [g]).getD j (.slice none 0 0) = Gs.getD j (.slice none 0 0) := by
        rw [List.getD_eq_getElem?_getD, List.getD_eq_getElem?_getD, List.getElem?_append_left (by omega)]
      simp only [hjk, h1, if_true, h2]
    · have h1 : ¬ j < k + 1 := by omega
      simp only [hjk, h1, if_false]
theorem marksB_take (k s n m : Nat) (h : n ≤ m) : marksB k s n = (marksB k s m).take n := by
  simp [marksB, ← List.map_take, List.take_range, Nat.min_eq_left h]

theorem marksB_get {a n i : Nat} (h : i < n) : (marksB a 0 n)[i]? = some (markB a i) := by
  simp [marksB, h]
theorem OwnB.markAt {w : World} {base a n m c i : Nat} {A : Option Addr} (h : OwnB w base (.slice A m c) (marksB a 0 n)) (hi : i < n) :
    ∃ g, A = some ⟨g, 0, none⟩ ∧ w.cell? ⟨g, i, none⟩ = some (.int .u8 ((markB a i).toNat : Int)) := by
  have hm := h.len_eq
  rw [marksB_length] at hm
  obtain ⟨g, rfl, -⟩ := h.form (by omega)
  obtain ⟨x, hx, hc⟩ := h.cellAt (k := i) (by rw [marksB_length]; exact hi)
  rw [marksB_get hi] at hx
  injection hx with hx
  subst hx
  exact ⟨g, rfl, hc⟩
theorem LR.lit (w : World) (cs : Array Value) (n : Nat) (hn : cs.size = n) (h : n ≤ 1000) : LR (w.alloc (.cells cs 22)) w.heap.size n n cs.toList :=
  World.ownsRow_lit w cs n (Nat.zero_le _) (by simp only [maxLen]; omega) (by omega)
theorem LR.name {w : World} {gL N cL : Nat} {vs : List Value} (h : LR w gL N cL vs) : ∃ us, us = vs ∧ LR w gL N cL us := ⟨vs, rfl, h⟩
theorem LR.lt {w : World} {gL N cL : Nat} {vs : List Value} (h : LR w gL N cL vs) : gL < w.heap.size := (World.ownsRow.lt h gL rfl).2

set_option maxRecDepth 100000 in
set_option maxHeartbeats 2000000 in
theorem apartBytes_any (gL N cL base : Nat) (vs : List Value) (ls : List (List UInt8)) (w : World) (hL : LR w gL N cL vs) (hF : Fam w base N (F1 vs ls 0)) (hN : N ≤ 1000) (hbase : base ≤ w.heap.size)
    (hlen : ∀ j, j < N → (ls.getD j []).length ≤ 140737488355320) :
    Calls Try.prog 20 #[.slice (some ⟨gL, 0, none⟩) N cL] w fun e w' => e = .returned (.bool true) ∧ Below base w w' := by
  obtain ⟨i0, hi0, hz0, hz1, hz2⟩ := info_parts u8_info
  obtain ⟨i1, hi1, hy0, hy1, hy2⟩ := info_parts lb_info
  have HL := Lib.hid hlen
  clear hlen
  go_enter Try.func20, Try.ntmps20
  go_wp2
  go_loopw [3] (fun i wr => ∃ k : Nat, k ≤ N ∧ i = .int .i64 k ∧ Fam wr base N (F1 vs ls k) ∧ LR wr gL N cL vs ∧ Below base w wr) (fun i _ => N - (intOf i).toNat)
  case atStart => exact ⟨0, Nat.zero_le _, rfl, hF, hL, Below.refl _ _⟩
  case round =>
    obtain ⟨k, hk, rfl, hFk, hLk, hBk⟩ := hrel
    by_cases hlt : k < N
    · have hcell := hLk.cell hlt
      have hown := hFk.one hlt (F1_at vs ls k)
      obtain ⟨A, n, c, hv, hn, -⟩ := hown.shape
      have hnb : n ≤ 140737488355320 := by rw [hn.out]; exact HL.out k hlt
      rw [hv] at hcell
      have HV := Lib.hid hv
      clear hv hown
      obtain ⟨wo, rfl⟩ : ∃ wo : World, wo = wr := ⟨_, rfl⟩
      go_wp2
      go_loopw [4] (fun i wr => ∃ q : Nat, q ≤ n ∧ i = .int .i64 q ∧ Fam wr base N (F1i vs ls k q) ∧ LR wr gL N cL vs ∧ Below base w wr) (fun i _ => n - (intOf i).toNat)
      case atStart => exact ⟨0, Nat.zero_le _, rfl, by rw [F1i_zero]; exact hFk, hLk, hBk⟩
      case round =>
        obtain ⟨q, hq, rfl, hFq, hLq, hBq⟩ := hrel
        have hcellq := hLq.cell hlt
        rw [HV.out] at hcellq
        clear hcell
        by_cases hlq : q < n
        · have hFk' := F1i_at vs ls k q
          rw [HV.out] at hFk'
          have hown := hFq.one hlt hFk'
          obtain ⟨g, rfl, hbg, hgs⟩ := hown.form (by omega)
          obtain ⟨x, -, hcb⟩ := hown.cellAt (k := q) (by have := hn.out; simp only [List.length_append, marksB_length, List.length_drop]; omega)
          have hfr := hown.frozenAt q
          have hst := hFq.store hlt hFk' q (markB (k + 10) q)
          have hgr := (hown.stored q (markB (k + 10) q)).2
          have hne : g ≠ gL := fun e => hLq.ne hown (by rw [e]; rfl)
          have HFK := Lib.hid hFk'
          clear hFk'
          go_wp2
          have hw1 : IntKind.i64.wrap ((k : Int) + 10) = (k : Int) + 10 := IntWalk.i64_in _ (by omega)
          go_still_tail 10, (by kernel_rfl)
          clear hw1
          still_call ((markB_at (a := (k : Int) + 10) (k + 10) q (by omega) rfl _ (by omega) (by omega)).mono fun _ _ h => ⟨h.1, h.2.symm⟩)
          repeat still_step
          refine wpStill_nil ?_
          go_wp2
          go_roundw
          case rel =>
            refine ⟨q + 1, by omega, by go_num, ?_, hLq.kept (grownBy_drew hgr) hne, (hBq.grown (grownBy_drew hgr) (by have := hBq.size; omega) (fun g' h => by injection h with h; omega))⟩
            have e := F1i_succ vs ls k q (by have := hn.out; omega)
            rw [HV.out] at e
            rw [← e]
            exact hst.drew
          case measure => simp [intOf]; omega
        · have hqn : q = n := by omega
          subst hqn
          go_wp2
          go_roundw
          case rel => exact ⟨k + 1, by omega, by go_num, by rw [← F1i_end, ← hn.out]; exact hFq, hLq, hBq⟩
          case measure => simp [intOf]; omega
    · have hkN : N = k := by omega
      subst hkN
      go_wp2
      go_loopw [5, 6] (fun v i wr => ∃ (k : Nat) (Gs : List Value), k ≤ N ∧ i = .int .i64 k ∧ Hid (Gs.length = k) ∧ Fam wr base N (F2 vs ls Gs k) ∧ LR wr gL N cL vs ∧ wr.ownsRow w.heap.size 22 1 v k Gs ∧ Below base w wr) (fun _ i _ => N - (intOf i).toNat)
      case atStart => exact ⟨0, [], Nat.zero_le _, rfl, rfl, hFk.congr (F2_start vs ls N), hLk, World.ownsRow_nil _ _ _ _, hBk⟩
      case round =>
        clear hFk hLk hBk
        obtain ⟨k, Gs, hk, rfl, hGs, hFk, hLk, hGk, hBk⟩ := hrel
        by_cases hlt : k < N
        · have hcell := hLk.cell hlt
          have hFa := F2_at vs ls Gs k
          have hown := hFk.one hlt hFa
          obtain ⟨A, n, c, hv, hn, -⟩ := hown.shape
          rw [marksB_length] at hn
          have hnb : n ≤ 140737488355320 := by rw [hn.out]; exact HL.out k hlt
          have hd := hFk.dup hFa
          rw [F2i_zero] at hd
          rw [hv] at hcell hd
          have HV := Lib.hid hv
          clear hv hown hFa
          obtain ⟨wo, rfl⟩ : ∃ wo : World, wo = wr := ⟨_, rfl⟩
          go_wp2
          go_loopw [7, 8] (fun v i wr => ∃ q : Nat, q ≤ 6 ∧ i = .int .i64 q ∧ Fam wr base N (F2i vs ls Gs k v q) ∧ LR wr gL N cL vs ∧ wr.ownsRow w.heap.size 22 1 u5 k Gs ∧ Below base w wr) (fun _ i _ => 6 - (intOf i).toNat)
          case atStart => exact ⟨0, Nat.zero_le _, rfl, hd, hLk, hGk, hBk⟩
          case round =>
            clear hFk hLk hGk hBk hcell hd
            obtain ⟨q, hq, rfl, hFq, hLq, hGq, hBq⟩ := hrel
            have hcell := hLq.cell hlt
            rw [HV.out] at hcell
            by_cases hlq : q < 6
            · have hFa := F2i_at vs ls Gs k u7 q
              have ho7 : OwnB wr base u7 (marksB (k + 10) 0 (n + q)) := hFq.own k hlt (u7, _) (by rw [hFa, hn.out]; exact List.mem_cons_of_mem _ (List.mem_singleton.2 rfl))
              have hbs : base ≤ wr.heap.size := by have := hBq.size; omega
              have ho7r : (wr.alloc (.cells #[vb (markB (k + 10) (n + q))] 5)).ownsRow base 5 1 u7 (n + q) ((marksB (k + 10) 0 (n + q)).map vb) := by
                have := ho7.alloc (.cells #[vb (markB (k + 10) (n + q))] 5)
                unfold OwnB at this
                rwa [marksB_length] at this
              have HFA := Lib.hid hFa
              clear hFa
              go_wp2_with (first | (go_at_call 39; refine (markB_at (a := (k : Int) + 10) (b := (n : Int) + q) (k + 10) (n + q) (by omega) (by omega) _ (by omega) (by omega)).mono ?_; rintro e w2 ⟨rfl, rfl⟩) | (at_builtin; refine wpList_append_two _ rfl (.tmp 50) (.tmp 61) 22 rfl base 5 i0 (.int .u8 0) 1 Try.underlying22 hi0 hz0 hz1 hz2 rfl _ _ _ rfl ho7r ⟨wr.heap.size, 0, none⟩ 1 1 [vb (markB (k + 10) (n + q))] rfl (by omega) rfl (cell_one_new _ _ _) (by simp [Value.oneCell']) (by simp only [maxLen]; omega) (by omega) (by simp; omega) ?_; intro v2 w2 ho2 hcase))
              have ho3 := OwnB.of_mark ho2
              have hgr := two_grown hcase
              have hF3 := (hFq.alloc (.cells #[vb (markB (k + 10) (n + q))] 5)).append hlt HFA.out (by rw [marksB_length, marksB_length]; omega) (by rw [marksB_length]; exact marksB_take _ _ _ _ (by omega)) (by rw [marksB_length, ← hn.out]; exact marksB_take _ _ _ _ (by omega)) ho3 hcase
              have hL3 := LR.kept' (World.ownsRow.alloc hLq (.cells #[vb (markB (k + 10) (n + q))] 5)) hgr (hLq.ne ho7)
              have hG3 := (hGq.alloc (.cells #[vb (markB (k + 10) (n + q))] 5)).kept hgr (rows_ne hGq ho7 (by decide))
              have hB3 := (hBq.alloc hbs (.cells #[vb (markB (k + 10) (n + q))] 5)).grown hgr (by simp; omega) (fun g e => (ho7.lt g e).1)
              go_roundw
              case rel =>
                refine ⟨q + 1, by omega, by go_num, ?_, hL3, hG3, hB3⟩
                rw [← F2i_succ, ← hn.out, ← Nat.add_assoc]
                rw [← hn.out] at hF3
                exact hF3
              case measure => simp [intOf]; omega
            · have hq6 : q = 6 := by omega
              subst hq6
              clear hcell
              have hbs : w.heap.size ≤ wr.heap.size := hBq.size
              have ho7 : OwnB wr base u7 (marksB (k + 10) 0 (n + 6)) := hFq.own k hlt (u7, _) (by rw [F2i_at, hn.out]; exact List.mem_cons_of_mem _ (List.mem_singleton.2 rfl))
              obtain ⟨A7, n7, c7, rfl, -⟩ := ho7.shape
              have hgn : Gs.length ≤ 1000 := by have := hGs.out; omega
              rw [F2i_end _ _ _ _ _ hGs.out] at hFq
              go_wp2_with (at_builtin; refine wpList_append_own _ rfl (.tmp 63) (.tmp 65) 46 rfl w.heap.size 22 i1 (.slice none 0 0) 1 24 Try.underlying46 hi1 hy0 hy1 hy2 rfl (by decide) _ _ _ rfl (hGq.alloc _) ⟨wr.heap.size, 0, none⟩ 1 1 [.slice A7 n7 c7] rfl rfl (cell_one_new _ _ _) (by simp [Value.oneCell']) (by simp only [maxLen]; omega) (by omega) (by simp; omega) ?_; intro v2 w2 ho2 hgr hnil)
              have hgL := hL.lt
              have hF3 := (hFq.alloc (.cells #[.slice A7 n7 c7] 22)).kept hgr (fun j hj p hp => rows_ne (hFq.own j hj p hp) hGq (by decide))
              have hL3 := LR.kept' (World.ownsRow.alloc hLq (.cells #[.slice A7 n7 c7] 22)) hgr (fun e => by have := (hGq.lt _ e).1; omega)
              have hB3 := (hBq.alloc (by omega) (.cells #[.slice A7 n7 c7] 22)).grown hgr (by simp; omega) (fun g e => by have := (hGq.lt g e).1; omega)
              go_roundw
              case rel => exact ⟨k + 1, Gs ++ [.slice A7 n7 c7], by omega, by go_num, by rw [List.length_append, hGs.out]; rfl, hF3, hL3, ho2, hB3⟩
              case measure => simp [intOf]; omega
        · have hkN : N = k := by omega
          subst hkN
          obtain ⟨w3, rfl⟩ : ∃ w3 : World, w3 = wr := ⟨_, rfl⟩
          go_wp2
          go_loopw [9] (fun i wr => ∃ k q : Nat, k ≤ N ∧ i = .int .i64 k ∧ wr = w3.drewN q) (fun i _ => N - (intOf i).toNat)
          case atStart => exact ⟨0, 0, Nat.zero_le _, rfl, rfl⟩
          case round =>
            obtain ⟨k, q, hk, rfl, rfl⟩ := hrel
            by_cases hlt : k < N
            · obtain ⟨gG, cG, rfl, hgG, -⟩ := World.ownsRow.form hGk (by omega)
              have hkG : k < Gs.length := by have := hGs.out; omega
              have hcG : w3.cell? ⟨gG, k, none⟩ = some Gs[k] := by rw [World.ownsRow.cellAt hGk k (by omega), List.getElem?_eq_getElem hkG]
              have hcell := hLk.cell hlt
              have hFa : F2 vs ls Gs N k = [(vs.getD k (.slice none 0 0), marksB (k + 10) 0 (ls.getD k []).length), (Gs[k], marksB (k + 10) 0 ((ls.getD k []).length + 6))] := by
                simp only [F2, hlt, if_true]
                rw [List.getD_eq_getElem?_getD (l := Gs), List.getElem?_eq_getElem hkG]
                rfl
              have hoV := hFk.own k hlt (vs.getD k (.slice none 0 0), _) (by rw [hFa]; exact List.mem_cons_self)
              have hoG := hFk.own k hlt (Gs[k], _) (by rw [hFa]; exact List.mem_cons_of_mem _ (List.mem_singleton.2 rfl))
              simp only at hoV hoG
              obtain ⟨A, n, c, hv, hn, -⟩ := hoV.shape
              obtain ⟨A', n', c', hv', hn', -⟩ := hoG.shape
              have hnb : n ≤ 140737488355320 := by rw [hn.out, marksB_length]; exact HL.out k hlt
              have hnn : n' = n + 6 := by rw [hn.out, hn'.out, marksB_length, marksB_length]
              have hlen := hn.out
              rw [marksB_length] at hlen
              rw [← hlen, hv] at hoV
              rw [← hlen, hv'] at hoG
              rw [hv] at hcell
              rw [hv'] at hcG
              subst hnn
              clear hv hv' hn hn' hlen hFa
              go_wp2
              go_loopw [10] (fun i wr => ∃ t q : Nat, t ≤ n + 6 ∧ i = .int .i64 t ∧ wr = w3.drewN q) (fun i _ => n + 6 - (intOf i).toNat)
              case atStart => exact ⟨0, q, Nat.zero_le _, rfl, rfl⟩
              case round =>
                obtain ⟨t, q', ht, rfl, rfl⟩ := hrel
                by_cases hlt' : t < n + 6
                · obtain ⟨g', rfl, hcg'⟩ := hoG.markAt hlt'
                  have hw1 : IntKind.i64.wrap ((k : Int) + 10) = (k : Int) + 10 := IntWalk.i64_in _ (by omega)
                  have hb1 : (((markB (k + 10) t).toNat : Int) != ((markB (k + 10) t).toNat : Int)) = false := by simp
                  by_cases hln : t < n
                  · obtain ⟨g, rfl, hcg⟩ := hoV.markAt hln
                    have hb2 : decide ((t : Int) < n) = true := by simp; omega
                    go_wp2
                    go_quiet ((go_at_call 39; exact quiet_add_left ((markB_at (a := (k : Int) + 10) (k + 10) t (by omega) rfl _ (by omega) (by omega)))))
                    go_wp2
                    go_roundw
                    case rel => exact ⟨t + 1, q' + nq, by omega, by go_num, by simp⟩
                    case measure => simp [intOf]; omega
                  · have hb2 : decide ((t : Int) < n) = false := by simp; omega
                    go_wp2
                    go_quiet ((go_at_call 39; exact quiet_add_left ((markB_at (a := (k : Int) + 10) (k + 10) t (by omega) rfl _ (by omega) (by omega)))))
                    go_wp2
                    go_roundw
                    case rel => exact ⟨t + 1, q' + nq, by omega, by go_num, by simp⟩
                    case measure => simp [intOf]; omega
                · go_wp2
                  go_roundw
                  case rel => exact ⟨k + 1, q', by omega, by go_num, rfl⟩
                  case measure => simp [intOf]; omega
            · go_wp2
              go_ret
              exact ⟨rfl, bdrewN hBk q⟩

theorem Hp.fam {w : World} {base : Nat} {ps : List (Value × List UInt8)} (h : Hp w base ps) : Fam w base ps.length (F1 (ps.map (·.1)) (ps.map (·.2)) 0) := by
  have key : ∀ j, j < ps.length → ∃ p, ps[j]? = some p ∧ F1 (ps.map (·.1)) (ps.map (·.2)) 0 j = [p] := by
    intro j hj
    refine ⟨ps[j], List.getElem?_eq_getElem hj, ?_⟩
    simp [F1, List.getElem?_eq_getElem hj]
  refine ⟨fun j hj p hp => ?_, fun i j hi hj hij p hp q hq => ?_⟩
  · obtain ⟨r, hr, e⟩ := key j hj
    rw [e] at hp
    rw [List.mem_singleton.1 hp]
    exact h.own j r hr
  · obtain ⟨r, hr, e⟩ := key i hi
    obtain ⟨t, ht, e'⟩ := key j hj
    rw [e] at hp
    rw [e'] at hq
    rw [List.mem_singleton.1 hp, List.mem_singleton.1 hq]
    exact h.apart i j r t hij hr ht

/-- ApartBytes at a list just written out of slices of the call's own. -/
theorem apartBytes_lit {w0 w : World} {ps : List (Value × List UInt8)} (h : OSt w0 w ps) (qs : List (Value × List UInt8)) (is : List Nat) (hn : is.Nodup) (hq : qs.map some = is.map fun i => ps[i]?) (n : Nat) (hN : qs.length = n) (hN' : n ≤ 1000)
    (hlen : ∀ p ∈ qs, p.2.length ≤ 140737488355320) (cs : Array Value) (hcs : cs = (qs.map (·.1)).toArray) :
    Calls Try.prog 20 #[.slice (some ⟨w.heap.size, 0, none⟩) n n] (w.alloc (.cells cs 22)) fun e w' => e = .returned (.bool true) ∧ Below w0.heap.size w0 w' := by
  subst hN hcs
  have hsz := h.low.size
  have hL : LR (w.alloc (.cells (qs.map (·.1)).toArray 22)) w.heap.size qs.length qs.length (qs.map (·.1)) := by
    have := World.ownsRow_lit (base := 0) (e := 22) (size := 1) w (qs.map (·.1)).toArray qs.length (Nat.zero_le _) (by simp only [maxLen]; omega) (by simp)
    simpa [LR] using this
  have h1 := h.call ((Below.refl _ _).alloc (Nat.le_refl _) (.cells (qs.map (·.1)).toArray 22))
  have hF := (h1.hp.sel is hn hq).fam
  refine (apartBytes_any w.heap.size qs.length qs.length w0.heap.size _ _ _ hL hF hN' (by simp; omega) ?_).mono fun e w' he => ⟨he.1, h1.low.trans he.2⟩
  intro j hj
  rw [List.getD_eq_getElem?_getD, List.getElem?_map, List.getElem?_eq_getElem hj]
  exact hlen _ (List.getElem_mem hj)

theorem apartBytes_list {w0 w : World} {ps : List (Value × List UInt8)} (h : OSt w0 w ps) (qs : List (Value × List UInt8)) (is : List Nat) (hn : is.Nodup) (hq : qs.map some = is.map fun i => ps[i]?) (n gL cL : Nat) (vs : List Value) (hL : LR w gL n cL vs)
    (hvs : vs = qs.map (·.1)) (hN : qs.length = n) (hN' : n ≤ 1000) (hlen : ∀ p ∈ qs, p.2.length ≤ 140737488355320) :
    Calls Try.prog 20 #[.slice (some ⟨gL, 0, none⟩) n cL] w fun e w' => e = .returned (.bool true) ∧ Below w0.heap.size w0 w' := by
  subst hN hvs
  have hF := (h.hp.sel is hn hq).fam
  refine (apartBytes_any gL qs.length cL w0.heap.size _ _ _ hL hF hN' h.low.size ?_).mono fun e w' he => ⟨he.1, h.low.trans he.2⟩
  intro j hj
  rw [List.getD_eq_getElem?_getD, List.getElem?_map, List.getElem?_eq_getElem hj]
  exact hlen _ (List.getElem_mem hj)
end Go.Proofs.Ythoopaknldkclaa

namespace Go.Proofs.Ythoopaknldkclaa
open Go
section
variable {P : Program} {l : List Oper} {Q : Exit → Act → World → Prop} {md : Region.Mode} {S : World → Prop} {o : Oper} {rest : List Oper} {fuel : Nat} {listed : Array Bool} {a : Act} {w : World}

theorem drop_at {i : Nat} (h : l.drop i = o :: rest) : l.toArray[i]? = some o := by
  have h2 := congrArg (fun m => m[0]?) h
  simp only [List.getElem?_drop, Nat.add_zero, List.getElem?_cons_zero] at h2
  simpa using h2
/-- a load of a whole array -/
theorem take_load {ty : TypeId} {x : Operand} {d : TypeDesc} (i g : Nat) (cs : List Value) (hS : ∀ w, S w → w.rangeAt g 0 cs) (hu : P.underlying ty = some d) (hl : (P.info? ty).map (·.size) = some cs.length)
    (hi : l.drop i = o :: rest) (hs : Region.noSelect l.toArray = true) (hf : Region.free md l.toArray listed i = true) (hr : (Region.ready md l.toArray listed).contains i = true)
    (hQ : ∀ c a w, Q (.panic c) (a.put o.dst (.agg cs.toArray)) w → Q (.panic c) a w) (hd : d.isRow = true) (hw : Region.wanted o (yielded l.toArray a.tmps) = true)
    (ho : o.op = .load ty x) (hx : a.eval x = .pointer (some ⟨g, 0, none⟩)) (hSw : S w)
    (h : wpAnyH P md l.toArray Q S fuel (listed.setIfInBounds i true) (a.put o.dst (.agg cs.toArray)) w) : wpAnyH P md l.toArray Q S (fuel + 1) listed a w :=
  wpAnyH_take (drop_at hi) hs hf hr hQ (yieldsIf_load_mid hw ty x ho g 0 hx cs d hS hu hd hl) hSw h
/-- an operation that reads nothing -/
theorem take_pure (i : Nat) (v : Value) (hi : l.drop i = o :: rest) (hs : Region.noSelect l.toArray = true) (hf : Region.free md l.toArray listed i = true) (hr : (Region.ready md l.toArray listed).contains i = true)
    (hQ : ∀ c a w, Q (.panic c) (a.put o.dst v) w → Q (.panic c) a w) (hw : Region.wanted o (yielded l.toArray a.tmps) = true) (hv : ∀ w, S w → (execOp a.eval o).run P w = .ok (.value v) w) (hSw : S w)
    (h : wpAnyH P md l.toArray Q S fuel (listed.setIfInBounds i true) (a.put o.dst v) w) : wpAnyH P md l.toArray Q S (fuel + 1) listed a w :=
  wpAnyH_take (drop_at hi) hs hf hr hQ (.inl ⟨hw, hv⟩) hSw h
/-- one alone may come up -/
theorem take_call (i : Nat) (hi : l.drop i = o :: rest) (hr : Region.ready md l.toArray listed = [i])
    (h : ∀ K' : Act → World → Prop, Shut (∀ a w, S w → (S w → wpAnyH P md l.toArray Q S fuel (listed.setIfInBounds i true) a w) → K' a w) → if Region.wanted o (yielded l.toArray a.tmps) = true then Oper.wp P o a w K' Q else K' (a.put o.dst undef) w) :
    wpAnyH P md l.toArray Q S (fuel + 1) listed a w :=
  wpAnyH_ready hr (by simp) (AllReadyH.cons (drop_at hi) h AllReadyH.nil)
end
end Go.Proofs.Ythoopaknldkclaa

namespace Go.Proofs.Ythoopaknldkclaa
open Go.RowKit
set_option linter.unusedVariables false

/-- n bytes from a on -/
def fld (l : List UInt8) (a n : Nat) : List UInt8 := (l.drop a).take n
theorem fld_length (l : List UInt8) (a n : Nat) (h : a + n ≤ l.length) : (fld l a n).length = n := by simp [fld]; omega
theorem Rd.fld {w : World} {b o n : Nat} {l : List UInt8} (h : Rd w 1 (some ⟨b, o, none⟩) n (l.map vb)) (a m : Nat) (hm : a + m ≤ n) {A : Option Addr} (hA : A = some ⟨b, o + a, none⟩) : Rd w 1 A m ((fld l a m).map vb) := by
  have hl : l.length = n := by simpa using h.1
  refine ⟨by simp [Go.Proofs.Ythoopaknldkclaa.fld]; omega, fun hn => ⟨_, hA, ?_, fun j u hu => ?_⟩⟩
  · obtain ⟨ad, e, hb, -⟩ := h.2 (by omega)
    injection e with e; subst e; exact hb
  · obtain ⟨ad, e, -, hc⟩ := h.2 (by omega)
    injection e with e; subst e
    have hj : j < ((Go.Proofs.Ythoopaknldkclaa.fld l a m).map vb).length := (List.getElem?_eq_some_iff.1 hu).1
    have hj2 : j < m := by simp [Go.Proofs.Ythoopaknldkclaa.fld] at hj; omega
    have h2 := hc (a + j) u (by
      rw [← hu]
      simp [Go.Proofs.Ythoopaknldkclaa.fld, List.getElem?_drop, hj2])
    rw [Addr.add_mid] at h2 ⊢
    rw [Nat.add_assoc]; exact h2

theorem Rd.fld_if {w : World} {b o n : Nat} {l : List UInt8} (h : Rd w 1 (some ⟨b, o, none⟩) n (l.map vb)) (a m c : Nat) (hm : a + m ≤ n) (hc : n ≤ c) : Rd w 1 (if c = a then some ⟨b, o, none⟩ else some ⟨b, o + a, none⟩) m ((Go.Proofs.Ythoopaknldkclaa.fld l a m).map vb) := by
  by_cases hca : c = a
  · obtain rfl : m = 0 := by omega
    exact ⟨by simp [Go.Proofs.Ythoopaknldkclaa.fld], fun h => by omega⟩
  · exact h.fld a m hm (by rw [if_neg hca])
def Held (p : Prop) : Prop := p
theorem hold_here {p : Prop} (h : Held p) : p := h
theorem Held.go {p : Prop} (h : p) : Held p := h
theorem absorb_post {Q : Exit → Act → World → Prop} {a : Act} {w0 w : World} {F0 : List Nat} {E : Env} (H : St w0 F0 w E) (h : ∀ w', St w0 F0 w' E → Q .normal a w') : Q .normal a w := h w H
theorem Rd.zero {w : World} {A : Option Addr} {m : Nat} (h : m = 0) : Rd w 1 A m (([] : List UInt8).map vb) := ⟨by simp [h], fun h' => by omega⟩

theorem own_enc {w : World} {base n : Nat} {v : Value} {l : List UInt8} {xs : List Value} (h : l.map vb = xs) (ho : w.ownsRow base 5 1 v n xs) (hn : n = l.length) : OwnB w base v l := by
  subst h hn; exact ho
theorem St.pushOwnB {w0 w w' : World} {F0 : List Nat} {E : Env} {v : Value} {l : List UInt8} (H : St w0 F0 w E) (k : Nat) (hk : E k = none) (ho : OwnB w' w.heap.size v l) (hb : Below w.heap.size w w') : St w0 F0 w' (upd E k (.row 5 1 v l.length (l.map vb))) := H.pushRow k hk hb ho
theorem St.lit {w0 w : World} {F0 : List Nat} {E : Env} (H : St w0 F0 w E) (k : Nat) (hk : E k = none) (e : TypeId) (cs : Array Value) (n : Nat) (hn : cs.size = n) (h1 : n ≤ 1000) (b : Nat) (hb : b = w.heap.size) : St w0 F0 (w.alloc (.cells cs e)) (upd E k (.row e 1 (.slice (some ⟨b, 0, none⟩) n n) n cs.toList)) := by
  subst hb
  exact H.pushRow k hk ((Below.refl _ _).alloc (Nat.le_refl _) _) (World.ownsRow_lit w cs n (Nat.le_refl _) (by simp only [maxLen]; omega) (by omega))
theorem St.shape_row {w0 w : World} {F0 : List Nat} {L : List Own} {e : TypeId} {v : Value} {n n' : Nat} {xs xs' : List Value} (H : St w0 F0 w (lay L)) (k : Nat) (hk : L[k]? = some (.row e 1 v n xs)) (hn : n = n') (hx : xs = xs') : St w0 F0 w (lay (L.set k (.row e 1 v n' xs'))) := by
  subst hn hx
  have h := List.getElem?_eq_some_iff.1 hk
  obtain ⟨h1, h2⟩ := h
  rw [← h2, List.set_getElem_self]
  exact H
theorem St.perm {w0 w : World} {F0 : List Nat} {L L' : List Own} (H : St w0 F0 w (lay L)) (p : List Nat) (n : Nat) (hn : L'.length = n) (hp : ∀ i, i < n → ∀ j, j < n → p.getD i 0 = p.getD j 0 → i = j) (h : ∀ i, i < n → L[p.getD i 0]? = L'[i]?) : St w0 F0 w (lay L') := by
  obtain ⟨lo, Fs, h1, h2⟩ := H
  have hl : ∀ i A, lay L' i = some A → i < n ∧ lay L (p.getD i 0) = some A := by
    intro i A hA
    have hi : i < n := by rw [← hn]; exact (List.getElem?_eq_some_iff.1 hA).1
    exact ⟨hi, (h i hi).trans hA⟩
  exact ⟨lo, fun k => Fs (p.getD k 0), fun i A hA => h1 _ A (hl i A hA).2, fun i j A B hij hA hB => h2 _ _ A B (fun e => hij (hp i (hl i A hA).1 j (hl j B hB).1 e)) (hl i A hA).2 (hl j B hB).2⟩
/-- one piece alone is kept -/
theorem St.only {w0 w : World} {F0 : List Nat} {L : List Own} {A : Own} (H : St w0 F0 w (lay L)) (i : Nat) (h : L[i]? = some A) : St w0 F0 w (lay [A]) :=
  H.perm [i] 1 rfl (by intro i hi j hj _; omega) (by
    intro j hj
    obtain rfl : j = 0 := by omega
    exact h)
theorem Rd.front {w : World} {A : Option Addr} {n m : Nat} {l k : List UInt8} (h : Rd w 1 A m ((l ++ k).map vb)) (hn : l.length = n) (hm : n ≤ m) : Rd w 1 A n (l.map vb) := by
  have := h.take hm
  rw [List.take_left' hn] at this
  exact this
theorem b_bne (x : Int) : (x != x) = false := by simp
theorem u8_wrap (x : Nat) : IntKind.u8.wrap (x : Int) = ((UInt8.ofNat (x % 256)).toNat : Int) := by
  rw [UInt8.toNat_ofNat', IntKind.wrap_u8]
  omega

theorem St.rows_ne {w0 w : World} {F0 : List Nat} {E : Env} {e e' : TypeId} {s s' n n' : Nat} {v v' : Value} {xs xs' : List Value} (H : St w0 F0 w E) (i j : Nat) (hij : i ≠ j) (hi : E i = some (.row e s v n xs)) (hj : E j = some (.row e' s' v' n' xs')) : v.ownBlock = none ∨ v.ownBlock ≠ v'.ownBlock := by
  obtain ⟨F, ⟨-, e1⟩, -, hd, -⟩ := H.change i hi
  obtain ⟨G, ⟨-, e2⟩, hd'⟩ := hd j _ (fun e => hij e.symm) hj
  cases hv : v.ownBlock with
  | none => exact .inl rfl
  | some g =>
    refine .inr fun h => ?_
    exact hd' g (by rw [e2, ← h]; simp) (by rw [e1, hv]; simp)
theorem St.hp {w0 w : World} {E : Env} (H : St w0 [] w E) (ps : List (Value × List UInt8)) (f : Nat → Nat) (hf : ∀ i j, i < ps.length → j < ps.length → f i = f j → i = j) (h : ∀ i p, ps[i]? = some p → E (f i) = some (.row 5 1 p.1 p.2.length (p.2.map vb))) : Hp w w0.heap.size ps := by
  refine ⟨fun i p hp => H.ownRow (f i) (h i p hp), fun i j p q hij hp hq => ?_⟩
  have li := (List.getElem?_eq_some_iff.1 hp).1
  have lj := (List.getElem?_eq_some_iff.1 hq).1
  exact H.rows_ne (f i) (f j) (fun e => hij (hf i j li lj e)) (h i p hp) (h j q hq)

theorem apart_st {w0 w : World} {E : Env} (H : St w0 [] w E) (ps : List (Value × List UInt8)) (f : Nat → Nat) (hf : ∀ i j, i < ps.length → j < ps.length → f i = f j → i = j) (h : ∀ i p, ps[i]? = some p → E (f i) = some (.row 5 1 p.1 p.2.length (p.2.map vb)))
    (n : Nat) (hN : ps.length = n) (hN' : n ≤ 1000) (hlen : ∀ p ∈ ps, p.2.length ≤ 140737488355320) (cs : Array Value) (hcs : cs = (ps.map (·.1)).toArray) :
    Calls Try.prog 20 #[.slice (some ⟨w.heap.size, 0, none⟩) n n] (w.alloc (.cells cs 22)) fun e w' => e = .returned (.bool true) ∧ Below w0.heap.size w0 w' := by
  subst hN hcs
  have hsz := H.low.size
  have hL : LR (w.alloc (.cells (ps.map (·.1)).toArray 22)) w.heap.size ps.length ps.length (ps.map (·.1)) := by
    have := World.ownsRow_lit (base := 0) (e := 22) (size := 1) w (ps.map (·.1)).toArray ps.length (Nat.zero_le _) (by simp only [maxLen]; omega) (by simp)
    simpa [LR] using this
  have h1 := H.call ((Below.refl _ _).alloc (Nat.le_refl _) (.cells (ps.map (·.1)).toArray 22))
  have hF := (h1.hp ps f hf h).fam
  refine (apartBytes_any w.heap.size ps.length ps.length w0.heap.size _ _ _ hL hF hN' (by simp; omega) ?_).mono fun e w' he => ⟨he.1, h1.below.trans he.2⟩
  intro j hj
  rw [List.getD_eq_getElem?_getD, List.getElem?_map, List.getElem?_eq_getElem hj]
  exact hlen _ (List.getElem_mem hj)

theorem over_st {w0 w : World} {F0 : List Nat} {E : Env} {g n c : Nat} {l : List UInt8} (H : St w0 F0 w E) (i : Nat) (hi : E i = some (.row 5 1 (.slice (some ⟨g, 0, none⟩) n c) n (l.map vb))) (hn : n ≤ 140737488355328) :
    Calls Try.prog 54 #[.slice (some ⟨g, 0, none⟩) n c] w fun e w' => e = .returned (.tuple #[]) ∧ St w0 F0 w' (upd E i (.row 5 1 (.slice (some ⟨g, 0, none⟩) n c) n ((marksB 9 0 n).map vb))) := by
  have hr := H.row i hi
  have hl : n = l.length := by have := hr.1; simp at this; omega
  have ho : OwnB w 0 (.slice (some ⟨g, 0, none⟩) n c) l := by unfold OwnB; rw [← hl]; exact hr
  refine (overBytes_any 0 g c n l w ho hl hn).mono ?_
  rintro e w' ⟨rfl, ho', hg⟩
  refine ⟨rfl, H.grow i hi ?_ hg (.inl rfl)⟩
  unfold OwnB at ho'
  rw [marksB_length] at ho'
  exact ho'

/-- append of noughts: 'append(s, make([]byte, k)...)' -/
theorem zeroCells_one (z : Value) (k : Nat) : (Builtin.zeroCells #[z] k).toList = List.replicate k z := by
  refine List.ext_getElem? fun i => ?_
  simp [Builtin.zeroCells, List.getElem?_replicate]
  by_cases h : i < k
  · simp [h, Nat.mod_one]
  · simp [h]
theorem run_append_zeros {P : Program} (w : World) (base : Nat) (t tn ty e : TypeId) (i : TypeInfo) (z : Value) (kn : IntKind) (ht : P.underlying t = some (.slice e)) (htn : P.underlying tn = some (.int kn)) (hi : P.info? e = some i) (hz : i.zero = some z)
    (hsize : i.size = 1) (hby : i.bytes = 1) (hzs : z.cells = #[z]) (hz1 : z.oneCell' = true)
    (v : Value) (n : Nat) (xs : List Value) (hown : w.ownsRow base e 1 v n xs) (k : Nat) (hk : n + k ≤ 140737488355328) (hbase : base ≤ w.heap.size) :
    ∃ v' w', (Builtin.append_ #[t, tn] ty #[v, .int .i64 (k : Int)]).run P w = .ok v' w' ∧ w'.ownsRow base e 1 v' (n + k) (xs ++ List.replicate k z) ∧ w.grownBy w' v.ownBlock ∧ (v'.ownBlock = v.ownBlock ∨ v'.ownBlock = some w.heap.size) := by
  have hw : IntKind.i64.wrap (k : Int) = k := by rw [IntKind.wrap_i64]; omega
  have hneg : ¬ ((k : Int) < 0) := by omega
  have h48i : ¬ (281474976710656 < (k : Int)) := by omega
  have hlen : (xs ++ List.replicate k z).length = (n + k) * 1 := by rw [List.length_append, hown.1, List.length_replicate]; omega
  have hzl : (Builtin.zeroCells z.cells k).size = k := by rw [hzs]; simp [Builtin.zeroCells]
  have grown : ∀ (old : Nat) (pre : Array Value), pre.toList = xs →
      (w.drew.alloc (.cells (pre ++ Builtin.zeroCells z.cells k ++ Builtin.zeroCells z.cells (grownCap w (n + k) old e - (n + k))) e)).ownsRow base e 1
        (.slice (some ⟨w.heap.size, 0, none⟩) (n + k) (grownCap w (n + k) old e)) (n + k) (xs ++ List.replicate k z) := by
    intro old pre hpre
    have hge := grownCap_ge w (n + k) old e
    have hcm : grownCap w (n + k) old e ≤ maxLen := grownCap_le_maxLen w (n + k) old e (by simp only [maxLen]; omega)
    have hps : pre.size = n := by rw [← Array.length_toList, hpre]; have := hown.1; omega
    refine ⟨hlen, .inr ⟨w.heap.size, _, _, rfl, hbase, heap_alloc_new w.drew _, hge, hcm, ?_, ?_⟩⟩
    · simp only [Array.size_append, hps, hzl]
      rw [hzs]
      simp [Builtin.zeroCells]
      try omega
    · simp only [Array.toList_append]
      rw [hpre, hzs, zeroCells_one, ← hlen]
      exact List.take_left
  have hbel : ∀ o, w.grownBy (w.drew.alloc o) v.ownBlock := fun o => by
    have hb : Below w.heap.size w (w.drew.alloc o) := (Below.refl _ _).drew.alloc (Nat.le_refl _) _
    exact ⟨hb.os, hb.tape, hb.output, hb.size, fun k hk _ => hb.block k hk⟩
  rcases hown.2 with ⟨rfl, rfl⟩ | ⟨g, cap, cur, rfl, hbg, hg, hnc, hcm, hcs, htake⟩
  · have hx : xs = [] := List.eq_nil_of_length_eq_zero (by simpa using hown.1)
    subst hx
    rcases Nat.eq_zero_or_pos k with h0 | h0
    · subst h0
      refine ⟨.slice none 0 0, w, ?_, by simpa using hown, World.grownBy.refl w _, .inl rfl⟩
      simp [Builtin.append_, run_underlying ht, run_underlying htn, sizeOf, typeInfo, hi, asInt, asIntOf, show IntKind.i64.wrap 0 = 0 from rfl]
    · have hr := Go.Lib.run_append_nil_zeros (P := P) w t tn ty e i z .i64 kn ht htn hi hz k h0 (by omega) (by omega) (by rw [hby]; omega)
      have hgr := grown 0 #[] rfl
      simp only [Nat.zero_add, Array.empty_append] at hgr
      refine ⟨_, _, hr, ?_, hbel _, .inr rfl⟩
      simpa using hgr
  · by_cases hroom : n + k ≤ cap
    · rcases Nat.eq_zero_or_pos k with h0 | h0
      · subst h0
        refine ⟨.slice (some ⟨g, 0, none⟩) n cap, w, ?_, by simpa using hown, World.grownBy.refl w _, .inl rfl⟩
        simp [Builtin.append_, run_underlying ht, run_underlying htn, sizeOf, typeInfo, hi, asInt, asIntOf, show IntKind.i64.wrap 0 = 0 from rfl, hnc, storeCells]
      · have hst := run_storeCells_at P g (n * 1) e (List.replicate k z) 0 cur w hg (by simp; omega) (by intro u hu; rw [List.eq_of_mem_replicate hu]; exact hz1)
        simp only [Nat.add_zero, Nat.mul_one] at hst
        have hns : ¬ (k = 0) := by omega
        have hzt : (Builtin.zeroCells z.cells k).toList = List.replicate k z := by rw [hzs]; exact zeroCells_one z k
        have hrun : (Builtin.append_ #[t, tn] ty #[.slice (some ⟨g, 0, none⟩) n cap, .int .i64 (k : Int)]).run P w = .ok (.slice (some ⟨g, 0, none⟩) (n + k) cap) (w.setRow g (cur.toList.take n ++ List.replicate k z ++ cur.toList.drop (n + (List.replicate k z).length)).toArray) := by
          simp [Builtin.append_, run_underlying ht, run_underlying htn, sizeOf, typeInfo, zeroValue, hi, hz, hsize, hby, asInt, asIntOf, hw, hneg, h48i, hns, hroom, hzt, Addr.add_lit]
          have h9 := hst
          simp at h9 ⊢
          rw [h9]
          rfl
        refine ⟨_, _, hrun, ⟨hlen, .inr ⟨g, cap, _, rfl, hbg, setRow_heap w g cur _ e _ hg, hroom, hcm, ?_, ?_⟩⟩, ⟨rfl, rfl, rfl, by simp, fun k _ hk => setRow_other w g k _ (fun e => hk (by simp [Value.ownBlock, e]))⟩, .inl rfl⟩
        · simp only [List.size_toArray, List.length_append, List.length_take, List.length_drop, Array.length_toList, List.length_replicate]
          omega
        · rw [← hlen]
          have : cur.toList.take n = xs := by rw [← htake, Nat.mul_one]
          rw [this]
          exact List.take_left
    · have hx1 : cur.toList.take (n * 1) = xs := htake
      have hold := run_firstCells_some (P := P) w.drew i.size n ⟨g, 0, none⟩ n cap xs (by rw [hsize]; exact hown.1) (by simpa using hown.cells (g := g) rfl)
      have h0 : 0 < k := by omega
      have hr := Go.Lib.run_append_grow_zeros (P := P) w t tn ty e i z .i64 kn ht htn hi hz (some ⟨g, 0, none⟩) n cap xs hold k h0 (by omega) (by omega) (by omega) (by rw [hby]; omega) (growslice_fits (by omega) (by rw [hby]; omega))
      exact ⟨_, _, hr, grown cap xs.toArray (by simp), hbel _, .inr rfl⟩
end Go.Proofs.Ythoopaknldkclaa

namespace Go.Proofs.Ythoopaknldkclaa
open Go.RowKit
set_option linter.unusedVariables false

/-- a number's bytes, as few as it takes, the highest first -/
def numB (n : Nat) : List UInt8 := if n < 256 then [UInt8.ofNat (n % 256)] else numB (n / 256) ++ [UInt8.ofNat (n % 256)]
termination_by n
decreasing_by omega
theorem numB_small {n : Nat} (h : n / 256 = 0) : numB n = [UInt8.ofNat (n % 256)] := by rw [numB, if_pos (by omega)]
theorem numB_big {n : Nat} (h : n / 256 ≠ 0) : numB n = numB (n / 256) ++ [UInt8.ofNat (n % 256)] := by rw [numB, if_neg (by omega)]
theorem numB_len (k : Nat) : ∀ n, n < 256 ^ (k + 1) → (numB n).length ≤ k + 1 := by
  induction k with
  | zero => intro n h; rw [numB_small (by omega)]; simp
  | succ k ih =>
    intro n h
    by_cases h0 : n / 256 = 0
    · rw [numB_small h0]; simp
    · rw [numB_big h0, List.length_append]
      have := ih (n / 256) (by rw [Nat.pow_succ] at h; omega)
      simp; omega
theorem numB_le {n : Nat} (h : n ≤ 9223372036854775807) : (numB n).length ≤ 8 := numB_len 7 n (by omega)
theorem numB_pos (n : Nat) : 0 < (numB n).length := by
  by_cases h0 : n / 256 = 0
  · rw [numB_small h0]; simp
  · rw [numB_big h0]; simp
def numT (n m : Nat) (b : List UInt8) : Prop := numB n = if m = 0 then b else numB m ++ b
theorem numM {m m' : Nat} (h : m / 256 = m') (h0 : ¬ m = 0) : m' < m := by omega
/-- Left, Right, String, Pad -/
def leftB (n : Nat) : List UInt8 := UInt8.ofNat (numB n).length :: numB n
def rightB (n : Nat) : List UInt8 := numB n ++ [UInt8.ofNat (numB n).length]
def leftI (n : Int) : List UInt8 := if n < 0 then [] else leftB n.toNat
def rightI (n : Int) : List UInt8 := if n < 0 then [] else rightB n.toNat
def errI (n : Int) : Int := if n < 0 then 2 else 0
def strB (b : List UInt8) : List UInt8 := leftB (8 * b.length) ++ b
def padN (b : List UInt8) (w : Nat) : Nat := (w - (leftB w ++ b).length % w) % w
def padB (b : List UInt8) (w : Nat) : List UInt8 := leftB w ++ b ++ List.replicate (padN b w) 0
def padOk (w : Int) : Prop := 1 ≤ w ∧ w ≤ 256
instance (w : Int) : Decidable (padOk w) := inferInstanceAs (Decidable (_ ∧ _))
def padI (b : List UInt8) (w : Int) : List UInt8 := if padOk w then padB b w.toNat else []
def padE (w : Int) : Int := if padOk w then 0 else 2

set_option maxRecDepth 100000 in
set_option maxHeartbeats 1000000 in
theorem number_s (n : Nat) (w : World) (hn : n ≤ 9223372036854775807) {a : Int} (ha : a = (n : Int)) :
    Calls Try.prog 74 #[.int .i64 a] w fun e w' => ∃ v, e = .returned v ∧ OwnB w' w.heap.size v (numB n) ∧ Below w.heap.size w w' := by
  obtain ⟨i0, hi0, hz0, hz1, hz2⟩ := info_parts u8_info
  subst ha
  have hle := numB_le hn
  have H0 := (St.start_lay w []).nilRow 0 rfl 5 1 |>.push_mk rfl
  go_enter Try.func74, Try.ntmps74
  go_wp2
  go_loopw [0, 3] (fun i v wr => ∃ (m j : Nat) (b : List UInt8), m ≤ 9223372036854775807 ∧ j ≤ 7 ∧ i = .int .i64 m ∧ Hid (numB n = numB m ++ b) ∧ Hid (b.length = j) ∧ St w [] wr (lay [.row 5 1 v j (b.map vb)])) (fun i _ _ => (intOf i).toNat)
  case atStart => exact ⟨n, 0, [], hn, by omega, rfl, by unfold Hid; simp, rfl, H0⟩
  case round =>
    clear H0
    obtain ⟨m, j, b, hm, hj, rfl, HE, HJ, H⟩ := hrel
    obtain ⟨A, c, rfl, -⟩ := row_form (H.row 0 rfl)
    have hbe := u8_wrap m
    have HY : Hid (UInt8.ofNat (m % 256) = UInt8.ofNat (m % 256)) := rfl
    revert HY hbe
    generalize hy : UInt8.ofNat (m % 256) = y
    intro hbe HY
    have HY1 := Lib.hid hy
    clear hy HY
    have H1 := (H.lit 1 rfl 5 #[vb y] 1 rfl (by omega) wr.heap.size rfl).push_mk rfl
    have hr1 := H1.row 1 rfl
    have hd := H.rd 0 rfl
    obtain ⟨m', HM'⟩ : ∃ m', Hid (m / 256 = m') := ⟨_, rfl⟩
    have hdiv : (m : Int) / 256 = (m' : Int) := by have := HM'.out; omega
    have hlm : m' ≤ m ∧ (m' ≠ 0 → m' < m) := by have := HM'.out; omega
    go_wp2_with (at_builtin; refine hold_here ?_)
    refine Held.go ?_
    refine wpList_append_any _ rfl (.tmp 6) (.tmp 7) _ rfl 0 5 i0 (.int .u8 0) 1 1 Try.underlying22 hi0 hz0 hz1 hz2 rfl (by omega) (.slice (some ⟨wr.heap.size, 0, none⟩) 1 1) 1 [vb y] rfl hr1 A j c (b.map vb) rfl (hd.below ((Below.refl _ _).alloc (Nat.le_refl _) _)) (vb_one _) (by simp only [maxLen]; omega) (by omega) (by omega) ?_
    intro v3 w3 hown3 hg3 hat3
    have H3 := ((H1.grow 1 rfl hown3 hg3 hat3).upd_mk (by simp)).only 1 rfl
    have HB : Hid ((y :: b).length = j + 1) := by unfold Hid; rw [List.length_cons, HJ.out]
    replace H3 : St w [] w3 (lay [.row 5 1 v3 (1 + j) ((y :: b).map vb)]) := H3
    rw [Nat.add_comm 1 j] at H3
    clear hd hr1 H1 H hown3 hg3 hat3 hbe
    by_cases hz : m' = 0
    · subst hz
      go_wp2
      go_ret
      refine ⟨_, rfl, own_enc rfl (H3.ownRow 0 rfl) HB.out.symm |> fun h => ?_, H3.below⟩
      rw [HE.out, numB_small HM'.out, HY1.out]
      exact h
    · have hz' : ¬ (m' : Int) = 0 := by omega
      have hz2 : ((m' : Int) == 0) = false := by simpa using hz'
      have HP := numB_pos m'
      have HE2 : Hid (numB n = numB m' ++ (y :: b)) := by
        unfold Hid
        rw [HE.out, numB_big (by rw [HM'.out]; exact hz), HM'.out, HY1.out]
        simp
      have HJ2 : j + 1 ≤ 7 := by
        have h1 := congrArg List.length HE2.out
        rw [List.length_append, HB.out] at h1
        omega
      go_wp2
      go_roundw
      case rel => exact ⟨m', j + 1, y :: b, by omega, HJ2, rfl, HE2, HB, H3⟩
      case measure => simp [intOf]; omega

set_option maxRecDepth 100000 in
set_option maxHeartbeats 1000000 in
theorem refNumber_s (n : Nat) (w : World) (hn : n ≤ 9223372036854775807) {a : Int} (ha : a = (n : Int)) :
    Calls Try.prog 83 #[.int .i64 a] w fun e w' => ∃ v, e = .returned v ∧ OwnB w' w.heap.size v (numB n) ∧ Below w.heap.size w w' := by
  obtain ⟨i0, hi0, hz0, hz1, hz2⟩ := info_parts u8_info
  subst ha
  have hle := numB_le hn
  have hbn := u8_wrap (n % 256)
  rw [Nat.mod_mod] at hbn
  have hmn : Int.tmod (n : Int) 256 = ((n % 256 : Nat) : Int) := by rw [Int.tmod_eq_emod_of_nonneg (by omega)]; omega
  have hqn : Int.tdiv (n : Int) 256 = ((n / 256 : Nat) : Int) := by rw [Int.tdiv_eq_ediv_of_nonneg (by omega)]; omega
  obtain ⟨m0, HM0⟩ : ∃ m', Hid (n / 256 = m') := ⟨_, rfl⟩
  obtain ⟨r0, HR0⟩ : ∃ r', Hid (n % 256 = r') := ⟨_, rfl⟩
  obtain ⟨y0, HY0⟩ : ∃ y, Hid (UInt8.ofNat (n % 256) = y) := ⟨_, rfl⟩
  rw [HY0.out] at hbn
  rw [HR0.out] at hbn hmn
  rw [HM0.out] at hqn
  go_enter Try.func83, Try.ntmps83
  have H0 := ((St.start_lay w []).lit 0 rfl 5 #[vb y0] 1 rfl (by omega) w.heap.size rfl).push_mk rfl
  have hw0 : wrap64 (m0 : Int) = m0 := IntWalk.wrap64_in _ (by have := HM0.out; omega)
  go_wp2
  clear hbn hmn hqn hw0
  go_loopw [0, 3] (fun i v wr => ∃ (m j : Nat) (b : List UInt8), m ≤ 9223372036854775807 ∧ j ≤ 8 ∧ i = .int .i64 m ∧ Hid (numT n m b) ∧ Hid (b.length = j) ∧ St w [] wr (lay [.row 5 1 v j (b.map vb)])) (fun i _ _ => (intOf i).toNat)
  case atStart =>
    refine ⟨m0, 1, [y0], by have := HM0.out; omega, by omega, rfl, ?_, rfl, H0⟩
    unfold Hid numT
    split
    · rename_i h; subst h; rw [numB_small HM0.out, HY0.out]
    · rename_i h; rw [numB_big (by rw [HM0.out]; exact h), HM0.out, HY0.out]
  case round =>
    clear H0
    obtain ⟨m, j, b, hm, hj, rfl, HE, HJ, H⟩ := hrel
    by_cases h0 : m = 0
    · subst h0
      go_wp2
      go_ret
      refine ⟨_, rfl, own_enc rfl (H.ownRow 0 rfl) HJ.out.symm |> fun h => ?_, H.below⟩
      have h1 := HE.out
      unfold numT at h1
      rw [if_pos rfl] at h1
      rw [h1]
      exact h
    · have hpos : (0 : Int) < m := by omega
      obtain ⟨A, c, rfl, -⟩ := row_form (H.row 0 rfl)
      have hbm := u8_wrap (m % 256)
      rw [Nat.mod_mod] at hbm
      have hmm : Int.tmod (m : Int) 256 = ((m % 256 : Nat) : Int) := by rw [Int.tmod_eq_emod_of_nonneg (by omega)]; omega
      have hqm : Int.tdiv (m : Int) 256 = ((m / 256 : Nat) : Int) := by rw [Int.tdiv_eq_ediv_of_nonneg (by omega)]; omega
      obtain ⟨m', HM⟩ : ∃ m', Hid (m / 256 = m') := ⟨_, rfl⟩
      obtain ⟨r', HR⟩ : ∃ r', Hid (m % 256 = r') := ⟨_, rfl⟩
      obtain ⟨y, HY⟩ : ∃ y, Hid (UInt8.ofNat (m % 256) = y) := ⟨_, rfl⟩
      rw [HY.out] at hbm
      rw [HR.out] at hbm hmm
      rw [HM.out] at hqm
      have hw0 : wrap64 (m' : Int) = m' := IntWalk.wrap64_in _ (by have := HM.out; omega)
      have hlm : m' < m := numM HM.out h0
      have HE2 : Hid (numT n m' (y :: b)) := by
        have h1 := HE.out
        unfold numT at h1
        unfold Hid numT
        rw [h1, if_neg h0]
        split
        · rename_i h; subst h; rw [numB_small HM.out, HY.out]; rfl
        · rename_i h; rw [numB_big (by rw [HM.out]; exact h), HM.out, HY.out]; simp
      have HB : Hid ((y :: b).length = j + 1) := by unfold Hid; rw [List.length_cons, HJ.out]
      have HJ2 : j + 1 ≤ 8 := by
        have h1 := HE2.out
        unfold numT at h1
        replace h1 := congrArg List.length h1
        split at h1
        · rw [HB.out] at h1; omega
        · rw [List.length_append, HB.out] at h1; have := numB_pos m'; omega
      have H1 := (H.lit 1 rfl 5 #[vb y] 1 rfl (by omega) wr.heap.size rfl).push_mk rfl
      have hr1 := H1.row 1 rfl
      have hd := H.rd 0 rfl
      go_wp2_with (at_builtin; refine hold_here ?_)
      refine Held.go ?_
      refine wpList_append_any _ rfl (.tmp 17) (.tmp 18) _ rfl 0 5 i0 (.int .u8 0) 1 1 Try.underlying22 hi0 hz0 hz1 hz2 rfl (by omega) (.slice (some ⟨wr.heap.size, 0, none⟩) 1 1) 1 [vb y] rfl hr1 A j c (b.map vb) rfl (hd.below ((Below.refl _ _).alloc (Nat.le_refl _) _)) (vb_one _) (by simp only [maxLen]; omega) (by omega) (by omega) ?_
      intro v3 w3 hown3 hg3 hat3
      have H3 := ((H1.grow 1 rfl hown3 hg3 hat3).upd_mk (by simp)).only 1 rfl
      replace H3 : St w [] w3 (lay [.row 5 1 v3 (1 + j) ((y :: b).map vb)]) := H3
      rw [Nat.add_comm 1 j] at H3
      clear hd hr1 H1 H hown3 hg3 hat3 hbm hmm
      go_wp2
      go_roundw
      case rel => exact ⟨m', j + 1, y :: b, by omega, HJ2, rfl, HE2, HB, H3⟩
      case measure => simp [intOf]; omega

set_option maxRecDepth 100000 in
set_option maxHeartbeats 1000000 in
theorem left_s (n : Int) (w : World) (hn : n ≤ 9223372036854775807) :
    Calls Try.prog 71 #[.int .i64 n] w fun e w' => ∃ v, e = .returned (.tuple #[v, .int .i64 (errI n)]) ∧ OwnB w' w.heap.size v (leftI n) ∧ Below w.heap.size w w' := by
  obtain ⟨i0, hi0, hz0, hz1, hz2⟩ := info_parts u8_info
  unfold errI leftI
  by_cases h : n < 0
  · rw [if_pos h, if_pos h]
    go_enter Try.func71, Try.ntmps71
    go_wp2
    go_ret2
    exact ⟨_, rfl, World.ownsRow_nil _ _ _ _, Below.refl _ _⟩
  · rw [if_neg h, if_neg h]
    obtain ⟨m, rfl⟩ := Int.eq_ofNat_of_zero_le (by omega : 0 ≤ n)
    rw [Int.toNat_natCast]
    obtain ⟨T, HT⟩ : ∃ T, Hid (T = leftB m) := ⟨_, rfl⟩
    rw [← HT.out]
    go_enter Try.func71, Try.ntmps71
    go_wp2_with fail
    refine (number_s m w (by omega) rfl).mono ?_
    rintro e w1 ⟨v1, rfl, ho, hb⟩
    have H := ((St.start_lay w []).pushOwnB 0 rfl ho hb).push_mk rfl
    unfold leftB at HT
    have hle := numB_le (n := m) (by omega)
    generalize numB m = nb at ho H hle HT
    obtain ⟨A, k, c, rfl, hk, hd⟩ := ho.shape
    replace H := H.shape_row 0 rfl (n' := k) hk.out.symm rfl
    have hkl : k ≤ 8 := by rw [hk.out]; exact hle
    have hbk := u8_wrap k
    obtain ⟨y, HY⟩ : ∃ y, Hid (UInt8.ofNat (k % 256) = y) := ⟨_, rfl⟩
    rw [HY.out] at hbk
    have H1 := (H.lit 1 rfl 5 #[vb y] 1 rfl (by omega) w1.heap.size rfl).push_mk rfl
    have hr1 := H1.row 1 rfl
    clear ho hb hle
    go_wp2_with (at_builtin; refine hold_here ?_)
    refine Held.go ?_
    refine wpList_append_any _ rfl (.tmp 12) (.tmp 13) _ rfl 0 5 i0 (.int .u8 0) 1 1 Try.underlying22 hi0 hz0 hz1 hz2 rfl (by omega) (.slice (some ⟨w1.heap.size, 0, none⟩) 1 1) 1 [vb y] rfl hr1 A k c (nb.map vb) rfl (hd.below ((Below.refl _ _).alloc (Nat.le_refl _) _)) (vb_one _) (by simp only [maxLen]; omega) (by omega) (by omega) ?_
    intro v3 w3 hown3 hg3 hat3
    have H3 := ((H1.grow 1 rfl hown3 hg3 hat3).upd_mk (by simp)).only 1 rfl
    clear hbk
    go_wp2
    go_ret2
    refine ⟨_, rfl, own_enc ?_ (H3.ownRow 0 rfl) (by rw [HT.out]; have := hk.out; simp; omega), H3.below⟩
    rw [HT.out]
    have h1 : UInt8.ofNat nb.length = y := by rw [← HY.out, ← hk.out, Nat.mod_eq_of_lt (by omega)]
    rw [h1]
    rfl

set_option maxRecDepth 100000 in
set_option maxHeartbeats 1000000 in
theorem refLeft_s (n : Int) (w : World) (hn : n ≤ 9223372036854775807) :
    Calls Try.prog 80 #[.int .i64 n] w fun e w' => ∃ v, e = .returned (.tuple #[v, .int .i64 (errI n)]) ∧ OwnB w' w.heap.size v (leftI n) ∧ Below w.heap.size w w' := by
  obtain ⟨i0, hi0, hz0, hz1, hz2⟩ := info_parts u8_info
  unfold errI leftI
  by_cases h : n < 0
  · rw [if_pos h, if_pos h]
    go_enter Try.func80, Try.ntmps80
    go_wp2
    go_ret2
    exact ⟨_, rfl, World.ownsRow_nil _ _ _ _, Below.refl _ _⟩
  · rw [if_neg h, if_neg h]
    obtain ⟨m, rfl⟩ := Int.eq_ofNat_of_zero_le (by omega : 0 ≤ n)
    rw [Int.toNat_natCast]
    obtain ⟨T, HT⟩ : ∃ T, Hid (T = leftB m) := ⟨_, rfl⟩
    rw [← HT.out]
    go_enter Try.func80, Try.ntmps80
    go_wp2_with fail
    refine (refNumber_s m w (by omega) rfl).mono ?_
    rintro e w1 ⟨v1, rfl, ho, hb⟩
    have H := ((St.start_lay w []).pushOwnB 0 rfl ho hb).push_mk rfl
    unfold leftB at HT
    have hle := numB_le (n := m) (by omega)
    generalize numB m = nb at ho H hle HT
    obtain ⟨A, k, c, rfl, hk, hd⟩ := ho.shape
    replace H := H.shape_row 0 rfl (n' := k) hk.out.symm rfl
    have hkl : k ≤ 8 := by rw [hk.out]; exact hle
    have hbk := u8_wrap k
    obtain ⟨y, HY⟩ : ∃ y, Hid (UInt8.ofNat (k % 256) = y) := ⟨_, rfl⟩
    rw [HY.out] at hbk
    have H1 := (H.lit 1 rfl 5 #[vb y] 1 rfl (by omega) w1.heap.size rfl).push_mk rfl
    have hr1 := H1.row 1 rfl
    clear ho hb hle
    go_wp2_with (at_builtin; refine hold_here ?_)
    refine Held.go ?_
    refine wpList_append_any _ rfl (.tmp 14) (.tmp 15) _ rfl 0 5 i0 (.int .u8 0) 1 1 Try.underlying22 hi0 hz0 hz1 hz2 rfl (by omega) (.slice (some ⟨w1.heap.size, 0, none⟩) 1 1) 1 [vb y] rfl hr1 A k c (nb.map vb) rfl (hd.below ((Below.refl _ _).alloc (Nat.le_refl _) _)) (vb_one _) (by simp only [maxLen]; omega) (by omega) (by omega) ?_
    intro v3 w3 hown3 hg3 hat3
    have H3 := ((H1.grow 1 rfl hown3 hg3 hat3).upd_mk (by simp)).only 1 rfl
    clear hbk
    go_wp2
    go_ret2
    refine ⟨_, rfl, own_enc ?_ (H3.ownRow 0 rfl) (by rw [HT.out]; have := hk.out; simp; omega), H3.below⟩
    rw [HT.out]
    have h1 : UInt8.ofNat nb.length = y := by rw [← HY.out, ← hk.out, Nat.mod_eq_of_lt (by omega)]
    rw [h1]
    rfl

set_option maxRecDepth 100000 in
set_option maxHeartbeats 1000000 in
theorem right_s (n : Int) (w : World) (hn : n ≤ 9223372036854775807) :
    Calls Try.prog 50 #[.int .i64 n] w fun e w' => ∃ v, e = .returned (.tuple #[v, .int .i64 (errI n)]) ∧ OwnB w' w.heap.size v (rightI n) ∧ Below w.heap.size w w' := by
  obtain ⟨i0, hi0, hz0, hz1, hz2⟩ := info_parts u8_info
  unfold errI rightI
  by_cases h : n < 0
  · rw [if_pos h, if_pos h]
    go_enter Try.func50, Try.ntmps50
    go_wp2
    go_ret2
    exact ⟨_, rfl, World.ownsRow_nil _ _ _ _, Below.refl _ _⟩
  · rw [if_neg h, if_neg h]
    obtain ⟨m, rfl⟩ := Int.eq_ofNat_of_zero_le (by omega : 0 ≤ n)
    rw [Int.toNat_natCast]
    obtain ⟨T, HT⟩ : ∃ T, Hid (T = rightB m) := ⟨_, rfl⟩
    rw [← HT.out]
    go_enter Try.func50, Try.ntmps50
    go_wp2_with fail
    refine (number_s m w (by omega) rfl).mono ?_
    rintro e w1 ⟨v1, rfl, ho, hb⟩
    have H := ((St.start_lay w []).pushOwnB 0 rfl ho hb).push_mk rfl
    unfold rightB at HT
    have hle := numB_le (n := m) (by omega)
    generalize numB m = nb at ho H hle HT
    obtain ⟨A, k, c, rfl, hk, hd⟩ := ho.shape
    replace H := H.shape_row 0 rfl (n' := k) hk.out.symm rfl
    have hkl : k ≤ 8 := by rw [hk.out]; exact hle
    have hbk := u8_wrap k
    obtain ⟨y, HY⟩ : ∃ y, Hid (UInt8.ofNat (k % 256) = y) := ⟨_, rfl⟩
    rw [HY.out] at hbk
    have hr0 := H.row 0 rfl
    clear ho hb hle hd
    go_wp2_with (at_builtin; refine hold_here ?_)
    refine Held.go ?_
    refine wpList_append_any _ rfl (.tmp 9) (.tmp 13) _ rfl 0 5 i0 (.int .u8 0) 1 1 Try.underlying22 hi0 hz0 hz1 hz2 rfl (by omega) (.slice A k c) k (nb.map vb) rfl (hr0.alloc _) (some ⟨w1.heap.size, 0, none⟩) 1 1 [vb y] rfl (rd_new0 w1 [vb y] _ 1 rfl) (by simp [Value.oneCell']) (by simp only [maxLen]; omega) (by omega) (by omega) ?_
    intro v3 w3 hown3 hg3 hat3
    have H3 := (((H.alloc 1 rfl #[vb y] 5).push_mk rfl).grow 0 rfl hown3 hg3 hat3).upd_mk (by simp)
    clear hbk
    go_wp2
    go_ret2
    refine ⟨_, rfl, own_enc ?_ (H3.ownRow 0 rfl) (by rw [HT.out]; have := hk.out; simp; omega), H3.below⟩
    rw [HT.out]
    have h1 : UInt8.ofNat nb.length = y := by rw [← HY.out, ← hk.out, Nat.mod_eq_of_lt (by omega)]
    rw [h1]
    simp

set_option maxRecDepth 100000 in
set_option maxHeartbeats 1000000 in
theorem refRight_s (n : Int) (w : World) (hn : n ≤ 9223372036854775807) :
    Calls Try.prog 67 #[.int .i64 n] w fun e w' => ∃ v, e = .returned (.tuple #[v, .int .i64 (errI n)]) ∧ OwnB w' w.heap.size v (rightI n) ∧ Below w.heap.size w w' := by
  obtain ⟨i0, hi0, hz0, hz1, hz2⟩ := info_parts u8_info
  unfold errI rightI
  by_cases h : n < 0
  · rw [if_pos h, if_pos h]
    go_enter Try.func67, Try.ntmps67
    go_wp2
    go_ret2
    exact ⟨_, rfl, World.ownsRow_nil _ _ _ _, Below.refl _ _⟩
  · rw [if_neg h, if_neg h]
    obtain ⟨m, rfl⟩ := Int.eq_ofNat_of_zero_le (by omega : 0 ≤ n)
    rw [Int.toNat_natCast]
    obtain ⟨T, HT⟩ : ∃ T, Hid (T = rightB m) := ⟨_, rfl⟩
    rw [← HT.out]
    go_enter Try.func67, Try.ntmps67
    go_wp2_with fail
    refine (refNumber_s m w (by omega) rfl).mono ?_
    rintro e w1 ⟨v1, rfl, ho, hb⟩
    have H := ((St.start_lay w []).pushOwnB 0 rfl ho hb).push_mk rfl
    unfold rightB at HT
    have hle := numB_le (n := m) (by omega)
    generalize numB m = nb at ho H hle HT
    obtain ⟨A, k, c, rfl, hk, hd⟩ := ho.shape
    replace H := H.shape_row 0 rfl (n' := k) hk.out.symm rfl
    have hkl : k ≤ 8 := by rw [hk.out]; exact hle
    have hbk := u8_wrap k
    obtain ⟨y, HY⟩ : ∃ y, Hid (UInt8.ofNat (k % 256) = y) := ⟨_, rfl⟩
    rw [HY.out] at hbk
    have hr0 := H.row 0 rfl
    clear ho hb hle hd
    go_wp2_with (at_builtin; refine hold_here ?_)
    refine Held.go ?_
    refine wpList_append_any _ rfl (.tmp 9) (.tmp 13) _ rfl 0 5 i0 (.int .u8 0) 1 1 Try.underlying22 hi0 hz0 hz1 hz2 rfl (by omega) (.slice A k c) k (nb.map vb) rfl (hr0.alloc _) (some ⟨w1.heap.size, 0, none⟩) 1 1 [vb y] rfl (rd_new0 w1 [vb y] _ 1 rfl) (by simp [Value.oneCell']) (by simp only [maxLen]; omega) (by omega) (by omega) ?_
    intro v3 w3 hown3 hg3 hat3
    have H3 := (((H.alloc 1 rfl #[vb y] 5).push_mk rfl).grow 0 rfl hown3 hg3 hat3).upd_mk (by simp)
    clear hbk
    go_wp2
    go_ret2
    refine ⟨_, rfl, own_enc ?_ (H3.ownRow 0 rfl) (by rw [HT.out]; have := hk.out; simp; omega), H3.below⟩
    rw [HT.out]
    have h1 : UInt8.ofNat nb.length = y := by rw [← HY.out, ← hk.out, Nat.mod_eq_of_lt (by omega)]
    rw [h1]
    simp

set_option maxRecDepth 100000 in
set_option maxHeartbeats 1000000 in
theorem string_s (A : Option Addr) (n c : Nat) (l : List UInt8) (w : World) (hd : Rd w 1 A n (l.map vb)) (hn : n ≤ 140737488351232) :
    Calls Try.prog 45 #[.slice A n c] w fun e w' => ∃ v, e = .returned v ∧ OwnB w' w.heap.size v (strB l) ∧ Below w.heap.size w w' := by
  obtain ⟨i0, hi0, hz0, hz1, hz2⟩ := info_parts u8_info
  have hl : l.length = n := by simpa using hd.1
  have HL := Lib.hid hl
  clear hl
  have hw8 : IntKind.i64.wrap (8 * (n : Int)) = ((8 * n : Nat) : Int) := by rw [IntWalk.i64_in _ (by omega)]; omega
  have hw8' : wrap64 (8 * (n : Int)) = ((8 * n : Nat) : Int) := by rw [IntWalk.wrap64_in _ (by omega)]; omega
  obtain ⟨N, HN⟩ : ∃ N, Hid (8 * n = N) := ⟨_, rfl⟩
  rw [HN.out] at hw8 hw8'
  have hNb : N ≤ 1125899906809856 := by have := HN.out; omega
  go_enter Try.func45, Try.ntmps45
  go_wp2_with fail
  refine (left_s (N : Int) w (by omega)).mono ?_
  rintro e w1 ⟨v1, rfl, ho, hb⟩
  have hpos : ¬ ((N : Int) < 0) := by omega
  unfold leftI at ho
  rw [if_neg hpos, Int.toNat_natCast] at ho
  have hle := numB_le (n := N) (by omega)
  have HT : Hid (strB l = leftB N ++ l) := by unfold Hid strB; rw [HL.out, HN.out]
  have hlt : (leftB N).length ≤ 9 := by unfold leftB; simp; omega
  have H := ((St.start_lay w []).pushOwnB 0 rfl ho hb).push_mk rfl
  generalize leftB N = nb at ho H hlt HT
  obtain ⟨B, k, d, rfl, hk, -⟩ := ho.shape
  replace H := H.shape_row 0 rfl (n' := k) hk.out.symm rfl
  have hkl : k ≤ 9 := by rw [hk.out]; exact hlt
  have hr0 := H.row 0 rfl
  have hdd := H.arg0 hd
  clear ho hb hle hlt hw8 hw8' hpos
  go_wp2_with (at_builtin; refine hold_here ?_)
  refine Held.go ?_
  refine wpList_append_any _ rfl (.tmp 12) (.tmp 13) _ rfl 0 5 i0 (.int .u8 0) 1 1 Try.underlying22 hi0 hz0 hz1 hz2 rfl (by omega) (.slice B k d) k (nb.map vb) rfl hr0 A n c (l.map vb) rfl hdd (vb_one _) (by simp only [maxLen]; omega) (by omega) (by omega) ?_
  intro v3 w3 hown3 hg3 hat3
  have H3 := (H.grow 0 rfl hown3 hg3 hat3).upd_mk (by simp)
  go_wp2
  go_ret
  refine ⟨_, rfl, own_enc ?_ (H3.ownRow 0 rfl) (by rw [HT.out, List.length_append, HL.out, hk.out]), H3.below⟩
  rw [HT.out]
  simp

set_option maxRecDepth 100000 in
set_option maxHeartbeats 1000000 in
theorem refString_s (A : Option Addr) (n c : Nat) (l : List UInt8) (w : World) (hd : Rd w 1 A n (l.map vb)) (hn : n ≤ 140737488351232) :
    Calls Try.prog 62 #[.slice A n c] w fun e w' => ∃ v, e = .returned v ∧ OwnB w' w.heap.size v (strB l) ∧ Below w.heap.size w w' := by
  obtain ⟨i0, hi0, hz0, hz1, hz2⟩ := info_parts u8_info
  have hl : l.length = n := by simpa using hd.1
  have HL := Lib.hid hl
  clear hl
  have hw8 : IntKind.i64.wrap (8 * (n : Int)) = ((8 * n : Nat) : Int) := by rw [IntWalk.i64_in _ (by omega)]; omega
  have hw8' : wrap64 (8 * (n : Int)) = ((8 * n : Nat) : Int) := by rw [IntWalk.wrap64_in _ (by omega)]; omega
  obtain ⟨N, HN⟩ : ∃ N, Hid (8 * n = N) := ⟨_, rfl⟩
  rw [HN.out] at hw8 hw8'
  have hNb : N ≤ 1125899906809856 := by have := HN.out; omega
  go_enter Try.func62, Try.ntmps62
  go_wp2_with fail
  refine (refLeft_s (N : Int) w (by omega)).mono ?_
  rintro e w1 ⟨v1, rfl, ho, hb⟩
  have hpos : ¬ ((N : Int) < 0) := by omega
  unfold leftI at ho
  rw [if_neg hpos, Int.toNat_natCast] at ho
  have hle := numB_le (n := N) (by omega)
  have HT : Hid (strB l = leftB N ++ l) := by unfold Hid strB; rw [HL.out, HN.out]
  have hlt : (leftB N).length ≤ 9 := by unfold leftB; simp; omega
  have H := ((St.start_lay w []).pushOwnB 0 rfl ho hb).push_mk rfl
  generalize leftB N = nb at ho H hlt HT
  obtain ⟨B, k, d, rfl, hk, -⟩ := ho.shape
  replace H := H.shape_row 0 rfl (n' := k) hk.out.symm rfl
  have hkl : k ≤ 9 := by rw [hk.out]; exact hlt
  have hr0 := H.row 0 rfl
  have hdd := H.arg0 hd
  clear ho hb hle hlt hw8 hw8' hpos
  go_wp2_with (at_builtin; refine hold_here ?_)
  refine Held.go ?_
  refine wpList_append_any _ rfl (.tmp 12) (.tmp 13) _ rfl 0 5 i0 (.int .u8 0) 1 1 Try.underlying22 hi0 hz0 hz1 hz2 rfl (by omega) (.slice B k d) k (nb.map vb) rfl hr0 A n c (l.map vb) rfl hdd (vb_one _) (by simp only [maxLen]; omega) (by omega) (by omega) ?_
  intro v3 w3 hown3 hg3 hat3
  have H3 := (H.grow 0 rfl hown3 hg3 hat3).upd_mk (by simp)
  go_wp2
  go_ret
  refine ⟨_, rfl, own_enc ?_ (H3.ownRow 0 rfl) (by rw [HT.out, List.length_append, HL.out, hk.out]), H3.below⟩
  rw [HT.out]
  simp
end Go.Proofs.Ythoopaknldkclaa

namespace Go.Proofs.Ythoopaknldkclaa
open Go.RowKit
set_option linter.unusedVariables false

theorem leftB_le {n : Nat} (h : n ≤ 9223372036854775807) : (leftB n).length ≤ 9 := by unfold leftB; have := numB_le h; simp; omega
theorem tmodN (a b : Nat) : Int.tmod (a : Int) (b : Int) = ((a % b : Nat) : Int) := by
  rw [Int.tmod_eq_emod_of_nonneg (by omega)]
  exact (Int.natCast_emod a b).symm

theorem bne_nat {R : Nat} (h : ¬ R = 0) : ((R : Int) != 0) = true := by simp only [bne_iff_ne, ne_eq]; omega
def lenLeft (M Z : Nat) : Value → Nat
  | .slice _ n _ => M + Z - n
  | _ => 0
theorem pad_key (M q j : Nat) (hq : 1 ≤ q) (hj : j ≤ (q - M % q) % q) : ((M + j) % q = 0 → j = (q - M % q) % q) ∧ (j = (q - M % q) % q → (M + j) % q = 0) := by
  have hr : M % q < q := Nat.mod_lt _ (by omega)
  have e : (M + j) % q = (M % q + j) % q := by rw [Nat.mod_add_mod]
  rw [e]
  generalize M % q = r at *
  by_cases h0 : r = 0
  · subst h0
    rw [Nat.sub_zero, Nat.mod_self] at hj ⊢
    obtain rfl : j = 0 := by omega
    simp
  · have h1 : (q - r) % q = q - r := Nat.mod_eq_of_lt (by omega)
    rw [h1] at hj ⊢
    constructor
    · intro h
      by_cases h2 : r + j < q
      · rw [Nat.mod_eq_of_lt h2] at h; omega
      · omega
    · rintro rfl
      rw [show r + (q - r) = q by omega, Nat.mod_self]

set_option maxRecDepth 100000 in
set_option maxHeartbeats 1000000 in
theorem pad_s (A : Option Addr) (n c : Nat) (l : List UInt8) (W : Int) (w : World) (hd : Rd w 1 A n (l.map vb)) (hn : n ≤ 140737488351232) :
    Calls Try.prog 44 #[.slice A n c, .int .i64 W] w fun e w' => ∃ v, e = .returned (.tuple #[v, .int .i64 (padE W)]) ∧ OwnB w' w.heap.size v (padI l W) ∧ Below w.heap.size w w' := by
  obtain ⟨i0, hi0, hz0, hz1, hz2⟩ := info_parts u8_info
  unfold padE padI
  by_cases h : padOk W
  · rw [if_pos h, if_pos h]
    obtain ⟨h1, h2⟩ := h
    obtain ⟨q, rfl⟩ := Int.eq_ofNat_of_zero_le (by omega : 0 ≤ W)
    rw [Int.toNat_natCast]
    have c1 : ¬ ((q : Int) < 1) := by omega
    have c2 : ¬ ((256 : Int) < q) := by omega
    have hl : l.length = n := by simpa using hd.1
    obtain ⟨T, HT⟩ : ∃ T, Hid (T = padB l q) := ⟨_, rfl⟩
    rw [← HT.out]
    have HL := Lib.hid hl
    clear hl
    go_enter Try.func44, Try.ntmps44
    go_wp2_with fail
    refine (left_s (q : Int) w (by omega)).mono ?_
    rintro e w1 ⟨v1, rfl, ho, hb⟩
    have hpos : ¬ ((q : Int) < 0) := by omega
    unfold leftI at ho
    rw [if_neg hpos, Int.toNat_natCast] at ho
    have hle := leftB_le (n := q) (by omega)
    have H := ((St.start_lay w []).pushOwnB 0 rfl ho hb).push_mk rfl
    unfold padB padN at HT
    generalize leftB q = nb at ho H hle HT
    obtain ⟨B, k, d, rfl, hk, -⟩ := ho.shape
    replace H := H.shape_row 0 rfl (n' := k) hk.out.symm rfl
    have hkl : k ≤ 9 := by rw [hk.out]; exact hle
    have hr0 := H.row 0 rfl
    have hdd := H.arg0 hd
    clear ho hb hle hpos
    go_wp2_with (at_builtin; refine hold_here ?_)
    refine Held.go ?_
    refine wpList_append_any _ rfl (.tmp 19) (.tmp 20) _ rfl 0 5 i0 (.int .u8 0) 1 1 Try.underlying22 hi0 hz0 hz1 hz2 rfl (by omega) (.slice B k d) k (nb.map vb) rfl hr0 A n c (l.map vb) rfl hdd (vb_one _) (by simp only [maxLen]; omega) (by omega) (by omega) ?_
    intro v3 w3 hown3 hg3 hat3
    replace H := (H.grow 0 rfl hown3 hg3 hat3).upd_mk (by simp)
    obtain ⟨M, HM⟩ : ∃ M, Hid (k + n = M) := ⟨_, rfl⟩
    have HLN : Hid ((nb ++ l).length = M) := by unfold Hid; rw [List.length_append, HL.out, ← hk.out, HM.out]
    replace H := H.shape_row 0 rfl (n' := M) (xs' := (nb ++ l).map vb) HM.out (by simp)
    replace H : St w [] w3 (lay [.row 5 1 v3 M ((nb ++ l).map vb)]) := H
    generalize nb ++ l = xs at H HT HLN
    obtain ⟨B3, d3, rfl, -⟩ := row_form (H.row 0 rfl)
    clear hr0 hdd hown3 hg3 hat3 hk
    obtain ⟨R, HR⟩ : ∃ R, Hid (M % q = R) := ⟨_, rfl⟩
    obtain ⟨S, HS⟩ : ∃ S, Hid (q - R = S) := ⟨_, rfl⟩
    obtain ⟨Z, HZ⟩ : ∃ Z, Hid (S % q = Z) := ⟨_, rfl⟩
    have hRq : R < q := by rw [← HR.out]; exact Nat.mod_lt _ (by omega)
    have hZq : Z < q := by rw [← HZ.out]; exact Nat.mod_lt _ (by omega)
    have hSq : (q : Int) - R = S := by have := HS.out; omega
    have hSl : S ≤ 256 := by have := HS.out; omega
    have hMl : M ≤ 140737488351300 := by have := HM.out; omega
    have t4 : ¬ (q : Int) = 0 := by omega
    have t5 : wrap64 (R : Int) = R := IntWalk.wrap64_in _ (by omega)
    have t6 : wrap64 (Z : Int) = Z := IntWalk.wrap64_in _ (by omega)
    have t1 : Int.tmod (M : Int) (q : Int) = (R : Int) := by rw [tmodN, HR.out]
    have t2 : wrap64 ((q : Int) - R) = (S : Int) := by rw [hSq, IntWalk.wrap64_in _ (by omega)]
    have t2' : IntKind.i64.wrap ((q : Int) - R) = (S : Int) := by rw [hSq, IntWalk.i64_in _ (by omega)]
    have t3 : Int.tmod (S : Int) (q : Int) = (Z : Int) := by rw [tmodN, HZ.out]
    have hq3 : q ≤ 256 := by omega
    clear hSq hSl hkl hRq c1 c2 h1 h2
    go_wp2_with (at_builtin; refine hold_here ?_)
    refine Held.go ?_
    clear t1 t2 t2' t3 t4 t5 t6
    obtain ⟨v4, w4, hr4, ho4, hg4, ha4⟩ := run_append_zeros (P := Try.prog) w3 0 22 3 22 5 i0 (.int .u8 0) .i64 Try.underlying22 Try.underlying3 hi0 hz0 hz1 hz2 rfl rfl (.slice B3 M d3) M (xs.map vb) (H.row 0 rfl) Z (by omega) (Nat.zero_le _)
    refine Go.Lib.wpList_append_run w3 rfl (.tmp 22) (.tmp 30) 22 3 rfl (.slice B3 M d3) (.int .i64 (Z : Int)) rfl rfl v4 w4 hr4 ?_
    replace H := (H.grow 0 rfl ho4 hg4 ha4).upd_mk (by simp)
    clear hr4 ho4 hg4 ha4
    go_wp2
    go_ret2
    have e : (q - xs.length % q) % q = Z := by rw [HLN.out, HR.out, HS.out, HZ.out]
    refine ⟨_, rfl, own_enc ?_ (H.ownRow 0 rfl) (by rw [HT.out, e, List.length_append, HLN.out]; simp), H.below⟩
    rw [HT.out, e, List.map_append, List.map_replicate]
    rfl
  · rw [if_neg h, if_neg h]
    by_cases h1 : W < 1
    · clear h
      go_enter Try.func44, Try.ntmps44
      go_wp2
      go_ret2
      exact ⟨_, rfl, World.ownsRow_nil _ _ _ _, Below.refl _ _⟩
    · have h2 : (256 : Int) < W := by unfold padOk at h; omega
      clear h
      go_enter Try.func44, Try.ntmps44
      go_wp2
      go_ret2
      exact ⟨_, rfl, World.ownsRow_nil _ _ _ _, Below.refl _ _⟩

set_option maxRecDepth 100000 in
set_option maxHeartbeats 1000000 in
theorem refPad_s (A : Option Addr) (n c : Nat) (l : List UInt8) (W : Int) (w : World) (hd : Rd w 1 A n (l.map vb)) (hn : n ≤ 140737488351232) :
    Calls Try.prog 61 #[.slice A n c, .int .i64 W] w fun e w' => ∃ v, e = .returned (.tuple #[v, .int .i64 (padE W)]) ∧ OwnB w' w.heap.size v (padI l W) ∧ Below w.heap.size w w' := by
  obtain ⟨i0, hi0, hz0, hz1, hz2⟩ := info_parts u8_info
  unfold padE padI
  by_cases h : padOk W
  · rw [if_pos h, if_pos h]
    obtain ⟨h1, h2⟩ := h
    obtain ⟨q, rfl⟩ := Int.eq_ofNat_of_zero_le (by omega : 0 ≤ W)
    rw [Int.toNat_natCast]
    have c1 : ¬ ((q : Int) < 1) := by omega
    have c2 : ¬ ((256 : Int) < q) := by omega
    have hl : l.length = n := by simpa using hd.1
    obtain ⟨T, HT⟩ : ∃ T, Hid (T = padB l q) := ⟨_, rfl⟩
    rw [← HT.out]
    have HL := Lib.hid hl
    clear hl
    go_enter Try.func61, Try.ntmps61
    go_wp2_with fail
    refine (refLeft_s (q : Int) w (by omega)).mono ?_
    rintro e w1 ⟨v1, rfl, ho, hb⟩
    have hpos : ¬ ((q : Int) < 0) := by omega
    unfold leftI at ho
    rw [if_neg hpos, Int.toNat_natCast] at ho
    have hle := leftB_le (n := q) (by omega)
    have H := ((St.start_lay w []).pushOwnB 0 rfl ho hb).push_mk rfl
    unfold padB padN at HT
    generalize leftB q = nb at ho H hle HT
    obtain ⟨B, k, d, rfl, hk, -⟩ := ho.shape
    replace H := H.shape_row 0 rfl (n' := k) hk.out.symm rfl
    have hkl : k ≤ 9 := by rw [hk.out]; exact hle
    have hr0 := H.row 0 rfl
    have hdd := H.arg0 hd
    clear ho hb hle hpos
    go_wp2_with (at_builtin; refine hold_here ?_)
    refine Held.go ?_
    refine wpList_append_any _ rfl (.tmp 19) (.tmp 20) _ rfl 0 5 i0 (.int .u8 0) 1 1 Try.underlying22 hi0 hz0 hz1 hz2 rfl (by omega) (.slice B k d) k (nb.map vb) rfl hr0 A n c (l.map vb) rfl hdd (vb_one _) (by simp only [maxLen]; omega) (by omega) (by omega) ?_
    intro v3 w3 hown3 hg3 hat3
    replace H := (H.grow 0 rfl hown3 hg3 hat3).upd_mk (by simp)
    obtain ⟨M, HM⟩ : ∃ M, Hid (k + n = M) := ⟨_, rfl⟩
    have HLN : Hid ((nb ++ l).length = M) := by unfold Hid; rw [List.length_append, HL.out, ← hk.out, HM.out]
    replace H := H.shape_row 0 rfl (n' := M) (xs' := (nb ++ l).map vb) HM.out (by simp)
    replace H : St w [] w3 (lay [.row 5 1 v3 M ((nb ++ l).map vb)]) := H
    generalize nb ++ l = xs at H HT HLN
    obtain ⟨B3, d3, rfl, -⟩ := row_form (H.row 0 rfl)
    clear hr0 hdd hown3 hg3 hat3 hk
    have HP : Hid (T = xs ++ List.replicate ((q - M % q) % q) 0) := by unfold Hid; rw [HT.out, HLN.out]
    clear HT
    obtain ⟨Z, HZ⟩ : ∃ Z, Hid ((q - M % q) % q = Z) := ⟨_, rfl⟩
    rw [HZ.out] at HP
    have hZq : Z < 256 := by have := Nat.mod_lt (q - M % q) (show 0 < q by omega); rw [HZ.out] at this; omega
    have hMl : M ≤ 140737488351300 := by have := HM.out; omega
    have t4 : ¬ (q : Int) = 0 := by omega
    have hq1 : 1 ≤ q := by omega
    have hq3 : q ≤ 256 := by omega
    clear hkl c1 c2 h1 h2
    replace H : St w [] w3 (lay [.row 5 1 (.slice B3 M d3) M ((xs ++ List.replicate 0 0).map vb)]) := by simpa using H
    go_wp2
    go_loopw [6] (fun v wr => ∃ j M' : Nat, j ≤ Z ∧ Hid (M + j = M') ∧ St w [] wr (lay [.row 5 1 v M' ((xs ++ List.replicate j 0).map vb)])) (fun v _ => lenLeft M Z v)
    case atStart => exact ⟨0, M, Nat.zero_le _, rfl, H⟩
    case round =>
      clear H
      obtain ⟨j, M', hj, HM', H⟩ := hrel
      obtain ⟨B4, d4, rfl, -⟩ := row_form (H.row 0 rfl)
      have hMM : M' ≤ 140737488351600 := by have := HM'.out; omega
      have hRq : M' % q < q := Nat.mod_lt M' (by omega)
      have key := pad_key M q j hq1 (by rw [HZ.out]; exact hj)
      rw [HM'.out, HZ.out] at key
      obtain ⟨R, HR⟩ : ∃ R, Hid (M' % q = R) := ⟨_, rfl⟩
      rw [HR.out] at key hRq
      have t5 : wrap64 (R : Int) = (R : Int) := IntWalk.wrap64_in _ (by omega)
      have t1 := tmodN M' q
      have t2 : (M' : Int) % q = ((M' % q : Nat) : Int) := (Int.natCast_emod M' q).symm
      rw [HR.out] at t1 t2
      by_cases h0 : R = 0
      · obtain rfl : j = Z := key.1 h0
        subst h0
        clear key
        go_wp2
        go_ret2
        refine ⟨_, rfl, own_enc ?_ (H.ownRow 0 rfl) (by rw [HP.out, List.length_append, HLN.out, ← HM'.out]; simp), H.below⟩
        rw [HP.out]
      · have hjz : j < Z := Nat.lt_of_le_of_ne hj fun e => h0 (key.2 e)
        have hne : ((R : Int) != 0) = true := bne_nat h0
        have hr0 := H.row 0 rfl
        clear key
        go_wp2_with (at_builtin; refine hold_here ?_)
        refine Held.go ?_
        clear t1 t2
        refine wpList_append_any _ rfl (.tmp 27) (.tmp 28) _ rfl 0 5 i0 (.int .u8 0) 1 1 Try.underlying22 hi0 hz0 hz1 hz2 rfl (by omega) (.slice B4 M' d4) M' _ rfl (hr0.alloc _) (some ⟨wr.heap.size, 0, none⟩) 1 1 [vb 0] rfl (rd_new0 wr [vb 0] _ 1 rfl) (by simp [Value.oneCell']) (by simp only [maxLen]; omega) (by omega) (by omega) ?_
        intro v5 w5 hown5 hg5 hat5
        have H5 := ((((H.alloc 1 rfl #[vb 0] 5).push_mk rfl).grow 0 rfl hown5 hg5 hat5).upd_mk (by simp)).only 0 rfl
        obtain ⟨B5, d5, rfl, -⟩ := row_form (H5.row 0 rfl)
        clear hr0 hown5 hg5 hat5
        go_wp2
        go_roundw
        case rel =>
          refine ⟨j + 1, M' + 1, hjz, by have := HM'.out; unfold Hid; omega, ?_⟩
          rw [List.replicate_succ']
          simpa using H5
        case measure => unfold lenLeft; have := HM'.out; simp only; omega
  · rw [if_neg h, if_neg h]
    by_cases h1 : W < 1
    · clear h
      go_enter Try.func61, Try.ntmps61
      go_wp2
      go_ret2
      exact ⟨_, rfl, World.ownsRow_nil _ _ _ _, Below.refl _ _⟩
    · have h2 : (256 : Int) < W := by unfold padOk at h; omega
      clear h
      go_enter Try.func61, Try.ntmps61
      go_wp2
      go_ret2
      exact ⟨_, rfl, World.ownsRow_nil _ _ _ _, Below.refl _ _⟩
end Go.Proofs.Ythoopaknldkclaa

/- Turning words, in plain numbers. -/
namespace Go.Proofs.Ythoopaknldkclaa
/-- x turned left by n in a word of W bits. -/
def rotN (W x n : Nat) : Nat := x * 2 ^ n % 2 ^ W + x / 2 ^ (W - n)
/-- what the reference has gathered after i bits -/
def rotTo (W x n i : Nat) : Nat := if i ≤ W - n then (x % 2 ^ i) * 2 ^ n else (x % 2 ^ (W - n)) * 2 ^ n + (x / 2 ^ (W - n)) % 2 ^ (i - (W - n))

theorem mod_succ_bit (x i : Nat) : x % 2 ^ (i + 1) = x % 2 ^ i + x / 2 ^ i % 2 * 2 ^ i := by
  rw [Nat.pow_succ, Nat.mod_mul, Nat.mul_comm (2 ^ i)]

theorem rotTo_zero (W x n : Nat) : rotTo W x n 0 = 0 := by simp [rotTo, Nat.mod_one]

theorem rotTo_succ (W x n i : Nat) (hn : n < W) (hi : i < W) : rotTo W x n (i + 1) = rotTo W x n i + x / 2 ^ i % 2 * 2 ^ ((i + n) % W) := by
  unfold rotTo
  rcases Nat.lt_trichotomy i (W - n) with h | h | h
  · rw [if_pos (by omega), if_pos (by omega), mod_succ_bit, Nat.add_mul, Nat.mod_eq_of_lt (a := i + n) (by omega), Nat.pow_add, Nat.mul_assoc]
  · have e : (i + n) % W = 0 := by
      have : i + n = W := by omega
      rw [this, Nat.mod_self]
    have e1 : i + 1 - (W - n) = 1 := by omega
    rw [if_neg (by omega), if_pos (by omega), e, e1]
    subst h
    simp
  · have e : (i + n) % W = i - (W - n) := by
      rw [Nat.mod_eq_sub_mod (by omega), Nat.mod_eq_of_lt (by omega)]; omega
    have e1 : i + 1 - (W - n) = (i - (W - n)) + 1 := by omega
    rw [if_neg (by omega), if_neg (by omega), e, e1, mod_succ_bit, Nat.div_div_eq_div_mul, ← Nat.pow_add, Nat.add_assoc]
    have e2 : W - n + (i - (W - n)) = i := by omega
    rw [e2]

theorem rotTo_end (W x n : Nat) (hn : n < W) (hx : x < 2 ^ W) : rotTo W x n W = rotN W x n := by
  have h1 : x * 2 ^ n % 2 ^ W = (x % 2 ^ (W - n)) * 2 ^ n := by
    have e : 2 ^ W = 2 ^ (W - n) * 2 ^ n := by rw [← Nat.pow_add]; congr 1; omega
    rw [e, Nat.mul_mod_mul_right]
  unfold rotTo rotN
  by_cases h0 : n = 0
  · subst h0
    rw [if_pos (by omega)]
    simp [Nat.mod_eq_of_lt hx, Nat.div_eq_of_lt hx]
  · rw [if_neg (by omega), h1]
    congr 1
    have e : W - (W - n) = n := by omega
    rw [e, Nat.mod_eq_of_lt]
    have e2 : 2 ^ W = 2 ^ (W - n) * 2 ^ n := by rw [← Nat.pow_add]; congr 1; omega
    rw [Nat.div_lt_iff_lt_mul (Nat.two_pow_pos _), Nat.mul_comm, ← e2]
    exact hx

theorem rotTo_lt (W x n i : Nat) (hn : n < W) (hi : i ≤ W) : rotTo W x n i < 2 ^ W := by
  have e : 2 ^ W = 2 ^ (W - n) * 2 ^ n := by rw [← Nat.pow_add]; congr 1; omega
  unfold rotTo
  by_cases h : i ≤ W - n
  · rw [if_pos h, e]
    have h1 : x % 2 ^ i < 2 ^ i := Nat.mod_lt _ (Nat.two_pow_pos _)
    have h2 : 2 ^ i ≤ 2 ^ (W - n) := Nat.pow_le_pow_right (by omega) h
    exact Nat.mul_lt_mul_of_pos_right (by omega) (Nat.two_pow_pos _)
  · rw [if_neg h, e]
    have h1 : x % 2 ^ (W - n) < 2 ^ (W - n) := Nat.mod_lt _ (Nat.two_pow_pos _)
    have h2 : x / 2 ^ (W - n) % 2 ^ (i - (W - n)) < 2 ^ n := Nat.lt_of_lt_of_le (Nat.mod_lt _ (Nat.two_pow_pos _)) (Nat.pow_le_pow_right (by omega) (by omega))
    have h3 : (x % 2 ^ (W - n) + 1) * 2 ^ n ≤ 2 ^ (W - n) * 2 ^ n := Nat.mul_le_mul_right _ h1
    rw [Nat.add_mul, Nat.one_mul] at h3
    omega

/-- the two parts lie apart -/
theorem rotN_or (W x n : Nat) (hn : n < W) (hx : x < 2 ^ W) : (x * 2 ^ n % 2 ^ W) ||| (x / 2 ^ (W - n)) = rotN W x n := by
  have e2 : 2 ^ W = 2 ^ (W - n) * 2 ^ n := by rw [← Nat.pow_add]; congr 1; omega
  have h1 : x * 2 ^ n % 2 ^ W = 2 ^ n * (x % 2 ^ (W - n)) := by
    rw [e2, Nat.mul_mod_mul_right, Nat.mul_comm]
  have h2 : x / 2 ^ (W - n) < 2 ^ n := by
    rw [Nat.div_lt_iff_lt_mul (Nat.two_pow_pos _), Nat.mul_comm, ← e2]
    exact hx
  unfold rotN
  rw [h1, Nat.two_pow_add_eq_or_of_lt h2]
theorem rotN_lt (W x n : Nat) (hn : n < W) (hx : x < 2 ^ W) : rotN W x n < 2 ^ W := by
  rw [← rotTo_end W x n hn hx]; exact rotTo_lt W x n W hn (Nat.le_refl _)
end Go.Proofs.Ythoopaknldkclaa

namespace Go.Proofs.Ythoopaknldkclaa
/-- k rounds of a loop whose body is f -/
def iter {α : Type} (f : α → Nat → α) (a : α) : Nat → α
  | 0 => a
  | k + 1 => f (iter f a k) k
theorem iter_length {α : Type} (f : List α → Nat → List α) (a : List α) (h : ∀ l i, (f l i).length = l.length) (k : Nat) : (iter f a k).length = a.length := by
  induction k with
  | zero => rfl
  | succ k ih => show (f (iter f a k) k).length = _; rw [h, ih]
def at64 (l : List UInt64) (i : Nat) : UInt64 := l.getD i 0
def rotl (x : UInt64) (n : Nat) : UInt64 := UInt64.ofNat (rotN 64 x.toNat (n % 64))
theorem rotl_toNat (x : UInt64) (n : Nat) : (rotl x n).toNat = rotN 64 x.toNat (n % 64) := by
  unfold rotl
  rw [UInt64.toNat_ofNat', Nat.mod_eq_of_lt (rotN_lt 64 _ _ (Nat.mod_lt _ (by omega)) x.toNat_lt)]
/- the program's way -/
def kCol (s : List UInt64) (k : Nat) : List UInt64 := iter (fun c i => c.set (i % 5) (at64 c (i % 5) ^^^ at64 s i)) (List.replicate 5 0) k
def kMix (c s : List UInt64) (k : Nat) : List UInt64 := iter (fun a i => a.set i (at64 a i ^^^ (at64 c ((i + 4) % 5) ^^^ rotl (at64 c ((i + 1) % 5)) 1))) s k
def kTheta (s : List UInt64) : List UInt64 := kMix (kCol s 25) s 25
def kPlace (t : Nat) : Nat × Nat := iter (fun p _ => (p.2, (2 * p.1 + 3 * p.2) % 5)) (1, 0) t
def kWalkTo (a : List UInt64) (k : Nat) : List UInt64 :=
  iter (fun b t => b.set ((kPlace t).2 + 5 * ((2 * (kPlace t).1 + 3 * (kPlace t).2) % 5)) (rotl (at64 a ((kPlace t).1 + 5 * (kPlace t).2)) ((t + 1) * (t + 2) / 2))) ((List.replicate 25 0).set 0 (at64 a 0)) k
def kWalk (a : List UInt64) : List UInt64 := kWalkTo a 24
def kChiTo (b s : List UInt64) (k : Nat) : List UInt64 := iter (fun s i => s.set i (at64 b i ^^^ (~~~(at64 b (i - i % 5 + (i + 1) % 5)) &&& at64 b (i - i % 5 + (i + 2) % 5)))) s k
def kRound (s : List UInt64) (c : UInt64) : List UInt64 :=
  (kChiTo (kWalk (kTheta s)) (kTheta s) 25).set 0 (at64 (kChiTo (kWalk (kTheta s)) (kTheta s) 25) 0 ^^^ c)
/- the constants -/
def lfsr (r : UInt8) : UInt8 := UInt8.xor (r <<< 1) (UInt8.land 0x71 (UInt8.sub 0 (r >>> 7)))
def kConJ (i : Nat) (st : List UInt64 × UInt8) (k : Nat) : List UInt64 × UInt8 :=
  iter (fun st j => (st.1.set i (at64 st.1 i ||| ((st.2 &&& 1).toUInt64 <<< UInt64.ofNat (2 ^ j - 1))), lfsr st.2)) st k
def kConI (k : Nat) : List UInt64 × UInt8 := iter (fun st i => kConJ i st 7) (List.replicate 24 0, 1) k
def kConsts : List UInt64 := [0x1, 0x8082, 0x800000000000808A, 0x8000000080008000, 0x808B, 0x80000001, 0x8000000080008081, 0x8000000000008009, 0x8A, 0x88, 0x80008009, 0x8000000A, 0x8000808B, 0x800000000000008B, 0x8000000000008089, 0x8000000000008003, 0x8000000000008002, 0x8000000000000080, 0x800A, 0x800000008000000A, 0x8000000080008081, 0x8000000000008080, 0x80000001, 0x8000000080008008]
theorem kConJ_length (i : Nat) (st : List UInt64 × UInt8) (k : Nat) : (kConJ i st k).1.length = st.1.length := by
  induction k with
  | zero => rfl
  | succ k ih => show ((kConJ i st k).1.set i _).length = _; rw [List.length_set, ih]
theorem kConI_length (k : Nat) : (kConI k).1.length = 24 := by
  induction k with
  | zero => rfl
  | succ k ih => show (kConJ k (kConI k) 7).1.length = _; rw [kConJ_length, ih]
theorem kConI_24 : (kConI 24).1 = kConsts := by decide +kernel
def kPermTo (s : List UInt64) (k : Nat) : List UInt64 := iter (fun s i => kRound s (at64 kConsts i)) s k
def kPerm (s : List UInt64) : List UInt64 := kPermTo s 24
/- the document's way -/
def rLane (x y : Nat) : Nat := x % 5 + 5 * (y % 5)
def rColY (a : List UInt64) (x : Nat) (p : List UInt64) (k : Nat) : List UInt64 := iter (fun p y => p.set x (at64 p x ^^^ at64 a (rLane x y))) p k
def rCol (a : List UInt64) (k : Nat) : List UInt64 := iter (fun p x => rColY a x p 5) (List.replicate 5 0) k
def rMixY (d : UInt64) (x : Nat) (a : List UInt64) (k : Nat) : List UInt64 := iter (fun a y => a.set (rLane x y) (at64 a (rLane x y) ^^^ d)) a k
def rMix (p a : List UInt64) (k : Nat) : List UInt64 := iter (fun a x => rMixY (at64 p ((x + 4) % 5) ^^^ rotl (at64 p ((x + 1) % 5)) 1) x a 5) a k
def rWalk (a : List UInt64) (k : Nat) : List UInt64 :=
  iter (fun b t => b.set (rLane (kPlace t).2 (2 * (kPlace t).1 + 3 * (kPlace t).2)) (rotl (at64 a (rLane (kPlace t).1 (kPlace t).2)) ((t + 1) * (t + 2) / 2))) ((List.replicate 25 0).set 0 (at64 a 0)) k
def rChiY (b : List UInt64) (x : Nat) (a : List UInt64) (k : Nat) : List UInt64 := iter (fun a y => a.set (rLane x y) (at64 b (rLane x y) ^^^ (~~~(at64 b (rLane (x + 1) y)) &&& at64 b (rLane (x + 2) y)))) a k
def rChi (b a : List UInt64) (k : Nat) : List UInt64 := iter (fun a x => rChiY b x a 5) a k
def rRound (a : List UInt64) (c : UInt64) : List UInt64 :=
  (rChi (rWalk (rMix (rCol a 5) a 5) 24) (rMix (rCol a 5) a 5) 5).set 0 (at64 (rChi (rWalk (rMix (rCol a 5) a 5) 24) (rMix (rCol a 5) a 5) 5) 0 ^^^ c)

theorem mix_one (s0 s1 s2 s3 s4 s5 s6 s7 s8 s9 s10 s11 s12 s13 s14 s15 s16 s17 s18 s19 s20 s21 s22 s23 s24 : UInt64) :
    rMix (rCol [s0, s1, s2, s3, s4, s5, s6, s7, s8, s9, s10, s11, s12, s13, s14, s15, s16, s17, s18, s19, s20, s21, s22, s23, s24] 5) [s0, s1, s2, s3, s4, s5, s6, s7, s8, s9, s10, s11, s12, s13, s14, s15, s16, s17, s18, s19, s20, s21, s22, s23, s24] 5 =
    kTheta [s0, s1, s2, s3, s4, s5, s6, s7, s8, s9, s10, s11, s12, s13, s14, s15, s16, s17, s18, s19, s20, s21, s22, s23, s24] := by kernel_rfl
theorem walk_one (s0 s1 s2 s3 s4 s5 s6 s7 s8 s9 s10 s11 s12 s13 s14 s15 s16 s17 s18 s19 s20 s21 s22 s23 s24 : UInt64) :
    rWalk [s0, s1, s2, s3, s4, s5, s6, s7, s8, s9, s10, s11, s12, s13, s14, s15, s16, s17, s18, s19, s20, s21, s22, s23, s24] 24 =
    kWalk [s0, s1, s2, s3, s4, s5, s6, s7, s8, s9, s10, s11, s12, s13, s14, s15, s16, s17, s18, s19, s20, s21, s22, s23, s24] := by kernel_rfl
theorem chi_one (b0 b1 b2 b3 b4 b5 b6 b7 b8 b9 b10 b11 b12 b13 b14 b15 b16 b17 b18 b19 b20 b21 b22 b23 b24 s0 s1 s2 s3 s4 s5 s6 s7 s8 s9 s10 s11 s12 s13 s14 s15 s16 s17 s18 s19 s20 s21 s22 s23 s24 : UInt64) :
    rChi [b0, b1, b2, b3, b4, b5, b6, b7, b8, b9, b10, b11, b12, b13, b14, b15, b16, b17, b18, b19, b20, b21, b22, b23, b24] [s0, s1, s2, s3, s4, s5, s6, s7, s8, s9, s10, s11, s12, s13, s14, s15, s16, s17, s18, s19, s20, s21, s22, s23, s24] 5 =
    kChiTo [b0, b1, b2, b3, b4, b5, b6, b7, b8, b9, b10, b11, b12, b13, b14, b15, b16, b17, b18, b19, b20, b21, b22, b23, b24] [s0, s1, s2, s3, s4, s5, s6, s7, s8, s9, s10, s11, s12, s13, s14, s15, s16, s17, s18, s19, s20, s21, s22, s23, s24] 25 := by kernel_rfl
theorem list25 (s : List UInt64) (h : s.length = 25) : ∃ s0 s1 s2 s3 s4 s5 s6 s7 s8 s9 s10 s11 s12 s13 s14 s15 s16 s17 s18 s19 s20 s21 s22 s23 s24 : UInt64,
    s = [s0, s1, s2, s3, s4, s5, s6, s7, s8, s9, s10, s11, s12, s13, s14, s15, s16, s17, s18, s19, s20, s21, s22, s23, s24] := by
  match s, h with
  | [s0, s1, s2, s3, s4, s5, s6, s7, s8, s9, s10, s11, s12, s13, s14, s15, s16, s17, s18, s19, s20, s21, s22, s23, s24], _ => exact ⟨_, _, _, _, _, _, _, _, _, _, _, _, _, _, _, _, _, _, _, _, _, _, _, _, _, rfl⟩
theorem kTheta_length (s : List UInt64) : (kTheta s).length = s.length := iter_length _ _ (fun l i => by simp) _
theorem kWalkTo_length (s : List UInt64) (k : Nat) : (kWalkTo s k).length = 25 := by unfold kWalkTo; rw [iter_length _ _ (fun l i => by simp)]; simp
theorem kWalk_length (s : List UInt64) : (kWalk s).length = 25 := kWalkTo_length s 24
theorem kChiTo_length (b s : List UInt64) (k : Nat) : (kChiTo b s k).length = s.length := iter_length _ _ (fun l i => by simp) _
theorem kCol_length (s : List UInt64) (k : Nat) : (kCol s k).length = 5 := by unfold kCol; rw [iter_length _ _ (fun l i => by simp)]; simp
theorem kMix_length (c s : List UInt64) (k : Nat) : (kMix c s k).length = s.length := iter_length _ _ (fun l i => by simp) _
theorem kRound_length (s : List UInt64) (c : UInt64) : (kRound s c).length = s.length := by unfold kRound; rw [List.length_set, kChiTo_length, kTheta_length]
theorem kPermTo_length (s : List UInt64) (k : Nat) : (kPermTo s k).length = s.length := iter_length _ _ (fun l _ => kRound_length l _) _
theorem rMix_eq (s : List UInt64) (h : s.length = 25) : rMix (rCol s 5) s 5 = kTheta s := by
  obtain ⟨s0, s1, s2, s3, s4, s5, s6, s7, s8, s9, s10, s11, s12, s13, s14, s15, s16, s17, s18, s19, s20, s21, s22, s23, s24, rfl⟩ := list25 s h
  exact mix_one ..
theorem rWalk_eq (s : List UInt64) (h : s.length = 25) : rWalk s 24 = kWalk s := by
  obtain ⟨s0, s1, s2, s3, s4, s5, s6, s7, s8, s9, s10, s11, s12, s13, s14, s15, s16, s17, s18, s19, s20, s21, s22, s23, s24, rfl⟩ := list25 s h
  exact walk_one ..
theorem rChi_eq (b s : List UInt64) (hb : b.length = 25) (h : s.length = 25) : rChi b s 5 = kChiTo b s 25 := by
  obtain ⟨s0, s1, s2, s3, s4, s5, s6, s7, s8, s9, s10, s11, s12, s13, s14, s15, s16, s17, s18, s19, s20, s21, s22, s23, s24, rfl⟩ := list25 s h
  obtain ⟨b0, b1, b2, b3, b4, b5, b6, b7, b8, b9, b10, b11, b12, b13, b14, b15, b16, b17, b18, b19, b20, b21, b22, b23, b24, rfl⟩ := list25 b hb
  exact chi_one ..
theorem rRound_eq (s : List UInt64) (c : UInt64) (h : s.length = 25) : rRound s c = kRound s c := by
  unfold rRound kRound
  rw [rMix_eq s h, rWalk_eq _ (by rw [kTheta_length]; exact h), rChi_eq _ _ (kWalk_length _) (by rw [kTheta_length]; exact h)]
theorem perm_known : at64 (kPerm (List.replicate 25 0)) 0 = 0xf1258f7940e1dde7 := by decide +kernel
end Go.Proofs.Ythoopaknldkclaa

namespace Go.Proofs.Ythoopaknldkclaa
open Go.RowKit
set_option linter.unusedVariables false

theorem ret_int {k : IntKind} {a b : Int} (h : a = b) : Ending.returned (.int k a) = .returned (.int k b) := by rw [h]
theorem rot_bits_32 (x m : Nat) (hm : m < 32) (hx : x < 2 ^ 32) : bits .or .u32 ((x : Int) * 2 ^ m % 4294967296) ((x : Int) / 2 ^ (32 - m)) = ((rotN 32 x m : Nat) : Int) := by
  have e1 : (x : Int) * 2 ^ m % 4294967296 = ((x * 2 ^ m % 2 ^ 32 : Nat) : Int) := by
    rw [Int.natCast_emod, Int.natCast_mul, Int.natCast_pow, show ((2 ^ 32 : Nat) : Int) = 4294967296 from rfl]; rfl
  have e2 : (x : Int) / 2 ^ (32 - m) = ((x / 2 ^ (32 - m) : Nat) : Int) := by
    rw [Int.natCast_ediv, Int.natCast_pow]; rfl
  rw [e1, e2, u32_or_nat _ _ (Nat.mod_lt _ (by decide)) (Nat.lt_of_le_of_lt (Nat.div_le_self _ _) (by omega)), rotN_or 32 x m hm hx]
theorem rot_bits_64 (x m : Nat) (hm : m < 64) (hx : x < 2 ^ 64) : bits .or .u64 ((x : Int) * 2 ^ m % 18446744073709551616) ((x : Int) / 2 ^ (64 - m)) = ((rotN 64 x m : Nat) : Int) := by
  have e1 : (x : Int) * 2 ^ m % 18446744073709551616 = ((x * 2 ^ m % 2 ^ 64 : Nat) : Int) := by
    rw [Int.natCast_emod, Int.natCast_mul, Int.natCast_pow, show ((2 ^ 64 : Nat) : Int) = 18446744073709551616 from rfl]; rfl
  have e2 : (x : Int) / 2 ^ (64 - m) = ((x / 2 ^ (64 - m) : Nat) : Int) := by
    rw [Int.natCast_ediv, Int.natCast_pow]; rfl
  rw [e1, e2, u64_or_nat _ _ (Nat.mod_lt _ (by decide)) (Nat.lt_of_le_of_lt (Nat.div_le_self _ _) (by omega)), rotN_or 64 x m hm hx]
theorem tmod_lo (W : Int) (hW : W = 32 ∨ W = 64) (n : Int) (h : n.tmod W < 0) : wrap64 (n.tmod W + W) = ((n % W).toNat : Int) := by
  have e := Int.tmod_eq_emod (a := n) (b := W)
  unfold wrap64
  rcases hW with rfl | rfl
  · rw [show Int.natAbs 32 = 32 from rfl] at e; split at e <;> omega
  · rw [show Int.natAbs 64 = 64 from rfl] at e; split at e <;> omega
theorem tmod_hi (W : Int) (hW : W = 32 ∨ W = 64) (n : Int) (h : ¬ n.tmod W < 0) : n.tmod W = ((n % W).toNat : Int) := by
  have e := Int.tmod_eq_emod (a := n) (b := W)
  rcases hW with rfl | rfl
  · rw [show Int.natAbs 32 = 32 from rfl] at e; split at e <;> omega
  · rw [show Int.natAbs 64 = 64 from rfl] at e; split at e <;> omega

theorem width_u64 (w : World) : Calls Try.prog 101 #[] w fun e w' => e = .returned (.int .i64 64) ∧ w = w' := by
  go_enter Try.func101, Try.ntmps101
  go_wp2
  go_ret
  exact ⟨rfl, rfl⟩

set_option maxHeartbeats 400000 in
theorem turn_u64 (x : Nat) (n : Int) (w : World) (hx : x < 2 ^ 64) :
    Calls Try.prog 102 #[.int .u64 (x : Int), .int .i64 n] w fun e w' => e = .returned (.int .u64 (rotN 64 x (n % 64).toNat : Nat)) ∧ ∃ q, w' = w.drewN q := by
  obtain ⟨m, hm⟩ : ∃ m : Nat, m = (n % 64).toNat := ⟨_, rfl⟩
  rw [← hm]
  have hmW : m < 64 := by omega
  by_cases hneg : n.tmod 64 < 0
  · have he : wrap64 (n.tmod 64 + 64) = (m : Int) := by rw [hm]; exact tmod_lo 64 (by omega) n hneg
    clear hm
    go_enter Try.func102, Try.ntmps102
    go_wp2_with (go_at_call 101; refine (width_u64 _).mono ?_; rintro e w1 ⟨rfl, rfl⟩)
    go_quiet (fail)
    go_wp2
    go_ret
    exact ⟨ret_int (rot_bits_64 x m hmW hx), nq, rfl⟩
  · have he : n.tmod 64 = (m : Int) := by rw [hm]; exact tmod_hi 64 (by omega) n hneg
    clear hm
    go_enter Try.func102, Try.ntmps102
    go_wp2_with (go_at_call 101; refine (width_u64 _).mono ?_; rintro e w1 ⟨rfl, rfl⟩)
    go_quiet (fail)
    go_wp2
    go_ret
    exact ⟨ret_int (rot_bits_64 x m hmW hx), nq, rfl⟩

end Go.Proofs.Ythoopaknldkclaa

namespace Go.Proofs.Ythoopaknldkclaa
open Go
section
variable {P : Program} {ops : Array Oper} {md : Region.Mode} {C : World → Prop}

/-- Whatever order is picked among the first n: then L. -/
def headQ (P : Program) (md : Region.Mode) (ops : Array Oper) (C : World → Prop) (n : Nat) (L : Array Bool → Act → Prop) : Nat → Array Bool → Act → Prop
  | 0, listed, a => L listed a
  | f + 1, listed, a =>
    Region.ready md ops listed ≠ [] ∧ ∀ i ∈ Region.ready md ops listed, i < n ∧ qOp P ops C i (headQ P md ops C n L f (listed.setIfInBounds i true)) a

theorem any_of_headQ {n g : Nat} {L : Array Bool → Act → Prop} {Q : Exit → Act → World → Prop} (hL : ∀ listed a w, C w → L listed a → wpAny P md ops Q g listed a w) :
    ∀ (f : Nat) (listed : Array Bool) (a : Act) (w : World), C w → headQ P md ops C n L f listed a → wpAny P md ops Q (f + g) listed a w := by
  intro f
  induction f with
  | zero => intro listed a w hw h; rw [Nat.zero_add]; exact hL _ _ _ hw h
  | succ f ih =>
    intro listed a w hw h
    rw [Nat.succ_add]
    refine ⟨fun h0 => absurd h0 h.1, fun i hi => ?_⟩
    exact wpOp_of_qOp hw (fun a' w' hw' h' => ih _ a' w' hw' h') (h.2 i hi).2

theorem headQ_first {n i : Nat} {oi : Oper} {v : Value} {L : Array Bool → Act → Prop} (hi : ops[i]? = some oi) (hsel : ∀ (j : Nat) (o : Oper) cs b, ops[j]? = some o → o.op ≠ .select cs b)
    (hs : Region.sinkB md ops n = true) (hc : Region.chainB md ops n = true) (hn : n < ops.size) (hin : i < n)
    (hdone : ∀ listed a, L listed a → ∀ j ∈ Region.ready md ops listed, n ≤ j) :
    ∀ (f : Nat) (listed : Array Bool) (a : Act), HeadInv md ops n listed →
      (∀ j oj, ops[j]? = some oj → j ≠ i → listed.getD j true = false → (∀ e ∈ oj.after, Region.binds md e = true → e.on ≠ i) → oi.apart ops oj = true) →
      i ∈ Region.ready md ops listed → YieldsIn P ops C oi v a →
      headQ P md ops C n L f (listed.setIfInBounds i true) (a.put oi.dst v) → headQ P md ops C n L (f + 1) listed a := by
  intro f
  induction f with
  | zero =>
    intro listed a inv _ hr hy H
    have hun := (mem_ready.1 hr).1
    refine ⟨fun h => (by rw [h] at hr; cases hr), fun j hj => ?_⟩
    have hjn : j < n := Nat.lt_of_not_le fun h => absurd hj (tail_waits hs hc hn inv _ i rfl hin hun j h)
    refine ⟨hjn, ?_⟩
    by_cases hji : j = i
    · subst hji; exact hy.qOp hi H
    · have := hdone _ _ H j (ready_mono hj hji)
      omega
  | succ f ih =>
    intro listed a inv hfree hr hy H
    have hun := (mem_ready.1 hr).1
    refine ⟨fun h => (by rw [h] at hr; cases hr), fun j hj => ?_⟩
    have hjn : j < n := Nat.lt_of_not_le fun h => absurd hj (tail_waits hs hc hn inv _ i rfl hin hun j h)
    refine ⟨hjn, ?_⟩
    by_cases hji : j = i
    · subst hji; exact hy.qOp hi H
    · have h1 := (H.2 j (ready_mono hj hji)).2
      obtain ⟨hjun, oj, hoj, hall⟩ := mem_ready.1 hj
      have hnot : ∀ e ∈ oj.after, Region.binds md e = true → e.on ≠ i := fun e he hb heq => by
        have h2 := hall e he hb
        rw [heq, getD_both hun] at h2
        cases h2
      have h2 := qOp_put hoj (hfree j oj hoj hji hjun hnot) (fun cs b => hsel i oi cs b hi) (fun cs b => hsel j oj cs b hoj) hy h1
      refine qOp_mono (fun a' h3 => ih (listed.setIfInBounds j true) a' (inv.set hj hjn) (fun k ok hk hki hun' hno => ?_) (ready_mono hr (Ne.symm hji)) h3.1 ?_) h2
      · refine hfree k ok hk hki ?_ hno
        by_cases hjk : j = k
        · subst hjk; exact hjun
        · rw [getD_set_ne true hjk] at hun'; exact hun'
      · rw [Array.setIfInBounds_comm _ _ hji]
        exact h3.2

theorem headQ_lex {n g : Nat} {Lq : Act → Prop} (hsel : Region.noSelect ops = true) (hs : Region.sinkB md ops n = true) (hc : Region.chainB md ops n = true) (hn : n < ops.size) :
    ∀ (l : List Oper) (k : Nat) (listed : Array Bool) (a : Act), (∀ j, j < l.length → l[j]? = ops[k + j]?) → k + l.length = n → HeadInv md ops n listed →
    Region.lexHead md ops g l.length k listed = true → wpQuiet P ops C Lq l a →
    headQ P md ops C n (fun listed' a' => Region.seqB md ops g n listed' = true ∧ Lq a') l.length listed a := by
  intro l
  induction l with
  | nil =>
    intro k listed a _ hk _ hB h
    have : k = n := by simpa using hk
    subst this
    exact ⟨by simpa [Region.lexHead] using hB, h⟩
  | cons o l ih =>
    intro k listed a hl hk inv hB h
    have h0 : ops[k]? = some o := by simpa using (hl 0 (by simp)).symm
    simp only [List.length_cons, Region.lexHead, Bool.and_eq_true] at hB
    obtain ⟨⟨hr, hf⟩, hB'⟩ := hB
    have hkn : k < n := by simp only [List.length_cons] at hk; omega
    have hr' : k ∈ Region.ready md ops listed := by simpa using hr
    have hst : qOp P ops C k (wpQuiet P ops C Lq l) a := by unfold qOp; simp only [h0]; exact h
    obtain ⟨v, hy, hK⟩ := yieldsIn_of_qOp h0 hst
    exact headQ_first h0 (Region.noSelect_spec hsel) hs hc hn hkn (fun listed' a' hL => seqB_ready hL.1) l.length listed a inv (Region.free_spec h0 hf) hr' hy
      (ih (k + 1) _ _ (fun j hj => by have := hl (j + 1) (by simp; omega); simpa [Nat.add_assoc, Nat.add_comm 1 j] using this) (by simp only [List.length_cons] at hk; omega) (inv.set hr' hkn) hB' hK)

theorem region_quiet_tail {id : Nat} {Q : Exit → Act → World → Prop} {a : Act} {w : World} {l : List Oper} (n : Nat) (hm : P.follows .mixedOrders = true) (hB : Region.lexTailB .any l.toArray n = true)
    (h : wpQuiet P l.toArray (fun w' => ∃ n, w' = w.drewN n) (fun a' => ∀ nq, wpList P l.toArray Q (l.drop n) a' (w.drewN nq)) (l.take n) a) : (Code.region id l.toArray true).wp P Q a w := by
  simp only [Region.lexTailB, Bool.and_eq_true, decide_eq_true_eq] at hB
  obtain ⟨⟨⟨⟨hsel, hn⟩, hs⟩, hc⟩, hlex⟩ := hB
  have hn' : n < l.length := by simpa using hn
  have htl : (l.take n).length = n := by simp; omega
  have hdl : (l.drop n).length = l.toArray.size - n := by simp
  have inv0 : HeadInv .any l.toArray n (Array.replicate l.toArray.size false) :=
    ⟨by simp, fun j oj _ hl => (by rw [getD_replicate_false] at hl; cases hl), fun t _ ht => getD_in (by simpa using ht) (getD_replicate_false _ _)⟩
  have H := headQ_lex (md := .any) (g := l.toArray.size - n) hsel hs hc hn (l.take n) 0 _ a (fun j hj => by
    have hj' : j < n := by rw [htl] at hj; exact hj
    simp [hj']) (by simpa using htl) inv0 (by rw [htl]; exact hlex) h
  refine wp_region_any hm ?_
  have := any_of_headQ (Q := Q) (g := l.toArray.size - n) (fun listed a' w' hw' hL => by
    obtain ⟨nq, rfl⟩ := hw'
    have := wpAny_of_seq (md := .any) (Q' := Q) (l.drop n) n listed a' (w.drewN nq) (fun j => by simp [List.getElem?_drop]) (by rw [hdl]; exact hL.1) (hL.2 nq)
    rwa [hdl] at this) _ _ _ { w with drawn := w.drawn + 1 } ⟨1, rfl⟩ H
  rw [htl, show n + (l.toArray.size - n) = l.toArray.size by omega] at this
  exact this
end
end Go.Proofs.Ythoopaknldkclaa

namespace Go.Proofs.Ythoopaknldkclaa
open Go.RowKit
set_option linter.unusedVariables false

def u64v (x : UInt64) : Value := .int .u64 (x.toNat : Int)
theorem u64_get {l : List UInt64} {k : Nat} (h : k < l.length) : (l.map u64v)[k]? = some (.int .u64 ((at64 l k).toNat : Int)) := by
  rw [List.getElem?_map, List.getElem?_eq_getElem h]; simp [u64v, h, at64]
theorem u64_set (l : List UInt64) (k : Nat) (x : UInt64) : (l.map u64v).set k (u64v x) = (l.set k x).map u64v := by simp [List.map_set]

theorem xor64 (x y : UInt64) : bits .xor .u64 (x.toNat : Int) (y.toNat : Int) = ((x ^^^ y).toNat : Int) := by
  rw [u64_xor_nat _ _ x.toNat_lt y.toNat_lt, UInt64.toNat_xor]
theorem not64 (x : UInt64) : bits .xor .u64 (if IntKind.u64.signed = true then -1 else IntKind.u64.max) (x.toNat : Int) = ((~~~x).toNat : Int) := by
  rw [show (if IntKind.u64.signed = true then -1 else IntKind.u64.max) = (((-1 : UInt64).toNat : Nat) : Int) from by decide, xor64, UInt64.neg_one_xor]
theorem and64 (x y : UInt64) : bits .and .u64 (x.toNat : Int) (y.toNat : Int) = ((x &&& y).toNat : Int) := by
  rw [u64_and_nat _ _ x.toNat_lt y.toNat_lt, UInt64.toNat_and]
theorem or64 (x y : UInt64) : bits .or .u64 (x.toNat : Int) (y.toNat : Int) = ((x ||| y).toNat : Int) := by
  rw [u64_or_nat _ _ x.toNat_lt y.toNat_lt, UInt64.toNat_or]

theorem turn_q (x : UInt64) (n : Nat) (w : World) (q : Nat) : Calls Try.prog 102 #[.int .u64 (x.toNat : Int), .int .i64 (n : Int)] (w.drewN q) fun e w' => e = .returned (.int .u64 ((rotl x n).toNat : Int)) ∧ ∃ m, w' = w.drewN m := by
  refine (turn_u64 x.toNat (n : Int) (w.drewN q) x.toNat_lt).mono ?_
  rintro e w' ⟨rfl, m, rfl⟩
  refine ⟨?_, q + m, by simp⟩
  rw [rotl_toNat, show ((n : Int) % 64).toNat = n % 64 by omega]

theorem state_size : (Try.prog.info? 123).map (·.size) = some 25 := by kernel_rfl
theorem u64_one (l : List UInt64) : ∀ v ∈ l.map u64v, v.oneCell' = true := by
  intro v hv
  obtain ⟨x, -, rfl⟩ := List.mem_map.1 hv
  rfl

theorem tri_eq (k : Nat) (h : k < 24) : wrap64 ((wrap64 (((k : Int) + 1) * ((k : Int) + 2))).tdiv 2) = (((k + 1) * (k + 2) / 2 : Nat) : Int) := by
  have H : ∀ k : Fin 24, wrap64 ((wrap64 (((k.val : Int) + 1) * ((k.val : Int) + 2))).tdiv 2) = (((k.val + 1) * (k.val + 2) / 2 : Nat) : Int) := by decide +kernel
  exact H ⟨k, h⟩

section
variable {w0 w : World} {F0 : List Nat} {E : Env}
set_option maxHeartbeats 1000000 in
theorem theta_s (g : Nat) (s : List UInt64) (H : St w0 F0 w E) (i : Nat) (hi : E i = some (.blk g 123 (s.map u64v))) (hs : s.length = 25) :
    Calls Try.prog 95 #[.pointer (some ⟨g, 0, none⟩)] w fun e w' => e = .returned (.tuple #[]) ∧ St w0 F0 w' (upd E i (.blk g 123 ((kTheta s).map u64v))) := by
  obtain ⟨F, HF, -, -, hback⟩ := H.frame1 i hi
  have HB := Lib.hid hback
  have HS := Lib.hid hs
  clear H hback hs
  go_enter Try.func95, Try.ntmps95
  go_wp2
  have H1 := (HF.as1.allocAt 1 rfl w.heap.size rfl #[.int .u64 0, .int .u64 0, .int .u64 0, .int .u64 0, .int .u64 0] 139).push_mk rfl
  clear HF
  generalize hw1 : w.alloc (.cells #[.int .u64 0, .int .u64 0, .int .u64 0, .int .u64 0, .int .u64 0] 139) = w1 at H1 ⊢
  clear hw1
  generalize w.heap.size = gc at H1 ⊢
  go_loopw [8] (fun i wr => ∃ k : Nat, k ≤ 25 ∧ i = .int .i64 k ∧ St w F wr (lay [.blk g 123 (s.map u64v), .blk gc 139 ((kCol s k).map u64v)])) (fun i _ => 25 - (intOf i).toNat)
  case atStart => exact ⟨0, by omega, rfl, H1⟩
  case round =>
    clear H1
    obtain ⟨k, hk, rfl, Hk⟩ := hrel
    by_cases hlt : k < 25
    · have a0 := Hk.cell 0 rfl (u64_get (by rw [HS.out]; exact hlt))
      have b0 := Hk.cell 1 rfl (u64_get (k := k % 5) (by rw [kCol_length]; omega))
      have bf := Hk.free 1 rfl (k % 5)
      have hk1 : (k : Int) < 25 := by omega
      go_wp2
      go_quiet (fail)
      go_wp2
      go_roundw
      case rel => exact ⟨k + 1, by omega, by go_num, by rw [xor64]; exact by have h := ((Hk.drewN nq).store 1 rfl (o := k % 5) (u := u64v (at64 (kCol s k) (k % 5) ^^^ at64 s k))).upd_mk (by simp); rw [u64_set] at h; exact h⟩
      case measure => simp [intOf]; omega
    · obtain rfl : k = 25 := by omega
      go_wp2
      go_loopw [22] (fun i wr => ∃ k : Nat, k ≤ 25 ∧ i = .int .i64 k ∧ St w F wr (lay [.blk g 123 ((kMix (kCol s 25) s k).map u64v), .blk gc 139 ((kCol s 25).map u64v)])) (fun i _ => 25 - (intOf i).toNat)
      case atStart => exact ⟨0, by omega, rfl, Hk⟩
      case round =>
        clear Hk
        obtain ⟨k, hk, rfl, Hk⟩ := hrel
        by_cases hlt : k < 25
        · have a0 := Hk.cell 0 rfl (u64_get (k := k) (by rw [kMix_length, HS.out]; exact hlt))
          have af := Hk.free 0 rfl k
          have b0 := Hk.cell 1 rfl (u64_get (k := (k + 4) % 5) (by rw [kCol_length]; omega))
          have b1 := Hk.cell 1 rfl (u64_get (k := (k + 1) % 5) (by rw [kCol_length]; omega))
          have hk1 : (k : Int) < 25 := by omega
          have hT := turn_q (at64 (kCol s 25) ((k + 1) % 5)) 1
          go_wp2
          refine region_quiet_tail 20 (by kernel_rfl) (by kernel_rfl) ?_
          simp only [List.take_succ_cons, List.take_zero, List.drop_succ_cons, List.drop_zero]
          repeat (go_big_quiet_step ((go_at_call 102; exact hT _ _)))
          refine wpQuiet_nil ?_
          intro nq
          clear hT
          go_wp2
          go_roundw
          case rel => exact ⟨k + 1, by omega, by go_num, by rw [xor64, xor64]; exact by have h := ((Hk.drewN nq).store 0 rfl (o := k) (u := u64v (at64 (kMix (kCol s 25) s k) k ^^^ (at64 (kCol s 25) ((k + 4) % 5) ^^^ rotl (at64 (kCol s 25) ((k + 1) % 5)) 1)))).upd_mk (by simp); rw [u64_set] at h; exact h⟩
          case measure => simp [intOf]; omega
        · obtain rfl : k = 25 := by omega
          go_wp2
          go_end0
          exact ⟨rfl, HB.out _ _ (Hk.to1 rfl)⟩

theorem kPlace_lt (k : Nat) : (kPlace k).1 < 5 ∧ (kPlace k).2 < 5 := by
  induction k with
  | zero => exact ⟨by decide, by decide⟩
  | succ k ih => exact ⟨ih.2, Nat.mod_lt _ (by omega)⟩
theorem turn_at (x : UInt64) (m : Int) (n : Nat) (h : m = (n : Int)) (w : World) : Calls Try.prog 102 #[.int .u64 (x.toNat : Int), .int .i64 m] w fun e w' => e = .returned (.int .u64 ((rotl x n).toNat : Int)) ∧ ∃ q, w' = w.drewN q := by
  subst h; exact turn_q x n w 0

set_option maxHeartbeats 1000000 in
theorem walk_s (s : List UInt64) (hs : s.length = 25) (w : World) :
    Calls Try.prog 96 #[.agg (s.map u64v).toArray] w fun e w' => e = .returned (.agg ((kWalk s).map u64v).toArray) ∧ Below w.heap.size w w' := by
  have HS := Lib.hid hs
  have hz := u64_get (l := s) (k := 0) (by omega)
  clear hs
  go_enter Try.func96, Try.ntmps96
  go_wp2
  refine absorb_wp (St.start_lay w [] |>.allocAt 0 rfl w.heap.size rfl _ _ |>.push_mk rfl |>.allocAt 1 rfl (w.heap.size + 1) (by simp) _ _ |>.push_mk rfl |>.allocAt 2 rfl (w.heap.size + 1 + 1) (by simp) _ _ |>.push_mk rfl) ?_
  intro w3 H3
  clear hz
  generalize w.heap.size + 1 + 1 = g3 at H3 ⊢
  generalize w.heap.size + 1 = g2 at H3 ⊢
  generalize w.heap.size = g1 at H3 ⊢
  go_loopw [4, 5, 12] (fun x y i wr => ∃ k : Nat, k ≤ 24 ∧ i = .int .i64 k ∧ x = .int .i64 ((kPlace k).1 : Nat) ∧ y = .int .i64 ((kPlace k).2 : Nat) ∧ St w [] wr (lay [.blk g1 123 (s.map u64v), .blk g2 123 ((List.replicate 25 0).map u64v), .blk g3 123 ((kWalkTo s k).map u64v)])) (fun _ _ i _ => 24 - (intOf i).toNat)
  case atStart => exact ⟨0, by omega, rfl, rfl, rfl, H3⟩
  case round =>
    clear H3
    obtain ⟨k, hk, rfl, rfl, rfl, Hk⟩ := hrel
    by_cases hlt : k < 24
    · obtain ⟨hX, hY⟩ := kPlace_lt k
      have HE : Hid (kWalkTo s (k + 1) = (kWalkTo s k).set ((kPlace k).2 + 5 * ((2 * (kPlace k).1 + 3 * (kPlace k).2) % 5)) (rotl (at64 s ((kPlace k).1 + 5 * (kPlace k).2)) ((k + 1) * (k + 2) / 2))) := rfl
      have HP : Hid (kPlace (k + 1) = ((kPlace k).2, (2 * (kPlace k).1 + 3 * (kPlace k).2) % 5)) := rfl
      generalize (kPlace k).1 = X at *
      generalize (kPlace k).2 = Y at *
      have a0 := Hk.cell 0 rfl (u64_get (k := X + 5 * Y) (by rw [HS.out]; omega))
      obtain ⟨u, hu⟩ : ∃ u, ((kWalkTo s k).map u64v)[Y + 5 * ((2 * X + 3 * Y) % 5)]? = some u := ⟨_, u64_get (by rw [kWalkTo_length]; omega)⟩
      have b0 := Hk.cell 2 rfl hu
      have bf := Hk.free 2 rfl (Y + 5 * ((2 * X + 3 * Y) % 5))
      clear hu
      go_wp2_with fail
      refine (turn_at _ _ ((k + 1) * (k + 2) / 2) (tri_eq k hlt) _).mono ?_
      rintro e w4 ⟨rfl, q, rfl⟩
      go_wp2
      go_roundw
      case rel => exact ⟨k + 1, by omega, by go_num, by rw [HP.out], by rw [HP.out]; go_num, by have h := ((Hk.drewN q).store 2 rfl (o := Y + 5 * ((2 * X + 3 * Y) % 5)) (u := u64v (rotl (at64 s (X + 5 * Y)) ((k + 1) * (k + 2) / 2)))).upd_mk (by simp); rw [u64_set, ← HE.out] at h; exact h⟩
      case measure => simp [intOf]; omega
    · obtain rfl : k = 24 := by omega
      go_wp2_with (first | (refine wpList_load_row rfl 123 (.tmp 3) rfl g3 rfl _ _ _ _ (Hk.blk 2 rfl) Try.underlying123 rfl (by rw [state_size]; simp [kWalkTo_length]) ?_) | (refine wpList_store_mid rfl 123 (.tmp 2) (.tmp 43) rfl g2 0 _ rfl rfl (by simpa [kWalkTo_length] using Hk.there 1 rfl) (by rw [state_size]; simp [kWalkTo_length]) (all_oneCell_toArray (u64_one _)) ?_))
      have H4 := (Hk.storeAll 1 rfl (vs := (kWalkTo s 24).map u64v) (by simp [kWalkTo_length])).upd_mk (by simp)
      exact bodyPost_ret (results_cell_row rfl _ _ g2 123 ((kWalkTo s 24).map u64v).toArray _ _ rfl (H4.blk 1 rfl) Try.underlying123 rfl (by rw [state_size]; simp [kWalkTo_length])) rfl ⟨rfl, H4.below⟩
end
end Go.Proofs.Ythoopaknldkclaa

namespace Go.Proofs.Ythoopaknldkclaa
open Go.RowKit
set_option linter.unusedVariables false

theorem con_size : (Try.prog.info? 131).map (·.size) = some 24 := by kernel_rfl
theorem u8_lfsr (r : UInt8) : bits .xor .u8 ((r.toNat : Int) * 2 % 256) (bits .and .u8 113 (-((r.toNat : Int) / 128) % 256)) = ((lfsr r).toNat : Int) := by
  have H : ∀ n : Fin 256, bits .xor .u8 ((n.val : Int) * 2 % 256) (bits .and .u8 113 (-((n.val : Int) / 128) % 256)) = ((lfsr (UInt8.ofNat n.val)).toNat : Int) := by decide +kernel
  have h := H ⟨r.toNat, r.toNat_lt⟩
  simpa using h
theorem con_bit (r : UInt8) (m : Nat) (hm : m < 7) : IntKind.u64.wrap (IntKind.u64.wrap (bits .and .u8 (r.toNat : Int) 1) * 2 ^ min (IntKind.u64.wrap (IntKind.u64.wrap (2 ^ m) - 1)).toNat 64) =
    (((r &&& 1).toUInt64 <<< UInt64.ofNat (2 ^ m - 1)).toNat : Int) := by
  have H : ∀ n : Fin 256, ∀ m : Fin 7, IntKind.u64.wrap (IntKind.u64.wrap (bits .and .u8 (n.val : Int) 1) * 2 ^ min (IntKind.u64.wrap (IntKind.u64.wrap (2 ^ m.val) - 1)).toNat 64) =
    (((UInt8.ofNat n.val &&& 1).toUInt64 <<< UInt64.ofNat (2 ^ m.val - 1)).toNat : Int) := by decide +kernel
  have h := H ⟨r.toNat, r.toNat_lt⟩ ⟨m, hm⟩
  simpa using h

set_option maxHeartbeats 1000000 in
theorem constants_s (w : World) :
    Calls Try.prog 94 #[] w fun e w' => e = .returned (.agg (kConsts.map u64v).toArray) ∧ Below w.heap.size w w' := by
  go_enter Try.func94, Try.ntmps94
  go_wp2
  refine absorb_wp (St.start_lay w [] |>.allocAt 0 rfl w.heap.size rfl _ _ |>.push_mk rfl |>.allocAt 1 rfl (w.heap.size + 1) (by simp) _ _ |>.push_mk rfl) ?_
  intro w3 H3
  generalize w.heap.size + 1 = g2 at H3 ⊢
  generalize w.heap.size = g1 at H3 ⊢
  go_loopw [2, 5] (fun r i wr => ∃ k : Nat, k ≤ 24 ∧ i = .int .i64 k ∧ r = .int .u8 ((kConI k).2.toNat : Int) ∧ St w [] wr (lay [.blk g1 131 ((List.replicate 24 0).map u64v), .blk g2 131 ((kConI k).1.map u64v)])) (fun _ i _ => 24 - (intOf i).toNat)
  case atStart => exact ⟨0, by omega, rfl, rfl, H3⟩
  case round =>
    clear H3
    obtain ⟨k, hk, rfl, rfl, Hk⟩ := hrel
    by_cases hlt : k < 24
    · have hk1 : (k : Int) < 24 := by omega
      go_wp2
      go_loopw [2, 8] (fun r j wr => ∃ m : Nat, m ≤ 7 ∧ j = .int .i64 m ∧ r = .int .u8 ((kConJ k (kConI k) m).2.toNat : Int) ∧ St w [] wr (lay [.blk g1 131 ((List.replicate 24 0).map u64v), .blk g2 131 ((kConJ k (kConI k) m).1.map u64v)])) (fun _ j _ => 7 - (intOf j).toNat)
      case atStart => exact ⟨0, by omega, rfl, rfl, Hk⟩
      case round =>
        clear Hk
        obtain ⟨m, hm, rfl, rfl, Hk⟩ := hrel
        have HL := Lib.hid (kConJ_length k (kConI k) m)
        by_cases hlm : m < 7
        · have a0 := Hk.cell 1 rfl (u64_get (k := k) (by rw [HL.out, kConI_length]; exact hlt))
          have af := Hk.free 1 rfl k
          have hm1 : (m : Int) < 7 := by omega
          go_wp2
          refine region_quiet_tail 12 (by kernel_rfl) (by kernel_rfl) ?_
          simp only [List.take_succ_cons, List.take_zero, List.drop_succ_cons, List.drop_zero]
          repeat (go_big_quiet_step (fail))
          refine wpQuiet_nil ?_
          intro nq
          go_wp2
          go_roundw
          case rel => exact ⟨m + 1, by omega, by go_num, by rw [u8_lfsr]; rfl, by rw [con_bit _ _ hlm, or64]; exact by have h := ((Hk.drewN nq).store 1 rfl (o := k) (u := u64v (at64 (kConJ k (kConI k) m).1 k ||| ((kConJ k (kConI k) m).2 &&& 1).toUInt64 <<< UInt64.ofNat (2 ^ m - 1)))).upd_mk (by simp); rw [u64_set] at h; exact h⟩
          case measure => simp [intOf]; omega
        · obtain rfl : m = 7 := by omega
          go_wp2
          go_roundw
          case rel => exact ⟨k + 1, by omega, by go_num, rfl, Hk⟩
          case measure => simp [intOf]; omega
    · obtain rfl : k = 24 := by omega
      have HC := Lib.hid kConI_24
      go_wp2_with (first | (refine wpList_load_row rfl 131 (.tmp 1) rfl g2 rfl _ _ _ _ (Hk.blk 1 rfl) Try.underlying131 rfl (by rw [con_size]; simp [kConI_length]) ?_) | (refine wpList_store_mid rfl 131 (.tmp 0) (.tmp 32) rfl g1 0 _ rfl rfl (by simpa [kConI_length] using Hk.there 0 rfl) (by rw [con_size]; simp [kConI_length]) (all_oneCell_toArray (u64_one _)) ?_))
      have H4 := (Hk.storeAll 0 rfl (vs := (kConI 24).1.map u64v) (by simp [kConI_length])).upd_mk (by simp)
      exact bodyPost_ret (results_cell_row rfl _ _ g1 131 ((kConI 24).1.map u64v).toArray _ _ rfl (H4.blk 0 rfl) Try.underlying131 rfl (by rw [con_size]; simp [kConI_length])) rfl ⟨by rw [HC.out], H4.below⟩
end Go.Proofs.Ythoopaknldkclaa

namespace Go.Proofs.Ythoopaknldkclaa
/-- kind, size, count -/
abbrev RunT := Int × Int × Int
def runV (r : RunT) : List Value := [.int .u8 r.1, .int .i64 r.2.1, .int .i64 r.2.2]
def runsV (rs : List RunT) : List Value := rs.flatMap runV
/-- an event is noted n times -/
def noted (rs : List RunT) (k s n : Int) : List RunT :=
  match rs.getLast? with
  | some (k', s', c) => if k' = k ∧ s' = s then rs.dropLast ++ [(k, s, c + n)] else rs ++ [(k, s, n)]
  | none => [(k, s, n)]
def total : List RunT → Int
  | [] => 0
  | r :: rs => r.2.2 + total rs
theorem total_append (a b : List RunT) : total (a ++ b) = total a + total b := by
  induction a with
  | nil => simp [total]
  | cons x a ih => simp only [List.cons_append, total, ih]; omega
theorem runsV_length (rs : List RunT) : (runsV rs).length = rs.length * 3 := by
  induction rs with
  | nil => rfl
  | cons r rs ih => simp only [runsV, List.flatMap_cons, List.length_append, List.length_cons] at ih ⊢; rw [ih]; simp [runV]; omega
theorem runsV_append (a b : List RunT) : runsV (a ++ b) = runsV a ++ runsV b := by simp [runsV]
theorem runsV_get (rs : List RunT) (i j : Nat) (r : RunT) (hi : rs[i]? = some r) (hj : j < 3) : (runsV rs)[i * 3 + j]? = (runV r)[j]? := by
  induction rs generalizing i with
  | nil => simp at hi
  | cons a rs ih =>
    simp only [runsV, List.flatMap_cons]
    cases i with
    | zero =>
      simp at hi; subst hi
      rw [List.getElem?_append_left (by simp [runV]; omega)]; simp
    | succ i =>
      rw [List.getElem?_append_right (by simp [runV]; omega)]
      simp only [List.getElem?_cons_succ] at hi
      rw [← ih i hi]
      simp only [runsV]
      congr 1
      simp [runV]; omega
theorem runsV_set (rs : List RunT) (i : Nat) (r : RunT) (c : Int) (hi : rs[i]? = some r) : (runsV rs).set (i * 3 + 2) (.int .i64 c) = runsV (rs.set i (r.1, r.2.1, c)) := by
  induction rs generalizing i with
  | nil => simp at hi
  | cons a rs ih =>
    simp only [runsV, List.flatMap_cons]
    cases i with
    | zero =>
      simp at hi; subst hi
      simp [runV]
    | succ i =>
      simp only [List.getElem?_cons_succ] at hi
      rw [List.set_append_right _ _ (by simp [runV]; omega), List.set_cons_succ, List.flatMap_cons]
      congr 1
      have h := ih i hi
      simp only [runsV] at h
      rw [← h]
      congr 1
      simp [runV]; omega
theorem noted_nil (k s n : Int) : noted [] k s n = [(k, s, n)] := rfl
theorem noted_same (rs : List RunT) (m : Nat) (k s c n : Int) (hm : rs.length = m + 1) (h : rs[m]? = some (k, s, c)) : noted rs k s n = rs.set m (k, s, c + n) := by
  have hl : rs.getLast? = some (k, s, c) := by rw [List.getLast?_eq_getElem?, hm]; exact h
  unfold noted
  rw [hl]
  simp only [and_self, if_true]
  apply List.ext_getElem?
  intro i
  have hdl : rs.dropLast.length = m := by simp [hm]
  rcases Nat.lt_trichotomy i m with h1 | h1 | h1
  · rw [List.getElem?_append_left (by omega), List.getElem?_set_ne (by omega), List.getElem?_dropLast, if_pos (by omega)]
  · subst h1
    rw [List.getElem?_append_right (by omega), List.getElem?_set_self (by omega), hdl]
    simp
  · rw [List.getElem?_eq_none (by simp; omega), List.getElem?_eq_none (by simp; omega)]
theorem noted_other (rs : List RunT) (m : Nat) (k s k' s' c n : Int) (hm : rs.length = m + 1) (h : rs[m]? = some (k', s', c)) (hne : ¬ (k' = k ∧ s' = s)) : noted rs k s n = rs ++ [(k, s, n)] := by
  have hl : rs.getLast? = some (k', s', c) := by rw [List.getLast?_eq_getElem?, hm]; exact h
  unfold noted
  rw [hl]
  simp only [if_neg hne]
theorem total_set (rs : List RunT) (m : Nat) (k s c n : Int) (h : rs[m]? = some (k, s, c)) : total (rs.set m (k, s, c + n)) = total rs + n := by
  induction rs generalizing m with
  | nil => simp at h
  | cons a rs ih =>
    cases m with
    | zero => simp at h; subst h; simp [total]; omega
    | succ m => simp at h; simp only [List.set_cons_succ, total]; rw [ih m h]; omega
theorem total_noted (rs : List RunT) (k s n : Int) : total (noted rs k s n) = total rs + n := by
  cases hl : rs.getLast? with
  | none => have : rs = [] := by simpa using hl
            subst this; simp [noted, total]
  | some r =>
    obtain ⟨k', s', c⟩ := r
    obtain ⟨m, hm⟩ : ∃ m, rs.length = m + 1 := by
      cases rs with
      | nil => simp at hl
      | cons a r => exact ⟨r.length, rfl⟩
    have hg : rs[m]? = some (k', s', c) := by rw [List.getLast?_eq_getElem?, hm] at hl; exact hl
    by_cases h : k' = k ∧ s' = s
    · obtain ⟨rfl, rfl⟩ := h
      rw [noted_same rs m _ _ c n hm hg, total_set rs m _ _ c n hg]
    · rw [noted_other rs m k s k' s' c n hm hg h, total_append]; simp [total]
theorem total_nonneg (rs : List RunT) (h : ∀ r ∈ rs, 0 ≤ r.2.2) : 0 ≤ total rs := by
  induction rs with
  | nil => simp [total]
  | cons a rs ih => have := h a (by simp); have := ih fun r hr => h r (by simp [hr]); simp only [total]; omega
theorem total_ge (rs : List RunT) (h : ∀ r ∈ rs, 0 ≤ r.2.2) : ∀ r ∈ rs, r.2.2 ≤ total rs := by
  induction rs with
  | nil => simp
  | cons a rs ih =>
    intro r hr
    have h1 := h a (by simp)
    have h2 := total_nonneg rs fun r hr => h r (by simp [hr])
    simp only [total]
    rcases List.mem_cons.1 hr with rfl | hr
    · omega
    · have := ih (fun r hr => h r (by simp [hr])) r hr; omega
theorem noted_pos (rs : List RunT) (k s n : Int) (hn : 0 ≤ n) (h : ∀ r ∈ rs, 0 ≤ r.2.2) : ∀ r ∈ noted rs k s n, 0 ≤ r.2.2 := by
  intro r hr
  unfold noted at hr
  split at hr
  · rename_i k' s' c hl
    have hc := h _ (List.mem_of_getLast? hl)
    split at hr
    · rcases List.mem_append.1 hr with h1 | h1
      · exact h r (List.dropLast_subset _ h1)
      · simp at h1; subst h1; simp only at hc ⊢; omega
    · rcases List.mem_append.1 hr with h1 | h1
      · exact h r h1
      · simp at h1; subst h1; exact hn
  · simp at hr; subst hr; exact hn
theorem noted_length (rs : List RunT) (k s n : Int) : (noted rs k s n).length ≤ rs.length + 1 := by
  unfold noted
  split
  · split
    · simp only [List.length_append, List.length_dropLast, List.length_singleton]; omega
    · simp
  · simp
end Go.Proofs.Ythoopaknldkclaa

namespace Go.Proofs.Ythoopaknldkclaa
open Go.RowKit
set_option linter.unusedVariables false

/-- A ledger of the program: its runs, and how many events they stand for. -/
def ledO (g : Nat) (rs : List RunT) : Own := .ex fun v => .sep (.blk g 84 [v, .int .i64 (total rs)]) (.row 58 3 v rs.length (runsV rs))
def lptr (g : Nat) : Value := .pointer (some ⟨g, 0, none⟩)
theorem run_info : (Try.prog.info? 58).map (fun i => (i.zero, i.size, i.bytes)) = some (some (.agg #[.int .u8 0, .int .i64 0, .int .i64 0]), 3, 24) := by kernel_rfl

theorem row_shape {w : World} {e : TypeId} {size n : Nat} {v : Value} {xs : List Value} (h : w.ownsRow 0 e size v n xs) : ∃ A c, v = .slice A n c ∧ n ≤ c ∧ (0 < n → ∃ g, A = some ⟨g, 0, none⟩ ∧ g < w.heap.size) := by
  rcases h.2 with ⟨rfl, rfl⟩ | ⟨g, cap, cur, rfl, _, hg, hc, _⟩
  · exact ⟨_, _, rfl, by omega, fun h => by omega⟩
  · exact ⟨_, _, rfl, hc, fun _ => ⟨g, rfl, lt_of_heap hg⟩⟩

theorem led_close {w0 w : World} {F0 : List Nat} {E : Env} {g n : Nat} {t : Int} {v : Value} {xs : List Value} (rs : List RunT) (H : St w0 F0 w E) (h0 : E 0 = some (.blk g 84 [v, .int .i64 t])) (h1 : E 1 = some (.row 58 3 v n xs)) (ht : t = total rs) (hn : n = rs.length) (hx : xs = runsV rs) : St w0 F0 w (one (ledO g rs)) := by
  subst ht hn hx
  refine ((H.join 0 1 (by omega) h0 h1).shutEx (A := fun v => .sep (.blk g 84 [v, .int .i64 (total rs)]) (.row 58 3 v rs.length (runsV rs))) v 0 (by simp [upd])).sub fun k A hA => ?_
  by_cases hk : k = 0
  · subst hk; simp only [one, upd, if_true] at hA ⊢; exact hA
  · simp [one, upd, hk, Env.nil] at hA

set_option maxHeartbeats 1000000 in
theorem noteTimes_nil {F : List Nat} {w : World} (g : Nat) (k s n : Int) (HF : St w F w (one (ledO g []))) (hn : 1 ≤ n) (hb : n ≤ 4611686018427387904) :
    Calls Try.prog 88 #[lptr g, .agg #[.int .u8 k, .int .i64 s], .int .i64 n] w fun e w' => e = .returned (.tuple #[]) ∧ St w F w' (one (ledO g [(k, s, n)])) := by
  obtain ⟨i0, hi0, hz0, hz1, hz2⟩ := info_parts run_info
  obtain ⟨v, H1⟩ := HF.openEx 0 rfl
  have H2 := H1.part 0 1 (by omega) rfl rfl
  clear HF H1
  obtain ⟨A, c, rfl, hc, -⟩ := row_shape (H2.row 1 rfl)
  have c0 := H2.cell 0 rfl (o := 0) rfl
  have c1 : w.cell? ⟨g, 1, none⟩ = some (.int .i64 0) := H2.cell 0 rfl (o := 1) rfl
  have f0 := H2.free 0 rfl 0
  have f1 := H2.free 0 rfl 1
  have hg := H2.lt 0 rfl
  have hn1 : ¬ n < 1 := by omega
  unfold lptr
  go_enter Try.func88, Try.ntmps88
  go_wp2
  go_quiet (fail)
  go_wp2
  have H3 := ((H2.store 0 rfl (o := 1) (u := .int .i64 n)).allocAt 2 rfl w.heap.size (by simp [World.setCell]) #[.int .u8 k, .int .i64 s] 56).drewN nq
  clear c0 c1 f0 f1 hg H2
  generalize hw3 : ((w.setCell ⟨g, 1, none⟩ (.int .i64 n)).alloc (.cells #[.int .u8 k, .int .i64 s] 56)).drewN nq = w3 at H3 ⊢
  clear hw3
  generalize w.heap.size = b at H3 ⊢
  have c0 := H3.cell 0 rfl (o := 0) rfl
  have c1 := H3.cell 2 rfl (o := 0) rfl
  have c2 := H3.cell 2 rfl (o := 1) rfl
  have f0 := H3.free 0 rfl 0
  have hg := H3.lt 0 rfl
  have hb := H3.lt 2 rfl
  have hr := H3.row 1 rfl
  go_region_law (refine step_append_any _ (by rfl) (.tmp 58) (.tmp 62) _ (by rfl) 0 58 i0 (.agg #[.int .u8 0, .int .i64 0, .int .i64 0]) 3 24 Try.underlying43 hi0 hz0 hz1 hz2 rfl (by omega) (.slice A 0 c) 0 [] (by rfl) ((hr.alloc _)) (some ⟨w3.heap.size, 0, none⟩) 1 1 [.int .u8 k, .int .i64 s, .int .i64 n] (by rfl) (rd_new _ _ _ 3 rfl) (by simp [Value.oneCell']) (by simp only [maxLen]; omega) (by omega) (by omega) ?_; intro v1 w1 hown1 hg1 hat1; obtain ⟨A1, d1, rfl, hd1, -⟩ := row_shape hown1; have H4 := ((H3.alloc 3 rfl #[.int .u8 k, .int .i64 s, .int .i64 n] 58).drew).grow 1 rfl hown1 hg1 hat1; have k0 := H4.cell 0 rfl (o := 0) rfl; have k1 := H4.cell 2 rfl (o := 0) rfl; have k2 := H4.cell 2 rfl (o := 1) rfl; have k3 := H4.free 0 rfl 0)
  all_goals go_wp2
  all_goals go_end0
  all_goals exact ⟨rfl, led_close [(k, s, n)] (H4.store 0 rfl (o := 0) (u := .slice A1 1 d1)) rfl rfl (by simp [total]) rfl rfl⟩

theorem run_cells {w : World} {g' n d m : Nat} {rs : List RunT} {r : RunT} (h : w.ownsRow 0 58 3 (.slice (some ⟨g', 0, none⟩) n d) n (runsV rs)) (hr : rs[m]? = some r) :
    w.cell? ⟨g', m * 3, none⟩ = some (.int .u8 r.1) ∧ w.cell? ⟨g', m * 3 + 1, none⟩ = some (.int .i64 r.2.1) ∧ w.cell? ⟨g', m * 3 + 2, none⟩ = some (.int .i64 r.2.2) ∧ w.frozen? ⟨g', m * 3 + 2, none⟩ = false := by
  have hn : rs.length * 3 = n * 3 := by rw [← runsV_length]; exact h.1
  have hm : m < rs.length := (List.getElem?_eq_some_iff.1 hr).1
  refine ⟨?_, ?_, ?_, World.ownsRow.frozenAt h _⟩
  · have := World.ownsRow.cellAt h (m * 3 + 0) (by omega)
    rw [runsV_get rs m 0 _ hr (by omega)] at this; exact this
  · rw [World.ownsRow.cellAt h _ (by omega), runsV_get rs m 1 _ hr (by omega)]; rfl
  · rw [World.ownsRow.cellAt h _ (by omega), runsV_get rs m 2 _ hr (by omega)]; rfl

set_option maxHeartbeats 1000000 in
theorem noteTimes_same {F : List Nat} {w : World} (g m : Nat) (rs : List RunT) (k s c n : Int) (hm : rs.length = m + 1) (hr : rs[m]? = some (k, s, c)) (HF : St w F w (one (ledO g rs))) (hn : 1 ≤ n) (hb : n ≤ 4611686018427387904) (hc0 : 0 ≤ c) (hc : c + n ≤ 4611686018427387904) (ht : 0 ≤ total rs) (ht' : total rs + n ≤ 4611686018427387904) (hl : m ≤ 1000000000000) :
    Calls Try.prog 88 #[lptr g, .agg #[.int .u8 k, .int .i64 s], .int .i64 n] w fun e w' => e = .returned (.tuple #[]) ∧ St w F w' (one (ledO g (rs.set m (k, s, c + n)))) := by
  obtain ⟨v, H1⟩ := HF.openEx 0 rfl
  have H2 := H1.part 0 1 (by omega) rfl rfl
  clear HF H1
  obtain ⟨A, d, rfl, hd, hA⟩ := row_shape (H2.row 1 rfl)
  obtain ⟨g', rfl, -⟩ := hA (by omega)
  clear hA
  have c0 := H2.cell 0 rfl (o := 0) rfl
  have c1 := H2.cell 0 rfl (o := 1) rfl
  have f0 := H2.free 0 rfl 0
  have f1 := H2.free 0 rfl 1
  have hg := H2.lt 0 rfl
  have hn1 : ¬ n < 1 := by omega
  rw [hm] at c0
  have HM := Lib.hid hm
  have HR := Lib.hid hr
  clear hm hr
  unfold lptr
  go_enter Try.func88, Try.ntmps88
  go_wp2
  have H3 := ((H2.store 0 rfl (o := 1) (u := .int .i64 (total rs + n))).allocAt 2 rfl w.heap.size (by simp [World.setCell]) #[.int .u8 k, .int .i64 s] 56)
  clear c0 c1 f0 f1 hg H2
  generalize hw3 : ((w.setCell ⟨g, 1, none⟩ (.int .i64 (total rs + n))).alloc (.cells #[.int .u8 k, .int .i64 s] 56)) = w3 at H3 ⊢
  clear hw3
  generalize w.heap.size = b at H3 ⊢
  have c0 := H3.cell 0 rfl (o := 0) rfl
  rw [HM.out] at c0
  have c1 := H3.cell 2 rfl (o := 0) rfl
  have c2 := H3.cell 2 rfl (o := 1) rfl
  obtain ⟨r0, r1, r2, fr⟩ := run_cells (H3.row 1 rfl) HR.out
  have hi : IntKind.i64.wrap (m : Int) = (m : Int) := IntWalk.i64_in _ (by omega)
  go_quiet (fail)
  clear hi
  go_wp2
  refine bodyPost_ret (results_none rfl _ _ _) rfl ⟨rfl, ?_⟩
  exact led_close _ ((H3.drewN nq).rowStore 1 rfl (o := m * 3 + 2) (u := .int .i64 (c + n))) rfl rfl (total_set rs m k s c n HR.out).symm (by simp) (runsV_set rs m _ _ HR.out)

set_option maxHeartbeats 1000000 in
theorem noteTimes_other {F : List Nat} {w : World} (g m : Nat) (rs : List RunT) (k s k' s' c n : Int) (hm : rs.length = m + 1) (hr : rs[m]? = some (k', s', c)) (hne : ¬ (k' = k ∧ s' = s)) (HF : St w F w (one (ledO g rs))) (hn : 1 ≤ n) (hb : n ≤ 4611686018427387904) (ht : 0 ≤ total rs) (ht' : total rs + n ≤ 4611686018427387904) (hl : m ≤ 1000000000000) :
    Calls Try.prog 88 #[lptr g, .agg #[.int .u8 k, .int .i64 s], .int .i64 n] w fun e w' => e = .returned (.tuple #[]) ∧ St w F w' (one (ledO g (rs ++ [(k, s, n)]))) := by
  obtain ⟨v, H1⟩ := HF.openEx 0 rfl
  have H2 := H1.part 0 1 (by omega) rfl rfl
  clear HF H1
  obtain ⟨A, d, rfl, hd, hA⟩ := row_shape (H2.row 1 rfl)
  obtain ⟨g', rfl, -⟩ := hA (by omega)
  clear hA
  have c0 := H2.cell 0 rfl (o := 0) rfl
  have c1 := H2.cell 0 rfl (o := 1) rfl
  have f0 := H2.free 0 rfl 0
  have f1 := H2.free 0 rfl 1
  have hg := H2.lt 0 rfl
  have hn1 : ¬ n < 1 := by omega
  rw [hm] at c0
  have HM := Lib.hid hm
  have HR := Lib.hid hr
  have HN := Lib.hid hne
  clear hm hr hne
  unfold lptr
  go_enter Try.func88, Try.ntmps88
  go_wp2
  have H3 := ((H2.store 0 rfl (o := 1) (u := .int .i64 (total rs + n))).allocAt 2 rfl w.heap.size (by simp [World.setCell]) #[.int .u8 k, .int .i64 s] 56)
  clear c0 c1 f0 f1 hg H2
  generalize hw3 : ((w.setCell ⟨g, 1, none⟩ (.int .i64 (total rs + n))).alloc (.cells #[.int .u8 k, .int .i64 s] 56)) = w3 at H3 ⊢
  clear hw3
  generalize w.heap.size = b at H3 ⊢
  have c0 := H3.cell 0 rfl (o := 0) rfl
  rw [HM.out] at c0
  have c1 := H3.cell 2 rfl (o := 0) rfl
  have c2 := H3.cell 2 rfl (o := 1) rfl
  obtain ⟨r0, r1, r2, fr⟩ := run_cells (H3.row 1 rfl) HR.out
  have hi : IntKind.i64.wrap (m : Int) = (m : Int) := IntWalk.i64_in _ (by omega)
  have hi2 : (m : Int) < (m : Int) + 1 := by omega
  have hi3 : (0 : Int) ≤ (m : Int) := by omega
  have hq : (k' == k) = false ∨ (k' = k ∧ (s' == s) = false) := by
    by_cases hk : k' = k
    · exact .inr ⟨hk, by simpa using fun h => HN.out ⟨hk, h⟩⟩
    · exact .inl (by simpa using hk)
  rcases hq with hq | ⟨hq0, hq⟩
  all_goals
    try (have hq1 := hq0.symm; subst hq1)
    go_quiet (fail)
    clear hi hi2 hi3 hq
    go_wp2
    have H4 := H3.drewN nq
    clear c0 c1 c2 r0 r1 r2 fr H3
    generalize w3.drewN nq = w4 at H4 ⊢
    obtain ⟨i0, hi0, hz0, hz1, hz2⟩ := info_parts run_info
    have c0 := H4.cell 0 rfl (o := 0) rfl
    rw [HM.out] at c0
    have c1 := H4.cell 2 rfl (o := 0) rfl
    have c2 := H4.cell 2 rfl (o := 1) rfl
    have f0 := H4.free 0 rfl 0
    have hg := H4.lt 0 rfl
    have hbb := H4.lt 2 rfl
    have hr := H4.row 1 rfl
    rw [HM.out] at hr
    go_region_law (refine step_append_any _ (by rfl) (.tmp 58) (.tmp 62) _ (by rfl) 0 58 i0 (.agg #[.int .u8 0, .int .i64 0, .int .i64 0]) 3 24 Try.underlying43 hi0 hz0 hz1 hz2 rfl (by omega) (.slice (some ⟨g', 0, none⟩) (m + 1) d) (m + 1) (runsV rs) (by rfl) ((hr.alloc _)) (some ⟨w4.heap.size, 0, none⟩) 1 1 [.int .u8 k, .int .i64 s, .int .i64 n] (by rfl) (rd_new _ _ _ 3 rfl) (by simp [Value.oneCell']) (by simp only [maxLen]; omega) (by omega) (by omega) ?_; intro v1 w1 hown1 hg1 hat1; obtain ⟨A1, d1, rfl, hd1, -⟩ := row_shape hown1; have H5 := ((H4.alloc 3 rfl #[.int .u8 k, .int .i64 s, .int .i64 n] 58).drew).grow 1 rfl hown1 hg1 hat1; have k0 := H5.cell 0 rfl (o := 0) rfl; have k3 := H5.free 0 rfl 0)
    all_goals go_wp2
    all_goals go_end0
    all_goals exact ⟨rfl, led_close (rs ++ [(k, s, n)]) (H5.store 0 rfl (o := 0) (u := .slice A1 (m + 1 + 1) d1)) rfl rfl (by rw [total_append]; simp [total]) (by simp [HM.out]) (by rw [runsV_append]; rfl)⟩

/-- Of any ledger that is one: an event is noted. -/
theorem noteTimes_led {F : List Nat} {w : World} (g : Nat) (rs : List RunT) (k s n : Int) (HF : St w F w (one (ledO g rs))) (hn : 1 ≤ n) (hb : n ≤ 4611686018427387904) (h0 : ∀ r ∈ rs, 0 ≤ r.2.2) (ht' : total rs + n ≤ 4611686018427387904) (hl : rs.length ≤ 1000000000000) :
    Calls Try.prog 88 #[lptr g, .agg #[.int .u8 k, .int .i64 s], .int .i64 n] w fun e w' => e = .returned (.tuple #[]) ∧ St w F w' (one (ledO g (noted rs k s n))) := by
  have ht := total_nonneg rs h0
  rcases Nat.eq_zero_or_pos rs.length with hz | hz
  · have : rs = [] := List.length_eq_zero_iff.1 hz
    subst this
    rw [noted_nil]
    exact noteTimes_nil g k s n HF hn hb
  · obtain ⟨m, hm⟩ : ∃ m, rs.length = m + 1 := ⟨rs.length - 1, by omega⟩
    obtain ⟨r, hr⟩ : ∃ r, rs[m]? = some r := ⟨rs[m], List.getElem?_eq_getElem (by omega)⟩
    obtain ⟨k', s', c⟩ := r
    have hc0 := h0 _ (List.mem_of_getElem? hr)
    have hc1 := total_ge rs h0 _ (List.mem_of_getElem? hr)
    by_cases he : k' = k ∧ s' = s
    · obtain ⟨rfl, rfl⟩ := he
      rw [noted_same rs m _ _ c n hm hr]
      exact noteTimes_same g m rs _ _ c n hm hr HF hn hb hc0 (by simp only at hc1; omega) ht ht' (by omega)
    · rw [noted_other rs m k s k' s' c n hm hr he]
      exact noteTimes_other g m rs k s k' s' c n hm hr he HF hn hb ht ht' (by omega)
end Go.Proofs.Ythoopaknldkclaa

namespace Go.Proofs.Ythoopaknldkclaa
open Go.RowKit
set_option linter.unusedVariables false

/-- a ledger, or none -/
def led (l : Value) : Option (List RunT) → Own
  | none => .fact (l = .pointer none) .emp
  | some rs => .ex fun g => .fact (l = lptr g) (ledO g rs)
/-- runs as a ledger has them, at most b events -/
def Runs.Good (rs : List RunT) (b : Int) : Prop := (∀ r ∈ rs, 1 ≤ r.2.2) ∧ total rs ≤ b
def LGood (r : Option (List RunT)) (b : Int) : Prop := ∀ rs, r = some rs → Runs.Good rs b
theorem Runs.Good.length {rs : List RunT} {b : Int} (h : Runs.Good rs b) : (rs.length : Int) ≤ b := by
  obtain ⟨h1, h2⟩ := h
  refine Int.le_trans ?_ h2
  clear h2
  induction rs with
  | nil => simp [total]
  | cons a rs ih =>
    have := h1 a (by simp)
    have := ih fun r hr => h1 r (by simp [hr])
    simp only [total, List.length_cons]; omega
theorem Runs.Good.noted {rs : List RunT} {b : Int} (h : Runs.Good rs b) (k s n : Int) (hn : 1 ≤ n) : Runs.Good (noted rs k s n) (b + n) := by
  refine ⟨?_, by rw [total_noted]; have := h.2; omega⟩
  intro r hr
  unfold Go.Proofs.Ythoopaknldkclaa.noted at hr
  split at hr
  · rename_i k' s' c hl
    have hc := h.1 _ (List.mem_of_getLast? hl)
    split at hr
    · rcases List.mem_append.1 hr with h1 | h1
      · exact h.1 r (List.dropLast_subset _ h1)
      · simp at h1; subst h1; simp only at hc ⊢; omega
    · rcases List.mem_append.1 hr with h1 | h1
      · exact h.1 r h1
      · simp at h1; subst h1; exact hn
  · simp at hr; subst hr; exact hn
theorem LGood.noted {r : Option (List RunT)} {b : Int} (h : LGood r b) (k s n : Int) (hn : 1 ≤ n) : LGood (r.map fun rs => noted rs k s n) (b + n) := by
  intro rs hrs
  cases r with
  | none => cases hrs
  | some rs0 => simp at hrs; subst hrs; exact (h rs0 rfl).noted k s n hn
theorem LGood.none (b : Int) : LGood none b := fun _ h => by cases h
theorem LGood.nil : LGood (some []) 0 := fun rs h => by injection h with h; subst h; exact ⟨by simp, by simp [total]⟩
theorem LGood.more {r : Option (List RunT)} {b b' : Int} (h : LGood r b) (hb : b ≤ b') : LGood r b' := fun rs hr => ⟨(h rs hr).1, Int.le_trans (h rs hr).2 hb⟩

section
variable {w0 w : World} {F0 : List Nat} {E : Env}

theorem St.ledNil (H : St w0 F0 w E) (k : Nat) (hk : E k = Option.none) : St w0 F0 w (upd E k (led (.pointer none) none)) :=
  by have h := (H.nothing k hk).shutFact (p := Value.pointer none = Value.pointer none) rfl k upd_same; rw [upd_upd] at h; exact h
theorem St.ledOpen {l : Value} {rs : List RunT} (H : St w0 F0 w E) (i : Nat) (hi : E i = some (led l (some rs))) : ∃ g, l = lptr g ∧ St w0 F0 w (upd E i (ledO g rs)) := by
  obtain ⟨g, H1⟩ := H.openEx i hi
  obtain ⟨h, H2⟩ := H1.openFact i upd_same
  simp only [upd_upd] at H2
  exact ⟨g, h, H2⟩
theorem St.ledShut {rs : List RunT} {g : Nat} (H : St w0 F0 w E) (i : Nat) (hi : E i = some (ledO g rs)) : St w0 F0 w (upd E i (led (lptr g) (some rs))) := by
  have H1 := H.shutFact (p := lptr g = lptr g) rfl i hi
  have H2 := H1.shutEx (A := fun g' => .fact (lptr g = lptr g') (ledO g' rs)) g i upd_same
  rw [upd_upd] at H2
  exact H2

set_option maxHeartbeats 400000 in
theorem ledger_new (H : St w0 F0 w E) (k : Nat) (hk : E k = Option.none) : Calls Try.prog 11 #[] w fun e w' => ∃ v, e = .returned v ∧ St w0 F0 w' (upd E k (led v (some []))) := by
  go_enter Try.func11, Try.ntmps11
  go_wp2
  go_ret
  refine ⟨_, rfl, ?_⟩
  have ho : (ledO w.heap.size []).holds (w.alloc (.cells #[.slice none 0 0, .int .i64 0] 84)) [w.heap.size] :=
    ⟨.slice none 0 0, [w.heap.size], [], rfl, ⟨by rw [heap_alloc_new]; rfl, rfl⟩, ⟨World.ownsRow_nil _ _ _ _, rfl⟩, by simp⟩
  have H1 := H.push k hk ((Below.refl _ _).alloc (Nat.le_refl _) _) ho (by simp)
  have H2 := H1.ledShut k upd_same
  simp only [upd_upd] at H2
  exact H2

set_option maxHeartbeats 400000 in
theorem noteTimes_none (k s n : Int) : Calls Try.prog 88 #[.pointer none, .agg #[.int .u8 k, .int .i64 s], .int .i64 n] w fun e w' => e = .returned (.tuple #[]) ∧ Below w.heap.size w w' := by
  go_enter Try.func88, Try.ntmps88
  go_wp2
  refine bodyPost_ret (results_none rfl _ _ _) rfl ⟨rfl, ?_⟩
  exact (Below.refl _ _).alloc (Nat.le_refl _) _

set_option maxHeartbeats 400000 in
theorem ledger_note {l : Value} {r : Option (List RunT)} (b k s : Int) (H : St w0 F0 w E) (i : Nat) (hi : E i = some (led l r)) (hg : LGood r b) (hb : b ≤ 1000000) :
    Calls Try.prog 76 #[l, .agg #[.int .u8 k, .int .i64 s]] w fun e w' => e = .returned (.tuple #[]) ∧ St w0 F0 w' (upd E i (led l (r.map fun rs => noted rs k s 1))) := by
  cases r with
  | none =>
    obtain ⟨rfl, H1⟩ := H.openFact i hi
    go_enter Try.func76, Try.ntmps76
    go_wp2_with fail
    refine (noteTimes_none k s 1).mono ?_
    rintro e w1 ⟨rfl, hb1⟩
    go_wp2
    go_end0
    have H2 := (H.call ((Below.refl _ _).alloc (Nat.le_refl _) _)).call hb1
    exact ⟨rfl, by rw [← upd_id hi] at H2; exact H2⟩
  | some rs =>
    obtain ⟨g, rfl, H1⟩ := H.ledOpen i hi
    obtain ⟨h1, h2⟩ := hg rs rfl
    have hl := (hg rs rfl).length
    have h0 : ∀ r ∈ rs, 0 ≤ r.2.2 := fun r hr => by have := h1 r hr; omega
    have H2 := H1.call ((Below.refl _ _).alloc (Nat.le_refl _) (.cells #[.int .u8 k, .int .i64 s] 56))
    obtain ⟨F, HF, -, -, hback⟩ := H2.frame1 i upd_same
    have hc := noteTimes_led g rs k s 1 HF (by omega) (by omega) h0 (by omega) (by omega)
    clear hl h0 h1 h2 HF H1 H2 H
    unfold lptr at hc ⊢
    have HC := Lib.hid hc
    have HB := Lib.hid hback
    clear hc hback
    go_enter Try.func76, Try.ntmps76
    go_wp2_with fail
    refine HC.out.mono ?_
    rintro e w1 ⟨rfl, hs⟩
    go_wp2
    go_end0
    have H3 := (HB.out _ _ hs).ledShut i upd_same
    simp only [upd_upd] at H3
    exact ⟨rfl, H3⟩

def runsO (v : Value) (rs : List RunT) : Own := .row 58 3 v rs.length (runsV rs)
theorem St.ledRead {l : Value} {rs : List RunT} (H : St w0 F0 w E) (i : Nat) (hi : E i = some (led l (some rs))) :
    ∃ g A c, l = lptr g ∧ g < w.heap.size ∧ w.cell? ⟨g, 0, none⟩ = some (.slice A rs.length c) ∧ w.cell? ⟨g, 1, none⟩ = some (.int .i64 (total rs)) ∧ Rd w 3 A rs.length (runsV rs) := by
  obtain ⟨F, ⟨g, hl, v, G, K, eF, ⟨hb, -⟩, ⟨hr, -⟩, -⟩, -⟩ := H.change i hi
  obtain ⟨A, c, rfl, -, -⟩ := row_shape hr
  exact ⟨g, A, c, hl, lt_of_heap hb, by rw [cell_of_row w g 0 _ _ _ hb]; rfl, by rw [cell_of_row w g 1 _ _ _ hb]; rfl, Rd.of_own hr⟩

theorem runsV_one (rs : List RunT) : ∀ u ∈ runsV rs, u.oneCell' = true := by
  intro u hu
  obtain ⟨r, -, hr⟩ := List.mem_flatMap.1 hu
  simp [runV] at hr
  rcases hr with rfl | rfl | rfl <;> rfl

set_option maxHeartbeats 400000 in
theorem ledger_runs {l : Value} {r : Option (List RunT)} (b : Int) (H : St w0 F0 w E) (i : Nat) (hi : E i = some (led l r)) (hg : LGood r b) (hb : b ≤ 1000000) (k : Nat) (hk : E k = Option.none) :
    Calls Try.prog 18 #[l] w fun e w' => ∃ v, e = .returned v ∧ St w0 F0 w' (upd E k (runsO v (r.getD []))) := by
  cases r with
  | none =>
    obtain ⟨rfl, H1⟩ := H.openFact i hi
    go_enter Try.func18, Try.ntmps18
    go_wp2
    go_ret
    exact ⟨_, rfl, H.nilRow k hk _ _⟩
  | some rs =>
    obtain ⟨i0, hi0, hz0, hz1, hz2⟩ := info_parts run_info
    obtain ⟨g, A, c, rfl, hlt, c0, -, hr⟩ := H.ledRead i hi
    have hl := (hg rs rfl).length
    unfold lptr
    go_enter Try.func18, Try.ntmps18
    go_wp2_with (at_builtin; refine wpList_append_any _ rfl (.tmp 5) (.tmp 9) _ rfl w.heap.size 58 i0 _ 3 24 Try.underlying43 hi0 hz0 hz1 hz2 rfl (by omega) (.slice (some ⟨w.heap.size, 0, none⟩) 0 0) 0 [] rfl (World.ownsRow_made _ _ 0 (Nat.le_refl _) (by simp [maxLen]) rfl) A rs.length c (runsV rs) rfl (hr.below ((Below.refl _ _).alloc (Nat.le_refl _) _)) (runsV_one rs) (by simp only [maxLen]; omega) (by omega) (by simp) ?_; intro v1 w1 hown1 hg1 hat1)
    go_ret
    refine ⟨_, rfl, H.pushRow k hk (((Below.refl _ _).alloc (Nat.le_refl _) _).grown hg1 (by simp) (fun g hg => by simp [Value.ownBlock] at hg; omega)) ?_⟩
    have h := hown1
    rw [Nat.zero_add, List.nil_append] at h
    exact h

set_option maxHeartbeats 400000 in
theorem sameRuns_any (A B : Option Addr) (c d : Nat) (xs ys : List RunT) (ha : Rd w 3 A xs.length (runsV xs)) (hb : Rd w 3 B ys.length (runsV ys)) (hn : xs.length ≤ 1000000000) (hm : ys.length ≤ 1000000000) :
    Calls Try.prog 17 #[.slice A xs.length c, .slice B ys.length d] w fun e w' => e = .returned (.bool (decide (xs = ys))) ∧ ∃ k, w' = w.drewN k := by
  by_cases hnm : xs.length = ys.length
  · have Hl := Lib.hid hnm
    have h0 : ((xs.length : Int) != (ys.length : Int)) = false := by rw [hnm]; simp
    clear hnm
    go_enter Try.func17, Try.ntmps17
    go_wp2
    clear h0
    go_loopw [5] (fun i wr => ∃ k q : Nat, k ≤ xs.length ∧ i = .int .i64 k ∧ wr = w.drewN q ∧ Hid (xs.take k = ys.take k)) (fun i _ => xs.length - (intOf i).toNat)
    case atStart => exact ⟨0, 0, Nat.zero_le _, rfl, rfl, rfl⟩
    case round =>
      obtain ⟨k, q, hk, rfl, rfl, hpre⟩ := hrel
      by_cases hlt : k < xs.length
      · have hlt' : k < ys.length := by rw [← Hl.out]; exact hlt
        obtain ⟨⟨x1, x2, x3⟩, hx⟩ : ∃ r, xs[k]? = some r := ⟨_, List.getElem?_eq_getElem hlt⟩
        obtain ⟨⟨y1, y2, y3⟩, hy⟩ : ∃ r, ys[k]? = some r := ⟨_, List.getElem?_eq_getElem hlt'⟩
        obtain ⟨p, o, rfl, -, hcx⟩ := ha.flat (by omega) (by omega)
        obtain ⟨p', o', rfl, -, hcy⟩ := hb.flat (by omega) (by omega)
        have a0 := hcx (k * 3 + 0) _ (runsV_get xs k 0 _ hx (by omega))
        have a1 := hcx (k * 3 + 1) _ (runsV_get xs k 1 _ hx (by omega))
        have a2 := hcx (k * 3 + 2) _ (runsV_get xs k 2 _ hx (by omega))
        have b0 := hcy (k * 3 + 0) _ (runsV_get ys k 0 _ hy (by omega))
        have b1 := hcy (k * 3 + 1) _ (runsV_get ys k 1 _ hy (by omega))
        have b2 := hcy (k * 3 + 2) _ (runsV_get ys k 2 _ hy (by omega))
        have HX := Lib.hid hx
        have HY := Lib.hid hy
        clear hx hy hcx hcy
        rw [Nat.add_zero] at a0 b0
        rw [← Nat.add_assoc] at a1 a2 b1 b2
        have hk1 : (k : Int) < (xs.length : Int) := by omega
        have hk2 : (k : Int) < (ys.length : Int) := by omega
        go_wp2
        by_cases hxy : (x1, x2, x3) = ((y1, y2, y3) : RunT)
        · simp only [Prod.mk.injEq] at hxy
          obtain ⟨rfl, rfl, rfl⟩ := hxy
          go_quiet (fail)
          clear hk1 hk2
          go_wp2
          go_roundw
          case rel => exact ⟨k + 1, q + nq, by omega, by go_num, by simp, take_succ_eq hpre.out HX.out HY.out⟩
          case measure => simp [intOf]; omega
        · have hq : (x1 == y1) = false ∨ (x1 = y1 ∧ (x2 == y2) = false) ∨ (x1 = y1 ∧ x2 = y2 ∧ (x3 == y3) = false) := by
            by_cases h1 : x1 = y1
            · by_cases h2 : x2 = y2
              · exact .inr (.inr ⟨h1, h2, by simpa using fun h => hxy (by rw [h1, h2, h])⟩)
              · exact .inr (.inl ⟨h1, by simpa using h2⟩)
            · exact .inl (by simpa using h1)
          rcases hq with hq | ⟨rfl, hq⟩ | ⟨rfl, rfl, hq⟩
          all_goals
            go_quiet (fail)
            clear hk1 hk2
            go_wp2
            go_ret
            refine ⟨ret_bool ?_, q + nq, by simp⟩
            symm; simp only [decide_eq_false_iff_not]
            rintro rfl
            have a := HX.out
            have b := HY.out
            rw [a] at b
            exact hxy (Option.some.inj b)
      · go_wp2
        go_ret
        refine ⟨ret_bool ?_, q, rfl⟩
        symm; simp only [decide_eq_true_eq]
        have h := hpre.out
        have a := Hl.out
        rwa [List.take_of_length_le (by omega), List.take_of_length_le (by omega)] at h
  · have h0 : ((xs.length : Int) != (ys.length : Int)) = true := by simp only [bne_iff_ne, ne_eq]; omega
    have Hl := Lib.hid hnm
    clear hnm
    go_enter Try.func17, Try.ntmps17
    go_wp2
    go_ret
    refine ⟨ret_bool ?_, 0, rfl⟩
    symm; simp only [decide_eq_false_iff_not]
    rintro rfl
    exact Hl.out rfl
end
end Go.Proofs.Ythoopaknldkclaa
