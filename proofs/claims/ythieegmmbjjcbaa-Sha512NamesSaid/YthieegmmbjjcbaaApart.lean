/- ApartBytes: of slices of bytes that the call owns, no two on one block: it answers true, whatever they hold. -/
import Derived.Test.YthieegmmbjjcbaaRows
import Derived.Test.YthieegmmbjjcbaaLib
import Derived.Test.YthieegmmbjjcbaaKitB
import Derived.Test.YthieegmmbjjcbaaHeap
namespace Go.Proofs.Ythieegmmbjjcbaa
open Go.RowKit

theorem lb_info : (Try.prog.info? 22).map (fun i => (i.zero, i.size, i.bytes)) = some (some (.slice none 0 0), 1, 24) := by kernel_rfl

/-- the list that is handed in -/
def LR (w : World) (gL N cL : Nat) (vs : List Value) : Prop := w.ownsRow 0 22 1 (.slice (some ⟨gL, 0, none⟩) N cL) N vs
theorem LR.cell {w : World} {gL N cL k : Nat} {vs : List Value} (h : LR w gL N cL vs) (hk : k < N) : w.cell? ⟨gL, k, none⟩ = some (vs.getD k (.slice none 0 0)) := by
  have hl := h.1
  have := World.ownsRow.cellAt h k (by omega)
  rw [this, List.getD_eq_getElem?_getD, List.getElem?_eq_getElem (by omega)]
  rfl
theorem LR.ne {w : World} {gL N cL base : Nat} {vs : List Value} {v : Value} {l : List UInt8} (h : LR w gL N cL vs) (ho : OwnB w base v l) : v.ownBlock ≠ some gL := by
  rcases h.2 with ⟨h', _⟩ | ⟨g', cap', cur, h', _, hg, _⟩
  · cases h'
  injection h' with h1
  injection h1 with h1
  injection h1 with h1
  subst h1
  rcases ho.2 with ⟨rfl, _⟩ | ⟨g, cap, cur', rfl, _, hgg, _⟩
  · simp [Value.ownBlock]
  · intro e
    have : g = gL := by simpa [Value.ownBlock] using e
    subst this
    rw [hg] at hgg
    injection hgg with hgg
    injection hgg with _ h2
    exact absurd h2 (by decide)
theorem LR.below {w w' : World} {gL N cL : Nat} {vs : List Value} (h : LR w gL N cL vs) (hb : Below w.heap.size w w') : LR w' gL N cL vs :=
  World.ownsRow.kept h (row := none) ⟨hb.os, hb.tape, hb.output, hb.size, fun k hk _ => hb.block k hk⟩ (.inr (by simp [Value.ownBlock]))
theorem LR.kept' {w w' : World} {gL N cL : Nat} {vs : List Value} {row : Option Nat} (h : LR w gL N cL vs) (hg : w.grownBy w' row) (hne : row ≠ some gL) : LR w' gL N cL vs :=
  World.ownsRow.kept h hg (.inr (by simp only [Value.ownBlock]; exact fun e => hne e.symm))
theorem LR.kept {w w' : World} {gL N cL g : Nat} {vs : List Value} (h : LR w gL N cL vs) (hg : w.grownBy w' (some g)) (hne : g ≠ gL) : LR w' gL N cL vs :=
  World.ownsRow.kept h hg (.inr (by simp [Value.ownBlock]; exact fun e => hne e.symm))

/-- after round k of the first loop -/
def F1 (vs : List Value) (ls : List (List UInt8)) (k : Nat) : Nat → List (Value × List UInt8) := fun j =>
  [(vs.getD j (.slice none 0 0), if j < k then marksB (j + 10) 0 (ls.getD j []).length else ls.getD j [])]
def F1i (vs : List Value) (ls : List (List UInt8)) (k i : Nat) : Nat → List (Value × List UInt8) := fun j =>
  if j = k then [(vs.getD k (.slice none 0 0), marksB (k + 10) 0 i ++ (ls.getD k []).drop i)] else F1 vs ls k j
theorem Fam.one {w : World} {base N j : Nat} {F : Nat → List (Value × List UInt8)} {v : Value} {l : List UInt8} (h : Fam w base N F) (hj : j < N) (hF : F j = [(v, l)]) : OwnB w base v l := h.own j hj (v, l) (by rw [hF]; simp)
theorem F1_at (vs : List Value) (ls : List (List UInt8)) (k : Nat) : F1 vs ls k k = [(vs.getD k (.slice none 0 0), ls.getD k [])] := by simp [F1]
theorem F1i_zero (vs : List Value) (ls : List (List UInt8)) (k : Nat) : F1i vs ls k 0 = F1 vs ls k := by
  funext j
  unfold F1i F1
  by_cases h : j = k
  · subst h; simp [marksB]
  · simp [h]
theorem F1i_end (vs : List Value) (ls : List (List UInt8)) (k : Nat) : F1i vs ls k (ls.getD k []).length = F1 vs ls (k + 1) := by
  funext j
  unfold F1i F1
  by_cases h : j = k
  · subst h; simp [marksB]
  · have : (j < k + 1) ↔ (j < k) := by omega
    simp [h, this]
theorem F1i_at (vs : List Value) (ls : List (List UInt8)) (k i : Nat) : F1i vs ls k i k = [(vs.getD k (.slice none 0 0), marksB (k + 10) 0 i ++ (ls.getD k []).drop i)] := by simp [F1i]
theorem F1i_succ (vs : List Value) (ls : List (List UInt8)) (k i : Nat) (h : i < (ls.getD k []).length) :
    (fun j => if j = k then [(vs.getD k (.slice none 0 0), (marksB (k + 10) 0 i ++ (ls.getD k []).drop i).set i (markB (k + 10) i))] else F1i vs ls k i j) = F1i vs ls k (i + 1) := by
  have hs := over_step (m := k + 10) h
  rw [Nat.zero_add] at hs
  funext j
  by_cases hj : j = k
  · subst hj; simp only [F1i, if_true]; rw [hs]
  · simp only [F1i, hj, if_false]

/-- after round k of the second loop: beside each slice, from 0 to k - 1, what it was gone on with -/
def F2 (vs : List Value) (ls : List (List UInt8)) (Gs : List Value) (k : Nat) : Nat → List (Value × List UInt8) := fun j =>
  if j < k then [(vs.getD j (.slice none 0 0), marksB (j + 10) 0 (ls.getD j []).length), (Gs.getD j (.slice none 0 0), marksB (j + 10) 0 ((ls.getD j []).length + 6))]
  else [(vs.getD j (.slice none 0 0), marksB (j + 10) 0 (ls.getD j []).length)]
def F2i (vs : List Value) (ls : List (List UInt8)) (Gs : List Value) (k : Nat) (g : Value) (i : Nat) : Nat → List (Value × List UInt8) := fun j =>
  if j = k then [(vs.getD k (.slice none 0 0), marksB (k + 10) 0 (ls.getD k []).length), (g, marksB (k + 10) 0 ((ls.getD k []).length + i))] else F2 vs ls Gs k j
theorem F2_start (vs : List Value) (ls : List (List UInt8)) (N : Nat) : ∀ j, j < N → F2 vs ls [] 0 j = F1 vs ls N j := by
  intro j hj
  simp [F1, F2, hj]
theorem F2_at (vs : List Value) (ls : List (List UInt8)) (Gs : List Value) (k : Nat) : F2 vs ls Gs k k = [(vs.getD k (.slice none 0 0), marksB (k + 10) 0 (ls.getD k []).length)] := by simp [F2]
theorem F2i_zero (vs : List Value) (ls : List (List UInt8)) (Gs : List Value) (k : Nat) :
    (fun j => if j = k then [((vs.getD k (.slice none 0 0)), marksB (k + 10) 0 (ls.getD k []).length), ((vs.getD k (.slice none 0 0)), marksB (k + 10) 0 (ls.getD k []).length)] else F2 vs ls Gs k j) = F2i vs ls Gs k (vs.getD k (.slice none 0 0)) 0 := by
  funext j; simp [F2i]
theorem F2i_at (vs : List Value) (ls : List (List UInt8)) (Gs : List Value) (k : Nat) (g : Value) (i : Nat) : F2i vs ls Gs k g i k = [(vs.getD k (.slice none 0 0), marksB (k + 10) 0 (ls.getD k []).length), (g, marksB (k + 10) 0 ((ls.getD k []).length + i))] := by simp [F2i]
theorem F2i_succ (vs : List Value) (ls : List (List UInt8)) (Gs : List Value) (k : Nat) (g g' : Value) (i : Nat) :
    (fun j => if j = k then [(vs.getD k (.slice none 0 0), marksB (k + 10) 0 (ls.getD k []).length), (g', marksB (k + 10) 0 ((ls.getD k []).length + (i + 1)))] else F2i vs ls Gs k g i j) = F2i vs ls Gs k g' (i + 1) := by
  funext j
  by_cases hj : j = k <;> simp [F2i, hj]
theorem F2i_end (vs : List Value) (ls : List (List UInt8)) (Gs : List Value) (k : Nat) (g : Value) (hG : Gs.length = k) : F2i vs ls Gs k g 6 = F2 vs ls (Gs ++ [g]) (k + 1) := by
  funext j
  by_cases hj : j = k
  · subst hj; subst hG; simp [F2i, F2]
  · simp only [F2i, hj, if_false, F2]
    by_cases hjk : j < k
    · have h1 : j < k + 1 := by omega
      have h2 : (Gs ++ [g]).getD j (.slice none 0 0) = Gs.getD j (.slice none 0 0) := by
        rw [List.getD_eq_getElem?_getD, List.getD_eq_getElem?_getD, List.getElem?_append_left (by omega)]
      simp only [hjk, h1, if_true, h2]
    · have h1 : ¬ j < k + 1 := by omega
      simp only [hjk, h1, if_false]
theorem marksB_take (k s n m : Nat) (h : n ≤ m) : marksB k s n = (marksB k s m).take n := by
  simp [marksB, ← List.map_take, List.take_range, Nat.min_eq_left h]

theorem marksB_get {a n i : Nat} (h : i < n) : (marksB a 0 n)[i]? = some (markB a i) := by
  simp [marksB, h]
theorem OwnB.markAt {w : World} {base a n m c i : Nat} {A : Option Addr} (h : OwnB w base (.slice A m c) (marksB a 0 n)) (hi : i < n) :
    ∃ g, A = some ⟨g, 0, none⟩ ∧ w.cell? ⟨g, i, none⟩ = some (.int .u8 ((markB a i).toNat : Int)) := by
  have hm := h.len_eq
  rw [marksB_length] at hm
  obtain ⟨g, rfl, -⟩ := h.form (by omega)
  obtain ⟨x, hx, hc⟩ := h.cellAt (k := i) (by rw [marksB_length]; exact hi)
  rw [marksB_get hi] at hx
  injection hx with hx
  subst hx
  exact ⟨g, rfl, hc⟩
theorem LR.lit (w : World) (cs : Array Value) (n : Nat) (hn : cs.size = n) (h : n ≤ 1000) : LR (w.alloc (.cells cs 22)) w.heap.size n n cs.toList :=
  World.ownsRow_lit w cs n (Nat.zero_le _) (by simp only [maxLen]; omega) (by omega)
theorem LR.name {w : World} {gL N cL : Nat} {vs : List Value} (h : LR w gL N cL vs) : ∃ us, us = vs ∧ LR w gL N cL us := ⟨vs, rfl, h⟩
theorem LR.lt {w : World} {gL N cL : Nat} {vs : List Value} (h : LR w gL N cL vs) : gL < w.heap.size := (World.ownsRow.lt h gL rfl).2

set_option maxRecDepth 100000 in
set_option maxHeartbeats 2000000 in
theorem apartBytes_any (gL N cL base : Nat) (vs : List Value) (ls : List (List UInt8)) (w : World) (hL : LR w gL N cL vs) (hF : Fam w base N (F1 vs ls 0)) (hN : N ≤ 1000) (hbase : base ≤ w.heap.size)
    (hlen : ∀ j, j < N → (ls.getD j []).length ≤ 140737488355320) :
    Calls Try.prog 18 #[.slice (some ⟨gL, 0, none⟩) N cL] w fun e w' => e = .returned (.bool true) ∧ Below base w w' := by
  obtain ⟨i0, hi0, hz0, hz1, hz2⟩ := info_parts u8_info
  obtain ⟨i1, hi1, hy0, hy1, hy2⟩ := info_parts lb_info
  have HL := Lib.hid hlen
  clear hlen
  go_enter Try.func18, Try.ntmps18
  go_wp2
  go_loopw [3] (fun i wr => ∃ k : Nat, k ≤ N ∧ i = .int .i64 k ∧ Fam wr base N (F1 vs ls k) ∧ LR wr gL N cL vs ∧ Below base w wr) (fun i _ => N - (intOf i).toNat)
  case atStart => exact ⟨0, Nat.zero_le _, rfl, hF, hL, Below.refl _ _⟩
  case round =>
    obtain ⟨k, hk, rfl, hFk, hLk, hBk⟩ := hrel
    by_cases hlt : k < N
    · have hcell := hLk.cell hlt
      have hown := hFk.one hlt (F1_at vs ls k)
      obtain ⟨A, n, c, hv, hn, -⟩ := hown.shape
      have hnb : n ≤ 140737488355320 := by rw [hn.out]; exact HL.out k hlt
      rw [hv] at hcell
      have HV := Lib.hid hv
      clear hv hown
      obtain ⟨wo, rfl⟩ : ∃ wo : World, wo = wr := ⟨_, rfl⟩
      go_wp2
      go_loopw [4] (fun i wr => ∃ q : Nat, q ≤ n ∧ i = .int .i64 q ∧ Fam wr base N (F1i vs ls k q) ∧ LR wr gL N cL vs ∧ Below base w wr) (fun i _ => n - (intOf i).toNat)
      case atStart => exact ⟨0, Nat.zero_le _, rfl, by rw [F1i_zero]; exact hFk, hLk, hBk⟩
      case round =>
        obtain ⟨q, hq, rfl, hFq, hLq, hBq⟩ := hrel
        have hcellq := hLq.cell hlt
        rw [HV.out] at hcellq
        clear hcell
        by_cases hlq : q < n
        · have hFk' := F1i_at vs ls k q
          rw [HV.out] at hFk'
          have hown := hFq.one hlt hFk'
          obtain ⟨g, rfl, hbg, hgs⟩ := hown.form (by omega)
          obtain ⟨x, -, hcb⟩ := hown.cellAt (k := q) (by have := hn.out; simp only [List.length_append, marksB_length, List.length_drop]; omega)
          have hfr := hown.frozenAt q
          have hst := hFq.store hlt hFk' q (markB (k + 10) q)
          have hgr := (hown.stored q (markB (k + 10) q)).2
          have hne : g ≠ gL := fun e => hLq.ne hown (by rw [e]; rfl)
          have HFK := Lib.hid hFk'
          clear hFk'
          go_wp2
          have hw1 : IntKind.i64.wrap ((k : Int) + 10) = (k : Int) + 10 := IntWalk.i64_in _ (by omega)
          go_still_tail 10, (by kernel_rfl)
          clear hw1
          still_call ((markB_at (a := (k : Int) + 10) (k + 10) q (by omega) rfl _ (by omega) (by omega)).mono fun _ _ h => ⟨h.1, h.2.symm⟩)
          repeat still_step
          refine wpStill_nil ?_
          go_wp2
          go_roundw
          case rel =>
            refine ⟨q + 1, by omega, by go_num, ?_, hLq.kept (grownBy_drew hgr) hne, (hBq.grown (grownBy_drew hgr) (by have := hBq.size; omega) (fun g' h => by injection h with h; omega))⟩
            have e := F1i_succ vs ls k q (by have := hn.out; omega)
            rw [HV.out] at e
            rw [← e]
            exact hst.drew
          case measure => simp [intOf]; omega
        · have hqn : q = n := by omega
          subst hqn
          go_wp2
          go_roundw
          case rel => exact ⟨k + 1, by omega, by go_num, by rw [← F1i_end, ← hn.out]; exact hFq, hLq, hBq⟩
          case measure => simp [intOf]; omega
    · have hkN : N = k := by omega
      subst hkN
      go_wp2
      go_loopw [5, 6] (fun v i wr => ∃ (k : Nat) (Gs : List Value), k ≤ N ∧ i = .int .i64 k ∧ Hid (Gs.length = k) ∧ Fam wr base N (F2 vs ls Gs k) ∧ LR wr gL N cL vs ∧ wr.ownsRow w.heap.size 22 1 v k Gs ∧ Below base w wr) (fun _ i _ => N - (intOf i).toNat)
      case atStart => exact ⟨0, [], Nat.zero_le _, rfl, rfl, hFk.congr (F2_start vs ls N), hLk, World.ownsRow_nil _ _ _ _, hBk⟩
      case round =>
        clear hFk hLk hBk
        obtain ⟨k, Gs, hk, rfl, hGs, hFk, hLk, hGk, hBk⟩ := hrel
        by_cases hlt : k < N
        · have hcell := hLk.cell hlt
          have hFa := F2_at vs ls Gs k
          have hown := hFk.one hlt hFa
          obtain ⟨A, n, c, hv, hn, -⟩ := hown.shape
          rw [marksB_length] at hn
          have hnb : n ≤ 140737488355320 := by rw [hn.out]; exact HL.out k hlt
          have hd := hFk.dup hFa
          rw [F2i_zero] at hd
          rw [hv] at hcell hd
          have HV := Lib.hid hv
          clear hv hown hFa
          obtain ⟨wo, rfl⟩ : ∃ wo : World, wo = wr := ⟨_, rfl⟩
          go_wp2
          go_loopw [7, 8] (fun v i wr => ∃ q : Nat, q ≤ 6 ∧ i = .int .i64 q ∧ Fam wr base N (F2i vs ls Gs k v q) ∧ LR wr gL N cL vs ∧ wr.ownsRow w.heap.size 22 1 u5 k Gs ∧ Below base w wr) (fun _ i _ => 6 - (intOf i).toNat)
          case atStart => exact ⟨0, Nat.zero_le _, rfl, hd, hLk, hGk, hBk⟩
          case round =>
            clear hFk hLk hGk hBk hcell hd
            obtain ⟨q, hq, rfl, hFq, hLq, hGq, hBq⟩ := hrel
            have hcell := hLq.cell hlt
            rw [HV.out] at hcell
            by_cases hlq : q < 6
            · have hFa := F2i_at vs ls Gs k u7 q
              have ho7 : OwnB wr base u7 (marksB (k + 10) 0 (n + q)) := hFq.own k hlt (u7, _) (by rw [hFa, hn.out]; exact List.mem_cons_of_mem _ (List.mem_singleton.2 rfl))
              have hbs : base ≤ wr.heap.size := by have := hBq.size; omega
              have ho7r : (wr.alloc (.cells #[vb (markB (k + 10) (n + q))] 5)).ownsRow base 5 1 u7 (n + q) ((marksB (k + 10) 0 (n + q)).map vb) := by
                have := ho7.alloc (.cells #[vb (markB (k + 10) (n + q))] 5)
                unfold OwnB at this
                rwa [marksB_length] at this
              have HFA := Lib.hid hFa
              clear hFa
              go_wp2_with (first | (go_at_call 31; refine (markB_at (a := (k : Int) + 10) (b := (n : Int) + q) (k + 10) (n + q) (by omega) (by omega) _ (by omega) (by omega)).mono ?_; rintro e w2 ⟨rfl, rfl⟩) | (at_builtin; refine wpList_append_two _ rfl (.tmp 50) (.tmp 61) 22 rfl base 5 i0 (.int .u8 0) 1 Try.underlying22 hi0 hz0 hz1 hz2 rfl _ _ _ rfl ho7r ⟨wr.heap.size, 0, none⟩ 1 1 [vb (markB (k + 10) (n + q))] rfl (by omega) rfl (cell_one_new _ _ _) (by simp [Value.oneCell']) (by simp only [maxLen]; omega) (by omega) (by simp; omega) ?_; intro v2 w2 ho2 hcase))
              have ho3 := OwnB.of_mark ho2
              have hgr := two_grown hcase
              have hF3 := (hFq.alloc (.cells #[vb (markB (k + 10) (n + q))] 5)).append hlt HFA.out (by rw [marksB_length, marksB_length]; omega) (by rw [marksB_length]; exact marksB_take _ _ _ _ (by omega)) (by rw [marksB_length, ← hn.out]; exact marksB_take _ _ _ _ (by omega)) ho3 hcase
              have hL3 := LR.kept' (World.ownsRow.alloc hLq (.cells #[vb (markB (k + 10) (n + q))] 5)) hgr (hLq.ne ho7)
              have hG3 := (hGq.alloc (.cells #[vb (markB (k + 10) (n + q))] 5)).kept hgr (rows_ne hGq ho7 (by decide))
              have hB3 := (hBq.alloc hbs (.cells #[vb (markB (k + 10) (n + q))] 5)).grown hgr (by simp; omega) (fun g e => (ho7.lt g e).1)
              go_roundw
              case rel =>
                refine ⟨q + 1, by omega, by go_num, ?_, hL3, hG3, hB3⟩
                rw [← F2i_succ, ← hn.out, ← Nat.add_assoc]
                rw [← hn.out] at hF3
                exact hF3
              case measure => simp [intOf]; omega
            · have hq6 : q = 6 := by omega
              subst hq6
              clear hcell
              have hbs : w.heap.size ≤ wr.heap.size := hBq.size
              have ho7 : OwnB wr base u7 (marksB (k + 10) 0 (n + 6)) := hFq.own k hlt (u7, _) (by rw [F2i_at, hn.out]; exact List.mem_cons_of_mem _ (List.mem_singleton.2 rfl))
              obtain ⟨A7, n7, c7, rfl, -⟩ := ho7.shape
              have hgn : Gs.length ≤ 1000 := by have := hGs.out; omega
              rw [F2i_end _ _ _ _ _ hGs.out] at hFq
              go_wp2_with (at_builtin; refine wpList_append_own _ rfl (.tmp 63) (.tmp 65) 36 rfl w.heap.size 22 i1 (.slice none 0 0) 1 24 Try.underlying36 hi1 hy0 hy1 hy2 rfl (by decide) _ _ _ rfl (hGq.alloc _) ⟨wr.heap.size, 0, none⟩ 1 1 [.slice A7 n7 c7] rfl rfl (cell_one_new _ _ _) (by simp [Value.oneCell']) (by simp only [maxLen]; omega) (by omega) (by simp; omega) ?_; intro v2 w2 ho2 hgr hnil)
              have hgL := hL.lt
              have hF3 := (hFq.alloc (.cells #[.slice A7 n7 c7] 22)).kept hgr (fun j hj p hp => rows_ne (hFq.own j hj p hp) hGq (by decide))
              have hL3 := LR.kept' (World.ownsRow.alloc hLq (.cells #[.slice A7 n7 c7] 22)) hgr (fun e => by have := (hGq.lt _ e).1; omega)
              have hB3 := (hBq.alloc (by omega) (.cells #[.slice A7 n7 c7] 22)).grown hgr (by simp; omega) (fun g e => by have := (hGq.lt g e).1; omega)
              go_roundw
              case rel => exact ⟨k + 1, Gs ++ [.slice A7 n7 c7], by omega, by go_num, by rw [List.length_append, hGs.out]; rfl, hF3, hL3, ho2, hB3⟩
              case measure => simp [intOf]; omega
        · have hkN : N = k := by omega
          subst hkN
          obtain ⟨w3, rfl⟩ : ∃ w3 : World, w3 = wr := ⟨_, rfl⟩
          go_wp2
          go_loopw [9] (fun i wr => ∃ k q : Nat, k ≤ N ∧ i = .int .i64 k ∧ wr = w3.drewN q) (fun i _ => N - (intOf i).toNat)
          case atStart => exact ⟨0, 0, Nat.zero_le _, rfl, rfl⟩
          case round =>
            obtain ⟨k, q, hk, rfl, rfl⟩ := hrel
            by_cases hlt : k < N
            · obtain ⟨gG, cG, rfl, hgG, -⟩ := World.ownsRow.form hGk (by omega)
              have hkG : k < Gs.length := by have := hGs.out; omega
              have hcG : w3.cell? ⟨gG, k, none⟩ = some Gs[k] := by rw [World.ownsRow.cellAt hGk k (by omega), List.getElem?_eq_getElem hkG]
              have hcell := hLk.cell hlt
              have hFa : F2 vs ls Gs N k = [(vs.getD k (.slice none 0 0), marksB (k + 10) 0 (ls.getD k []).length), (Gs[k], marksB (k + 10) 0 ((ls.getD k []).length + 6))] := by
                simp only [F2, hlt, if_true]
                rw [List.getD_eq_getElem?_getD (l := Gs), List.getElem?_eq_getElem hkG]
                rfl
              have hoV := hFk.own k hlt (vs.getD k (.slice none 0 0), _) (by rw [hFa]; exact List.mem_cons_self)
              have hoG := hFk.own k hlt (Gs[k], _) (by rw [hFa]; exact List.mem_cons_of_mem _ (List.mem_singleton.2 rfl))
              simp only at hoV hoG
              obtain ⟨A, n, c, hv, hn, -⟩ := hoV.shape
              obtain ⟨A', n', c', hv', hn', -⟩ := hoG.shape
              have hnb : n ≤ 140737488355320 := by rw [hn.out, marksB_length]; exact HL.out k hlt
              have hnn : n' = n + 6 := by rw [hn.out, hn'.out, marksB_length, marksB_length]
              have hlen := hn.out
              rw [marksB_length] at hlen
              rw [← hlen, hv] at hoV
              rw [← hlen, hv'] at hoG
              rw [hv] at hcell
              rw [hv'] at hcG
              subst hnn
              clear hv hv' hn hn' hlen hFa
              go_wp2
              go_loopw [10] (fun i wr => ∃ t q : Nat, t ≤ n + 6 ∧ i = .int .i64 t ∧ wr = w3.drewN q) (fun i _ => n + 6 - (intOf i).toNat)
              case atStart => exact ⟨0, q, Nat.zero_le _, rfl, rfl⟩
              case round =>
                obtain ⟨t, q', ht, rfl, rfl⟩ := hrel
                by_cases hlt' : t < n + 6
                · obtain ⟨g', rfl, hcg'⟩ := hoG.markAt hlt'
                  have hw1 : IntKind.i64.wrap ((k : Int) + 10) = (k : Int) + 10 := IntWalk.i64_in _ (by omega)
                  have hb1 : (((markB (k + 10) t).toNat : Int) != ((markB (k + 10) t).toNat : Int)) = false := by simp
                  by_cases hln : t < n
                  · obtain ⟨g, rfl, hcg⟩ := hoV.markAt hln
                    have hb2 : decide ((t : Int) < n) = true := by simp; omega
                    go_wp2
                    go_quiet ((go_at_call 31; exact quiet_add_left ((markB_at (a := (k : Int) + 10) (k + 10) t (by omega) rfl _ (by omega) (by omega)))))
                    go_wp2
                    go_roundw
                    case rel => exact ⟨t + 1, q' + nq, by omega, by go_num, by simp⟩
                    case measure => simp [intOf]; omega
                  · have hb2 : decide ((t : Int) < n) = false := by simp; omega
                    go_wp2
                    go_quiet ((go_at_call 31; exact quiet_add_left ((markB_at (a := (k : Int) + 10) (k + 10) t (by omega) rfl _ (by omega) (by omega)))))
                    go_wp2
                    go_roundw
                    case rel => exact ⟨t + 1, q' + nq, by omega, by go_num, by simp⟩
                    case measure => simp [intOf]; omega
                · go_wp2
                  go_roundw
                  case rel => exact ⟨k + 1, q', by omega, by go_num, rfl⟩
                  case measure => simp [intOf]; omega
            · go_wp2
              go_ret
              exact ⟨rfl, bdrewN hBk q⟩

theorem Hp.fam {w : World} {base : Nat} {ps : List (Value × List UInt8)} (h : Hp w base ps) : Fam w base ps.length (F1 (ps.map (·.1)) (ps.map (·.2)) 0) := by
  have key : ∀ j, j < ps.length → ∃ p, ps[j]? = some p ∧ F1 (ps.map (·.1)) (ps.map (·.2)) 0 j = [p] := by
    intro j hj
    refine ⟨ps[j], List.getElem?_eq_getElem hj, ?_⟩
    simp [F1, List.getElem?_eq_getElem hj]
  refine ⟨fun j hj p hp => ?_, fun i j hi hj hij p hp q hq => ?_⟩
  · obtain ⟨r, hr, e⟩ := key j hj
    rw [e] at hp
    rw [List.mem_singleton.1 hp]
    exact h.own j r hr
  · obtain ⟨r, hr, e⟩ := key i hi
    obtain ⟨t, ht, e'⟩ := key j hj
    rw [e] at hp
    rw [e'] at hq
    rw [List.mem_singleton.1 hp, List.mem_singleton.1 hq]
    exact h.apart i j r t hij hr ht

/-- ApartBytes at a list just written out of slices of the call's own. -/
theorem apartBytes_lit {w0 w : World} {ps : List (Value × List UInt8)} (h : OSt w0 w ps) (qs : List (Value × List UInt8)) (is : List Nat) (hn : is.Nodup) (hq : qs.map some = is.map fun i => ps[i]?) (n : Nat) (hN : qs.length = n) (hN' : n ≤ 1000)
    (hlen : ∀ p ∈ qs, p.2.length ≤ 140737488355320) (cs : Array Value) (hcs : cs = (qs.map (·.1)).toArray) :
    Calls Try.prog 18 #[.slice (some ⟨w.heap.size, 0, none⟩) n n] (w.alloc (.cells cs 22)) fun e w' => e = .returned (.bool true) ∧ Below w0.heap.size w0 w' := by
  subst hN hcs
  have hsz := h.low.size
  have hL : LR (w.alloc (.cells (qs.map (·.1)).toArray 22)) w.heap.size qs.length qs.length (qs.map (·.1)) := by
    have := World.ownsRow_lit (base := 0) (e := 22) (size := 1) w (qs.map (·.1)).toArray qs.length (Nat.zero_le _) (by simp only [maxLen]; omega) (by simp)
    simpa [LR] using this
  have h1 := h.call ((Below.refl _ _).alloc (Nat.le_refl _) (.cells (qs.map (·.1)).toArray 22))
  have hF := (h1.hp.sel is hn hq).fam
  refine (apartBytes_any w.heap.size qs.length qs.length w0.heap.size _ _ _ hL hF hN' (by simp; omega) ?_).mono fun e w' he => ⟨he.1, h1.low.trans he.2⟩
  intro j hj
  rw [List.getD_eq_getElem?_getD, List.getElem?_map, List.getElem?_eq_getElem hj]
  exact hlen _ (List.getElem_mem hj)

theorem apartBytes_list {w0 w : World} {ps : List (Value × List UInt8)} (h : OSt w0 w ps) (qs : List (Value × List UInt8)) (is : List Nat) (hn : is.Nodup) (hq : qs.map some = is.map fun i => ps[i]?) (n gL cL : Nat) (vs : List Value) (hL : LR w gL n cL vs)
    (hvs : vs = qs.map (·.1)) (hN : qs.length = n) (hN' : n ≤ 1000) (hlen : ∀ p ∈ qs, p.2.length ≤ 140737488355320) :
    Calls Try.prog 18 #[.slice (some ⟨gL, 0, none⟩) n cL] w fun e w' => e = .returned (.bool true) ∧ Below w0.heap.size w0 w' := by
  subst hN hvs
  have hF := (h.hp.sel is hn hq).fam
  refine (apartBytes_any gL qs.length cL w0.heap.size _ _ _ hL hF hN' h.low.size ?_).mono fun e w' he => ⟨he.1, h.low.trans he.2⟩
  intro j hj
  rw [List.getD_eq_getElem?_getD, List.getElem?_map, List.getElem?_eq_getElem hj]
  exact hlen _ (List.getElem_mem hj)
end Go.Proofs.Ythieegmmbjjcbaa
