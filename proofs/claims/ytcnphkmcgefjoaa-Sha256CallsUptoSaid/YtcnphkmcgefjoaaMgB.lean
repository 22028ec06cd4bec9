/- Texts of this claim, merged: QTail, Held, Held2, KitB, Made, OpA, OpE, Heap, Apart, KitO, Sh2C, BigO, LedR. -/
import Derived.StillTail
import Derived.Deep.Quiet
import Derived.BigQuiet
import Derived.Deep.RegionHeld3
import Derived.Test.YtcnphkmcgefjoaaRows
import Derived.LoopN
import Derived.Test.YtcnphkmcgefjoaaMgA
set_option linter.unusedVariables false

namespace Go.Proofs.Ytcnphkmcgefjoaa
open Go
section
variable {P : Program} {ops : Array Oper} {md : Region.Mode} {C : World → Prop}

/-- Whatever order is picked among the first n: then L. -/
def headQ (P : Program) (md : Region.Mode) (ops : Array Oper) (C : World → Prop) (n : Nat) (L : Array Bool → Act → Prop) : Nat → Array Bool → Act → Prop
  | 0, listed, a => L listed a
  | f + 1, listed, a =>
    Region.ready md ops listed ≠ [] ∧ ∀ i ∈ Region.ready md ops listed, i < n ∧ qOp P ops C i (headQ P md ops C n L f (listed.setIfInBounds i true)) a

theorem any_of_headQ {n g : Nat} {L : Array Bool → Act → Prop} {Q : Exit → Act → World → Prop} (hL : ∀ listed a w, C w → L listed a → wpAny P md ops Q g listed a w) :
    ∀ (f : Nat) (listed : Array Bool) (a : Act) (w : World), C w → headQ P md ops C n L f listed a → wpAny P md ops Q (f + g) listed a w := by
  intro f
  induction f with
  | zero => intro listed a w hw h; rw [Nat.zero_add]; exact hL _ _ _ hw h
  | succ f ih =>
    intro listed a w hw h
    rw [Nat.succ_add]
    refine ⟨fun h0 => absurd h0 h.1, fun i hi => ?_⟩
    exact wpOp_of_qOp hw (fun a' w' hw' h' => ih _ a' w' hw' h') (h.2 i hi).2

theorem headQ_first {n i : Nat} {oi : Oper} {v : Value} {L : Array Bool → Act → Prop} (hi : ops[i]? = some oi) (hsel : ∀ (j : Nat) (o : Oper) cs b, ops[j]? = some o → o.op ≠ .select cs b)
    (hs : Region.sinkB md ops n = true) (hc : Region.chainB md ops n = true) (hn : n < ops.size) (hin : i < n)
    (hdone : ∀ listed a, L listed a → ∀ j ∈ Region.ready md ops listed, n ≤ j) :
    ∀ (f : Nat) (listed : Array Bool) (a : Act), HeadInv md ops n listed →
      (∀ j oj, ops[j]? = some oj → j ≠ i → listed.getD j true = false → (∀ e ∈ oj.after, Region.binds md e = true → e.on ≠ i) → oi.apart ops oj = true) →
      i ∈ Region.ready md ops listed → YieldsIn P ops C oi v a →
      headQ P md ops C n L f (listed.setIfInBounds i true) (a.put oi.dst v) → headQ P md ops C n L (f + 1) listed a := by
  intro f
  induction f with
  | zero =>
    intro listed a inv _ hr hy H
    have hun := (mem_ready.1 hr).1
    refine ⟨fun h => (by rw [h] at hr; cases hr), fun j hj => ?_⟩
    have hjn : j < n := Nat.lt_of_not_le fun h => absurd hj (tail_waits hs hc hn inv _ i rfl hin hun j h)
    refine ⟨hjn, ?_⟩
    by_cases hji : j = i
    · subst hji; exact hy.qOp hi H
    · have := hdone _ _ H j (ready_mono hj hji)
      omega
  | succ f ih =>
    intro listed a inv hfree hr hy H
    have hun := (mem_ready.1 hr).1
    refine ⟨fun h => (by rw [h] at hr; cases hr), fun j hj => ?_⟩
    have hjn : j < n := Nat.lt_of_not_le fun h => absurd hj (tail_waits hs hc hn inv _ i rfl hin hun j h)
    refine ⟨hjn, ?_⟩
    by_cases hji : j = i
    · subst hji; exact hy.qOp hi H
    · have h1 := (H.2 j (ready_mono hj hji)).2
      obtain ⟨hjun, oj, hoj, hall⟩ := mem_ready.1 hj
      have hnot : ∀ e ∈ oj.after, Region.binds md e = true → e.on ≠ i := fun e he hb heq => by
        have h2 := hall e he hb
        rw [heq, getD_both hun] at h2
        cases h2
      have h2 := qOp_put hoj (hfree j oj hoj hji hjun hnot) (fun cs b => hsel i oi cs b hi) (fun cs b => hsel j oj cs b hoj) hy h1
      refine qOp_mono (fun a' h3 => ih (listed.setIfInBounds j true) a' (inv.set hj hjn) (fun k ok hk hki hun' hno => ?_) (ready_mono hr (Ne.symm hji)) h3.1 ?_) h2
      · refine hfree k ok hk hki ?_ hno
        by_cases hjk : j = k
        · subst hjk; exact hjun
        · rw [getD_set_ne true hjk] at hun'; exact hun'
      · rw [Array.setIfInBounds_comm _ _ hji]
        exact h3.2

theorem headQ_lex {n g : Nat} {Lq : Act → Prop} (hsel : Region.noSelect ops = true) (hs : Region.sinkB md ops n = true) (hc : Region.chainB md ops n = true) (hn : n < ops.size) :
    ∀ (l : List Oper) (k : Nat) (listed : Array Bool) (a : Act), (∀ j, j < l.length → l[j]? = ops[k + j]?) → k + l.length = n → HeadInv md ops n listed →
    Region.lexHead md ops g l.length k listed = true → wpQuiet P ops C Lq l a →
    headQ P md ops C n (fun listed' a' => Region.seqB md ops g n listed' = true ∧ Lq a') l.length listed a := by
  intro l
  induction l with
  | nil =>
    intro k listed a _ hk _ hB h
    have : k = n := by simpa using hk
    subst this
    exact ⟨by simpa [Region.lexHead] using hB, h⟩
  | cons o l ih =>
    intro k listed a hl hk inv hB h
    have h0 : ops[k]? = some o := by simpa using (hl 0 (by simp)).symm
    simp only [List.length_cons, Region.lexHead, Bool.and_eq_true] at hB
    obtain ⟨⟨hr, hf⟩, hB'⟩ := hB
    have hkn : k < n := by simp only [List.length_cons] at hk; omega
    have hr' : k ∈ Region.ready md ops listed := by simpa using hr
    have hst : qOp P ops C k (wpQuiet P ops C Lq l) a := by unfold qOp; simp only [h0]; exact h
    obtain ⟨v, hy, hK⟩ := yieldsIn_of_qOp h0 hst
    exact headQ_first h0 (Region.noSelect_spec hsel) hs hc hn hkn (fun listed' a' hL => seqB_ready hL.1) l.length listed a inv (Region.free_spec h0 hf) hr' hy
      (ih (k + 1) _ _ (fun j hj => by have := hl (j + 1) (by simp; omega); simpa [Nat.add_assoc, Nat.add_comm 1 j] using this) (by simp only [List.length_cons] at hk; omega) (inv.set hr' hkn) hB' hK)

theorem region_quiet_tail {id : Nat} {Q : Exit → Act → World → Prop} {a : Act} {w : World} {l : List Oper} (n : Nat) (hm : P.follows .mixedOrders = true) (hB : Region.lexTailB .any l.toArray n = true)
    (h : wpQuiet P l.toArray (fun w' => ∃ n, w' = w.drewN n) (fun a' => ∀ nq, wpList P l.toArray Q (l.drop n) a' (w.drewN nq)) (l.take n) a) : (Code.region id l.toArray true).wp P Q a w := by
  simp only [Region.lexTailB, Bool.and_eq_true, decide_eq_true_eq] at hB
  obtain ⟨⟨⟨⟨hsel, hn⟩, hs⟩, hc⟩, hlex⟩ := hB
  have hn' : n < l.length := by simpa using hn
  have htl : (l.take n).length = n := by simp; omega
  have hdl : (l.drop n).length = l.toArray.size - n := by simp
  have inv0 : HeadInv .any l.toArray n (Array.replicate l.toArray.size false) :=
    ⟨by simp, fun j oj _ hl => (by rw [getD_replicate_false] at hl; cases hl), fun t _ ht => getD_in (by simpa using ht) (getD_replicate_false _ _)⟩
  have H := headQ_lex (md := .any) (g := l.toArray.size - n) hsel hs hc hn (l.take n) 0 _ a (fun j hj => by
    have hj' : j < n := by rw [htl] at hj; exact hj
    simp [hj']) (by simpa using htl) inv0 (by rw [htl]; exact hlex) h
  refine wp_region_any hm ?_
  have := any_of_headQ (Q := Q) (g := l.toArray.size - n) (fun listed a' w' hw' hL => by
    obtain ⟨nq, rfl⟩ := hw'
    have := wpAny_of_seq (md := .any) (Q' := Q) (l.drop n) n listed a' (w.drewN nq) (fun j => by simp [List.getElem?_drop]) (by rw [hdl]; exact hL.1) (hL.2 nq)
    rwa [hdl] at this) _ _ _ { w with drawn := w.drawn + 1 } ⟨1, rfl⟩ H
  rw [htl, show n + (l.toArray.size - n) = l.toArray.size by omega] at this
  exact this
end
end Go.Proofs.Ytcnphkmcgefjoaa

namespace Go.Proofs.Ytcnphkmcgefjoaa
open Go
section
variable {P : Program} {l : List Oper} {Q : Exit → Act → World → Prop} {md : Region.Mode} {S : World → Prop} {o : Oper} {rest : List Oper} {fuel : Nat} {listed : Array Bool} {a : Act} {w : World}

theorem drop_at {i : Nat} (h : l.drop i = o :: rest) : l.toArray[i]? = some o := by
  have h2 := congrArg (fun m => m[0]?) h
  simp only [List.getElem?_drop, Nat.add_zero, List.getElem?_cons_zero] at h2
  simpa using h2
/-- a load of a whole array -/
theorem take_load {ty : TypeId} {x : Operand} {d : TypeDesc} (i g : Nat) (cs : List Value) (hS : ∀ w, S w → w.rangeAt g 0 cs) (hu : P.underlying ty = some d) (hl : (P.info? ty).map (·.size) = some cs.length)
    (hi : l.drop i = o :: rest) (hs : Region.noSelect l.toArray = true) (hf : Region.free md l.toArray listed i = true) (hr : (Region.ready md l.toArray listed).contains i = true)
    (hQ : ∀ c a w, Q (.panic c) (a.put o.dst (.agg cs.toArray)) w → Q (.panic c) a w) (hd : d.isRow = true) (hw : Region.wanted o (yielded l.toArray a.tmps) = true)
    (ho : o.op = .load ty x) (hx : a.eval x = .pointer (some ⟨g, 0, none⟩)) (hSw : S w)
    (h : wpAnyH P md l.toArray Q S fuel (listed.setIfInBounds i true) (a.put o.dst (.agg cs.toArray)) w) : wpAnyH P md l.toArray Q S (fuel + 1) listed a w :=
  wpAnyH_take (drop_at hi) hs hf hr hQ (yieldsIf_load_mid hw ty x ho g 0 hx cs d hS hu hd hl) hSw h
/-- an operation that reads nothing -/
theorem take_pure (i : Nat) (v : Value) (hi : l.drop i = o :: rest) (hs : Region.noSelect l.toArray = true) (hf : Region.free md l.toArray listed i = true) (hr : (Region.ready md l.toArray listed).contains i = true)
    (hQ : ∀ c a w, Q (.panic c) (a.put o.dst v) w → Q (.panic c) a w) (hw : Region.wanted o (yielded l.toArray a.tmps) = true) (hv : ∀ w, S w → (execOp a.eval o).run P w = .ok (.value v) w) (hSw : S w)
    (h : wpAnyH P md l.toArray Q S fuel (listed.setIfInBounds i true) (a.put o.dst v) w) : wpAnyH P md l.toArray Q S (fuel + 1) listed a w :=
  wpAnyH_take (drop_at hi) hs hf hr hQ (.inl ⟨hw, hv⟩) hSw h
/-- one alone may come up -/
theorem take_call (i : Nat) (hi : l.drop i = o :: rest) (hr : Region.ready md l.toArray listed = [i])
    (h : ∀ K' : Act → World → Prop, Shut (∀ a w, S w → (S w → wpAnyH P md l.toArray Q S fuel (listed.setIfInBounds i true) a w) → K' a w) → if Region.wanted o (yielded l.toArray a.tmps) = true then Oper.wp P o a w K' Q else K' (a.put o.dst undef) w) :
    wpAnyH P md l.toArray Q S (fuel + 1) listed a w :=
  wpAnyH_ready hr (by simp) (AllReadyH.cons (drop_at hi) h AllReadyH.nil)
end
end Go.Proofs.Ytcnphkmcgefjoaa

namespace Go.Proofs.Ytcnphkmcgefjoaa
open Go
section
variable {P : Program} {l : List Oper} {Q : Exit → Act → World → Prop} {md : Region.Mode} {S : World → Prop} {o : Oper} {rest : List Oper} {fuel : Nat} {listed : Array Bool} {a : Act} {w : World}
theorem takeM {ty : TypeId} {x : Operand} {d : TypeDesc} (i g off : Nat) (cs : List Value) (hS : ∀ w, S w → w.rangeAt g off cs) (hu : P.underlying ty = some d) (hl : (P.info? ty).map (·.size) = some cs.length)
    (hi : l.drop i = o :: rest) (hs : Region.noSelect l.toArray = true) (hf : Region.free md l.toArray listed i = true) (hr : (Region.ready md l.toArray listed).contains i = true)
    (hQ : ∀ c a w, Q (.panic c) (a.put o.dst (.agg cs.toArray)) w → Q (.panic c) a w) (hd : d.isRow = true) (hw : Region.wanted o (yielded l.toArray a.tmps) = true)
    (ho : o.op = .load ty x) (hx : a.eval x = .pointer (some ⟨g, off, none⟩)) (hSw : S w)
    (h : wpAnyH P md l.toArray Q S fuel (listed.setIfInBounds i true) (a.put o.dst (.agg cs.toArray)) w) : wpAnyH P md l.toArray Q S (fuel + 1) listed a w :=
  wpAnyH_take (drop_at hi) hs hf hr hQ (yieldsIf_load_mid hw ty x ho g off hx cs d hS hu hd hl) hSw h
/-- an operation that is not wanted -/
theorem takeSkip (i : Nat) (hi : l.drop i = o :: rest) (hs : Region.noSelect l.toArray = true) (hf : Region.free md l.toArray listed i = true) (hr : (Region.ready md l.toArray listed).contains i = true)
    (hQ : ∀ c a w, Q (.panic c) (a.put o.dst undef) w → Q (.panic c) a w) (hw : Region.wanted o (yielded l.toArray a.tmps) = false) (hSw : S w)
    (h : wpAnyH P md l.toArray Q S fuel (listed.setIfInBounds i true) (a.put o.dst undef) w) : wpAnyH P md l.toArray Q S (fuel + 1) listed a w :=
  wpAnyH_take (drop_at hi) hs hf hr hQ (.inr ⟨hw, rfl⟩) hSw h
theorem takeTwo {o' : Oper} {rest' : List Oper} (i j : Nat) (hi : l.drop i = o :: rest) (hj : l.drop j = o' :: rest') (hr : Region.ready md l.toArray listed = [i, j])
    (h : ∀ K' : Act → World → Prop, Shut (∀ a w, S w → (S w → wpAnyH P md l.toArray Q S fuel (listed.setIfInBounds i true) a w) → K' a w) → if Region.wanted o (yielded l.toArray a.tmps) = true then Oper.wp P o a w K' Q else K' (a.put o.dst undef) w)
    (h' : ∀ K' : Act → World → Prop, Shut (∀ a w, S w → (S w → wpAnyH P md l.toArray Q S fuel (listed.setIfInBounds j true) a w) → K' a w) → if Region.wanted o' (yielded l.toArray a.tmps) = true then Oper.wp P o' a w K' Q else K' (a.put o'.dst undef) w) :
    wpAnyH P md l.toArray Q S (fuel + 1) listed a w :=
  wpAnyH_ready hr (by simp) (AllReadyH.cons (drop_at hi) h (AllReadyH.cons (drop_at hj) h' AllReadyH.nil))
/-- an operation that reads nothing, its value found by the walk -/
theorem takeV (i : Nat) {v : Value} (hi : l.drop i = o :: rest) (hv : ∀ w, S w → (execOp a.eval o).run P w = .ok (.value v) w) (hs : Region.noSelect l.toArray = true) (hf : Region.free md l.toArray listed i = true) (hr : (Region.ready md l.toArray listed).contains i = true)
    (hQ : ∀ c a w, Q (.panic c) (a.put o.dst v) w → Q (.panic c) a w) (hw : Region.wanted o (yielded l.toArray a.tmps) = true) (hSw : S w)
    (h : wpAnyH P md l.toArray Q S fuel (listed.setIfInBounds i true) (a.put o.dst v) w) : wpAnyH P md l.toArray Q S (fuel + 1) listed a w :=
  wpAnyH_take (drop_at hi) hs hf hr hQ (.inl ⟨hw, hv⟩) hSw h
end
end Go.Proofs.Ytcnphkmcgefjoaa

namespace Go.Proofs.Ytcnphkmcgefjoaa
open Go.RowKit

set_option maxHeartbeats 400000 in
theorem sameBytes_any (A B : Option Addr) (n m c d : Nat) (xs ys : List UInt8) (w : World) (ha : Rd w 1 A n (xs.map vb)) (hb : Rd w 1 B m (ys.map vb)) (hn : n ≤ 9223372036854775807) (hm : m ≤ 9223372036854775807) :
    Calls Try.prog 15 #[.slice A n c, .slice B m d] w fun e w' => e = .returned (.bool (decide (xs = ys))) ∧ ∃ k, w' = w.drewN k := by
  have hlx : xs.length = n := by simpa using ha.1
  have hly : ys.length = m := by simpa using hb.1
  have Hx := Lib.hid hlx
  have Hy := Lib.hid hly
  clear hlx hly
  by_cases hnm : n = m
  · subst hnm
    have h0 : ((n : Int) != n) = false := by simp
    go_enter Try.func15, Try.ntmps15
    go_wp2
    go_loopw [5] (fun i wr => ∃ k q : Nat, k ≤ n ∧ i = .int .i64 k ∧ wr = w.drewN q ∧ Hid (xs.take k = ys.take k)) (fun i _ => n - (intOf i).toNat)
    case atStart => exact ⟨0, 0, Nat.zero_le _, rfl, rfl, rfl⟩
    case round =>
      obtain ⟨k, q, hk, rfl, rfl, hpre⟩ := hrel
      by_cases hlt : k < n
      · obtain ⟨p, x, rfl, hx, hcx⟩ := ha.byteAt hlt
        obtain ⟨p', y, rfl, hy, hcy⟩ := hb.byteAt hlt
        have HX := Lib.hid hx
        have HY := Lib.hid hy
        clear hx hy
        go_wp2
        go_quiet (fail)
        by_cases hxy : x = y
        · subst hxy
          have h2 : ((x.toNat : Int) != (x.toNat : Int)) = false := by simp
          go_wp2
          go_roundw
          case rel => exact ⟨k + 1, q + nq, by omega, by go_num, by simp, take_succ_eq hpre.out HX.out HY.out⟩
          case measure => simp [intOf]; omega
        · have h2 : ((x.toNat : Int) != (y.toNat : Int)) = true := by
            simp only [bne_iff_ne, ne_eq]
            intro h; exact hxy (UInt8.toNat_inj.1 (by omega))
          go_wp2
          go_ret
          refine ⟨ret_bool ?_, q + nq, by simp⟩
          symm; simp only [decide_eq_false_iff_not]
          rintro rfl
          have a := HX.out
          have b := HY.out
          rw [a] at b
          exact hxy (Option.some.inj b)
      · go_wp2
        go_ret
        refine ⟨ret_bool ?_, q, rfl⟩
        symm; simp only [decide_eq_true_eq]
        have h := hpre.out
        have a := Hx.out
        have b := Hy.out
        rwa [List.take_of_length_le (by omega), List.take_of_length_le (by omega)] at h
  · have h0 : ((n : Int) != m) = true := by simp only [bne_iff_ne, ne_eq]; omega
    go_enter Try.func15, Try.ntmps15
    go_wp2
    go_ret
    refine ⟨ret_bool ?_, 0, rfl⟩
    symm; simp only [decide_eq_false_iff_not]
    rintro rfl
    exact hnm (Hx.out.symm.trans Hy.out)

theorem u8_info : (Try.prog.info? 5).map (fun i => (i.zero, i.size, i.bytes)) = some (some (.int .u8 0), 1, 1) := by kernel_rfl

/-- A slice of bytes in memory from 'base' on: nil and empty, or a row's beginning. -/
def OwnB (w : World) (base : Nat) (v : Value) (l : List UInt8) : Prop := w.ownsRow base 5 1 v l.length (l.map vb)

theorem OwnB.of_push {w : World} {base : Nat} {v : Value} {l : List UInt8} {b : UInt8} (h : w.ownsRow base 5 1 v (l.length + 1) (l.map vb ++ [vb b])) : OwnB w base v (l ++ [b]) := by
  simpa [OwnB] using h
theorem OwnB.push_at {w : World} {base k : Nat} {v : Value} {l : List UInt8} {b : UInt8} (hk : l.length = k) (h : w.ownsRow base 5 1 v (k + 1) (l.map vb ++ [.int .u8 (b.toNat : Int)])) : OwnB w base v (l ++ [b]) := by
  subst hk; exact OwnB.of_push h
theorem OwnB.below {w w' : World} {base : Nat} {v : Value} {l : List UInt8} (h : OwnB w base v l) (hb : Below w.heap.size w w') : OwnB w' base v l :=
  h.kept (row := none) ⟨hb.os, hb.tape, hb.output, hb.size, fun k hk _ => hb.block k hk⟩ (by cases hv : v.ownBlock <;> simp)
theorem OwnB.more {w : World} {base base' : Nat} {v : Value} {l : List UInt8} (h : OwnB w base v l) (hb : base' ≤ base) : OwnB w base' v l := by
  refine ⟨h.1, ?_⟩
  rcases h.2 with hn | ⟨g, cap, cur, h1, h2, h3⟩
  · exact .inl hn
  · exact .inr ⟨g, cap, cur, h1, Nat.le_trans hb h2, h3⟩
theorem OwnB.shape {w : World} {base : Nat} {v : Value} {l : List UInt8} (h : OwnB w base v l) : ∃ A n c, v = .slice A n c ∧ Hid (n = l.length) ∧ Rd w 1 A n (l.map vb) := by
  rcases h.2 with ⟨rfl, hn⟩ | ⟨g, cap, cur, rfl, h2, h3⟩
  · have : l = [] := List.length_eq_zero_iff.1 hn
    subst this
    exact ⟨none, 0, 0, rfl, rfl, Rd.none_⟩
  · exact ⟨_, _, _, rfl, rfl, Rd.of_own h⟩
theorem OwnB.cellAt {w : World} {base g n c : Nat} {l : List UInt8} (h : OwnB w base (.slice (some ⟨g, 0, none⟩) n c) l) {k : Nat} (hk : k < l.length) :
    ∃ x, l[k]? = some x ∧ w.cell? ⟨g, k, none⟩ = some (.int .u8 (x.toNat : Int)) := by
  have hn : n = l.length := by
    rcases h.2 with ⟨h', _⟩ | ⟨g', cap', cur, h', _⟩
    · cases h'
    · injection h'
  subst hn
  have hc := World.ownsRow.cellAt h k (by omega)
  rw [List.getElem?_map, List.getElem?_eq_getElem hk] at hc
  exact ⟨l[k], List.getElem?_eq_getElem hk, hc⟩
theorem OwnB.frozenAt {w : World} {base g n c : Nat} {l : List UInt8} (h : OwnB w base (.slice (some ⟨g, 0, none⟩) n c) l) (k : Nat) : w.frozen? ⟨g, k, none⟩ = false := by
  have hn : n = l.length := by
    rcases h.2 with ⟨h', _⟩ | ⟨g', cap', cur, h', _⟩
    · cases h'
    · injection h'
  subst hn
  exact World.ownsRow.frozenAt h k
theorem OwnB.stored {w : World} {base g n c : Nat} {l : List UInt8} (h : OwnB w base (.slice (some ⟨g, 0, none⟩) n c) l) (k : Nat) (x : UInt8) :
    OwnB (w.setCell ⟨g, k, none⟩ (.int .u8 (x.toNat : Int))) base (.slice (some ⟨g, 0, none⟩) n c) (l.set k x) ∧ w.grownBy (w.setCell ⟨g, k, none⟩ (.int .u8 (x.toNat : Int))) (some g) := by
  have hn : n = l.length := by
    rcases h.2 with ⟨h', _⟩ | ⟨g', cap', cur, h', _⟩
    · cases h'
    · injection h'
  subst hn
  have hs := World.ownsRow.stored h k (vb x)
  exact ⟨by unfold OwnB; rw [List.length_set, List.map_set]; exact hs.1, hs.2⟩
theorem grownBy_trans {a b c : World} {row : Option Nat} (h : a.grownBy b row) (k : b.grownBy c row) : a.grownBy c row :=
  ⟨k.os.trans h.os, k.tape.trans h.tape, k.output.trans h.output, Nat.le_trans h.size k.size, fun i hi hn => (k.block i (Nat.lt_of_lt_of_le hi h.size) hn).trans (h.block i hi hn)⟩
theorem grownBy_drewN {a b : World} {row : Option Nat} (h : a.grownBy b row) (n : Nat) : a.grownBy (b.drewN n) row := ⟨h.os, h.tape, h.output, h.size, h.block⟩
theorem grownBy_drew {a b : World} {row : Option Nat} (h : a.grownBy b row) : a.grownBy b.drew row := ⟨h.os, h.tape, h.output, h.size, h.block⟩

theorem vb_one (l : List UInt8) : ∀ u ∈ l.map vb, u.oneCell' = true := by
  intro u hu
  obtain ⟨b, -, rfl⟩ := List.mem_map.1 hu
  rfl

set_option maxHeartbeats 400000 in
theorem copyBytes_any (A : Option Addr) (n c : Nat) (l : List UInt8) (w : World) (h : Rd w 1 A n (l.map vb)) (hn : n ≤ 140737488355328) :
    Calls Try.prog 37 #[.slice A n c] w fun e w' => ∃ v, e = .returned v ∧ OwnB w' w.heap.size v l ∧ Below w.heap.size w w' := by
  obtain ⟨i0, hi0, hz0, hz1, hz2⟩ := info_parts u8_info
  have hl : n = l.length := by simpa using h.1.symm
  subst hl
  go_enter Try.func37, Try.ntmps37
  go_wp2_with (at_builtin; refine wpList_append_any _ rfl (.tmp 4) (.tmp 5) _ rfl w.heap.size 5 i0 _ 1 1 Try.underlying22 hi0 hz0 hz1 hz2 rfl (by omega) (.slice none 0 0) 0 [] rfl ⟨by simp, .inl ⟨rfl, rfl⟩⟩ A l.length c (l.map vb) rfl h (vb_one l) (by simp only [maxLen]; omega) (by omega) (Nat.le_refl _) ?_; intro v1 w1 hown1 hg1 hat1; have hbw1 : Below w.heap.size w w1 := (Below.refl _ _).grown hg1 (Nat.le_refl _) (by simp [Value.ownBlock]))
  go_ret
  exact ⟨v1, rfl, by simpa [OwnB] using hown1, hbw1⟩

/-- The marks behind a lent list. -/
def markB (k i : Nat) : UInt8 := UInt8.ofNat (7 * k + i + 1)
def marksB (k s n : Nat) : List UInt8 := (List.range n).map fun i => markB k (s + i)
theorem markB_toNat (k i : Nat) : ((markB k i).toNat : Int) = (7 * (k : Int) + i + 1) % 256 := by
  unfold markB; rw [UInt8.toNat_ofNat']; omega
theorem marksB_succ (k s n : Nat) : marksB k s (n + 1) = marksB k s n ++ [markB k (s + n)] := by
  simp [marksB, List.range_succ]
theorem marksB_length (k s n : Nat) : (marksB k s n).length = n := by simp [marksB]

set_option maxHeartbeats 400000 in
theorem markB_any (k i : Nat) (w : World) (h1 : k ≤ 100000) (h3 : i ≤ 1000000000000000000) :
    Calls Try.prog 38 #[.int .i64 (k : Int), .int .i64 (i : Int)] w fun e w' => e = .returned (vb (markB k i)) ∧ w = w' := by
  have hm := markB_toNat k i
  unfold vb
  have HM := Lib.hid hm
  clear hm
  go_enter Try.func38, Try.ntmps38
  go_wp2
  go_ret
  exact ⟨by rw [HM.out]; rfl, rfl⟩

theorem markB_at {a b : Int} (k i : Nat) (ha : a = (k : Int)) (hb : b = (i : Int)) (w : World) (h1 : k ≤ 100000) (h3 : i ≤ 1000000000000000000) :
    Calls Try.prog 38 #[.int .i64 a, .int .i64 b] w fun e w' => e = .returned (vb (markB k i)) ∧ w = w' := by
  subst ha; subst hb; exact markB_any k i w h1 h3

set_option maxRecDepth 100000 in
set_option maxHeartbeats 400000 in
theorem lentBytes_any (A : Option Addr) (n c : Nat) (l : List UInt8) (w : World) (h : Rd w 1 A n (l.map vb)) (hn : n ≤ 140737488355320) :
    Calls Try.prog 9 #[.slice A n c] w fun e w' => ∃ v, e = .returned v ∧ OwnB w' w.heap.size v (l ++ marksB 7 0 6) ∧ Below w.heap.size w w' := by
  obtain ⟨i0, hi0, hz0, hz1, hz2⟩ := info_parts u8_info
  have hl : l.length = n := by simpa using h.1
  have HL := Lib.hid hl
  clear hl
  go_enter Try.func9, Try.ntmps9
  go_wp2_with (go_at_call 37; refine (copyBytes_any A n c l _ h (by omega)).mono ?_; rintro e w1 ⟨v1, rfl, ho1, hb1⟩)
  go_loopw [3, 4] (fun v i wr => ∃ k : Nat, k ≤ 6 ∧ i = .int .i64 k ∧ OwnB wr w.heap.size v (l ++ marksB 7 0 k) ∧ Below w.heap.size w wr) (fun _ i _ => 6 - (intOf i).toNat)
  case atStart => exact ⟨0, Nat.zero_le _, rfl, by simpa [marksB] using ho1, hb1⟩
  case round =>
    obtain ⟨k, hk, rfl, ho, hb⟩ := hrel
    by_cases hlt : k < 6
    · have hz : w.heap.size ≤ wr.heap.size := hb.size
      have hm : (l ++ marksB 7 0 k).length ≤ n + 6 := by have := HL.out; simp [marksB_length]; omega
      go_wp2_with (first | (go_at_call 38; refine (markB_any 7 k _ (by omega) (by omega)).mono ?_; rintro e w2 ⟨rfl, rfl⟩) | (at_builtin; refine wpList_append_own _ rfl (.tmp 11) (.tmp 14) 22 rfl w.heap.size 5 i0 (.int .u8 0) 1 1 Try.underlying22 hi0 hz0 hz1 hz2 rfl (by decide) _ _ _ rfl (ho.alloc _) ⟨wr.heap.size, 0, none⟩ 1 1 [vb (markB 7 k)] rfl rfl (cell_one_new _ _ _) (by simp [Value.oneCell']) (by simp only [maxLen]; omega) (by omega) (by simp; omega) ?_; intro v2 w2 ho2 hg2 hnil))
      have hb2 : Below w.heap.size w w2 := (hb.alloc hz _).grown hg2 (by simp; omega) (fun g hg => (ho.lt g hg).1)
      go_roundw
      case rel => exact ⟨k + 1, by omega, by go_num, by rw [marksB_succ, ← List.append_assoc]; simpa using OwnB.of_push ho2, hb2⟩
      case measure => simp [intOf]; omega
    · have hk6 : k = 6 := by omega
      subst hk6
      go_wp2
      go_ret
      exact ⟨_, rfl, ho, hb⟩

set_option maxHeartbeats 400000 in
theorem keptBytes_any (A B : Option Addr) (n m c d : Nat) (xs ys : List UInt8) (w : World) (ha : Rd w 1 A n (xs.map vb)) (hb : Rd w 1 B m (ys.map vb)) (hn : n ≤ 9223372036854775807) (hm : m ≤ 140737488355320) :
    Calls Try.prog 14 #[.slice A n c, .slice B m d] w fun e w' => e = .returned (.bool (decide (xs = ys ++ marksB 7 0 6))) ∧ Below w.heap.size w w' := by
  have hly : ys.length = m := by simpa using hb.1
  have HY := Lib.hid hly
  clear hly
  go_enter Try.func14, Try.ntmps14
  go_wp2_with fail
  refine (lentBytes_any B m d ys _ hb hm).mono ?_
  rintro e w1 ⟨v1, rfl, ho1, hb1⟩
  obtain ⟨A1, n1, c1, rfl, hn1, hr1⟩ := ho1.shape
  have hlen : n1 ≤ 9223372036854775807 := by rw [hn1.out, List.length_append, HY.out, marksB_length]; omega
  go_wp2_with fail
  refine (sameBytes_any A A1 n _ c c1 xs _ w1 (ha.below hb1) hr1 hn hlen).mono ?_
  rintro e w2 ⟨rfl, q, rfl⟩
  go_wp2
  go_ret
  exact ⟨rfl, bdrewN hb1 q⟩

theorem sameBytes_yes (A B : Option Addr) (n m c d : Nat) (xs ys : List UInt8) (w : World) (ha : Rd w 1 A n (xs.map vb)) (hb : Rd w 1 B m (ys.map vb)) (hn : n ≤ 9223372036854775807) (hm : m ≤ 9223372036854775807) (h : xs = ys) :
    Calls Try.prog 15 #[.slice A n c, .slice B m d] w fun e w' => e = .returned (.bool true) ∧ Below w.heap.size w w' :=
  (sameBytes_any A B n m c d xs ys w ha hb hn hm).mono fun _ _ h' => ⟨by rw [h'.1, decide_eq_true h], by obtain ⟨k, rfl⟩ := h'.2; exact bdrewN (Below.refl _ _) k⟩
theorem sameBytes_quiet (A B : Option Addr) (n m c d : Nat) (xs ys : List UInt8) (w : World) (ha : Rd w 1 A n (xs.map vb)) (hb : Rd w 1 B m (ys.map vb)) (hn : n ≤ 9223372036854775807) (hm : m ≤ 9223372036854775807) (h : xs = ys) :
    Calls Try.prog 15 #[.slice A n c, .slice B m d] w fun e w' => e = .returned (.bool true) ∧ ∃ k, w' = w.drewN k :=
  (sameBytes_any A B n m c d xs ys w ha hb hn hm).mono fun _ _ h' => ⟨by rw [h'.1, decide_eq_true h], h'.2⟩
theorem keptBytes_yes (A B : Option Addr) (n m c d : Nat) (xs ys : List UInt8) (w : World) (ha : Rd w 1 A n (xs.map vb)) (hb : Rd w 1 B m (ys.map vb)) (hn : n ≤ 9223372036854775807) (hm : m ≤ 140737488355320) (h : xs = ys ++ marksB 7 0 6) :
    Calls Try.prog 14 #[.slice A n c, .slice B m d] w fun e w' => e = .returned (.bool true) ∧ Below w.heap.size w w' :=
  (keptBytes_any A B n m c d xs ys w ha hb hn hm).mono fun _ _ h' => ⟨by rw [h'.1, decide_eq_true h], h'.2⟩

theorem over_step {l : List UInt8} {k m : Nat} (hk : k < l.length) : (marksB m 0 k ++ l.drop k).set k (markB m (0 + k)) = marksB m 0 (k + 1) ++ l.drop (k + 1) := by
  rw [marksB_succ, List.set_append_right _ _ (by simp [marksB_length]), marksB_length, Nat.sub_self, List.drop_eq_getElem_cons hk, List.set_cons_zero, List.append_assoc, List.singleton_append]

set_option maxHeartbeats 400000 in
theorem overBytes_any (base g c n : Nat) (l : List UInt8) (w : World) (h : OwnB w base (.slice (some ⟨g, 0, none⟩) n c) l) (HL : Hid (n = l.length)) (hn : n ≤ 140737488355328) :
    Calls Try.prog 49 #[.slice (some ⟨g, 0, none⟩) n c] w fun e w' => e = .returned (.tuple #[]) ∧ OwnB w' base (.slice (some ⟨g, 0, none⟩) n c) (marksB 9 0 n) ∧ w.grownBy w' (some g) := by
  go_enter Try.func49, Try.ntmps49
  go_wp2
  go_loopw [2] (fun i wr => ∃ k : Nat, k ≤ n ∧ i = .int .i64 k ∧ OwnB wr base (.slice (some ⟨g, 0, none⟩) n c) (marksB 9 0 k ++ l.drop k) ∧ w.grownBy wr (some g)) (fun i _ => n - (intOf i).toNat)
  case atStart => exact ⟨0, Nat.zero_le _, rfl, by simpa [marksB] using h, World.grownBy.refl _ _⟩
  case round =>
    obtain ⟨k, hk, rfl, ho, hg⟩ := hrel
    by_cases hlt : k < n
    · have hlk : k < (marksB 9 0 k ++ l.drop k).length := by have := HL.out; simp [marksB_length]; omega
      obtain ⟨x, -, hcell⟩ := ho.cellAt hlk
      have hfr := ho.frozenAt k
      obtain ⟨h1, h2⟩ := ho.stored k (markB 9 (0 + k))
      rw [over_step (by have := HL.out; omega), Nat.zero_add] at h1
      rw [Nat.zero_add] at h2
      go_wp2_with (go_at_call 38; refine (markB_any 9 k _ (by omega) (by omega)).mono ?_; rintro e w2 ⟨rfl, rfl⟩)
      go_roundw
      case rel => exact ⟨k + 1, by omega, by go_num, h1, grownBy_trans hg h2⟩
      case measure => simp [intOf]; omega
    · have hkn : k = n := by omega
      go_wp2
      go_end0
      refine ⟨rfl, ?_, hg⟩
      subst hkn
      rwa [List.drop_of_length_le (by have := HL.out; omega), List.append_nil] at ho
end Go.Proofs.Ytcnphkmcgefjoaa

namespace Go.Proofs.Ytcnphkmcgefjoaa
theorem zeros_step {l : List UInt8} {k n : Nat} {b : UInt8} (hk : k < n) (hb : l[k]? = some b) : (l.take k ++ List.replicate (n - k) 0).set k b = l.take (k + 1) ++ List.replicate (n - (k + 1)) 0 := by
  have hl : k < l.length := (List.getElem?_eq_some_iff.1 hb).1
  have e : n - k = (n - (k + 1)) + 1 := by omega
  have hm : min k l.length = k := by omega
  rw [List.set_append_right _ _ (by simp; omega), List.length_take, hm, Nat.sub_self, e, List.replicate_succ, List.set_cons_zero, List.take_add_one, hb]
  simp
end Go.Proofs.Ytcnphkmcgefjoaa

namespace Go.Proofs.Ytcnphkmcgefjoaa
open Go.RowKit
set_option linter.unusedVariables false

/-- the number that bytes are -/
def tk (l : List UInt8) : Nat := l.foldl (fun n b => 256 * n + b.toNat) 0
theorem tk_zero : tk [] = 0 := rfl
theorem tk_snoc (l : List UInt8) (b : UInt8) : tk (l ++ [b]) = 256 * tk l + b.toNat := by simp [tk]
theorem tk_from (l : List UInt8) : ∀ a, l.foldl (fun n b => 256 * n + b.toNat) a + 1 ≤ (a + 1) * 256 ^ l.length := by
  induction l with
  | nil => intro a; simp
  | cons b l ih =>
    intro a
    have h := ih (256 * a + b.toNat)
    have hb := b.toNat_lt
    rw [List.foldl_cons, List.length_cons, Nat.pow_succ]
    refine Nat.le_trans h ?_
    rw [Nat.mul_comm (256 ^ l.length), ← Nat.mul_assoc]
    exact Nat.mul_le_mul_right _ (by omega)
theorem tk_lt (l : List UInt8) : tk l < 256 ^ l.length := by
  have h := tk_from l 0
  unfold tk
  omega
theorem byte_eq (x d : Nat) : (x : Int) / 2 ^ (8 * d) % 256 = ((UInt8.ofNat (x / 256 ^ d)).toNat : Int) := by
  have e : (x : Int) / 2 ^ (8 * d) = ((x / 256 ^ d : Nat) : Int) := by
    rw [show (256 : Nat) ^ d = 2 ^ (8 * d) by rw [Nat.pow_mul], Int.natCast_ediv, Int.natCast_pow]; rfl
  rw [e, UInt8.toNat_ofNat']
  rfl
theorem or_byte_64 {b x : Nat} (hb : b ≤ 72057594037927935) (hx : x ≤ 255) : bits .or .u64 ((b : Int) * 256) (x : Int) = ((256 * b + x : Nat) : Int) := by
  have e : (b : Int) * 256 = ((256 * b : Nat) : Int) := by omega
  rw [e, u64_or_nat _ _ (by omega) (by omega), Nat.two_pow_add_eq_or_of_lt (i := 8) (by omega)]

end Go.Proofs.Ytcnphkmcgefjoaa

namespace Go.Proofs.Ytcnphkmcgefjoaa
open Go.RowKit
set_option linter.unusedVariables false

end Go.Proofs.Ytcnphkmcgefjoaa

namespace Go.Proofs.Ytcnphkmcgefjoaa
open Go.RowKit

theorem OwnB.len_eq {w : World} {base n c : Nat} {A : Option Addr} {l : List UInt8} (h : OwnB w base (.slice A n c) l) : n = l.length := by
  rcases h.2 with ⟨h', h2⟩ | ⟨g', cap', cur, h', _⟩
  · injection h' with _ h3; omega
  · injection h'
theorem OwnB.form {w : World} {base n c : Nat} {A : Option Addr} {l : List UInt8} (h : OwnB w base (.slice A n c) l) (hn : 0 < n) : ∃ g, A = some ⟨g, 0, none⟩ ∧ base ≤ g ∧ g < w.heap.size := by
  rcases h.2 with ⟨h', h2⟩ | ⟨g', cap', cur, h', hb, hg, _⟩
  · injection h' with _ h3; omega
  · injection h' with h4 _; exact ⟨g', h4, hb, (Array.getElem?_eq_some_iff.1 hg).1⟩
theorem OwnB.lt {w : World} {base : Nat} {v : Value} {l : List UInt8} (h : OwnB w base v l) : ∀ g, v.ownBlock = some g → base ≤ g ∧ g < w.heap.size := World.ownsRow.lt h
theorem OwnB.kept {w w' : World} {base : Nat} {v : Value} {l : List UInt8} {row : Option Nat} (h : OwnB w base v l) (hg : w.grownBy w' row) (hne : v.ownBlock = none ∨ v.ownBlock ≠ row) : OwnB w' base v l := World.ownsRow.kept h hg hne
theorem OwnB.drewN {w : World} {base : Nat} {v : Value} {l : List UInt8} (h : OwnB w base v l) (n : Nat) : OwnB (w.drewN n) base v l := h
theorem OwnB.alloc {w : World} {base : Nat} {v : Value} {l : List UInt8} (h : OwnB w base v l) (o : Obj) : OwnB (w.alloc o) base v l := World.ownsRow.alloc h o

theorem OwnB.lent {w : World} {base n : Nat} {v : Value} {l : List UInt8} (h : OwnB w base v (l ++ marksB 7 0 6)) (hn : l.length = n) : ∃ g c, v = .slice (some ⟨g, 0, none⟩) (n + 6) c ∧ n + 6 ≤ c ∧ base ≤ g ∧ g < w.heap.size := by
  rcases h.2 with ⟨rfl, h0⟩ | ⟨g, cap, cur, rfl, hb, hg, hnc, _⟩
  · rw [List.length_append, marksB_length] at h0; omega
  · rw [List.length_append, marksB_length, hn] at hnc ⊢
    exact ⟨g, cap, rfl, hnc, hb, (Array.getElem?_eq_some_iff.1 hg).1⟩
theorem OwnB.front {w : World} {base g n c : Nat} {l m : List UInt8} (h : OwnB w base (.slice (some ⟨g, 0, none⟩) n c) (l ++ m)) : OwnB w base (.slice (some ⟨g, 0, none⟩) l.length c) l := by
  rcases h.2 with ⟨h', _⟩ | ⟨g', cap, cur, h', hb, hg, hnc, hcm, hs, htk⟩
  · cases h'
  injection h' with e1 e2 e3
  injection e1 with e1
  injection e1 with e1
  subst e1 e2 e3
  rw [List.length_append] at hnc htk
  refine ⟨by simp, .inr ⟨g, c, cur, rfl, hb, hg, by omega, hcm, hs, ?_⟩⟩
  have : (cur.toList.take ((l.length + m.length) * 1)).take (l.length * 1) = ((l ++ m).map vb).take (l.length * 1) := by rw [htk]
  rw [List.take_take, Nat.min_eq_left (by omega)] at this
  rw [this, List.map_append, Nat.mul_one]
  exact List.take_left' (by simp)

/-- Two owned rows on one block: after the longer one has been gone on with in place, the shorter one is as it was. -/
theorem OwnB.same_block {w w' : World} {base : Nat} {v u : Value} {l m : List UInt8} {b : Nat} (hv : OwnB w base v l) (hu : OwnB w' base u m) (hg : w.heap[b]? ≠ none)
    (hvb : v.ownBlock = some b) (hub : u.ownBlock = some b) (hcap : ∀ n n' c c', v = .slice (some ⟨b, 0, none⟩) n c → u = .slice (some ⟨b, 0, none⟩) n' c' → c = c') (hpre : l = m.take l.length) : OwnB w' base v l := by
  rcases hv.2 with ⟨rfl, _⟩ | ⟨g, cap, cur, rfl, hb, hgg, hnc, hcm, hsz, htk⟩
  · simp [Value.ownBlock] at hvb
  rcases hu.2 with ⟨rfl, _⟩ | ⟨g', cap', cur', rfl, hb', hgg', hnc', hcm', hsz', htk'⟩
  · simp [Value.ownBlock] at hub
  simp [Value.ownBlock] at hvb hub
  subst hvb
  subst hub
  have hc := hcap _ _ _ _ rfl rfl
  subst hc
  refine ⟨by simp, .inr ⟨g', cap, cur', rfl, hb, hgg', hnc, hcm, hsz', ?_⟩⟩
  have h1 : l.length ≤ m.length := by rw [hpre]; simp [List.length_take]; omega
  have h2 : (cur'.toList.take (m.length * 1)).take (l.length * 1) = (m.map vb).take (l.length * 1) := by rw [htk']
  rw [List.take_take, Nat.min_eq_left (by omega)] at h2
  rw [h2, Nat.mul_one, ← List.map_take, ← hpre]

/-- What an append onto an owned row leaves: the same row gone on with, or a new one. -/
theorem append_two {P : Program} (w : World) (base : Nat) (t ty e : TypeId) (i : TypeInfo) (z : Value) (bytes : Nat) (ht : P.underlying t = some (.slice e)) (hi : P.info? e = some i) (hz : i.zero = some z)
    (hsize : i.size = 1) (hby : i.bytes = bytes) (hzs : z.cells.size = 1)
    (v : Value) (n : Nat) (xs : List Value) (hown : w.ownsRow base e 1 v n xs)
    (a : Addr) (m c : Nat) (news : List Value) (hm : 0 < m) (hl : news.length = m * 1) (hnews : ∀ j u, news[j]? = some u → w.cell? (a.add j) = some u) (h1 : ∀ u ∈ news, u.oneCell' = true)
    (h63 : n + m ≤ maxLen) (hbytes : (n + m) * bytes ≤ 140737488355328) (hbase : base ≤ w.heap.size) :
    ∃ v' w', (Builtin.append_ #[t, t] ty #[v, .slice (some a) m c]).run P w = .ok v' w' ∧ w'.ownsRow base e 1 v' (n + m) (xs ++ news) ∧
      ((∃ g cap, v = .slice (some ⟨g, 0, none⟩) n cap ∧ v' = .slice (some ⟨g, 0, none⟩) (n + m) cap ∧ w.grownBy w' (some g)) ∨
       (v'.ownBlock = some w.heap.size ∧ Below w.heap.size w w')) := by
  subst hby
  have hsmall : n + m ≤ 9223372036854775807 := by simp only [maxLen] at h63; omega
  have hlen : (xs ++ news).length = (n + m) * 1 := by rw [List.length_append, hown.1, hl, Nat.add_mul]
  have grown : ∀ (old : Nat), old < n + m →
      (w.drew.alloc (.cells (xs.toArray ++ news.toArray ++ Builtin.zeroCells z.cells (grownCap w (n + m) old e - (n + m))) e)).ownsRow base e 1
        (.slice (some ⟨w.heap.size, 0, none⟩) (n + m) (grownCap w (n + m) old e)) (n + m) (xs ++ news) := by
    intro old ho
    have hge := grownCap_ge w (n + m) old e
    have hcm : grownCap w (n + m) old e ≤ maxLen := grownCap_le_maxLen w (n + m) old e h63
    refine ⟨hlen, .inr ⟨w.heap.size, _, _, rfl, hbase, heap_alloc_new w.drew _, hge, hcm, ?_, ?_⟩⟩
    · simp only [Array.size_append, List.size_toArray, size_zeroCells, hzs, hown.1, hl]
      omega
    · simp only [Array.toList_append, List.append_assoc]
      rw [← List.append_assoc, ← hlen]
      exact List.take_left
  have hbel : ∀ o, Below w.heap.size w (w.drew.alloc o) := fun o => (Below.refl _ _).drew.alloc (Nat.le_refl _) _
  rcases hown.2 with ⟨rfl, rfl⟩ | ⟨g, cap, cur, rfl, hbg, hg, hnc, hcm, hcs, htake⟩
  · have hx : xs = [] := List.eq_nil_of_length_eq_zero (by simpa using hown.1)
    subst hx
    have hr := run_append_nil (P := P) w t ty e i z ht hi hz a m c news (by rw [hsize]; exact hl) hnews (by omega) (by omega) (by have hb := hbytes; simp only [Nat.zero_add] at hb; omega)
    have hgr := grown 0 (by omega)
    simp only [Nat.zero_add, List.nil_append, Array.empty_append] at hgr ⊢
    exact ⟨_, _, hr, hgr, .inr ⟨rfl, hbel _⟩⟩
  · by_cases hroom : n + m ≤ cap
    · have hfit : n * i.size + news.length ≤ cur.size := by rw [hsize, hl, hcs, ← Nat.add_mul]; exact Nat.mul_le_mul_right _ hroom
      have hr := run_append_room (P := P) w t ty e i ht hi g n cap cur hg a m c news (by rw [hsize]; exact hl) hnews h1 hroom hfit
      refine ⟨_, _, hr, ⟨hlen, .inr ⟨g, cap, _, rfl, hbg, setRow_heap w g cur _ e _ hg, hroom, hcm, ?_, ?_⟩⟩, .inl ⟨g, cap, rfl, rfl, ⟨rfl, rfl, rfl, by simp, fun k _ hk => setRow_other w g k _ (fun e => hk (by simp [e]))⟩⟩⟩
      · simp only [List.size_toArray, List.length_append, List.length_take, List.length_drop, Array.length_toList]
        rw [hsize]
        omega
      · rw [hsize, htake, ← hlen]
        exact List.take_left
    · have holds : ∀ j u, xs[j]? = some u → w.cell? ((⟨g, 0, none⟩ : Addr).add j) = some u := hown.cells (g := g) rfl
      have hr := run_append_grow (P := P) w t ty e i z ht hi hz ⟨g, 0, none⟩ n cap xs (by rw [hsize]; exact hown.1) holds a m c news (by rw [hsize]; exact hl) hnews (by omega) (by omega) (growslice_fits (by omega) hbytes)
      exact ⟨_, _, hr, grown cap (by omega), .inr ⟨rfl, hbel _⟩⟩

theorem wp_append_two {P : Program} (w : World) {o : Oper} {a : Act} {K : Act → World → Prop} {Q : Exit → Act → World → Prop} (s x : Operand) (t : TypeId)
    (ho : o.op = .call { callee := .builtin .append, args := #[s, x], argTypes := #[t, t] })
    (base : Nat) (e : TypeId) (i : TypeInfo) (z : Value) (bytes : Nat) (ht : P.underlying t = some (.slice e)) (hi : P.info? e = some i) (hz : i.zero = some z)
    (hsize : i.size = 1) (hby : i.bytes = bytes) (hzs : z.cells.size = 1)
    (v : Value) (n : Nat) (xs : List Value) (hs : a.eval s = v) (hown : w.ownsRow base e 1 v n xs)
    (ad : Addr) (m c : Nat) (news : List Value) (hx : a.eval x = .slice (some ad) m c) (hm : 0 < m) (hl : news.length = m * 1) (hnews : ∀ j u, news[j]? = some u → w.cell? (ad.add j) = some u) (h1 : ∀ u ∈ news, u.oneCell' = true)
    (h63 : n + m ≤ maxLen) (hbytes : (n + m) * bytes ≤ 140737488355328) (hbase : base ≤ w.heap.size)
    (h : ∀ v' w', w'.ownsRow base e 1 v' (n + m) (xs ++ news) → ((∃ g cap, v = .slice (some ⟨g, 0, none⟩) n cap ∧ v' = .slice (some ⟨g, 0, none⟩) (n + m) cap ∧ w.grownBy w' (some g)) ∨
       (v'.ownBlock = some w.heap.size ∧ Below w.heap.size w w')) → K (a.put o.dst v') w') : o.wp P a w K Q := by
  obtain ⟨v', w', hr, h2, h3⟩ := append_two (P := P) w base t o.type e i z bytes ht hi hz hsize hby hzs v n xs hown ad m c news hm hl hnews h1 h63 hbytes hbase
  unfold Oper.wp execOp
  simp only [ho, resolve, invoke, builtin, Sem.run_bind, Sem.run_pure, Result.andThen_ok, List.map_toArray, List.map_cons, List.map_nil, hs, hx, hr]
  exact h v' w' h2 h3

theorem wpList_append_two {P : Program} (w : World) {ops : Array Oper} {rest : List Oper} {o : Oper} {a : Act} {Q : Exit → Act → World → Prop} (hgd : o.guard = none) (s x : Operand) (t : TypeId)
    (ho : o.op = .call { callee := .builtin .append, args := #[s, x], argTypes := #[t, t] })
    (base : Nat) (e : TypeId) (i : TypeInfo) (z : Value) (bytes : Nat) (ht : P.underlying t = some (.slice e)) (hi : P.info? e = some i) (hz : i.zero = some z)
    (hsize : i.size = 1) (hby : i.bytes = bytes) (hzs : z.cells.size = 1)
    (v : Value) (n : Nat) (xs : List Value) (hs : a.eval s = v) (hown : w.ownsRow base e 1 v n xs)
    (ad : Addr) (m c : Nat) (news : List Value) (hx : a.eval x = .slice (some ad) m c) (hm : 0 < m) (hl : news.length = m * 1) (hnews : ∀ j u, news[j]? = some u → w.cell? (ad.add j) = some u) (h1 : ∀ u ∈ news, u.oneCell' = true)
    (h63 : n + m ≤ maxLen) (hbytes : (n + m) * bytes ≤ 140737488355328) (hbase : base ≤ w.heap.size)
    (h : ∀ v' w', w'.ownsRow base e 1 v' (n + m) (xs ++ news) → ((∃ g cap, v = .slice (some ⟨g, 0, none⟩) n cap ∧ v' = .slice (some ⟨g, 0, none⟩) (n + m) cap ∧ w.grownBy w' (some g)) ∨
       (v'.ownBlock = some w.heap.size ∧ Below w.heap.size w w')) → wpList P ops Q rest (a.put o.dst v') w') : wpList P ops Q (o :: rest) a w :=
  wpList_plain hgd fun _ hK => wp_append_two w s x t ho base e i z bytes ht hi hz hsize hby hzs v n xs hs hown ad m c news hx hm hl hnews h1 h63 hbytes hbase fun v' w' h2 h3 => hK _ _ (h v' w' h2 h3)

theorem two_grown {w w' : World} {n m : Nat} {v v' : Value}
    (hcase : (∃ g cap, v = .slice (some ⟨g, 0, none⟩) n cap ∧ v' = .slice (some ⟨g, 0, none⟩) (n + m) cap ∧ w.grownBy w' (some g)) ∨ (v'.ownBlock = some w.heap.size ∧ Below w.heap.size w w')) : w.grownBy w' v.ownBlock := by
  rcases hcase with ⟨g, cap, rfl, rfl, hg⟩ | ⟨_, hb⟩
  · exact hg
  · exact ⟨hb.os, hb.tape, hb.output, hb.size, fun k hk _ => hb.block k hk⟩
theorem OwnB.of_mark {w : World} {base a n : Nat} {v : Value} (h : w.ownsRow base 5 1 v (n + 1) ((marksB a 0 n).map vb ++ [vb (markB a n)])) : OwnB w base v (marksB a 0 (n + 1)) := by
  rw [marksB_succ, Nat.zero_add]
  apply OwnB.of_push
  rw [marksB_length]
  exact h

/-- Families: index j < N has some owned slices; different indexes never share a block. -/
structure Fam (w : World) (base : Nat) (N : Nat) (F : Nat → List (Value × List UInt8)) : Prop where
  own : ∀ j, j < N → ∀ p ∈ F j, OwnB w base p.1 p.2
  apart : ∀ i j, i < N → j < N → i ≠ j → ∀ p ∈ F i, ∀ q ∈ F j, p.1.ownBlock = none ∨ p.1.ownBlock ≠ q.1.ownBlock

theorem Fam.congr {w : World} {base N : Nat} {F G : Nat → List (Value × List UInt8)} (h : Fam w base N F) (hFG : ∀ j, j < N → G j = F j) : Fam w base N G :=
  ⟨fun j hj p hp => h.own j hj p (by rwa [← hFG j hj]), fun i j hi hj hne p hp q hq => h.apart i j hi hj hne p (by rwa [← hFG i hi]) q (by rwa [← hFG j hj])⟩
theorem Fam.below {w w' : World} {base N : Nat} {F : Nat → List (Value × List UInt8)} (h : Fam w base N F) (hb : Below w.heap.size w w') : Fam w' base N F :=
  ⟨fun j hj p hp => (h.own j hj p hp).below hb, h.apart⟩
theorem Fam.alloc {w : World} {base N : Nat} {F : Nat → List (Value × List UInt8)} (h : Fam w base N F) (o : Obj) : Fam (w.alloc o) base N F :=
  ⟨fun j hj p hp => (h.own j hj p hp).alloc o, h.apart⟩
theorem Fam.drewN {w : World} {base N : Nat} {F : Nat → List (Value × List UInt8)} (h : Fam w base N F) (n : Nat) : Fam (w.drewN n) base N F := ⟨h.own, h.apart⟩
theorem Fam.kept {w w' : World} {base N : Nat} {F : Nat → List (Value × List UInt8)} {row : Option Nat} (h : Fam w base N F) (hg : w.grownBy w' row) (hne : ∀ j, j < N → ∀ p ∈ F j, p.1.ownBlock = none ∨ p.1.ownBlock ≠ row) : Fam w' base N F :=
  ⟨fun j hj p hp => (h.own j hj p hp).kept hg (hne j hj p hp), h.apart⟩

theorem Fam.drew {w : World} {base N : Nat} {F : Nat → List (Value × List UInt8)} (h : Fam w base N F) : Fam w.drew base N F := ⟨h.own, h.apart⟩
theorem Fam.dup {w : World} {base N k : Nat} {p : Value × List UInt8} {F : Nat → List (Value × List UInt8)} (h : Fam w base N F) (hF : F k = [p]) : Fam w base N (fun j => if j = k then [p, p] else F j) := by
  have hm : ∀ j q, q ∈ (if j = k then [p, p] else F j) → q ∈ F j := by
    intro j q hq
    by_cases hj : j = k
    · subst hj; simp at hq; subst hq; rw [hF]; simp
    · simpa [hj] using hq
  exact ⟨fun j hj q hq => h.own j hj q (hm j q hq), fun i j hi hj hne q hq r hr => h.apart i j hi hj hne q (hm i q hq) r (hm j r hr)⟩
theorem rows_ne {w : World} {b b' : Nat} {e e' : TypeId} {v u : Value} {n m : Nat} {xs ys : List Value} (h : w.ownsRow b e 1 v n xs) (h' : w.ownsRow b' e' 1 u m ys) (hne : e ≠ e') : v.ownBlock = none ∨ v.ownBlock ≠ u.ownBlock := by
  rcases h.2 with ⟨rfl, _⟩ | ⟨g, cap, cur, rfl, _, hg, _⟩
  · exact .inl rfl
  rcases h'.2 with ⟨rfl, _⟩ | ⟨g', cap', cur', rfl, _, hg', _⟩
  · exact .inr (by simp [Value.ownBlock])
  · refine .inr (fun e => ?_)
    have : g = g' := by simpa [Value.ownBlock] using e
    subst this
    rw [hg] at hg'
    injection hg' with hg'
    injection hg' with _ h2
    exact hne h2

/-- A store into the only slice of index k. -/
theorem Fam.store {w : World} {base N k g n c : Nat} {l : List UInt8} {F : Nat → List (Value × List UInt8)} (h : Fam w base N F) (hk : k < N) (hF : F k = [(.slice (some ⟨g, 0, none⟩) n c, l)]) (i : Nat) (b : UInt8) :
    Fam (w.setCell ⟨g, i, none⟩ (.int .u8 (b.toNat : Int))) base N (fun j => if j = k then [(.slice (some ⟨g, 0, none⟩) n c, l.set i b)] else F j) := by
  have hmem : ((.slice (some ⟨g, 0, none⟩) n c, l) : Value × List UInt8) ∈ F k := by rw [hF]; simp
  have ho : OwnB w base (.slice (some ⟨g, 0, none⟩) n c) l := h.own k hk _ hmem
  obtain ⟨h1, h2⟩ := ho.stored i b
  refine ⟨fun j hj p hp => ?_, fun i' j hi hj hne p hp q hq => ?_⟩
  · by_cases hjk : j = k
    · simp only [hjk, if_true, List.mem_singleton] at hp
      subst hp
      exact h1
    · simp only [hjk, if_false] at hp
      exact (h.own j hj p hp).kept h2 (h.apart j k hj hk hjk p hp _ hmem)
  · by_cases hik : i' = k
    · have hjk : j ≠ k := fun e => hne (hik.trans e.symm)
      simp only [hik, if_true, List.mem_singleton] at hp
      simp only [hjk, if_false] at hq
      subst hp
      exact h.apart k j hk hj (fun e => hjk e.symm) _ hmem q hq
    · simp only [hik, if_false] at hp
      by_cases hjk : j = k
      · simp only [hjk, if_true, List.mem_singleton] at hq
        subst hq
        exact h.apart i' k hi hk hik p hp (_, l) hmem
      · simp only [hjk, if_false] at hq
        exact h.apart i' j hi hj hne p hp q hq

/-- An append onto one of the slices of index k: a second one of that index, no longer than it, stays. -/
theorem Fam.append {w w' : World} {base N k n m : Nat} {v v' v0 : Value} {l0 l l' : List UInt8} {F : Nat → List (Value × List UInt8)} (h : Fam w base N F) (hk : k < N) (hF : F k = [(v0, l0), (v, l)])
    (hl0 : l0.length ≤ l.length) (hpre : l0 = l.take l0.length) (hpre' : l = l'.take l.length) (hown : OwnB w' base v' l')
    (hcase : (∃ g cap, v = .slice (some ⟨g, 0, none⟩) n cap ∧ v' = .slice (some ⟨g, 0, none⟩) (n + m) cap ∧ w.grownBy w' (some g)) ∨ (v'.ownBlock = some w.heap.size ∧ Below w.heap.size w w')) :
    Fam w' base N (fun j => if j = k then [(v0, l0), (v', l')] else F j) := by
  have ho0 : OwnB w base v0 l0 := h.own k hk (v0, l0) (by rw [hF]; simp)
  have ho1 : OwnB w base v l := h.own k hk (v, l) (by rw [hF]; simp)
  have hlt : ∀ j, j < N → ∀ p ∈ F j, p.1.ownBlock ≠ some w.heap.size := fun j hj p hp e => by
    have := ((h.own j hj p hp).lt _ e).2
    omega
  have hblk : v'.ownBlock = v.ownBlock ∨ v'.ownBlock = some w.heap.size := by
    rcases hcase with ⟨g, cap, rfl, rfl, _⟩ | ⟨h1, _⟩
    · exact .inl rfl
    · exact .inr h1
  have hold : ∀ j, j < N → j ≠ k → ∀ p ∈ F j, OwnB w' base p.1 p.2 := by
    intro j hj hjk p hp
    rcases hcase with ⟨g, cap, rfl, rfl, hg⟩ | ⟨_, hb⟩
    · exact (h.own j hj p hp).kept hg (h.apart j k hj hk hjk p hp (.slice (some ⟨g, 0, none⟩) n cap, l) (by rw [hF]; simp))
    · exact (h.own j hj p hp).below hb
  have h0' : OwnB w' base v0 l0 := by
    rcases hcase with ⟨g, cap, hv, hv', hg⟩ | ⟨_, hb⟩
    · by_cases hb0 : v0.ownBlock = some g
      · refine OwnB.same_block (b := g) ho0 hown ?_ hb0 (by rw [hv']; rfl) ?_ ?_
        · intro e
          have := (ho0.lt g hb0).2
          rw [Array.getElem?_eq_none_iff] at e
          omega
        · intro n0 n1 c0 c1 e0 e1
          subst hv
          rw [hv'] at e1
          rcases ho0.2 with ⟨h', _⟩ | ⟨g0, cap0, cur0, h', _, hgg0, _, _, hs0, _⟩
          · rw [h'] at hb0; simp [Value.ownBlock] at hb0
          rcases ho1.2 with ⟨h1', _⟩ | ⟨g1, cap1, cur1, h1', _, hgg1, _, _, hs1, _⟩
          · cases h1'
          injection h1' with e2 e3 e4
          injection e2 with e2
          injection e2 with e2
          rw [e0] at h'
          injection h' with f2 f3 f4
          injection f2 with f2
          injection f2 with f2
          injection e1 with _ _ e5
          subst e2 f2
          rw [hgg0] at hgg1
          injection hgg1 with hgg1
          injection hgg1 with hgg1
          subst hgg1
          omega
        · rw [hpre]
          have e : l.take l0.length = (l'.take l.length).take l0.length := by rw [← hpre']
          rw [List.length_take, Nat.min_eq_left hl0, e, List.take_take, Nat.min_eq_left hl0]
      · exact ho0.kept hg (.inr hb0)
    · exact ho0.below hb
  refine ⟨fun j hj p hp => ?_, fun i j hi hj hne p hp q hq => ?_⟩
  · by_cases hjk : j = k
    · simp only [hjk, if_true, List.mem_cons, List.not_mem_nil, or_false] at hp
      rcases hp with rfl | rfl
      · exact h0'
      · exact hown
    · simp only [hjk, if_false] at hp
      exact hold j hj hjk p hp
  · by_cases hik : i = k
    · have hjk : j ≠ k := fun e => hne (hik.trans e.symm)
      simp only [hik, if_true, List.mem_cons, List.not_mem_nil, or_false] at hp
      simp only [hjk, if_false] at hq
      rcases hp with rfl | rfl
      · exact h.apart k j hk hj (fun e => hjk e.symm) (v0, l0) (by rw [hF]; simp) q hq
      · rcases hblk with e | e
        · simp only [e]
          exact h.apart k j hk hj (fun e => hjk e.symm) (v, l) (by rw [hF]; simp) q hq
        · simp only [e]
          exact .inr (fun e' => hlt j hj q hq e'.symm)
    · simp only [hik, if_false] at hp
      by_cases hjk : j = k
      · simp only [hjk, if_true, List.mem_cons, List.not_mem_nil, or_false] at hq
        rcases hq with rfl | rfl
        · exact h.apart i k hi hk hik p hp (v0, l0) (by rw [hF]; simp)
        · rcases hblk with e | e
          · simp only [e]
            exact h.apart i k hi hk hik p hp (v, l) (by rw [hF]; simp)
          · simp only [e]
            exact .inr (hlt i hi p hp)
      · simp only [hjk, if_false] at hq
        exact h.apart i j hi hj hne p hp q hq

/-- A list of owned slices, no two on one block. -/
structure Hp (w : World) (base : Nat) (ps : List (Value × List UInt8)) : Prop where
  own : ∀ (i : Nat) p, ps[i]? = some p → OwnB w base p.1 p.2
  apart : ∀ (i j : Nat) p q, i ≠ j → ps[i]? = some p → ps[j]? = some q → p.1.ownBlock = none ∨ p.1.ownBlock ≠ q.1.ownBlock
theorem Hp.nil (w : World) (base : Nat) : Hp w base [] := ⟨fun i p h => by simp at h, fun i j p q _ h => by simp at h⟩
theorem Hp.below {w w' : World} {base : Nat} {ps : List (Value × List UInt8)} (h : Hp w base ps) (hb : Below w.heap.size w w') : Hp w' base ps := ⟨fun i p hp => (h.own i p hp).below hb, h.apart⟩
theorem Hp.push {w w' : World} {base : Nat} {ps : List (Value × List UInt8)} {v : Value} {l : List UInt8} (h : Hp w base ps) (hb : Below w.heap.size w w') (ho : OwnB w' w.heap.size v l) (hs : base ≤ w.heap.size) : Hp w' base (ps ++ [(v, l)]) := by
  have key : ∀ (i : Nat) p, (ps ++ [(v, l)])[i]? = some p → ps[i]? = some p ∨ (i = ps.length ∧ p = (v, l)) := by
    intro i p hp
    rcases Nat.lt_or_ge i ps.length with hi | hi
    · rw [List.getElem?_append_left hi] at hp; exact .inl hp
    · rw [List.getElem?_append_right hi] at hp
      have : i - ps.length = 0 := by
        rcases Nat.eq_zero_or_pos (i - ps.length) with h0 | h0
        · exact h0
        · rw [List.getElem?_eq_none (by simp; omega)] at hp; cases hp
      rw [this] at hp
      simp only [List.getElem?_cons_zero, Option.some.injEq] at hp
      exact .inr ⟨by omega, hp.symm⟩
  have hnew : ∀ (i : Nat) p, ps[i]? = some p → v.ownBlock = none ∨ v.ownBlock ≠ p.1.ownBlock := by
    intro i p hp
    cases hv : v.ownBlock with
    | none => exact .inl rfl
    | some g =>
      refine .inr (fun e => ?_)
      have h1 := (ho.lt g hv).1
      have h2 := ((h.own i p hp).lt g e.symm).2
      omega
  have hnew' : ∀ (i : Nat) p, ps[i]? = some p → p.1.ownBlock = none ∨ p.1.ownBlock ≠ v.ownBlock := by
    intro i p hp
    cases hv : p.1.ownBlock with
    | none => exact .inl rfl
    | some g =>
      refine .inr (fun e => ?_)
      have h1 := (ho.lt g e.symm).1
      have h2 := ((h.own i p hp).lt g hv).2
      omega
  refine ⟨fun i p hp => ?_, fun i j p q hij hp hq => ?_⟩
  · rcases key i p hp with h1 | ⟨_, rfl⟩
    · exact (h.own i p h1).below hb
    · exact ho.more hs
  · rcases key i p hp with h1 | ⟨e1, rfl⟩
    · rcases key j q hq with h2 | ⟨e2, rfl⟩
      · exact h.apart i j p q hij h1 h2
      · exact hnew' i p h1
    · rcases key j q hq with h2 | ⟨e2, rfl⟩
      · exact hnew j q h2
      · exact absurd (e1.trans e2.symm) hij
theorem Hp.over {w w' : World} {base g i : Nat} {ps : List (Value × List UInt8)} {v : Value} {l l' : List UInt8} (h : Hp w base ps) (hi : ps[i]? = some (v, l)) (hv : v.ownBlock = some g) (hg : w.grownBy w' (some g)) (ho : OwnB w' base v l') : Hp w' base (ps.set i (v, l')) := by
  have hlt : i < ps.length := (List.getElem?_eq_some_iff.1 hi).1
  have key : ∀ (j : Nat) p, (ps.set i (v, l'))[j]? = some p → (j ≠ i ∧ ps[j]? = some p) ∨ (j = i ∧ p = (v, l')) := by
    intro j p hp
    by_cases hj : j = i
    · subst hj; rw [List.getElem?_set_self hlt] at hp; injection hp with hp; exact .inr ⟨rfl, hp.symm⟩
    · rw [List.getElem?_set_ne (fun e => hj e.symm)] at hp; exact .inl ⟨hj, hp⟩
  refine ⟨fun j p hp => ?_, fun j k p q hjk hp hq => ?_⟩
  · rcases key j p hp with ⟨hne, h1⟩ | ⟨_, rfl⟩
    · exact (h.own j p h1).kept hg (by have := h.apart j i p _ hne h1 hi; rwa [hv] at this)
    · exact ho
  · rcases key j p hp with ⟨h1, h2⟩ | ⟨rfl, rfl⟩
    · rcases key k q hq with ⟨h3, h4⟩ | ⟨rfl, rfl⟩
      · exact h.apart j k p q hjk h2 h4
      · exact h.apart j k p (v, l) hjk h2 hi
    · rcases key k q hq with ⟨h3, h4⟩ | ⟨e, _⟩
      · exact h.apart j k (v, l) q hjk hi h4
      · exact absurd e.symm hjk
/-- Some of them. -/
theorem Hp.sel {w : World} {base : Nat} {ps qs : List (Value × List UInt8)} (h : Hp w base ps) (is : List Nat) (hn : is.Nodup) (hq : qs.map some = is.map fun i => ps[i]?) : Hp w base qs := by
  have key : ∀ (j : Nat) p, qs[j]? = some p → ∃ i, is[j]? = some i ∧ ps[i]? = some p := by
    intro j p hp
    have h1 : (qs.map some)[j]? = some (some p) := by rw [List.getElem?_map, hp]; rfl
    rw [hq, List.getElem?_map] at h1
    cases hi : is[j]? with
    | none => rw [hi] at h1; cases h1
    | some i => rw [hi] at h1; injection h1 with h1; exact ⟨i, rfl, h1⟩
  refine ⟨fun j p hp => ?_, fun j k p q hjk hp hq' => ?_⟩
  · obtain ⟨i, _, h1⟩ := key j p hp
    exact h.own i p h1
  · obtain ⟨i, hi, h1⟩ := key j p hp
    obtain ⟨i', hi', h2⟩ := key k q hq'
    refine h.apart i i' p q (fun e => hjk ?_) h1 h2
    subst e
    exact (List.getElem?_inj (List.getElem?_eq_some_iff.1 hi).1 hn).1 (hi.trans hi'.symm)

/-- The state of a call: what was there when it began is as it was; its own slices of bytes. -/
structure OSt (w0 w : World) (ps : List (Value × List UInt8)) : Prop where
  low : Below w0.heap.size w0 w
  hp : Hp w w0.heap.size ps
theorem OSt.start (w : World) : OSt w w [] := ⟨Below.refl _ _, Hp.nil _ _⟩
section
variable {w0 w w' : World} {ps : List (Value × List UInt8)}
theorem OSt.call (h : OSt w0 w ps) (hb : Below w.heap.size w w') : OSt w0 w' ps := ⟨h.low.trans (hb.mono h.low.size), h.hp.below hb⟩
theorem OSt.name (h : OSt w0 w ps) : ∃ qs, qs = ps ∧ OSt w0 w qs := ⟨ps, rfl, h⟩
theorem OSt.drewN (h : OSt w0 w ps) (n : Nat) : OSt w0 (w.drewN n) ps := h.call (bdrewN (Below.refl _ _) n)
theorem OSt.drew (h : OSt w0 w ps) : OSt w0 w.drew ps := h.call (Below.refl _ _).drew
theorem OSt.push {v : Value} {l : List UInt8} (h : OSt w0 w ps) (ho : OwnB w' w.heap.size v l) (hb : Below w.heap.size w w') : OSt w0 w' (ps ++ [(v, l)]) := ⟨h.low.trans (hb.mono h.low.size), h.hp.push hb ho h.low.size⟩
theorem OSt.arg {size n : Nat} {A : Option Addr} {xs : List Value} (h : OSt w0 w ps) (hr : Rd w0 size A n xs) : Rd w size A n xs := hr.below h.low
theorem OSt.get {v : Value} {l : List UInt8} (h : OSt w0 w ps) (i : Nat) (hi : ps[i]? = some (v, l)) : OwnB w w0.heap.size v l := h.hp.own i _ hi
theorem OSt.rd {A : Option Addr} {n c : Nat} {l : List UInt8} (h : OSt w0 w ps) (i : Nat) (hi : ps[i]? = some (.slice A n c, l)) : Rd w 1 A n (l.map vb) := by
  have ho := h.get i hi
  have hn := ho.len_eq
  subst hn
  exact Rd.of_own ho
theorem OSt.pre {g N c n : Nat} {l m : List UInt8} (h : OSt w0 w ps) (i : Nat) (hi : ps[i]? = some (.slice (some ⟨g, 0, none⟩) N c, l ++ m)) (hn : l.length = n) : Rd w 1 (some ⟨g, 0, none⟩) n (l.map vb) := by
  subst hn
  exact Rd.of_own (h.get i hi).front
theorem OSt.overs {g n c N : Nat} {l : List UInt8} {w2 : World} (h : OSt w0 w ps) (i : Nat) (hi : ps[i]? = some (.slice (some ⟨g, 0, none⟩) n c, l)) (ho : OwnB w2 w0.heap.size (.slice (some ⟨g, 0, none⟩) n c) (marksB 9 0 N)) (hg : w.grownBy w2 (some g)) : OSt w0 w2 (ps.set i (.slice (some ⟨g, 0, none⟩) n c, marksB 9 0 N)) := by
  have ho1 := h.get i hi
  exact ⟨h.low.grown hg h.low.size (fun k e => by injection e with e; subst e; exact (ho1.lt _ rfl).1), h.hp.over hi rfl hg ho⟩
theorem OSt.over {v : Value} {l l' : List UInt8} {g : Nat} (h : OSt w0 w ps) (i : Nat) (hi : ps[i]? = some (v, l)) (hv : v.ownBlock = some g) (hg : w.grownBy w' (some g)) (ho : OwnB w' w0.heap.size v l') : OSt w0 w' (ps.set i (v, l')) :=
  ⟨h.low.grown hg h.low.size (fun k e => by injection e with e; subst e; exact ((h.get i hi).lt _ hv).1), h.hp.over hi hv hg ho⟩
end
end Go.Proofs.Ytcnphkmcgefjoaa

namespace Go.Proofs.Ytcnphkmcgefjoaa
open Go.RowKit

theorem lb_info : (Try.prog.info? 22).map (fun i => (i.zero, i.size, i.bytes)) = some (some (.slice none 0 0), 1, 24) := by kernel_rfl

/-- the list that is handed in -/
def LR (w : World) (gL N cL : Nat) (vs : List Value) : Prop := w.ownsRow 0 22 1 (.slice (some ⟨gL, 0, none⟩) N cL) N vs
theorem LR.cell {w : World} {gL N cL k : Nat} {vs : List Value} (h : LR w gL N cL vs) (hk : k < N) : w.cell? ⟨gL, k, none⟩ = some (vs.getD k (.slice none 0 0)) := by
  have hl := h.1
  have := World.ownsRow.cellAt h k (by omega)
  rw [this, List.getD_eq_getElem?_getD, List.getElem?_eq_getElem (by omega)]
  rfl
theorem LR.ne {w : World} {gL N cL base : Nat} {vs : List Value} {v : Value} {l : List UInt8} (h : LR w gL N cL vs) (ho : OwnB w base v l) : v.ownBlock ≠ some gL := by
  rcases h.2 with ⟨h', _⟩ | ⟨g', cap', cur, h', _, hg, _⟩
  · cases h'
  injection h' with h1
  injection h1 with h1
  injection h1 with h1
  subst h1
  rcases ho.2 with ⟨rfl, _⟩ | ⟨g, cap, cur', rfl, _, hgg, _⟩
  · simp [Value.ownBlock]
  · intro e
    have : g = gL := by simpa [Value.ownBlock] using e
    subst this
    rw [hg] at hgg
    injection hgg with hgg
    injection hgg with _ h2
    exact absurd h2 (by decide)
theorem LR.below {w w' : World} {gL N cL : Nat} {vs : List Value} (h : LR w gL N cL vs) (hb : Below w.heap.size w w') : LR w' gL N cL vs :=
  World.ownsRow.kept h (row := none) ⟨hb.os, hb.tape, hb.output, hb.size, fun k hk _ => hb.block k hk⟩ (.inr (by simp [Value.ownBlock]))
theorem LR.kept' {w w' : World} {gL N cL : Nat} {vs : List Value} {row : Option Nat} (h : LR w gL N cL vs) (hg : w.grownBy w' row) (hne : row ≠ some gL) : LR w' gL N cL vs :=
  World.ownsRow.kept h hg (.inr (by simp only [Value.ownBlock]; exact fun e => hne e.symm))
theorem LR.kept {w w' : World} {gL N cL g : Nat} {vs : List Value} (h : LR w gL N cL vs) (hg : w.grownBy w' (some g)) (hne : g ≠ gL) : LR w' gL N cL vs :=
  World.ownsRow.kept h hg (.inr (by simp [Value.ownBlock]; exact fun e => hne e.symm))

/-- after round k of the first loop -/
def F1 (vs : List Value) (ls : List (List UInt8)) (k : Nat) : Nat → List (Value × List UInt8) := fun j =>
  [(vs.getD j (.slice none 0 0), if j < k then marksB (j + 10) 0 (ls.getD j []).length else ls.getD j [])]
def F1i (vs : List Value) (ls : List (List UInt8)) (k i : Nat) : Nat → List (Value × List UInt8) := fun j =>
  if j = k then [(vs.getD k (.slice none 0 0), marksB (k + 10) 0 i ++ (ls.getD k []).drop i)] else F1 vs ls k j
theorem Fam.one {w : World} {base N j : Nat} {F : Nat → List (Value × List UInt8)} {v : Value} {l : List UInt8} (h : Fam w base N F) (hj : j < N) (hF : F j = [(v, l)]) : OwnB w base v l := h.own j hj (v, l) (by rw [hF]; simp)
theorem F1_at (vs : List Value) (ls : List (List UInt8)) (k : Nat) : F1 vs ls k k = [(vs.getD k (.slice none 0 0), ls.getD k [])] := by simp [F1]
theorem F1i_zero (vs : List Value) (ls : List (List UInt8)) (k : Nat) : F1i vs ls k 0 = F1 vs ls k := by
  funext j
  unfold F1i F1
  by_cases h : j = k
  · subst h; simp [marksB]
  · simp [h]
theorem F1i_end (vs : List Value) (ls : List (List UInt8)) (k : Nat) : F1i vs ls k (ls.getD k []).length = F1 vs ls (k + 1) := by
  funext j
  unfold F1i F1
  by_cases h : j = k
  · subst h; simp [marksB]
  · have : (j < k + 1) ↔ (j < k) := by omega
    simp [h, this]
theorem F1i_at (vs : List Value) (ls : List (List UInt8)) (k i : Nat) : F1i vs ls k i k = [(vs.getD k (.slice none 0 0), marksB (k + 10) 0 i ++ (ls.getD k []).drop i)] := by simp [F1i]
theorem F1i_succ (vs : List Value) (ls : List (List UInt8)) (k i : Nat) (h : i < (ls.getD k []).length) :
    (fun j => if j = k then [(vs.getD k (.slice none 0 0), (marksB (k + 10) 0 i ++ (ls.getD k []).drop i).set i (markB (k + 10) i))] else F1i vs ls k i j) = F1i vs ls k (i + 1) := by
  have hs := over_step (m := k + 10) h
  rw [Nat.zero_add] at hs
  funext j
  by_cases hj : j = k
  · subst hj; simp only [F1i, if_true]; rw [hs]
  · simp only [F1i, hj, if_false]

/-- after round k of the second loop: beside each slice, from 0 to k - 1, what it was gone on with -/
def F2 (vs : List Value) (ls : List (List UInt8)) (Gs : List Value) (k : Nat) : Nat → List (Value × List UInt8) := fun j =>
  if j < k then [(vs.getD j (.slice none 0 0), marksB (j + 10) 0 (ls.getD j []).length), (Gs.getD j (.slice none 0 0), marksB (j + 10) 0 ((ls.getD j []).length + 6))]
  else [(vs.getD j (.slice none 0 0), marksB (j + 10) 0 (ls.getD j []).length)]
def F2i (vs : List Value) (ls : List (List UInt8)) (Gs : List Value) (k : Nat) (g : Value) (i : Nat) : Nat → List (Value × List UInt8) := fun j =>
  if j = k then [(vs.getD k (.slice none 0 0), marksB (k + 10) 0 (ls.getD k []).length), (g, marksB (k + 10) 0 ((ls.getD k []).length + i))] else F2 vs ls Gs k j
theorem F2_start (vs : List Value) (ls : List (List UInt8)) (N : Nat) : ∀ j, j < N → F2 vs ls [] 0 j = F1 vs ls N j := by
  intro j hj
  simp [F1, F2, hj]
theorem F2_at (vs : List Value) (ls : List (List UInt8)) (Gs : List Value) (k : Nat) : F2 vs ls Gs k k = [(vs.getD k (.slice none 0 0), marksB (k + 10) 0 (ls.getD k []).length)] := by simp [F2]
theorem F2i_zero (vs : List Value) (ls : List (List UInt8)) (Gs : List Value) (k : Nat) :
    (fun j => if j = k then [((vs.getD k (.slice none 0 0)), marksB (k + 10) 0 (ls.getD k []).length), ((vs.getD k (.slice none 0 0)), marksB (k + 10) 0 (ls.getD k []).length)] else F2 vs ls Gs k j) = F2i vs ls Gs k (vs.getD k (.slice none 0 0)) 0 := by
  funext j; simp [F2i]
theorem F2i_at (vs : List Value) (ls : List (List UInt8)) (Gs : List Value) (k : Nat) (g : Value) (i : Nat) : F2i vs ls Gs k g i k = [(vs.getD k (.slice none 0 0), marksB (k + 10) 0 (ls.getD k []).length), (g, marksB (k + 10) 0 ((ls.getD k []).length + i))] := by simp [F2i]
theorem F2i_succ (vs : List Value) (ls : List (List UInt8)) (Gs : List Value) (k : Nat) (g g' : Value) (i : Nat) :
    (fun j => if j = k then [(vs.getD k (.slice none 0 0), marksB (k + 10) 0 (ls.getD k []).length), (g', marksB (k + 10) 0 ((ls.getD k []).length + (i + 1)))] else F2i vs ls Gs k g i j) = F2i vs ls Gs k g' (i + 1) := by
  funext j
  by_cases hj : j = k <;> simp [F2i, hj]
theorem F2i_end (vs : List Value) (ls : List (List UInt8)) (Gs : List Value) (k : Nat) (g : Value) (hG : Gs.length = k) : F2i vs ls Gs k g 6 = F2 vs ls (Gs ++ [g]) (k + 1) := by
  funext j
  by_cases hj : j = k
  · subst hj; subst hG; simp [F2i, F2]
  · simp only [F2i, hj, if_false, F2]
    by_cases hjk : j < k
    · have h1 : j < k + 1 := by omega
      have h2 : (Gs ++ [g]).getD j (.slice none 0 0) = Gs.getD j (.slice none 0 0) := by
        rw [List.getD_eq_getElem?_getD, List.getD_eq_getElem?_getD, List.getElem?_append_left (by omega)]
      simp only [hjk, h1, if_true, h2]
    · have h1 : ¬ j < k + 1 := by omega
      simp only [hjk, h1, if_false]
theorem marksB_take (k s n m : Nat) (h : n ≤ m) : marksB k s n = (marksB k s m).take n := by
  simp [marksB, ← List.map_take, List.take_range, Nat.min_eq_left h]

theorem marksB_get {a n i : Nat} (h : i < n) : (marksB a 0 n)[i]? = some (markB a i) := by
  simp [marksB, h]
theorem OwnB.markAt {w : World} {base a n m c i : Nat} {A : Option Addr} (h : OwnB w base (.slice A m c) (marksB a 0 n)) (hi : i < n) :
    ∃ g, A = some ⟨g, 0, none⟩ ∧ w.cell? ⟨g, i, none⟩ = some (.int .u8 ((markB a i).toNat : Int)) := by
  have hm := h.len_eq
  rw [marksB_length] at hm
  obtain ⟨g, rfl, -⟩ := h.form (by omega)
  obtain ⟨x, hx, hc⟩ := h.cellAt (k := i) (by rw [marksB_length]; exact hi)
  rw [marksB_get hi] at hx
  injection hx with hx
  subst hx
  exact ⟨g, rfl, hc⟩
theorem LR.lit (w : World) (cs : Array Value) (n : Nat) (hn : cs.size = n) (h : n ≤ 1000) : LR (w.alloc (.cells cs 22)) w.heap.size n n cs.toList :=
  World.ownsRow_lit w cs n (Nat.zero_le _) (by simp only [maxLen]; omega) (by omega)
theorem LR.name {w : World} {gL N cL : Nat} {vs : List Value} (h : LR w gL N cL vs) : ∃ us, us = vs ∧ LR w gL N cL us := ⟨vs, rfl, h⟩
theorem LR.lt {w : World} {gL N cL : Nat} {vs : List Value} (h : LR w gL N cL vs) : gL < w.heap.size := (World.ownsRow.lt h gL rfl).2

set_option maxRecDepth 100000 in
set_option maxHeartbeats 2000000 in
theorem apartBytes_any (gL N cL base : Nat) (vs : List Value) (ls : List (List UInt8)) (w : World) (hL : LR w gL N cL vs) (hF : Fam w base N (F1 vs ls 0)) (hN : N ≤ 1000) (hbase : base ≤ w.heap.size)
    (hlen : ∀ j, j < N → (ls.getD j []).length ≤ 140737488355320) :
    Calls Try.prog 19 #[.slice (some ⟨gL, 0, none⟩) N cL] w fun e w' => e = .returned (.bool true) ∧ Below base w w' := by
  obtain ⟨i0, hi0, hz0, hz1, hz2⟩ := info_parts u8_info
  obtain ⟨i1, hi1, hy0, hy1, hy2⟩ := info_parts lb_info
  have HL := Lib.hid hlen
  clear hlen
  go_enter Try.func19, Try.ntmps19
  go_wp2
  go_loopw [3] (fun i wr => ∃ k : Nat, k ≤ N ∧ i = .int .i64 k ∧ Fam wr base N (F1 vs ls k) ∧ LR wr gL N cL vs ∧ Below base w wr) (fun i _ => N - (intOf i).toNat)
  case atStart => exact ⟨0, Nat.zero_le _, rfl, hF, hL, Below.refl _ _⟩
  case round =>
    obtain ⟨k, hk, rfl, hFk, hLk, hBk⟩ := hrel
    by_cases hlt : k < N
    · have hcell := hLk.cell hlt
      have hown := hFk.one hlt (F1_at vs ls k)
      obtain ⟨A, n, c, hv, hn, -⟩ := hown.shape
      have hnb : n ≤ 140737488355320 := by rw [hn.out]; exact HL.out k hlt
      rw [hv] at hcell
      have HV := Lib.hid hv
      clear hv hown
      obtain ⟨wo, rfl⟩ : ∃ wo : World, wo = wr := ⟨_, rfl⟩
      go_wp2
      go_loopw [4] (fun i wr => ∃ q : Nat, q ≤ n ∧ i = .int .i64 q ∧ Fam wr base N (F1i vs ls k q) ∧ LR wr gL N cL vs ∧ Below base w wr) (fun i _ => n - (intOf i).toNat)
      case atStart => exact ⟨0, Nat.zero_le _, rfl, by rw [F1i_zero]; exact hFk, hLk, hBk⟩
      case round =>
        obtain ⟨q, hq, rfl, hFq, hLq, hBq⟩ := hrel
        have hcellq := hLq.cell hlt
        rw [HV.out] at hcellq
        clear hcell
        by_cases hlq : q < n
        · have hFk' := F1i_at vs ls k q
          rw [HV.out] at hFk'
          have hown := hFq.one hlt hFk'
          obtain ⟨g, rfl, hbg, hgs⟩ := hown.form (by omega)
          obtain ⟨x, -, hcb⟩ := hown.cellAt (k := q) (by have := hn.out; simp only [List.length_append, marksB_length, List.length_drop]; omega)
          have hfr := hown.frozenAt q
          have hst := hFq.store hlt hFk' q (markB (k + 10) q)
          have hgr := (hown.stored q (markB (k + 10) q)).2
          have hne : g ≠ gL := fun e => hLq.ne hown (by rw [e]; rfl)
          have HFK := Lib.hid hFk'
          clear hFk'
          go_wp2
          have hw1 : IntKind.i64.wrap ((k : Int) + 10) = (k : Int) + 10 := IntWalk.i64_in _ (by omega)
          go_still_tail 10, (by kernel_rfl)
          clear hw1
          still_call ((markB_at (a := (k : Int) + 10) (k + 10) q (by omega) rfl _ (by omega) (by omega)).mono fun _ _ h => ⟨h.1, h.2.symm⟩)
          repeat still_step
          refine wpStill_nil ?_
          go_wp2
          go_roundw
          case rel =>
            refine ⟨q + 1, by omega, by go_num, ?_, hLq.kept (grownBy_drew hgr) hne, (hBq.grown (grownBy_drew hgr) (by have := hBq.size; omega) (fun g' h => by injection h with h; omega))⟩
            have e := F1i_succ vs ls k q (by have := hn.out; omega)
            rw [HV.out] at e
            rw [← e]
            exact hst.drew
          case measure => simp [intOf]; omega
        · have hqn : q = n := by omega
          subst hqn
          go_wp2
          go_roundw
          case rel => exact ⟨k + 1, by omega, by go_num, by rw [← F1i_end, ← hn.out]; exact hFq, hLq, hBq⟩
          case measure => simp [intOf]; omega
    · have hkN : N = k := by omega
      subst hkN
      go_wp2
      go_loopw [5, 6] (fun v i wr => ∃ (k : Nat) (Gs : List Value), k ≤ N ∧ i = .int .i64 k ∧ Hid (Gs.length = k) ∧ Fam wr base N (F2 vs ls Gs k) ∧ LR wr gL N cL vs ∧ wr.ownsRow w.heap.size 22 1 v k Gs ∧ Below base w wr) (fun _ i _ => N - (intOf i).toNat)
      case atStart => exact ⟨0, [], Nat.zero_le _, rfl, rfl, hFk.congr (F2_start vs ls N), hLk, World.ownsRow_nil _ _ _ _, hBk⟩
      case round =>
        clear hFk hLk hBk
        obtain ⟨k, Gs, hk, rfl, hGs, hFk, hLk, hGk, hBk⟩ := hrel
        by_cases hlt : k < N
        · have hcell := hLk.cell hlt
          have hFa := F2_at vs ls Gs k
          have hown := hFk.one hlt hFa
          obtain ⟨A, n, c, hv, hn, -⟩ := hown.shape
          rw [marksB_length] at hn
          have hnb : n ≤ 140737488355320 := by rw [hn.out]; exact HL.out k hlt
          have hd := hFk.dup hFa
          rw [F2i_zero] at hd
          rw [hv] at hcell hd
          have HV := Lib.hid hv
          clear hv hown hFa
          obtain ⟨wo, rfl⟩ : ∃ wo : World, wo = wr := ⟨_, rfl⟩
          go_wp2
          go_loopw [7, 8] (fun v i wr => ∃ q : Nat, q ≤ 6 ∧ i = .int .i64 q ∧ Fam wr base N (F2i vs ls Gs k v q) ∧ LR wr gL N cL vs ∧ wr.ownsRow w.heap.size 22 1 u5 k Gs ∧ Below base w wr) (fun _ i _ => 6 - (intOf i).toNat)
          case atStart => exact ⟨0, Nat.zero_le _, rfl, hd, hLk, hGk, hBk⟩
          case round =>
            clear hFk hLk hGk hBk hcell hd
            obtain ⟨q, hq, rfl, hFq, hLq, hGq, hBq⟩ := hrel
            have hcell := hLq.cell hlt
            rw [HV.out] at hcell
            by_cases hlq : q < 6
            · have hFa := F2i_at vs ls Gs k u7 q
              have ho7 : OwnB wr base u7 (marksB (k + 10) 0 (n + q)) := hFq.own k hlt (u7, _) (by rw [hFa, hn.out]; exact List.mem_cons_of_mem _ (List.mem_singleton.2 rfl))
              have hbs : base ≤ wr.heap.size := by have := hBq.size; omega
              have ho7r : (wr.alloc (.cells #[vb (markB (k + 10) (n + q))] 5)).ownsRow base 5 1 u7 (n + q) ((marksB (k + 10) 0 (n + q)).map vb) := by
                have := ho7.alloc (.cells #[vb (markB (k + 10) (n + q))] 5)
                unfold OwnB at this
                rwa [marksB_length] at this
              have HFA := Lib.hid hFa
              clear hFa
              go_wp2_with (first | (go_at_call 38; refine (markB_at (a := (k : Int) + 10) (b := (n : Int) + q) (k + 10) (n + q) (by omega) (by omega) _ (by omega) (by omega)).mono ?_; rintro e w2 ⟨rfl, rfl⟩) | (at_builtin; refine wpList_append_two _ rfl (.tmp 50) (.tmp 61) 22 rfl base 5 i0 (.int .u8 0) 1 Try.underlying22 hi0 hz0 hz1 hz2 rfl _ _ _ rfl ho7r ⟨wr.heap.size, 0, none⟩ 1 1 [vb (markB (k + 10) (n + q))] rfl (by omega) rfl (cell_one_new _ _ _) (by simp [Value.oneCell']) (by simp only [maxLen]; omega) (by omega) (by simp; omega) ?_; intro v2 w2 ho2 hcase))
              have ho3 := OwnB.of_mark ho2
              have hgr := two_grown hcase
              have hF3 := (hFq.alloc (.cells #[vb (markB (k + 10) (n + q))] 5)).append hlt HFA.out (by rw [marksB_length, marksB_length]; omega) (by rw [marksB_length]; exact marksB_take _ _ _ _ (by omega)) (by rw [marksB_length, ← hn.out]; exact marksB_take _ _ _ _ (by omega)) ho3 hcase
              have hL3 := LR.kept' (World.ownsRow.alloc hLq (.cells #[vb (markB (k + 10) (n + q))] 5)) hgr (hLq.ne ho7)
              have hG3 := (hGq.alloc (.cells #[vb (markB (k + 10) (n + q))] 5)).kept hgr (rows_ne hGq ho7 (by decide))
              have hB3 := (hBq.alloc hbs (.cells #[vb (markB (k + 10) (n + q))] 5)).grown hgr (by simp; omega) (fun g e => (ho7.lt g e).1)
              go_roundw
              case rel =>
                refine ⟨q + 1, by omega, by go_num, ?_, hL3, hG3, hB3⟩
                rw [← F2i_succ, ← hn.out, ← Nat.add_assoc]
                rw [← hn.out] at hF3
                exact hF3
              case measure => simp [intOf]; omega
            · have hq6 : q = 6 := by omega
              subst hq6
              clear hcell
              have hbs : w.heap.size ≤ wr.heap.size := hBq.size
              have ho7 : OwnB wr base u7 (marksB (k + 10) 0 (n + 6)) := hFq.own k hlt (u7, _) (by rw [F2i_at, hn.out]; exact List.mem_cons_of_mem _ (List.mem_singleton.2 rfl))
              obtain ⟨A7, n7, c7, rfl, -⟩ := ho7.shape
              have hgn : Gs.length ≤ 1000 := by have := hGs.out; omega
              rw [F2i_end _ _ _ _ _ hGs.out] at hFq
              go_wp2_with (at_builtin; refine wpList_append_own _ rfl (.tmp 63) (.tmp 65) 36 rfl w.heap.size 22 i1 (.slice none 0 0) 1 24 Try.underlying36 hi1 hy0 hy1 hy2 rfl (by decide) _ _ _ rfl (hGq.alloc _) ⟨wr.heap.size, 0, none⟩ 1 1 [.slice A7 n7 c7] rfl rfl (cell_one_new _ _ _) (by simp [Value.oneCell']) (by simp only [maxLen]; omega) (by omega) (by simp; omega) ?_; intro v2 w2 ho2 hgr hnil)
              have hgL := hL.lt
              have hF3 := (hFq.alloc (.cells #[.slice A7 n7 c7] 22)).kept hgr (fun j hj p hp => rows_ne (hFq.own j hj p hp) hGq (by decide))
              have hL3 := LR.kept' (World.ownsRow.alloc hLq (.cells #[.slice A7 n7 c7] 22)) hgr (fun e => by have := (hGq.lt _ e).1; omega)
              have hB3 := (hBq.alloc (by omega) (.cells #[.slice A7 n7 c7] 22)).grown hgr (by simp; omega) (fun g e => by have := (hGq.lt g e).1; omega)
              go_roundw
              case rel => exact ⟨k + 1, Gs ++ [.slice A7 n7 c7], by omega, by go_num, by rw [List.length_append, hGs.out]; rfl, hF3, hL3, ho2, hB3⟩
              case measure => simp [intOf]; omega
        · have hkN : N = k := by omega
          subst hkN
          obtain ⟨w3, rfl⟩ : ∃ w3 : World, w3 = wr := ⟨_, rfl⟩
          go_wp2
          go_loopw [9] (fun i wr => ∃ k q : Nat, k ≤ N ∧ i = .int .i64 k ∧ wr = w3.drewN q) (fun i _ => N - (intOf i).toNat)
          case atStart => exact ⟨0, 0, Nat.zero_le _, rfl, rfl⟩
          case round =>
            obtain ⟨k, q, hk, rfl, rfl⟩ := hrel
            by_cases hlt : k < N
            · obtain ⟨gG, cG, rfl, hgG, -⟩ := World.ownsRow.form hGk (by omega)
              have hkG : k < Gs.length := by have := hGs.out; omega
              have hcG : w3.cell? ⟨gG, k, none⟩ = some Gs[k] := by rw [World.ownsRow.cellAt hGk k (by omega), List.getElem?_eq_getElem hkG]
              have hcell := hLk.cell hlt
              have hFa : F2 vs ls Gs N k = [(vs.getD k (.slice none 0 0), marksB (k + 10) 0 (ls.getD k []).length), (Gs[k], marksB (k + 10) 0 ((ls.getD k []).length + 6))] := by
                simp only [F2, hlt, if_true]
                rw [List.getD_eq_getElem?_getD (l := Gs), List.getElem?_eq_getElem hkG]
                rfl
              have hoV := hFk.own k hlt (vs.getD k (.slice none 0 0), _) (by rw [hFa]; exact List.mem_cons_self)
              have hoG := hFk.own k hlt (Gs[k], _) (by rw [hFa]; exact List.mem_cons_of_mem _ (List.mem_singleton.2 rfl))
              simp only at hoV hoG
              obtain ⟨A, n, c, hv, hn, -⟩ := hoV.shape
              obtain ⟨A', n', c', hv', hn', -⟩ := hoG.shape
              have hnb : n ≤ 140737488355320 := by rw [hn.out, marksB_length]; exact HL.out k hlt
              have hnn : n' = n + 6 := by rw [hn.out, hn'.out, marksB_length, marksB_length]
              have hlen := hn.out
              rw [marksB_length] at hlen
              rw [← hlen, hv] at hoV
              rw [← hlen, hv'] at hoG
              rw [hv] at hcell
              rw [hv'] at hcG
              subst hnn
              clear hv hv' hn hn' hlen hFa
              go_wp2
              go_loopw [10] (fun i wr => ∃ t q : Nat, t ≤ n + 6 ∧ i = .int .i64 t ∧ wr = w3.drewN q) (fun i _ => n + 6 - (intOf i).toNat)
              case atStart => exact ⟨0, q, Nat.zero_le _, rfl, rfl⟩
              case round =>
                obtain ⟨t, q', ht, rfl, rfl⟩ := hrel
                by_cases hlt' : t < n + 6
                · obtain ⟨g', rfl, hcg'⟩ := hoG.markAt hlt'
                  have hw1 : IntKind.i64.wrap ((k : Int) + 10) = (k : Int) + 10 := IntWalk.i64_in _ (by omega)
                  have hb1 : (((markB (k + 10) t).toNat : Int) != ((markB (k + 10) t).toNat : Int)) = false := by simp
                  by_cases hln : t < n
                  · obtain ⟨g, rfl, hcg⟩ := hoV.markAt hln
                    have hb2 : decide ((t : Int) < n) = true := by simp; omega
                    go_wp2
                    go_quiet ((go_at_call 38; exact quiet_add_left ((markB_at (a := (k : Int) + 10) (k + 10) t (by omega) rfl _ (by omega) (by omega)))))
                    go_wp2
                    go_roundw
                    case rel => exact ⟨t + 1, q' + nq, by omega, by go_num, by simp⟩
                    case measure => simp [intOf]; omega
                  · have hb2 : decide ((t : Int) < n) = false := by simp; omega
                    go_wp2
                    go_quiet ((go_at_call 38; exact quiet_add_left ((markB_at (a := (k : Int) + 10) (k + 10) t (by omega) rfl _ (by omega) (by omega)))))
                    go_wp2
                    go_roundw
                    case rel => exact ⟨t + 1, q' + nq, by omega, by go_num, by simp⟩
                    case measure => simp [intOf]; omega
                · go_wp2
                  go_roundw
                  case rel => exact ⟨k + 1, q', by omega, by go_num, rfl⟩
                  case measure => simp [intOf]; omega
            · go_wp2
              go_ret
              exact ⟨rfl, bdrewN hBk q⟩

theorem Hp.fam {w : World} {base : Nat} {ps : List (Value × List UInt8)} (h : Hp w base ps) : Fam w base ps.length (F1 (ps.map (·.1)) (ps.map (·.2)) 0) := by
  have key : ∀ j, j < ps.length → ∃ p, ps[j]? = some p ∧ F1 (ps.map (·.1)) (ps.map (·.2)) 0 j = [p] := by
    intro j hj
    refine ⟨ps[j], List.getElem?_eq_getElem hj, ?_⟩
    simp [F1, List.getElem?_eq_getElem hj]
  refine ⟨fun j hj p hp => ?_, fun i j hi hj hij p hp q hq => ?_⟩
  · obtain ⟨r, hr, e⟩ := key j hj
    rw [e] at hp
    rw [List.mem_singleton.1 hp]
    exact h.own j r hr
  · obtain ⟨r, hr, e⟩ := key i hi
    obtain ⟨t, ht, e'⟩ := key j hj
    rw [e] at hp
    rw [e'] at hq
    rw [List.mem_singleton.1 hp, List.mem_singleton.1 hq]
    exact h.apart i j r t hij hr ht

/-- ApartBytes at a list just written out of slices of the call's own. -/
theorem apartBytes_lit {w0 w : World} {ps : List (Value × List UInt8)} (h : OSt w0 w ps) (qs : List (Value × List UInt8)) (is : List Nat) (hn : is.Nodup) (hq : qs.map some = is.map fun i => ps[i]?) (n : Nat) (hN : qs.length = n) (hN' : n ≤ 1000)
    (hlen : ∀ p ∈ qs, p.2.length ≤ 140737488355320) (cs : Array Value) (hcs : cs = (qs.map (·.1)).toArray) :
    Calls Try.prog 19 #[.slice (some ⟨w.heap.size, 0, none⟩) n n] (w.alloc (.cells cs 22)) fun e w' => e = .returned (.bool true) ∧ Below w0.heap.size w0 w' := by
  subst hN hcs
  have hsz := h.low.size
  have hL : LR (w.alloc (.cells (qs.map (·.1)).toArray 22)) w.heap.size qs.length qs.length (qs.map (·.1)) := by
    have := World.ownsRow_lit (base := 0) (e := 22) (size := 1) w (qs.map (·.1)).toArray qs.length (Nat.zero_le _) (by simp only [maxLen]; omega) (by simp)
    simpa [LR] using this
  have h1 := h.call ((Below.refl _ _).alloc (Nat.le_refl _) (.cells (qs.map (·.1)).toArray 22))
  have hF := (h1.hp.sel is hn hq).fam
  refine (apartBytes_any w.heap.size qs.length qs.length w0.heap.size _ _ _ hL hF hN' (by simp; omega) ?_).mono fun e w' he => ⟨he.1, h1.low.trans he.2⟩
  intro j hj
  rw [List.getD_eq_getElem?_getD, List.getElem?_map, List.getElem?_eq_getElem hj]
  exact hlen _ (List.getElem_mem hj)

theorem apartBytes_list {w0 w : World} {ps : List (Value × List UInt8)} (h : OSt w0 w ps) (qs : List (Value × List UInt8)) (is : List Nat) (hn : is.Nodup) (hq : qs.map some = is.map fun i => ps[i]?) (n gL cL : Nat) (vs : List Value) (hL : LR w gL n cL vs)
    (hvs : vs = qs.map (·.1)) (hN : qs.length = n) (hN' : n ≤ 1000) (hlen : ∀ p ∈ qs, p.2.length ≤ 140737488355320) :
    Calls Try.prog 19 #[.slice (some ⟨gL, 0, none⟩) n cL] w fun e w' => e = .returned (.bool true) ∧ Below w0.heap.size w0 w' := by
  subst hN hvs
  have hF := (h.hp.sel is hn hq).fam
  refine (apartBytes_any gL qs.length cL w0.heap.size _ _ _ hL hF hN' h.low.size ?_).mono fun e w' he => ⟨he.1, h.low.trans he.2⟩
  intro j hj
  rw [List.getD_eq_getElem?_getD, List.getElem?_map, List.getElem?_eq_getElem hj]
  exact hlen _ (List.getElem_mem hj)
end Go.Proofs.Ytcnphkmcgefjoaa

namespace Go.Proofs.Ytcnphkmcgefjoaa
open Go.RowKit
set_option linter.unusedVariables false

theorem St.rows_ne {w0 w : World} {F0 : List Nat} {E : Env} {e e' : TypeId} {s s' n n' : Nat} {v v' : Value} {xs xs' : List Value} (H : St w0 F0 w E) (i j : Nat) (hij : i ≠ j) (hi : E i = some (.row e s v n xs)) (hj : E j = some (.row e' s' v' n' xs')) : v.ownBlock = none ∨ v.ownBlock ≠ v'.ownBlock := by
  obtain ⟨F, ⟨-, e1⟩, -, hd, -⟩ := H.change i hi
  obtain ⟨G, ⟨-, e2⟩, hd'⟩ := hd j _ (fun e => hij e.symm) hj
  cases hv : v.ownBlock with
  | none => exact .inl rfl
  | some g =>
    refine .inr fun h => ?_
    exact hd' g (by rw [e2, ← h]; simp) (by rw [e1, hv]; simp)

theorem St.hp {w0 w : World} {E : Env} (H : St w0 [] w E) (ps : List (Value × List UInt8)) (f : Nat → Nat) (hf : ∀ i j, i < ps.length → j < ps.length → f i = f j → i = j) (h : ∀ i p, ps[i]? = some p → E (f i) = some (.row 5 1 p.1 p.2.length (p.2.map vb))) : Hp w w0.heap.size ps := by
  refine ⟨fun i p hp => H.ownRow (f i) (h i p hp), fun i j p q hij hp hq => ?_⟩
  have li := (List.getElem?_eq_some_iff.1 hp).1
  have lj := (List.getElem?_eq_some_iff.1 hq).1
  exact H.rows_ne (f i) (f j) (fun e => hij (hf i j li lj e)) (h i p hp) (h j q hq)

theorem apart_st {w0 w : World} {E : Env} (H : St w0 [] w E) (ps : List (Value × List UInt8)) (f : Nat → Nat) (hf : ∀ i j, i < ps.length → j < ps.length → f i = f j → i = j) (h : ∀ i p, ps[i]? = some p → E (f i) = some (.row 5 1 p.1 p.2.length (p.2.map vb)))
    (n : Nat) (hN : ps.length = n) (hN' : n ≤ 1000) (hlen : ∀ p ∈ ps, p.2.length ≤ 140737488355320) (cs : Array Value) (hcs : cs = (ps.map (·.1)).toArray) :
    Calls Try.prog 19 #[.slice (some ⟨w.heap.size, 0, none⟩) n n] (w.alloc (.cells cs 22)) fun e w' => e = .returned (.bool true) ∧ Below w0.heap.size w0 w' := by
  subst hN hcs
  have hsz := H.low.size
  have hL : LR (w.alloc (.cells (ps.map (·.1)).toArray 22)) w.heap.size ps.length ps.length (ps.map (·.1)) := by
    have := World.ownsRow_lit (base := 0) (e := 22) (size := 1) w (ps.map (·.1)).toArray ps.length (Nat.zero_le _) (by simp only [maxLen]; omega) (by simp)
    simpa [LR] using this
  have h1 := H.call ((Below.refl _ _).alloc (Nat.le_refl _) (.cells (ps.map (·.1)).toArray 22))
  have hF := (h1.hp ps f hf h).fam
  refine (apartBytes_any w.heap.size ps.length ps.length w0.heap.size _ _ _ hL hF hN' (by simp; omega) ?_).mono fun e w' he => ⟨he.1, h1.below.trans he.2⟩
  intro j hj
  rw [List.getD_eq_getElem?_getD, List.getElem?_map, List.getElem?_eq_getElem hj]
  exact hlen _ (List.getElem_mem hj)

theorem over_st {w0 w : World} {F0 : List Nat} {E : Env} {g n c : Nat} {l : List UInt8} (H : St w0 F0 w E) (i : Nat) (hi : E i = some (.row 5 1 (.slice (some ⟨g, 0, none⟩) n c) n (l.map vb))) (hn : n ≤ 140737488355328) :
    Calls Try.prog 49 #[.slice (some ⟨g, 0, none⟩) n c] w fun e w' => e = .returned (.tuple #[]) ∧ St w0 F0 w' (upd E i (.row 5 1 (.slice (some ⟨g, 0, none⟩) n c) n ((marksB 9 0 n).map vb))) := by
  have hr := H.row i hi
  have hl : n = l.length := by have := hr.1; simp at this; omega
  have ho : OwnB w 0 (.slice (some ⟨g, 0, none⟩) n c) l := by unfold OwnB; rw [← hl]; exact hr
  refine (overBytes_any 0 g c n l w ho hl hn).mono ?_
  rintro e w' ⟨rfl, ho', hg⟩
  refine ⟨rfl, H.grow i hi ?_ hg (.inl rfl)⟩
  unfold OwnB at ho'
  rw [marksB_length] at ho'
  exact ho'

end Go.Proofs.Ytcnphkmcgefjoaa

namespace Go.Proofs.Ytcnphkmcgefjoaa
open Go.RowKit
set_option linter.unusedVariables false
set_option maxRecDepth 100000

theorem hold_store {P : Program} {ops : Array Oper} {rest : List Oper} {o : Oper} {a : Act} {Q : Exit → Act → World → Prop} {w : World} (ty : TypeId) (x y : Operand) (ho : o.op = .store ty x y) (h : Hid (wpList P ops Q (o :: rest) a w)) : wpList P ops Q (o :: rest) a w := h

/-- a state's cells -/
def shVs (h : List UInt32) (n : Nat) (b : List UInt8) : List Value := h.map u32v ++ (.int .i64 n :: (b.map vb ++ [.bool true]))

section
variable {h : List UInt32} {n : Nat} {b : List UInt8}
theorem shVs_length (hh : h.length = 8) (hb : b.length = 64) : (shVs h n b).length = 74 := by
  unfold shVs; rw [List.length_append, List.length_map, hh, List.length_cons, List.length_append, List.length_map, hb]; rfl
theorem shVs_h {k : Nat} (hh : h.length = 8) (hk : k < 8) : (shVs h n b)[k]? = some (.int .u32 ((at32 h k).toNat : Int)) := by
  unfold shVs; rw [List.getElem?_append_left (by rw [List.length_map, hh]; exact hk)]; exact u32_get (by omega)
theorem shVs_n (hh : h.length = 8) : (shVs h n b)[8]? = some (.int .i64 n) := by
  unfold shVs; rw [List.getElem?_append_right (by rw [List.length_map, hh]; omega), List.length_map, hh]; rfl
theorem shVs_b {k : Nat} (hh : h.length = 8) (hb : b.length = 64) (hk : k < 64) : (shVs h n b)[9 + k]? = some (vb (b.getD k 0)) := by
  unfold shVs
  rw [List.getElem?_append_right (by rw [List.length_map, hh]; omega), List.length_map, hh, show 9 + k - 8 = k + 1 by omega, List.getElem?_cons_succ, List.getElem?_append_left (by rw [List.length_map, hb]; exact hk), List.getElem?_map, List.getElem?_eq_getElem (by omega)]
  simp [List.getD_eq_getElem?_getD, List.getElem?_eq_getElem (show k < b.length by omega)]
theorem shVs_made (hh : h.length = 8) (hb : b.length = 64) : (shVs h n b)[73]? = some (.bool true) := by
  unfold shVs
  rw [List.getElem?_append_right (by rw [List.length_map, hh]; omega), List.length_map, hh, show 73 - 8 = 64 + 1 from rfl, List.getElem?_cons_succ, List.getElem?_append_right (by rw [List.length_map, hb]; omega), List.length_map, hb]; rfl
theorem shVs_seth {k : Nat} (hh : h.length = 8) (hk : k < 8) (x : UInt32) : (shVs h n b).set k (u32v x) = shVs (h.set k x) n b := by
  unfold shVs; rw [List.set_append_left _ _ (by rw [List.length_map, hh]; exact hk), List.map_set]
theorem shVs_setn (hh : h.length = 8) (m : Nat) : (shVs h n b).set 8 (.int .i64 m) = shVs h m b := by
  unfold shVs; rw [List.set_append_right _ _ (by rw [List.length_map, hh]; omega), List.length_map, hh]; rfl
theorem shVs_setb (hh : h.length = 8) (hb : b.length = 64) (c : List UInt8) (o : Nat) (ho : o + c.length ≤ 64) : (shVs h n b).take (9 + o) ++ c.map vb ++ (shVs h n b).drop (9 + o + (c.map vb).length) = shVs h n (putAt b o c) := by
  unfold shVs putAt
  have e1 : (h.map u32v ++ (Value.int .i64 n :: (b.map vb ++ [Value.bool true]))).take (9 + o) = h.map u32v ++ (Value.int .i64 n :: (b.take o).map vb) := by
    rw [List.take_append, List.take_of_length_le (by rw [List.length_map, hh]; omega), List.length_map, hh, show 9 + o - 8 = o + 1 by omega, List.take_succ_cons, List.take_append_of_le_length (by rw [List.length_map, hb]; omega), List.map_take]
  have e2 : (h.map u32v ++ (Value.int .i64 n :: (b.map vb ++ [Value.bool true]))).drop (9 + o + (c.map vb).length) = (b.drop (o + c.length)).map vb ++ [Value.bool true] := by
    rw [List.length_map, List.drop_append, List.drop_eq_nil_of_le (by rw [List.length_map, hh]; omega), List.length_map, hh, show 9 + o + c.length - 8 = (o + c.length) + 1 by omega, List.drop_succ_cons, List.drop_append_of_le_length (by rw [List.length_map, hb]; omega), List.map_drop, List.nil_append]
  rw [e1, e2]
  simp
theorem shVs_one : ∀ u ∈ shVs h n b, u.oneCell' = true := by
  intro u hu
  unfold shVs at hu
  rcases List.mem_append.1 hu with hu | hu
  · exact u32_one _ u hu
  · rcases List.mem_cons.1 hu with rfl | hu
    · rfl
    · rcases List.mem_append.1 hu with hu | hu
      · exact vb_one _ u hu
      · simp at hu; subst hu; rfl
end

section
variable {w0 w : World} {F0 : List Nat} {E : Env}

theorem St.shRd {g : Nat} {T : TypeId} {h : List UInt32} {n : Nat} {b : List UInt8} (H : St w0 F0 w E) (k : Nat) (hk : E k = some (.blk g T (shVs h n b))) (hh : h.length = 8) (hb : b.length = 64) : Rd w 1 (some ⟨g, 9, none⟩) 64 (b.map vb) :=
  ⟨by rw [List.length_map, hb], fun _ => ⟨_, rfl, H.lt k hk, fun j u hu => by
    have hj : j < 64 := by rw [← hb]; have := (List.getElem?_eq_some_iff.1 hu).1; rwa [List.length_map] at this
    rw [Addr.add_mid, H.cell k hk (shVs_b hh hb hj)]
    rw [List.getElem?_map, List.getElem?_eq_getElem (by omega)] at hu
    simp [List.getD_eq_getElem?_getD, List.getElem?_eq_getElem (show j < b.length by omega)] at hu ⊢
    exact hu⟩⟩

theorem St.storeMid2 {g : Nat} {T : TypeId} {cs vs : List Value} (H : St w0 F0 w E) (k : Nat) (hk : E k = some (.blk g T cs)) (o : Nat) (hl : o + vs.length ≤ cs.length) : St w0 F0 (w.setCells g o vs) (upd E k (.blk g T (cs.take o ++ vs ++ cs.drop (o + vs.length)))) := by
  obtain ⟨F, ⟨h, e⟩, -, -, hc⟩ := H.change k hk
  subst e
  exact hc _ _ [g] ⟨setCells_heap vs w g o T cs h hl, rfl⟩ (setCells_low vs w g o) (by simp)

theorem St.thereMid {g : Nat} {T : TypeId} {cs : List Value} (H : St w0 F0 w E) (k : Nat) (hk : E k = some (.blk g T cs)) (o n : Nat) (hl : o + n ≤ cs.length) : w.there g o n := fun j hj => by
  have h := H.there k hk (o + j) (by omega)
  rw [Nat.zero_add] at h
  exact h

theorem putAt_all {b c : List UInt8} (h : c.length = b.length) : putAt b 0 c = c := by
  unfold putAt
  rw [List.take_zero, List.nil_append, Nat.zero_add, h, List.drop_length, List.append_nil]

theorem u32_notAgg : ∀ w, (isAgg 39).run Try.prog w = .ok false w := by intro w; kernel_rfl
theorem h8_size : (Try.prog.info? 39).map (·.size) = some 1 := by kernel_rfl
theorem w64_size : (Try.prog.info? 75).map (·.size) = some 64 := by kernel_rfl

theorem wTo2_lo (b : List UInt8) (t : Nat) (ht : t < 16) : wTo2 b (t + 1) = (wTo2 b t).set t (UInt32.ofNat (beTo b (4 * t : Nat) 4)) := by
  show (wTo2 b t).set t (if t < 16 then _ else _) = _
  rw [if_pos ht]

theorem wTo2_hi (b : List UInt8) (t : Nat) (ht : ¬ t < 16) : wTo2 b (t + 1) = (wTo2 b t).set t (wNext2 (wTo2 b t) t) := by
  show (wTo2 b t).set t (if t < 16 then _ else _) = _
  rw [if_neg ht]

theorem be4_u32 (b : List UInt8) (a : Int) : Value.int .u32 ((beTo b a 4 : Nat) : Int) = u32v (UInt32.ofNat (beTo b a 4)) := by
  have := beTo_lt b a 4
  unfold u32v
  rw [UInt32.toNat_ofNat', Nat.mod_eq_of_lt (by omega)]

theorem sg1_val (x : UInt32) : bits .xor .u32 (bits .xor .u32 ((ror32 x 17).toNat : Int) ((ror32 x 19).toNat : Int)) ((x.toNat : Int) / 1024) = ((sg1 x).toNat : Int) := by
  have h := shr32 x 10 (by omega)
  rw [show ((2 : Int) ^ 10) = 1024 from rfl] at h
  rw [xor32, h, xor32]; rfl

theorem sg0_val (x : UInt32) : bits .xor .u32 (bits .xor .u32 ((ror32 x 7).toNat : Int) ((ror32 x 18).toNat : Int)) ((x.toNat : Int) / 8) = ((sg0 x).toNat : Int) := by
  have h := shr32 x 3 (by omega)
  rw [show ((2 : Int) ^ 3) = 8 from rfl] at h
  rw [xor32, h, xor32]; rfl

theorem sum4 (a b c d : UInt32) : ((a.toNat : Int) + (b.toNat : Int) + (c.toNat : Int) + (d.toNat : Int)) % 4294967296 = ((a + b + c + d).toNat : Int) := by
  rw [UInt32.toNat_add, UInt32.toNat_add, UInt32.toNat_add]; omega

theorem pval2 (kk ww : UInt32) (x : R8) : ((((x.h.toNat : Int) + bits .xor .u32 (bits .xor .u32 ((ror32 x.e 6).toNat : Int) ((ror32 x.e 11).toNat : Int)) ((ror32 x.e 25).toNat : Int) + bits .xor .u32 (bits .and .u32 (x.e.toNat : Int) (x.f.toNat : Int)) (bits .and .u32 (bits .xor .u32 (if IntKind.u32.signed = true then -1 else IntKind.u32.max) (x.e.toNat : Int)) (x.g.toNat : Int)) + (kk.toNat : Int)) % 4294967296 + (ww.toNat : Int)) % 4294967296) = ((pOf2 kk ww x).toNat : Int) := by
  rw [xor32, xor32, and32, not32, and32, xor32, sum4, add32]; rfl

theorem qval2 (x : R8) : ((bits .xor .u32 (bits .xor .u32 ((ror32 x.a 2).toNat : Int) ((ror32 x.a 13).toNat : Int)) ((ror32 x.a 22).toNat : Int) + bits .xor .u32 (bits .xor .u32 (bits .and .u32 (x.a.toNat : Int) (x.b.toNat : Int)) (bits .and .u32 (x.a.toNat : Int) (x.c.toNat : Int))) (bits .and .u32 (x.b.toNat : Int) (x.c.toNat : Int))) % 4294967296) = ((qOf2 x).toNat : Int) := by
  rw [xor32, xor32, and32, and32, and32, xor32, xor32, add32]; rfl

theorem comp2_eq (h : List UInt32) (b : List UInt8) : comp2 h b = (List.range 8).map fun i => at32 h i + at32 (rTo2 (wTo2 b 64) (R8.of h) 64).list i := rfl

/-- the sums of a state's words, as far as they are laid -/
def sumTo (h y : List UInt32) (k : Nat) : List UInt32 := (List.range 8).map fun i => if i < k then at32 h i + at32 y i else at32 h i

theorem sumTo_length (h y : List UInt32) (k : Nat) : (sumTo h y k).length = 8 := by unfold sumTo; rw [List.length_map, List.length_range]

theorem sumTo_get (h y : List UInt32) (k i : Nat) : (sumTo h y k)[i]? = if i < 8 then some (if i < k then at32 h i + at32 y i else at32 h i) else none := by
  unfold sumTo
  rw [List.getElem?_map]
  by_cases hi : i < 8
  · rw [List.getElem?_range hi, if_pos hi]; rfl
  · rw [if_neg hi, List.getElem?_eq_none (by rw [List.length_range]; omega)]; rfl

theorem at32_some {h : List UInt32} {i : Nat} (hi : i < h.length) : h[i]? = some (at32 h i) := by
  unfold at32
  rw [List.getD_eq_getElem?_getD, List.getElem?_eq_getElem hi]; rfl

theorem sumTo_zero {h : List UInt32} (hh : h.length = 8) (y : List UInt32) : sumTo h y 0 = h := by
  apply List.ext_getElem?
  intro i
  rw [sumTo_get]
  by_cases hi : i < 8
  · rw [if_pos hi, if_neg (Nat.not_lt_zero _), at32_some (by omega)]
  · rw [if_neg hi, List.getElem?_eq_none (by omega)]

theorem at32_sumTo (h y : List UInt32) (k : Nat) (hk : k < 8) : at32 (sumTo h y k) k = at32 h k := by
  unfold sumTo at32
  rw [List.getD_eq_getElem?_getD, List.getElem?_map, List.getElem?_range hk]
  simp

theorem sumTo_succ (h y : List UInt32) (k : Nat) (hk : k < 8) : sumTo h y (k + 1) = (sumTo h y k).set k (at32 h k + at32 y k) := by
  apply List.ext_getElem?
  intro i
  rw [List.getElem?_set, sumTo_get, sumTo_get, sumTo_length]
  by_cases hi : k = i
  · subst hi
    rw [if_pos hk, if_pos (Nat.lt_succ_self k), if_pos rfl, if_pos hk]
  · rw [if_neg hi]
    by_cases h8 : i < 8
    · rw [if_pos h8, if_pos h8]
      by_cases h3 : i < k
      · rw [if_pos h3, if_pos (by omega)]
      · rw [if_neg h3, if_neg (by omega)]
    · rw [if_neg h8, if_neg h8]

theorem sumTo_all (h : List UInt32) (b : List UInt8) : sumTo h (rTo2 (wTo2 b 64) (R8.of h) 64).list 8 = comp2 h b := by
  unfold sumTo
  rw [comp2_eq]
  apply List.map_congr_left
  intro i hi
  rw [if_pos (List.mem_range.1 hi)]

theorem R8.list_at (x : R8) : at32 x.list 0 = x.a ∧ at32 x.list 1 = x.b ∧ at32 x.list 2 = x.c ∧ at32 x.list 3 = x.d ∧ at32 x.list 4 = x.e ∧ at32 x.list 5 = x.f ∧ at32 x.list 6 = x.g ∧ at32 x.list 7 = x.h := ⟨rfl, rfl, rfl, rfl, rfl, rfl, rfl, rfl⟩

theorem wNext2_eq (w : List UInt32) (t : Nat) : wNext2 w t = sg1 (at32 w (t - 2)) + at32 w (t - 7) + sg0 (at32 w (t - 15)) + at32 w (t - 16) := rfl
theorem rTo2_succ (w : List UInt32) (x : R8) (t : Nat) : rTo2 w x (t + 1) = rnd2 (at32 kTab2 t) (at32 w t) (rTo2 w x t) := rfl
theorem rTo2_zero (w : List UInt32) (x : R8) : rTo2 w x 0 = x := rfl
theorem rnd2_eq (k w : UInt32) (x : R8) : rnd2 k w x = ⟨pOf2 k w x + qOf2 x, x.a, x.b, x.c, x.d + pOf2 k w x, x.e, x.f, x.g⟩ := rfl
theorem wTo2_zero (b : List UInt8) : (wTo2 b 0).map u32v = List.replicate 64 (.int .u32 0) := rfl
theorem R8.of_eq (l : List UInt32) : R8.of l = ⟨at32 l 0, at32 l 1, at32 l 2, at32 l 3, at32 l 4, at32 l 5, at32 l 6, at32 l 7⟩ := rfl

attribute [local irreducible] wTo2 rTo2 comp2 pOf2 qOf2 rnd2 ror32 kTab2 sg0 sg1 wNext2

set_option maxHeartbeats 8000000 in
theorem sh2Comp_s (l : Value) (r : Option (List RunT)) (m : Nat) (c : Int) (g : Nat) (h : List UInt32) (n : Nat) (b : List UInt8) (H : St w0 F0 w E) (i j : Nat) (hij : i ≠ j) (hi : E i = some (led l r)) (hj : E j = some (.blk g 77 (shVs h n b))) (hg : LW r m c) (hm : m ≤ 999999999999) (hc : c ≤ 4000000000000000000) (hh : h.length = 8) (hb : b.length = 64) :
    Calls Try.prog 58 #[lptr g, l] w fun e w' => e = .returned (.tuple #[]) ∧ St w0 F0 w' (upd (upd E i (led l (noteN r 1 64 1))) j (.blk g 77 (shVs (comp2 h b) n (List.replicate 64 0)))) := by
  obtain ⟨F, HF, -, -, hback⟩ := H.frame2 i j hij hi hj
  have HB := Lib.hid hback
  replace HF := HF.as2
  have HH := Lib.hid hh
  have HBL := Lib.hid hb
  clear H hback hi hj hh hb
  unfold lptr
  go_enter Try.func58, Try.ntmps58
  go_wp2_with fail
  refine (ledger_note_w m c 1 64 HF 0 rfl hg (by omega) (by omega)).mono ?_
  rintro e w1 ⟨rfl, H1⟩
  replace H1 := H1.upd_mk (by simp)
  clear HF hg
  go_wp2_with fail
  refine (table_s w1).mono ?_
  rintro e w2 ⟨rfl, hb2⟩
  replace H1 := H1.call hb2
  clear hb2
  replace H1 : St w F w2 (lay [led l (noteN r 1 64 1), .blk g 77 (shVs h n b)]) := H1
  obtain ⟨K, hK⟩ : ∃ K, kTab2.map u32v = K := ⟨_, rfl⟩
  have HKL : Hid (K.length = 64) := by unfold Hid; rw [← hK, List.length_map, kTab2_length]
  have HK1 : Hid (∀ u ∈ K, u.oneCell' = true) := by unfold Hid; rw [← hK]; exact u32_one _
  rw [hK]
  have HK := Lib.hid hK
  clear hK
  go_wp2_with (with_reducible refine hold_store 103 (.tmp 4) (.tmp 26) (by rfl) ?_)
  refine Lib.hid ?_
  refine absorb_list (H1.allocAt 2 rfl w2.heap.size rfl _ _ |>.push_mk rfl) ?_
  clear H1
  intro w3 H
  generalize w2.heap.size = gk at H ⊢
  replace H : St w F w3 (lay [led l (noteN r 1 64 1), .blk g 77 (shVs h n b), .blk gk 103 (List.replicate 64 (.int .u32 0))]) := H
  refine wpList_store_mid rfl 103 (.tmp 4) (.tmp 26) rfl gk 0 K.toArray rfl rfl (by have ht := H.there 2 rfl; rw [List.length_replicate] at ht; rw [List.size_toArray, HKL.out]; exact ht) (by rw [tab_size, List.size_toArray, HKL.out]) (all_oneCell_toArray HK1.out) ?_
  replace H := (H.storeAll 2 rfl (vs := K) (by rw [HKL.out, List.length_replicate])).upd_mk (by simp)
  generalize w3.setCells gk 0 K = w4 at H ⊢
  go_upto_region 3 with fail
  refine absorb_wp (H.allocAt 3 rfl w4.heap.size rfl _ _ |>.push_mk rfl) ?_
  clear H
  intro w5 H
  generalize w4.heap.size = gw at H ⊢
  replace H : St w F w5 (lay [led l (noteN r 1 64 1), .blk g 77 (shVs h n b), .blk gk 103 K, .blk gw 103 ((wTo2 b 0).map u32v)]) := by rw [wTo2_zero]; exact H
  go_wp2
  go_loopw [27] (fun i wr => ∃ k : Nat, k ≤ 16 ∧ i = .int .i64 k ∧ St w F wr (lay [led l (noteN r 1 64 1), .blk g 77 (shVs h n b), .blk gk 103 K, .blk gw 103 ((wTo2 b k).map u32v)])) (fun i _ => 16 - (intOf i).toNat)
  case atStart => exact ⟨0, by omega, rfl, H⟩
  case round =>
    clear H
    obtain ⟨k, hk, rfl, H⟩ := hrel
    by_cases hlt : k < 16
    · have hk1 : (k : Int) < 16 := by omega
      have hk2 : (k : Int) < 64 := by omega
      have f0 := H.free 3 rfl k
      have a0 := H.cell 3 rfl (u32_get (l := wTo2 b k) (k := k) (by rw [wTo2_length]; omega))
      have hR := H.shRd 1 rfl HH.out HBL.out
      go_wp2_with fail
      refine (take_u32 (some ⟨g, 9, none⟩) 64 64 b (4 * k) wr hR (by omega)).mono ?_
      rintro e w6 ⟨rfl, rfl⟩
      rw [be4_u32]
      have hv := wTo2_lo b k hlt
      rw [show ((4 * k : Nat) : Int) = 4 * (k : Int) by omega] at hv
      have HV := Lib.hid hv
      clear hv hR
      generalize UInt32.ofNat (beTo b (4 * (k : Int)) 4) = v at HV ⊢
      have H2 := (H.store 3 rfl (o := k) (u := u32v v)).upd_mk (by simp)
      rw [u32_set, ← HV.out] at H2
      unfold u32v at H2 ⊢
      go_wp2
      go_roundw
      case rel => exact ⟨k + 1, by omega, by go_num, H2⟩
      case measure => simp [intOf]; omega
    · obtain rfl : k = 16 := by omega
      rw [show ((16 : Nat) : Int) = 16 from rfl]
      go_wp2
      go_loopw [7] (fun i wr => ∃ k : Nat, 16 ≤ k ∧ k ≤ 64 ∧ i = .int .i64 k ∧ St w F wr (lay [led l (noteN r 1 64 1), .blk g 77 (shVs h n b), .blk gk 103 K, .blk gw 103 ((wTo2 b k).map u32v)])) (fun i _ => 64 - (intOf i).toNat)
      case atStart => exact ⟨16, by omega, by omega, rfl, H⟩
      case round =>
        clear H
        obtain ⟨k, hk0, hk, rfl, H⟩ := hrel
        by_cases hlt : k < 64
        · have hk1 : (k : Int) < 64 := by omega
          have k15 : ((k : Int) - 15) = ((k - 15 : Nat) : Int) := by omega
          have k2 : ((k : Int) - 2) = ((k - 2 : Nat) : Int) := by omega
          have k7 : ((k : Int) - 7) = ((k - 7 : Nat) : Int) := by omega
          have k16 : ((k : Int) - 16) = ((k - 16 : Nat) : Int) := by omega
          have hv := wTo2_hi b k (by omega)
          have HV := Lib.hid hv
          clear hv
          have a15 := H.cell 3 rfl (u32_get (l := wTo2 b k) (k := k - 15) (by rw [wTo2_length]; omega))
          have a2 := H.cell 3 rfl (u32_get (l := wTo2 b k) (k := k - 2) (by rw [wTo2_length]; omega))
          have a7 := H.cell 3 rfl (u32_get (l := wTo2 b k) (k := k - 7) (by rw [wTo2_length]; omega))
          have a16 := H.cell 3 rfl (u32_get (l := wTo2 b k) (k := k - 16) (by rw [wTo2_length]; omega))
          have f0 := H.free 3 rfl k
          have a0 := H.cell 3 rfl (u32_get (l := wTo2 b k) (k := k) (by rw [wTo2_length]; omega))
          have HWN := Lib.hid (wNext2_eq (wTo2 b k) k)
          obtain ⟨x15, hA15⟩ : ∃ x, at32 (wTo2 b k) (k - 15) = x := ⟨_, rfl⟩
          have HA15 := Lib.hid hA15
          rw [hA15] at a15
          clear hA15
          obtain ⟨x2, hA2⟩ : ∃ x, at32 (wTo2 b k) (k - 2) = x := ⟨_, rfl⟩
          have HA2 := Lib.hid hA2
          rw [hA2] at a2
          clear hA2
          obtain ⟨x7, hA7⟩ : ∃ x, at32 (wTo2 b k) (k - 7) = x := ⟨_, rfl⟩
          have HA7 := Lib.hid hA7
          rw [hA7] at a7
          clear hA7
          obtain ⟨x16, hA16⟩ : ∃ x, at32 (wTo2 b k) (k - 16) = x := ⟨_, rfl⟩
          have HA16 := Lib.hid hA16
          rw [hA16] at a16
          clear hA16
          go_upto_region 11 with fail
          go_quiet (first | (go_at_call 70; first | with_reducible exact rq_7 _ _ _ | with_reducible exact rq_18 _ _ _))
          replace H := H.drewN nq
          generalize wr.drewN nq = wr2 at H ⊢
          clear a15 a2 a7 a16 f0 a0
          have a2 := H.cell 3 rfl (u32_get (l := wTo2 b k) (k := k - 2) (by rw [wTo2_length]; omega))
          rw [HA2.out] at a2
          go_upto_region 12 with fail
          go_quiet (first | (go_at_call 70; first | with_reducible exact rq_17 _ _ _ | with_reducible exact rq_19 _ _ _))
          replace H := H.drewN nq
          generalize wr2.drewN nq = wr3 at H ⊢
          clear a2
          have a7 := H.cell 3 rfl (u32_get (l := wTo2 b k) (k := k - 7) (by rw [wTo2_length]; omega))
          have a16 := H.cell 3 rfl (u32_get (l := wTo2 b k) (k := k - 16) (by rw [wTo2_length]; omega))
          rw [HA7.out] at a7
          rw [HA16.out] at a16
          have f0 := H.free 3 rfl k
          have a0 := H.cell 3 rfl (u32_get (l := wTo2 b k) (k := k) (by rw [wTo2_length]; omega))
          go_upto_region 13 with fail
          refine region_quiet_tail 15 (by kernel_rfl) (by kernel_rfl) ?_
          simp only [List.take_succ_cons, List.take_zero, List.drop_succ_cons, List.drop_zero]
          repeat (go_big_quiet_step (fail))
          refine wpQuiet_nil ?_
          intro nq
          have HN : Hid (wTo2 b (k + 1) = (wTo2 b k).set k (sg1 x2 + x7 + sg0 x15 + x16)) := by unfold Hid; rw [HV.out, HWN.out, HA2.out, HA7.out, HA15.out, HA16.out]
          have H2 := ((H.drewN nq).store 3 rfl (o := k) (u := u32v (sg1 x2 + x7 + sg0 x15 + x16))).upd_mk (by simp)
          rw [u32_set, ← HN.out] at H2
          unfold u32v at H2
          go_wp2
          rw [sg1_val, sg0_val, sum4]
          go_roundw
          case rel => exact ⟨k + 1, by omega, by omega, by go_num, H2⟩
          case measure => simp [intOf]; omega
        · obtain rfl : k = 64 := by omega
          rw [show ((64 : Nat) : Int) = 64 from rfl]
          have e0 := H.cell 1 rfl (shVs_h (k := 0) HH.out (by omega))
          have e1 := H.cell 1 rfl (shVs_h (k := 1) HH.out (by omega))
          have e2 := H.cell 1 rfl (shVs_h (k := 2) HH.out (by omega))
          have e3 := H.cell 1 rfl (shVs_h (k := 3) HH.out (by omega))
          have e4 := H.cell 1 rfl (shVs_h (k := 4) HH.out (by omega))
          have e5 := H.cell 1 rfl (shVs_h (k := 5) HH.out (by omega))
          have e6 := H.cell 1 rfl (shVs_h (k := 6) HH.out (by omega))
          have e7 := H.cell 1 rfl (shVs_h (k := 7) HH.out (by omega))
          go_upto_region 14 with fail
          go_quiet (fail)
          go_upto_region 15 with fail
          replace H := H.drewN nq
          generalize wr.drewN nq = wr at H ⊢
          clear e0 e1 e2 e3 e4 e5 e6 e7
          obtain ⟨W, hW⟩ : ∃ W, wTo2 b 64 = W := ⟨_, rfl⟩
          have HWL : Hid (W.length = 64) := by unfold Hid; rw [← hW]; exact wTo2_length _ _
          rw [hW] at H
          have HWE := Lib.hid hW
          clear hW
          obtain ⟨X, hX⟩ : ∃ X, R8.of h = X := ⟨_, rfl⟩
          have HX : Hid (R8.of h = X) := hX
          rw [show at32 h 0 = X.a by rw [← hX]; rfl, show at32 h 1 = X.b by rw [← hX]; rfl, show at32 h 2 = X.c by rw [← hX]; rfl, show at32 h 3 = X.d by rw [← hX]; rfl, show at32 h 4 = X.e by rw [← hX]; rfl, show at32 h 5 = X.f by rw [← hX]; rfl, show at32 h 6 = X.g by rw [← hX]; rfl, show at32 h 7 = X.h by rw [← hX]; rfl]
          clear hX
          go_wp2
          go_loopw [10, 11, 12, 13, 14, 15, 16, 17, 133] (fun za zb zc zd ze zf zg zh i wr => ∃ k : Nat, k ≤ 64 ∧ i = .int .i64 k ∧ (za = .int .u32 ((rTo2 W X k).a.toNat : Int) ∧ zb = .int .u32 ((rTo2 W X k).b.toNat : Int) ∧ zc = .int .u32 ((rTo2 W X k).c.toNat : Int) ∧ zd = .int .u32 ((rTo2 W X k).d.toNat : Int) ∧ ze = .int .u32 ((rTo2 W X k).e.toNat : Int) ∧ zf = .int .u32 ((rTo2 W X k).f.toNat : Int) ∧ zg = .int .u32 ((rTo2 W X k).g.toNat : Int) ∧ zh = .int .u32 ((rTo2 W X k).h.toNat : Int)) ∧ St w F wr (lay [led l (noteN r 1 64 1), .blk g 77 (shVs h n b), .blk gk 103 K, .blk gw 103 (W.map u32v)])) (fun _ _ _ _ _ _ _ _ i _ => 64 - (intOf i).toNat)
          case atStart => exact ⟨0, by omega, rfl, by rw [rTo2_zero]; exact ⟨rfl, rfl, rfl, rfl, rfl, rfl, rfl, rfl⟩, H⟩
          case round =>
            clear H
            obtain ⟨k, hk, rfl, ⟨rfl, rfl, rfl, rfl, rfl, rfl, rfl, rfl⟩, H⟩ := hrel
            have HS : Hid (rTo2 W X (k + 1) = rnd2 (at32 kTab2 k) (at32 W k) (rTo2 W X k)) := rTo2_succ _ _ _
            by_cases hlt : k < 64
            · have hk1 : (k : Int) < 64 := by omega
              have ck := H.cell 2 rfl (o := k) (by rw [← HK.out]; exact u32_get (by rw [kTab2_length]; omega))
              have cw := H.cell 3 rfl (u32_get (l := W) (k := k) (by rw [HWL.out]; omega))
              generalize at32 kTab2 k = kk at ck HS
              generalize at32 W k = ww at cw HS
              generalize rTo2 W X k = x at HS ⊢
              go_upto_region 18 with fail
              go_quiet (first | (go_at_call 70; first | with_reducible exact rq_6 _ _ _ | with_reducible exact rq_11 _ _ _ | with_reducible exact rq_25 _ _ _))
              replace H := H.drewN nq
              generalize wr.drewN nq = wr3 at H ⊢
              clear ck cw
              rw [pval2]
              obtain ⟨pv, hpv⟩ : ∃ p, pOf2 kk ww x = p := ⟨_, rfl⟩
              rw [hpv]
              have HPV := Lib.hid hpv
              clear hpv
              go_wp2_with fail
              refine (right_any x.a 2 (by omega) (by omega) 2 rfl _).mono ?_
              rintro e wx ⟨rfl, q, rfl⟩
              replace H := H.drewN q
              generalize wr3.drewN q = wr4 at H ⊢
              go_wp2_with fail
              refine (right_any x.a 13 (by omega) (by omega) 13 rfl _).mono ?_
              rintro e wx ⟨rfl, q, rfl⟩
              replace H := H.drewN q
              generalize wr4.drewN q = wr5 at H ⊢
              go_wp2_with fail
              refine (right_any x.a 22 (by omega) (by omega) 22 rfl _).mono ?_
              rintro e wx ⟨rfl, q, rfl⟩
              replace H := H.drewN q
              generalize wr5.drewN q = wr6 at H ⊢
              go_upto_region 20 with fail
              rw [qval2]
              obtain ⟨qv, hqv⟩ : ∃ q, qOf2 x = q := ⟨_, rfl⟩
              rw [hqv]
              have HR : Hid (rTo2 W X (k + 1) = ⟨pv + qv, x.a, x.b, x.c, x.d + pv, x.e, x.f, x.g⟩) := by unfold Hid; rw [HS.out, rnd2_eq, HPV.out, hqv]
              clear hqv
              go_wp2
              rw [add32, add32]
              go_roundw
              case rel => exact ⟨k + 1, by omega, by go_num, by rw [HR.out]; exact ⟨rfl, rfl, rfl, rfl, rfl, rfl, rfl, rfl⟩, H⟩
              case measure => simp [intOf]; omega
            · obtain rfl : k = 64 := by omega
              rw [show ((64 : Nat) : Int) = 64 from rfl]
              obtain ⟨x, hx⟩ : ∃ x, rTo2 W X 64 = x := ⟨_, rfl⟩
              rw [hx]
              have HXX := Lib.hid hx
              clear hx HS
              have hix : ∀ (k : Nat), k < 8 → ∀ w, (Instr.index 40 (.agg #[.int .u32 (x.a.toNat : Int), .int .u32 (x.b.toNat : Int), .int .u32 (x.c.toNat : Int), .int .u32 (x.d.toNat : Int), .int .u32 (x.e.toNat : Int), .int .u32 (x.f.toNat : Int), .int .u32 (x.g.toNat : Int), .int .u32 (x.h.toNat : Int)]) (.int .i64 (k : Int))).run Try.prog w = .ok (.int .u32 ((at32 x.list k).toNat : Int)) w := fun k hk w => by
                refine run_index_agg (P := Try.prog) 40 39 8 #[.int .u32 (x.a.toNat : Int), .int .u32 (x.b.toNat : Int), .int .u32 (x.c.toNat : Int), .int .u32 (x.d.toNat : Int), .int .u32 (x.e.toNat : Int), .int .u32 (x.f.toNat : Int), .int .u32 (x.g.toNat : Int), .int .u32 (x.h.toNat : Int)] k _ Try.underlying40 h8_size u32_notAgg hk ?_ w
                match k, hk with
                | 0, _ => rfl
                | 1, _ => rfl
                | 2, _ => rfl
                | 3, _ => rfl
                | 4, _ => rfl
                | 5, _ => rfl
                | 6, _ => rfl
                | 7, _ => rfl
              have HIX := Lib.hid hix
              clear hix
              obtain ⟨y, hy⟩ : ∃ y, x.list = y := ⟨_, rfl⟩
              rw [hy] at HIX
              have HSA : Hid (sumTo h y 8 = comp2 h b) := by unfold Hid; rw [← hy, ← HXX.out, ← HX.out, ← HWE.out]; exact sumTo_all h b
              clear hy
              go_upto_region 23 with fail
              go_loopw [205] (fun i wr => ∃ k : Nat, k ≤ 8 ∧ i = .int .i64 k ∧ St w F wr (lay [led l (noteN r 1 64 1), .blk g 77 (shVs (sumTo h y k) n b), .blk gk 103 K, .blk gw 103 (W.map u32v)])) (fun i _ => 8 - (intOf i).toNat)
              case atStart => exact ⟨0, by omega, rfl, by rw [sumTo_zero HH.out]; exact H⟩
              case round =>
                clear H
                obtain ⟨k, hk, rfl, H⟩ := hrel
                by_cases hlt : k < 8
                · have hk1 : (k : Int) < 8 := by omega
                  have hi := HIX.out k hlt
                  have c0 := H.cell 1 rfl (shVs_h (k := k) (sumTo_length _ _ _) hlt)
                  have f0 := H.free 1 rfl k
                  rw [at32_sumTo _ _ _ hlt] at c0
                  have HSS := Lib.hid (sumTo_succ h y k hlt)
                  obtain ⟨yk, hyk⟩ : ∃ v, at32 y k = v := ⟨_, rfl⟩
                  obtain ⟨hk', hhk⟩ : ∃ v, at32 h k = v := ⟨_, rfl⟩
                  rw [hyk] at hi HSS
                  rw [hhk] at c0 HSS
                  clear hyk hhk
                  go_upto_region 25 with fail
                  refine region_quiet_tail 11 (by kernel_rfl) (by kernel_rfl) ?_
                  simp only [List.take_succ_cons, List.take_zero, List.drop_succ_cons, List.drop_zero]
                  repeat (go_big_quiet_step (fail))
                  refine wpQuiet_nil ?_
                  intro nq
                  have H2 := ((H.drewN nq).store 1 rfl (o := k) (u := u32v (hk' + yk))).upd_mk (by simp)
                  replace H2 : St w F _ (lay [led l (noteN r 1 64 1), .blk g 77 ((shVs (sumTo h y k) n b).set k (u32v (hk' + yk))), .blk gk 103 K, .blk gw 103 (W.map u32v)]) := H2
                  rw [shVs_seth (sumTo_length _ _ _) hlt, ← HSS.out] at H2
                  unfold u32v at H2
                  go_wp2
                  rw [add32]
                  go_roundw
                  case rel => exact ⟨k + 1, by omega, by go_num, H2⟩
                  case measure => simp [intOf]; omega
                · obtain rfl : k = 8 := by omega
                  rw [HSA.out] at H
                  go_wp2_with (with_reducible refine hold_store 75 (.tmp 224) (.tmp 222) (by rfl) ?_)
                  refine Lib.hid ?_
                  have hcl := comp2_length h b
                  have hvl := shVs_length (h := comp2 h b) (n := n) (b := b) hcl HBL.out
                  have hz : (List.replicate 64 (Value.int .u8 0)) = (List.replicate 64 (0 : UInt8)).map vb := by rw [List.map_replicate]; rfl
                  refine wpList_store_mid rfl 75 (.tmp 224) (.tmp 222) rfl g 9 (List.replicate 64 (Value.int .u8 0)).toArray rfl rfl (by rw [List.size_toArray, List.length_replicate]; exact H.thereMid 1 rfl 9 64 (by rw [hvl]; omega)) (by rw [w64_size, List.size_toArray, List.length_replicate]) (all_oneCell_toArray (by intro u hu; rw [List.mem_replicate] at hu; rw [hu.2]; rfl)) ?_
                  have H5 := (H.storeMid2 1 rfl 9 (vs := List.replicate 64 (Value.int .u8 0)) (by rw [hvl, List.length_replicate]; omega)).upd_mk (by simp)
                  rw [hz] at H5
                  have hs := shVs_setb (h := comp2 h b) (n := n) (b := b) hcl HBL.out (List.replicate 64 0) 0 (by rw [List.length_replicate]; omega)
                  rw [Nat.add_zero, putAt_all (by rw [List.length_replicate, HBL.out])] at hs
                  replace H5 : St w F _ (lay [led l (noteN r 1 64 1), .blk g 77 ((shVs (comp2 h b) n b).take 9 ++ (List.replicate 64 (0 : UInt8)).map vb ++ (shVs (comp2 h b) n b).drop (9 + ((List.replicate 64 (0 : UInt8)).map vb).length)), .blk gk 103 K, .blk gw 103 (W.map u32v)]) := H5
                  rw [hs] at H5
                  show wpList Try.prog _ _ [] _ (wr.setCells g 9 (List.replicate 64 (Value.int .u8 0)))
                  rw [hz]
                  go_wp2
                  go_end0
                  exact ⟨rfl, HB.out _ _ _ (H5.to2 rfl rfl)⟩

end
end Go.Proofs.Ytcnphkmcgefjoaa

namespace Go.Proofs.Ytcnphkmcgefjoaa
open Go.RowKit
set_option linter.unusedVariables false

def bigO {α : Type} (f : α → Own) : List α → Own
  | [] => .emp
  | x :: t => .sep (f x) (bigO f t)

theorem bigO_snoc {α : Type} (f : α → Own) (x : α) : ∀ (L : List α) (w : World) (F : List Nat), (Own.sep (bigO f L) (f x)).holds w F → (bigO f (L ++ [x])).holds w F := by
  intro L
  induction L with
  | nil =>
    rintro w F ⟨G, H, rfl, hG, hH, d⟩
    have e : G = [] := hG
    subst e
    exact ⟨H, [], by simp, hH, rfl, by simp⟩
  | cons y L ih =>
    rintro w F ⟨G, H, rfl, ⟨G1, G2, rfl, h1, h2, d1⟩, hH, d⟩
    refine ⟨G1, G2 ++ H, by simp, h1, ih w (G2 ++ H) ⟨G2, H, rfl, h2, hH, fun g hg => d g (by simp [hg])⟩, fun g hg => ?_⟩
    rw [List.mem_append]
    rintro (h | h)
    · exact d1 g hg h
    · exact d g (by simp [hg]) h

section
variable {w0 w : World} {F0 : List Nat} {E : Env}

theorem St.recast {A A' : Own} (H : St w0 F0 w E) (k : Nat) (hk : E k = some A) (h : ∀ w F, A.holds w F → A'.holds w F) : St w0 F0 w (upd E k A') := by
  obtain ⟨F, hA, -, -, hc⟩ := H.change k hk
  exact hc w A' F (h w F hA) (Low.refl _ _) fun g hg => .inl hg

theorem St.part_mk {L : List Own} {A B : Own} (H : St w0 F0 w (lay L)) (i : Nat) (hi : L[i]? = some (.sep A B)) : St w0 F0 w (lay (L.set i A ++ [B])) := by
  have hl : i < L.length := (List.getElem?_eq_some_iff.1 hi).1
  refine (H.part i L.length (by omega) hi (by simp [lay])).env fun k => ?_
  simp only [lay, upd]
  by_cases hk : k = L.length
  · subst hk; simp
  · rw [if_neg hk]
    by_cases hki : k = i
    · subst hki; rw [if_pos rfl, List.getElem?_append_left (by simpa using hl), List.getElem?_set_self hl]
    · rw [if_neg hki]
      rcases Nat.lt_or_ge k L.length with h | h
      · rw [List.getElem?_append_left (by simpa using h), List.getElem?_set_ne (fun e => hki e.symm)]
      · rw [List.getElem?_eq_none (by simp; omega), List.getElem?_eq_none h]

/-- one more element -/
theorem St.fam_push {α : Type} {f : α → Own} {L : List α} {x : α} {A B X Y : Own} {rest : List Own} (H : St w0 F0 w (lay (A :: B :: bigO f L :: X :: Y :: rest))) (hf : f x = .sep X Y) : St w0 F0 w (lay [A, B, bigO f (L ++ [x])]) := by
  have H1 := (H.join 3 4 (by omega) (A := X) (B := Y) rfl rfl)
  have H2 := H1.join 2 3 (by omega) (A := bigO f L) (B := .sep X Y) (by simp [upd, del, lay]) (by simp [upd])
  have H3 := H2.recast (A := .sep (bigO f L) (.sep X Y)) (A' := bigO f (L ++ [x])) 2 (by simp [upd]) (fun w F h => bigO_snoc f x L w F (by rw [hf]; exact h))
  refine H3.sub fun k C hC => ?_
  match k, hC with
  | 0, hC => simpa [upd, del, lay] using hC
  | 1, hC => simpa [upd, del, lay] using hC
  | 2, hC => simpa [upd, del, lay] using hC
  | k + 3, hC => simp [lay] at hC

end

/-- a piece of the family, to be read -/
theorem bigO_row {α : Type} {f : α → Own} {w : World} : ∀ {L : List α} {F : List Nat} {i : Nat} {x : α}, (bigO f L).holds w F → L[i]? = some x → ∃ G, (f x).holds w G := by
  intro L
  induction L with
  | nil => intro F i x h hx; simp at hx
  | cons y L ih =>
    rintro F i x ⟨G, H, rfl, hG, hH, d⟩ hx
    cases i with
    | zero => simp at hx; subst hx; exact ⟨G, hG⟩
    | succ i => exact ih hH (by simpa using hx)

theorem St.bigRow {α : Type} {f : α → Own} {L : List α} {w0 w : World} {F0 : List Nat} {E : Env} (H : St w0 F0 w E) (k : Nat) (hk : E k = some (bigO f L)) {i : Nat} {x : α} (hx : L[i]? = some x) : ∃ G, (f x).holds w G := by
  obtain ⟨F, hA, -, -, -⟩ := H.change k hk
  exact bigO_row hA hx

/-- one more element, a piece of its own -/
theorem St.bigPush {α : Type} {f : α → Own} {L : List α} {x : α} {w0 w : World} {F0 : List Nat} {A : Own} (H : St w0 F0 w (lay [A, bigO f L, f x])) : St w0 F0 w (lay [A, bigO f (L ++ [x])]) := by
  have H1 := H.join 1 2 (by omega) (A := bigO f L) (B := f x) rfl rfl
  have H2 := H1.recast (A := .sep (bigO f L) (f x)) (A' := bigO f (L ++ [x])) 1 (by simp [upd]) (fun w F h => bigO_snoc f x L w F h)
  refine H2.sub fun k C hC => ?_
  match k, hC with
  | 0, hC => simpa [upd, del, lay] using hC
  | 1, hC => simpa [upd, del, lay] using hC
  | k + 2, hC => simp [lay] at hC

end Go.Proofs.Ytcnphkmcgefjoaa

namespace Go.Proofs.Ytcnphkmcgefjoaa
open Go.RowKit
set_option linter.unusedVariables false

def ledRO (g : Nat) (rs : List RunT) : Own := .ex fun v => .sep (.blk g 82 [v]) (.row 45 3 v rs.length (runsV rs))

theorem ledR_close {w0 w : World} {F0 : List Nat} {E : Env} {g n : Nat} {v : Value} {xs : List Value} (rs : List RunT) (H : St w0 F0 w E) (h0 : E 0 = some (.blk g 82 [v])) (h1 : E 1 = some (.row 45 3 v n xs)) (hn : n = rs.length) (hx : xs = runsV rs) : St w0 F0 w (one (ledRO g rs)) := by
  subst hn hx
  refine ((H.join 0 1 (by omega) h0 h1).shutEx (A := fun v => .sep (.blk g 82 [v]) (.row 45 3 v rs.length (runsV rs))) v 0 (by simp [upd])).sub fun k A hA => ?_
  by_cases hk : k = 0
  · subst hk; simp only [one, upd, if_true] at hA ⊢; exact hA
  · simp [one, upd, hk, Env.nil] at hA

set_option maxHeartbeats 1000000 in
theorem refNoteTimes_nil {F : List Nat} {w : World} (g : Nat) (k s n : Int) (HF : St w F w (one (ledRO g []))) (hn : 1 ≤ n) (hb : n ≤ 4611686018427387904) :
    Calls Try.prog 40 #[lptr g, .agg #[.int .u8 k, .int .i64 s], .int .i64 n] w fun e w' => e = .returned (.tuple #[]) ∧ St w F w' (one (ledRO g [(k, s, n)])) := by
  obtain ⟨i0, hi0, hz0, hz1, hz2⟩ := info_parts run_info
  obtain ⟨v, H1⟩ := HF.openEx 0 rfl
  have H2 := H1.part 0 1 (by omega) rfl rfl
  clear HF H1
  obtain ⟨A, c, rfl, hc, -⟩ := row_shape (H2.row 1 rfl)
  have c0 := H2.cell 0 rfl (o := 0) rfl
  have f0 := H2.free 0 rfl 0
  have hg := H2.lt 0 rfl
  have hn1 : ¬ n < 1 := by omega
  unfold lptr
  go_enter Try.func40, Try.ntmps40
  go_wp2
  go_quiet (fail)
  go_wp2
  have H3 := (H2.allocAt 2 rfl w.heap.size rfl #[.int .u8 k, .int .i64 s] 43).drewN nq
  clear c0 f0 hg H2
  generalize hw3 : (w.alloc (.cells #[.int .u8 k, .int .i64 s] 43)).drewN nq = w3 at H3 ⊢
  clear hw3
  generalize w.heap.size = b at H3 ⊢
  have c0 := H3.cell 0 rfl (o := 0) rfl
  have c1 := H3.cell 2 rfl (o := 0) rfl
  have c2 := H3.cell 2 rfl (o := 1) rfl
  have f0 := H3.free 0 rfl 0
  have hg := H3.lt 0 rfl
  have hb := H3.lt 2 rfl
  have hr := H3.row 1 rfl
  go_region_law (refine step_append_any _ (by rfl) (.tmp 54) (.tmp 58) _ (by rfl) 0 45 i0 (.agg #[.int .u8 0, .int .i64 0, .int .i64 0]) 3 24 Try.underlying33 hi0 hz0 hz1 hz2 rfl (by omega) (.slice A 0 c) 0 [] (by rfl) ((hr.alloc _)) (some ⟨w3.heap.size, 0, none⟩) 1 1 [.int .u8 k, .int .i64 s, .int .i64 n] (by rfl) (rd_new _ _ _ 3 rfl) (by simp [Value.oneCell']) (by simp only [maxLen]; omega) (by omega) (by omega) ?_; intro v1 w1 hown1 hg1 hat1; obtain ⟨A1, d1, rfl, hd1, -⟩ := row_shape hown1; have H4 := ((H3.alloc 3 rfl #[.int .u8 k, .int .i64 s, .int .i64 n] 45).drew).grow 1 rfl hown1 hg1 hat1; have k0 := H4.cell 0 rfl (o := 0) rfl; have k1 := H4.cell 2 rfl (o := 0) rfl; have k2 := H4.cell 2 rfl (o := 1) rfl; have k3 := H4.free 0 rfl 0)
  all_goals go_wp2
  all_goals go_end0
  all_goals exact ⟨rfl, ledR_close [(k, s, n)] (H4.store 0 rfl (o := 0) (u := .slice A1 1 d1)) rfl rfl rfl rfl⟩

set_option maxHeartbeats 1000000 in
theorem refNoteTimes_same {F : List Nat} {w : World} (g m : Nat) (rs : List RunT) (k s c n : Int) (hm : rs.length = m + 1) (hr : rs[m]? = some (k, s, c)) (HF : St w F w (one (ledRO g rs))) (hn : 1 ≤ n) (hb : n ≤ 4611686018427387904) (hc0 : 0 ≤ c) (hc : c + n ≤ 4611686018427387904) (ht : 0 ≤ total rs) (ht' : total rs + n ≤ 4611686018427387904) (hl : m ≤ 1000000000000) :
    Calls Try.prog 40 #[lptr g, .agg #[.int .u8 k, .int .i64 s], .int .i64 n] w fun e w' => e = .returned (.tuple #[]) ∧ St w F w' (one (ledRO g (rs.set m (k, s, c + n)))) := by
  obtain ⟨v, H1⟩ := HF.openEx 0 rfl
  have H2 := H1.part 0 1 (by omega) rfl rfl
  clear HF H1
  obtain ⟨A, d, rfl, hd, hA⟩ := row_shape (H2.row 1 rfl)
  obtain ⟨g', rfl, -⟩ := hA (by omega)
  clear hA
  have c0 := H2.cell 0 rfl (o := 0) rfl
  have f0 := H2.free 0 rfl 0
  have hg := H2.lt 0 rfl
  have hn1 : ¬ n < 1 := by omega
  rw [hm] at c0
  have HM := Lib.hid hm
  have HR := Lib.hid hr
  clear hm hr
  unfold lptr
  go_enter Try.func40, Try.ntmps40
  go_wp2
  have H3 := (H2.allocAt 2 rfl w.heap.size rfl #[.int .u8 k, .int .i64 s] 43)
  clear c0 f0 hg H2
  generalize hw3 : (w.alloc (.cells #[.int .u8 k, .int .i64 s] 43)) = w3 at H3 ⊢
  clear hw3
  generalize w.heap.size = b at H3 ⊢
  have c0 := H3.cell 0 rfl (o := 0) rfl
  rw [HM.out] at c0
  have c1 := H3.cell 2 rfl (o := 0) rfl
  have c2 := H3.cell 2 rfl (o := 1) rfl
  obtain ⟨r0, r1, r2, fr⟩ := run_cells (H3.row 1 rfl) HR.out
  have hi : IntKind.i64.wrap (m : Int) = (m : Int) := IntWalk.i64_in _ (by omega)
  have hi3 : (0 : Int) ≤ (m : Int) := by omega
  go_quiet (fail)
  clear hi
  go_wp2
  refine region_quiet_tail 17 (by kernel_rfl) (by kernel_rfl) ?_
  simp only [List.take_succ_cons, List.take_zero, List.drop_succ_cons, List.drop_zero]
  repeat (go_big_quiet_step (fail))
  refine wpQuiet_nil ?_
  intro nq2
  go_wp2
  refine bodyPost_ret (results_none rfl _ _ _) rfl ⟨rfl, ?_⟩
  exact ledR_close _ ((H3.drewN (nq + nq2)).rowStore 1 rfl (o := m * 3 + 2) (u := .int .i64 (c + n))) rfl rfl (by rw [List.length_set]) (runsV_set rs m _ _ HR.out)

set_option maxHeartbeats 1000000 in
theorem refNoteTimes_other {F : List Nat} {w : World} (g m : Nat) (rs : List RunT) (k s k' s' c n : Int) (hm : rs.length = m + 1) (hr : rs[m]? = some (k', s', c)) (hne : ¬ (k' = k ∧ s' = s)) (HF : St w F w (one (ledRO g rs))) (hn : 1 ≤ n) (hb : n ≤ 4611686018427387904) (ht : 0 ≤ total rs) (ht' : total rs + n ≤ 4611686018427387904) (hl : m ≤ 1000000000000) :
    Calls Try.prog 40 #[lptr g, .agg #[.int .u8 k, .int .i64 s], .int .i64 n] w fun e w' => e = .returned (.tuple #[]) ∧ St w F w' (one (ledRO g (rs ++ [(k, s, n)]))) := by
  obtain ⟨v, H1⟩ := HF.openEx 0 rfl
  have H2 := H1.part 0 1 (by omega) rfl rfl
  clear HF H1
  obtain ⟨A, d, rfl, hd, hA⟩ := row_shape (H2.row 1 rfl)
  obtain ⟨g', rfl, -⟩ := hA (by omega)
  clear hA
  have c0 := H2.cell 0 rfl (o := 0) rfl
  have f0 := H2.free 0 rfl 0
  have hg := H2.lt 0 rfl
  have hn1 : ¬ n < 1 := by omega
  rw [hm] at c0
  have HM := Lib.hid hm
  have HR := Lib.hid hr
  have HN := Lib.hid hne
  clear hm hr hne
  unfold lptr
  go_enter Try.func40, Try.ntmps40
  go_wp2
  have H3 := (H2.allocAt 2 rfl w.heap.size rfl #[.int .u8 k, .int .i64 s] 43)
  clear c0 f0 hg H2
  generalize hw3 : (w.alloc (.cells #[.int .u8 k, .int .i64 s] 43)) = w3 at H3 ⊢
  clear hw3
  generalize w.heap.size = b at H3 ⊢
  have c0 := H3.cell 0 rfl (o := 0) rfl
  rw [HM.out] at c0
  have c1 := H3.cell 2 rfl (o := 0) rfl
  have c2 := H3.cell 2 rfl (o := 1) rfl
  obtain ⟨r0, r1, r2, fr⟩ := run_cells (H3.row 1 rfl) HR.out
  have hi : IntKind.i64.wrap (m : Int) = (m : Int) := IntWalk.i64_in _ (by omega)
  have hi2 : (m : Int) < (m : Int) + 1 := by omega
  have hi3 : (0 : Int) ≤ (m : Int) := by omega
  have hq : (k' == k) = false ∨ (k' = k ∧ (s' == s) = false) := by
    by_cases hk : k' = k
    · exact .inr ⟨hk, by simpa using fun h => HN.out ⟨hk, h⟩⟩
    · exact .inl (by simpa using hk)
  rcases hq with hq | ⟨hq0, hq⟩
  all_goals
    try (have hq1 := hq0.symm; subst hq1)
    go_quiet (fail)
    clear hi hi2 hi3 hq
    go_wp2
    have H4 := H3.drewN nq
    clear c0 c1 c2 r0 r1 r2 fr H3
    generalize w3.drewN nq = w4 at H4 ⊢
    obtain ⟨i0, hi0, hz0, hz1, hz2⟩ := info_parts run_info
    have c0 := H4.cell 0 rfl (o := 0) rfl
    rw [HM.out] at c0
    have c1 := H4.cell 2 rfl (o := 0) rfl
    have c2 := H4.cell 2 rfl (o := 1) rfl
    have f0 := H4.free 0 rfl 0
    have hg := H4.lt 0 rfl
    have hbb := H4.lt 2 rfl
    have hr := H4.row 1 rfl
    rw [HM.out] at hr
    go_region_law (refine step_append_any _ (by rfl) (.tmp 54) (.tmp 58) _ (by rfl) 0 45 i0 (.agg #[.int .u8 0, .int .i64 0, .int .i64 0]) 3 24 Try.underlying33 hi0 hz0 hz1 hz2 rfl (by omega) (.slice (some ⟨g', 0, none⟩) (m + 1) d) (m + 1) (runsV rs) (by rfl) ((hr.alloc _)) (some ⟨w4.heap.size, 0, none⟩) 1 1 [.int .u8 k, .int .i64 s, .int .i64 n] (by rfl) (rd_new _ _ _ 3 rfl) (by simp [Value.oneCell']) (by simp only [maxLen]; omega) (by omega) (by omega) ?_; intro v1 w1 hown1 hg1 hat1; obtain ⟨A1, d1, rfl, hd1, -⟩ := row_shape hown1; have H5 := ((H4.alloc 3 rfl #[.int .u8 k, .int .i64 s, .int .i64 n] 45).drew).grow 1 rfl hown1 hg1 hat1; have k0 := H5.cell 0 rfl (o := 0) rfl; have k3 := H5.free 0 rfl 0)
    all_goals go_wp2
    all_goals go_end0
    all_goals exact ⟨rfl, ledR_close (rs ++ [(k, s, n)]) (H5.store 0 rfl (o := 0) (u := .slice A1 (m + 1 + 1) d1)) rfl rfl (by simp [HM.out]) (by rw [runsV_append]; rfl)⟩

/-- Of any ledger that is one: an event is noted. -/
theorem refNoteTimes_led {F : List Nat} {w : World} (g : Nat) (rs : List RunT) (k s n : Int) (HF : St w F w (one (ledRO g rs))) (hn : 1 ≤ n) (hb : n ≤ 4611686018427387904) (h0 : ∀ r ∈ rs, 0 ≤ r.2.2) (ht' : total rs + n ≤ 4611686018427387904) (hl : rs.length ≤ 1000000000000) :
    Calls Try.prog 40 #[lptr g, .agg #[.int .u8 k, .int .i64 s], .int .i64 n] w fun e w' => e = .returned (.tuple #[]) ∧ St w F w' (one (ledRO g (noted rs k s n))) := by
  have ht := total_nonneg rs h0
  rcases Nat.eq_zero_or_pos rs.length with hz | hz
  · have : rs = [] := List.length_eq_zero_iff.1 hz
    subst this
    rw [noted_nil]
    exact refNoteTimes_nil g k s n HF hn hb
  · obtain ⟨m, hm⟩ : ∃ m, rs.length = m + 1 := ⟨rs.length - 1, by omega⟩
    obtain ⟨r, hr⟩ : ∃ r, rs[m]? = some r := ⟨rs[m], List.getElem?_eq_getElem (by omega)⟩
    obtain ⟨k', s', c⟩ := r
    have hc0 := h0 _ (List.mem_of_getElem? hr)
    have hc1 := total_ge rs h0 _ (List.mem_of_getElem? hr)
    by_cases he : k' = k ∧ s' = s
    · obtain ⟨rfl, rfl⟩ := he
      rw [noted_same rs m _ _ c n hm hr]
      exact refNoteTimes_same g m rs _ _ c n hm hr HF hn hb hc0 (by simp only at hc1; omega) ht ht' (by omega)
    · rw [noted_other rs m k s k' s' c n hm hr he]
      exact refNoteTimes_other g m rs k s k' s' c n hm hr he HF hn hb ht ht' (by omega)

/-- the document's ledger, or none -/
def ledR (l : Value) : Option (List RunT) → Own
  | none => .fact (l = .pointer none) .emp
  | some rs => .ex fun g => .fact (l = lptr g) (ledRO g rs)

section
variable {w0 w : World} {F0 : List Nat} {E : Env}

theorem St.ledRNil (H : St w0 F0 w E) (k : Nat) (hk : E k = Option.none) : St w0 F0 w (upd E k (ledR (.pointer none) none)) :=
  by have h := (H.nothing k hk).shutFact (p := Value.pointer none = Value.pointer none) rfl k upd_same; rw [upd_upd] at h; exact h

theorem St.ledROpen {l : Value} {rs : List RunT} (H : St w0 F0 w E) (i : Nat) (hi : E i = some (ledR l (some rs))) : ∃ g, l = lptr g ∧ St w0 F0 w (upd E i (ledRO g rs)) := by
  obtain ⟨g, H1⟩ := H.openEx i hi
  obtain ⟨h, H2⟩ := H1.openFact i upd_same
  simp only [upd_upd] at H2
  exact ⟨g, h, H2⟩

theorem St.ledRShut {rs : List RunT} {g : Nat} (H : St w0 F0 w E) (i : Nat) (hi : E i = some (ledRO g rs)) : St w0 F0 w (upd E i (ledR (lptr g) (some rs))) := by
  have H1 := H.shutFact (p := lptr g = lptr g) rfl i hi
  have H2 := H1.shutEx (A := fun g' => .fact (lptr g = lptr g') (ledRO g' rs)) g i upd_same
  simp only [upd_upd] at H2
  exact H2

theorem St.ledRRead {l : Value} {rs : List RunT} (H : St w0 F0 w E) (i : Nat) (hi : E i = some (ledR l (some rs))) :
    ∃ g A c, l = lptr g ∧ g < w.heap.size ∧ w.cell? ⟨g, 0, none⟩ = some (.slice A rs.length c) ∧ Rd w 3 A rs.length (runsV rs) := by
  obtain ⟨F, ⟨g, hl, v, G, K, eF, ⟨hb, -⟩, ⟨hr, -⟩, -⟩, -⟩ := H.change i hi
  obtain ⟨A, c, rfl, -, -⟩ := row_shape hr
  exact ⟨g, A, c, hl, lt_of_heap hb, by rw [cell_of_row w g 0 _ _ _ hb]; rfl, Rd.of_own hr⟩

theorem refLedger_new (H : St w0 F0 w E) (k : Nat) (hk : E k = Option.none) : Calls Try.prog 11 #[] w fun e w' => ∃ v, e = .returned v ∧ St w0 F0 w' (upd E k (ledR v (some []))) := by
  go_enter Try.func11, Try.ntmps11
  go_wp2
  go_ret
  refine ⟨_, rfl, ?_⟩
  have ho : (ledRO w.heap.size []).holds (w.alloc (.cells #[.slice none 0 0] 82)) [w.heap.size] :=
    ⟨.slice none 0 0, [w.heap.size], [], rfl, ⟨by rw [heap_alloc_new], rfl⟩, ⟨World.ownsRow_nil _ _ _ _, rfl⟩, by simp⟩
  have H1 := H.push k hk ((Below.refl _ _).alloc (Nat.le_refl _) _) ho (by simp)
  have H2 := H1.ledRShut k upd_same
  simp only [upd_upd] at H2
  exact H2

theorem refNoteTimes_zero (l : Value) (k s : Int) (hl : l = .pointer none ∨ ∃ g, l = lptr g) : Calls Try.prog 40 #[l, .agg #[.int .u8 k, .int .i64 s], .int .i64 0] w fun e w' => e = .returned (.tuple #[]) ∧ Below w.heap.size w w' := by
  rcases hl with rfl | ⟨g, rfl⟩
  · go_enter Try.func40, Try.ntmps40
    go_wp2
    refine bodyPost_ret (results_none rfl _ _ _) rfl ⟨rfl, ?_⟩
    exact (Below.refl _ _).alloc (Nat.le_refl _) _
  · unfold lptr
    go_enter Try.func40, Try.ntmps40
    go_wp2
    refine bodyPost_ret (results_none rfl _ _ _) rfl ⟨rfl, ?_⟩
    exact (Below.refl _ _).alloc (Nat.le_refl _) _

theorem refNoteTimes_null (k s n : Int) : Calls Try.prog 40 #[.pointer none, .agg #[.int .u8 k, .int .i64 s], .int .i64 n] w fun e w' => e = .returned (.tuple #[]) ∧ Below w.heap.size w w' := by
  go_enter Try.func40, Try.ntmps40
  go_wp2
  refine bodyPost_ret (results_none rfl _ _ _) rfl ⟨rfl, ?_⟩
  exact (Below.refl _ _).alloc (Nat.le_refl _) _

/-- an event so many times, none perhaps -/
theorem refNoteTimes_w {l : Value} {r : Option (List RunT)} (m : Nat) (b k s : Int) (n : Nat) (N : Int) (hN : N = n) (H : St w0 F0 w E) (i : Nat) (hi : E i = some (ledR l r)) (hg : LW r m b) (hm : m ≤ 1000000000000) (hb : b + n ≤ 4611686018427387904) (hn : n ≤ 4611686018427387904) :
    Calls Try.prog 40 #[l, .agg #[.int .u8 k, .int .i64 s], .int .i64 N] w fun e w' => e = .returned (.tuple #[]) ∧ St w0 F0 w' (upd E i (ledR l (noteN r k s n))) := by
  subst hN
  cases r with
  | none =>
    obtain ⟨rfl, H1⟩ := H.openFact i hi
    refine (refNoteTimes_null k s n).mono ?_
    rintro e w1 ⟨rfl, hb1⟩
    have H2 := H.call hb1
    refine ⟨rfl, ?_⟩
    have e : noteN none k s n = none := by unfold noteN; split <;> rfl
    rw [e, upd_id hi]
    exact H2
  | some rs =>
    rcases Nat.eq_zero_or_pos n with rfl | hp
    · obtain ⟨g, hl, -⟩ := H.ledROpen i hi
      refine (refNoteTimes_zero l k s (.inr ⟨g, hl⟩)).mono ?_
      rintro e w1 ⟨rfl, hb1⟩
      exact ⟨rfl, by rw [noteN_zero, upd_id hi]; exact H.call hb1⟩
    · obtain ⟨g, rfl, H1⟩ := H.ledROpen i hi
      obtain ⟨h1, hl, h2⟩ := hg rs rfl
      have h0 : ∀ r ∈ rs, 0 ≤ r.2.2 := fun r hr => by have := h1 r hr; omega
      obtain ⟨F, HF, -, -, hback⟩ := H1.frame1 i upd_same
      refine (refNoteTimes_led g rs k s n HF (by omega) (by omega) h0 (by omega) (by omega)).mono ?_
      rintro e w1 ⟨rfl, hs⟩
      have H3 := (hback _ _ hs).ledRShut i upd_same
      simp only [upd_upd] at H3
      refine ⟨rfl, ?_⟩
      unfold noteN
      rw [if_neg (by omega)]
      exact H3

set_option maxHeartbeats 400000 in
theorem refNote_w {l : Value} {r : Option (List RunT)} (m : Nat) (b k s : Int) (H : St w0 F0 w E) (i : Nat) (hi : E i = some (ledR l r)) (hg : LW r m b) (hm : m ≤ 1000000000000) (hb : b ≤ 4611686018427387903) :
    Calls Try.prog 65 #[l, .agg #[.int .u8 k, .int .i64 s]] w fun e w' => e = .returned (.tuple #[]) ∧ St w0 F0 w' (upd E i (ledR l (noteN r k s 1))) := by
  have hl : l = .pointer none ∨ ∃ g, l = lptr g := by
    cases r with
    | none => exact .inl (H.openFact i hi).1
    | some rs => obtain ⟨g, h, -⟩ := H.ledROpen i hi; exact .inr ⟨g, h⟩
  have H2 := H.call ((Below.refl _ _).alloc (Nat.le_refl _) (.cells #[.int .u8 k, .int .i64 s] 43))
  have hc := refNoteTimes_w m b k s 1 1 rfl H2 i hi hg hm (by omega) (by omega)
  have HC := Lib.hid hc
  clear hc H2 H
  rcases hl with rfl | ⟨g, rfl⟩
  all_goals
    (try unfold lptr at HC ⊢)
    go_enter Try.func65, Try.ntmps65
    go_wp2_with fail
    refine HC.out.mono ?_
    rintro e w1 ⟨rfl, hs⟩
    go_wp2
    go_end0
    exact ⟨rfl, hs⟩

theorem hold_here' {p : Prop} (h : Hid p) : p := h

theorem St.rdBlk {w0 w : World} {F0 : List Nat} {E : Env} {g : Nat} {T : TypeId} {cs : List Value} (H : St w0 F0 w E) (k : Nat) (hk : E k = some (.blk g T cs)) (size n : Nat) (hl : cs.length = n * size) : Rd w size (some ⟨g, 0, none⟩) n cs :=
  ⟨hl, fun _ => ⟨_, rfl, H.lt k hk, fun j u hu => by rw [Addr.add_mid, Nat.zero_add]; exact H.cell k hk hu⟩⟩

theorem total_take_succ {rs : List RunT} {j : Nat} {x : RunT} (h : rs[j]? = some x) : total (rs.take (j + 1)) = total (rs.take j) + x.2.2 := by
  rw [List.take_add_one, h, total_append]
  simp [total]

theorem total_take_le {rs : List RunT} (h : ∀ x ∈ rs, 0 ≤ x.2.2) (j : Nat) : 0 ≤ total (rs.take j) ∧ total (rs.take j) ≤ total rs := by
  have h1 := total_nonneg (rs.take j) fun x hx => h x (List.mem_of_mem_take hx)
  have h2 := total_nonneg (rs.drop j) fun x hx => h x (List.mem_of_mem_drop hx)
  have h3 := total_append (rs.take j) (rs.drop j)
  rw [List.take_append_drop] at h3
  omega

theorem runsV_snoc {rs : List RunT} {j : Nat} {x : RunT} (h : rs[j]? = some x) : runsV (rs.take (j + 1)) = runsV (rs.take j) ++ runV x := by
  rw [List.take_add_one, h, runsV_append]
  simp [runsV]

set_option maxHeartbeats 1000000 in
/-- how many events the document's ledger has -/
theorem refLen_w {l : Value} {rs : List RunT} (m : Nat) (b : Int) (H : St w0 F0 w E) (i : Nat) (hi : E i = some (ledR l (some rs))) (hg : LW (some rs) m b) (hm : m ≤ 1000000000000) (hb : b ≤ 4611686018427387904) :
    Calls Try.prog 31 #[l] w fun e w' => e = .returned (.int .i64 (total rs)) ∧ w = w' := by
  obtain ⟨g, A, c, rfl, hlt, c0, hr⟩ := H.ledRRead i hi
  obtain ⟨h1, h2, h3⟩ := hg rs rfl
  have h0 : ∀ r ∈ rs, 0 ≤ r.2.2 := fun r hr => by have := h1 r hr; omega
  have HT := Lib.hid (total_take_le h0)
  have HB := Lib.hid h3
  have HE : Hid (total (rs.take rs.length) = total rs) := by unfold Hid; rw [List.take_length]
  clear h0 h1 h3 H hg
  unfold lptr
  generalize hN : rs.length = N at c0 hr h2 HE
  have HN := Lib.hid hN
  clear hN
  go_enter Try.func31, Try.ntmps31
  go_wp2
  go_loop [3, 4] (fun t i => ∃ k : Nat, k ≤ N ∧ i = .int .i64 k ∧ t = .int .i64 (total (rs.take k))) (fun _ i => N - (intOf i).toNat)
  case atStart => exact ⟨0, Nat.zero_le _, rfl, rfl⟩
  case round =>
    obtain ⟨k, hk, rfl, rfl⟩ := hrel
    by_cases hlt2 : k < N
    · obtain ⟨x, hx⟩ : ∃ r, rs[k]? = some r := ⟨_, List.getElem?_eq_getElem (by rw [HN.out]; exact hlt2)⟩
      obtain ⟨p, o, rfl, -, hcx⟩ := hr.flat (by omega) (by omega)
      have a0 := hcx (k * 3 + 2) _ (by rw [runsV_get rs k 2 x hx (by omega)]; rfl)
      rw [← Nat.add_assoc] at a0
      have HS := Lib.hid (total_take_succ hx)
      have b1 := HT.out k
      have b2 := HT.out (k + 1)
      have b3 := HB.out
      rw [HS.out] at b2
      have hk1 : (k : Int) < N := by omega
      generalize x.2.2 = xc at a0 HS b2
      generalize total (rs.take k) = T at HS b1 b2 ⊢
      clear hx hcx
      go_wp2
      go_round
      case rel => exact ⟨k + 1, by omega, by go_num, congrArg (Value.int IntKind.i64) HS.out.symm⟩
      case measure => simp [intOf]; omega
    · obtain rfl : N = k := by omega
      rw [HE.out]
      go_wp2
      go_ret
      exact ⟨rfl, rfl⟩

set_option maxHeartbeats 1000000 in
theorem refRuns_w {l : Value} {rs : List RunT} (m : Nat) (b : Int) (H : St w0 F0 w E) (i : Nat) (hi : E i = some (ledR l (some rs))) (hg : LW (some rs) m b) (hm : m ≤ 1000000000) (q : Nat) (hq : E q = Option.none) :
    Calls Try.prog 18 #[l] w fun e w' => ∃ v, e = .returned v ∧ St w0 F0 w' (upd E q (runsO v rs)) := by
  obtain ⟨i0, hi0, hz0, hz1, hz2⟩ := info_parts run_info
  obtain ⟨g, A, c, hlp, hlt, c0, hr⟩ := H.ledRRead i hi
  obtain ⟨h1, h2, h3⟩ := hg rs rfl
  have HE : Hid (rs.take rs.length = rs) := by unfold Hid; rw [List.take_length]
  clear h1 h3 hg
  generalize hN : rs.length = N at c0 hr h2 HE
  have HN := Lib.hid hN
  clear hN
  have HH := Lib.hid H
  have G := St.start_lay w []
  replace G := (G.nilRow 0 rfl 45 3).push_mk rfl
  have HRR : Hid (Rd w 3 A N (runsV rs)) := hr
  have HLP := Lib.hid hlp
  obtain rfl := hlp
  unfold lptr
  go_enter Try.func18, Try.ntmps18
  clear H c0 hr
  go_wp2
  go_loopw [3, 4] (fun t i wr => ∃ k : Nat, k ≤ N ∧ i = .int .i64 k ∧ St w [] wr (lay [.row 45 3 t k (runsV (rs.take k))])) (fun _ i _ => N - (intOf i).toNat)
  case atStart => exact ⟨0, Nat.zero_le _, rfl, G⟩
  case round =>
    clear G
    obtain ⟨k, hk, rfl, G⟩ := hrel
    obtain ⟨g', A', c', e, hlt, c0, hr⟩ := (HH.out.call G.below).ledRRead i hi
    unfold lptr at e
    injection e with e
    injection e with e
    injection e with e
    subst e
    rw [HN.out] at c0 hr
    by_cases hlt2 : k < N
    · obtain ⟨x, hx⟩ : ∃ r, rs[k]? = some r := ⟨_, List.getElem?_eq_getElem (by rw [HN.out]; exact hlt2)⟩
      obtain ⟨p, o, rfl, -, hcx⟩ := hr.flat (by omega) (by omega)
      have a0 := hcx (k * 3 + 0) _ (by rw [runsV_get rs k 0 x hx (by omega)]; rfl)
      have a1 := hcx (k * 3 + 1) _ (by rw [runsV_get rs k 1 x hx (by omega)]; rfl)
      have a2 := hcx (k * 3 + 2) _ (by rw [runsV_get rs k 2 x hx (by omega)]; rfl)
      simp only [← Nat.add_assoc, Nat.add_zero] at a0 a1 a2
      have HS := Lib.hid (runsV_snoc hx)
      have hk1 : (k : Int) < N := by omega
      obtain ⟨x0, x1, x2⟩ := x
      simp only at a0 a1 a2
      clear hx hcx hr
      obtain ⟨A3, c3, rfl, -⟩ := row_form (G.row 0 rfl)
      go_wp2_with (at_builtin; refine hold_here' ?_)
      refine Lib.hid ?_
      refine absorb_list (G.allocAt 1 rfl wr.heap.size rfl #[.int .u8 x0, .int .i64 x1, .int .i64 x2] 45 |>.push_mk rfl) ?_
      clear G
      intro w5 G
      generalize wr.heap.size = gN at G ⊢
      refine wpList_append_any _ rfl (.tmp 18) (.tmp 26) _ rfl 0 45 i0 _ 3 24 Try.underlying33 hi0 hz0 hz1 hz2 rfl (by omega) (.slice A3 k c3) k (runsV (rs.take k)) rfl (G.row 0 rfl) (some ⟨gN, 0, none⟩) 1 1 [.int .u8 x0, .int .i64 x1, .int .i64 x2] rfl (G.rdBlk 1 rfl 3 1 rfl) (by intro u hu; simp at hu; rcases hu with rfl | rfl | rfl <;> rfl) (by simp only [maxLen]; omega) (by omega) (by omega) ?_
      intro v6 w6 hown6 hg6 hat6
      replace G := ((G.grow 0 rfl hown6 hg6 hat6).upd_mk (by simp)).front 1
      clear hown6 hg6 hat6
      have G2 : St w [] w6 (lay [.row 45 3 v6 (k + 1) (runsV (rs.take (k + 1)))]) := by rw [HS.out]; exact G
      clear G
      go_wp2
      go_roundw
      case rel => exact ⟨k + 1, by omega, by go_num, G2⟩
      case measure => simp [intOf]; omega
    · obtain rfl : N = k := by omega
      go_wp2
      go_ret
      refine ⟨_, rfl, ?_⟩
      rw [HE.out] at G
      have H2 := HH.out.pushRow q hq G.below (G.ownRow 0 rfl)
      rw [← HN.out] at H2
      exact H2

end

end Go.Proofs.Ytcnphkmcgefjoaa
