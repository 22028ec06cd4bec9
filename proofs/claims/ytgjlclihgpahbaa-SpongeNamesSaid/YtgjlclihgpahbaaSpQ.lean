/- A sponge, plain: what is read of it, piece by piece. -/
import Derived.Test.YtgjlclihgpahbaaSpC
import Derived.Test.YtgjlclihgpahbaaMade

namespace Go.Proofs.Ytgjlclihgpahbaa
open Go.RowKit
set_option linter.unusedVariables false
set_option maxRecDepth 100000

attribute [local irreducible] permB kBytes kPerm kFrom

theorem Sp.turn_yes {x : Sp} (h : x.p = x.r) : x.turn = x.perm := if_pos h

theorem Sp.turn_no {x : Sp} (h : ¬ x.p = x.r) : x.turn = x := if_neg h

theorem Sp.turn_r (x : Sp) : x.turn.r = x.r ∧ x.turn.s = x.s ∧ x.turn.f = x.f := by
  by_cases h : x.p = x.r
  · rw [Sp.turn_yes h]; exact ⟨rfl, rfl, rfl⟩
  · rw [Sp.turn_no h]; exact ⟨rfl, rfl, rfl⟩

theorem Sp.turn_lt {x : Sp} (h : x.Ok) : x.turn.p < x.r ∧ x.turn.b.length = 200 := by
  have h8 := h.r8
  have hp := h.pr
  by_cases he : x.p = x.r
  · rw [Sp.turn_yes he]; exact ⟨by show 0 < x.r; omega, permB_length _⟩
  · rw [Sp.turn_no he]; exact ⟨by omega, h.hb⟩

theorem Sp.go_zero (x : Sp) : x.go 0 = x := rfl

theorem Sp.after_zero (x : Sp) : x.after 0 = x := rfl

theorem Sp.go_turn {x : Sp} {k : Nat} (h : x.p + k < x.r) : (x.go k).turn = x.go k := Sp.turn_no (by show ¬ x.p + k = x.r; omega)

theorem Sp.after_succ (x : Sp) (n : Nat) : x.after (n + 1) = (x.after n).turn.go 1 := rfl

theorem Sp.after_go {x : Sp} (t : Nat) (k : Nat) (h : (x.after t).turn.p + (k + 1) ≤ (x.after t).turn.r) : x.after (t + (k + 1)) = (x.after t).turn.go (k + 1) := by
  induction k with
  | zero => rfl
  | succ k ih =>
    have ih := ih (by omega)
    rw [show t + (k + 1 + 1) = (t + (k + 1)) + 1 by omega, Sp.after_succ, ih, Sp.go_turn (by omega)]
    rfl

theorem Sp.get_go {x : Sp} (t : Nat) (k : Nat) (h : (x.after t).turn.p + k < (x.after t).turn.r) : (x.after (t + k)).get = (x.after t).turn.b.getD ((x.after t).turn.p + k) 0 := by
  rcases Nat.eq_zero_or_pos k with h0 | h0
  · subst h0; rfl
  · obtain ⟨j, rfl⟩ : ∃ j, k = j + 1 := ⟨k - 1, by omega⟩
    rw [Sp.after_go t j (by omega)]
    unfold Sp.get
    rw [Sp.go_turn h]
    rfl

theorem Sp.read_length (x : Sp) (n : Nat) : (x.read n).length = n := by unfold Sp.read; rw [List.length_map, List.length_range]

theorem Sp.read_zero (x : Sp) : x.read 0 = [] := rfl

theorem Sp.read_more {x : Sp} (t k : Nat) (hk : (x.after t).turn.p + k ≤ (x.after t).turn.r) (hr : (x.after t).turn.r ≤ 192) (hb : (x.after t).turn.b.length = 200) :
    x.read (t + k) = x.read t ++ ((x.after t).turn.b.drop (x.after t).turn.p).take k := by
  apply List.ext_getElem?
  intro i
  unfold Sp.read
  by_cases h1 : i < t
  · rw [List.getElem?_append_left (by rw [List.length_map, List.length_range]; exact h1), List.getElem?_map, List.getElem?_map, List.getElem?_range (by omega), List.getElem?_range h1]
  · rw [List.getElem?_append_right (by rw [List.length_map, List.length_range]; omega), List.length_map, List.length_range, List.getElem?_map, List.getElem?_take]
    by_cases h2 : i < t + k
    · rw [List.getElem?_range h2, if_pos (by omega), List.getElem?_drop, List.getElem?_eq_getElem (by omega)]
      obtain ⟨j, rfl⟩ : ∃ j, i = t + j := ⟨i - t, by omega⟩
      rw [Option.map_some, Sp.get_go t j (by omega)]
      simp only [Nat.add_sub_cancel_left]
      rw [List.getD_eq_getElem?_getD, List.getElem?_eq_getElem (by omega), Option.getD_some]
    · rw [if_neg (by omega), List.getElem?_eq_none (by rw [List.length_range]; omega)]
      rfl

theorem Sp.turn_ok {x : Sp} (h : x.Ok) (hs : x.s = true) : x.turn.Ok := by
  have h1 := Sp.turn_lt h
  have h2 := Sp.turn_r x
  exact ⟨h1.2, by rw [h2.1]; exact h.r8, by rw [h2.1]; exact h.r192, by rw [h2.1]; omega, fun e => by rw [h2.2.1, hs] at e; cases e⟩

theorem Sp.go_ok {x : Sp} (h : x.Ok) (hs : x.s = true) {k : Nat} (hk : x.p + k ≤ x.r) : (x.go k).Ok :=
  ⟨h.hb, h.r8, h.r192, hk, fun e => by have : x.s = false := e; rw [hs] at this; cases this⟩

theorem Sp.after_ok {x : Sp} (h : x.Ok) (hs : x.s = true) : ∀ n, (x.after n).Ok ∧ (x.after n).r = x.r ∧ (x.after n).s = true ∧ (x.after n).f = x.f := by
  intro n
  induction n with
  | zero => exact ⟨h, rfl, hs, rfl⟩
  | succ n ih =>
    obtain ⟨h1, h2, h3, h4⟩ := ih
    have t1 := Sp.turn_lt h1
    obtain ⟨t2, t3, t4⟩ := Sp.turn_r (x.after n)
    rw [Sp.after_succ]
    exact ⟨Sp.go_ok (Sp.turn_ok h1 h3) (by rw [t3, h3]) (by rw [t2]; omega), t2.trans h2, by show (x.after n).turn.s = true; rw [t3, h3], t4.trans h4⟩

theorem Sp.close_ok {x : Sp} (h : x.Ok) : x.close.Ok ∧ x.close.s = true ∧ x.close.r = x.r ∧ x.close.p = 0 :=
  ⟨⟨permB_length _, h.r8, h.r192, Nat.zero_le _, fun e => by cases e⟩, rfl, rfl, rfl⟩

/-- how often it is permuted -/
theorem count_end {c r p p0 n : Nat} (h : c * r + p = p0 + n) (hp : p ≤ r) (h0 : n = 0 → c = 0) (h1 : 0 < n → 1 ≤ p) (hr : 0 < r) (hp0 : p0 ≤ r) : c = (p0 + n - 1) / r := by
  rcases Nat.eq_zero_or_pos n with hn | hn
  · have hc := h0 hn
    subst hc hn
    rw [Nat.div_eq_of_lt (by omega)]
  · have := h1 hn
    have e : p0 + n - 1 = (p - 1) + r * c := by rw [Nat.mul_comm]; omega
    rw [e, Nat.add_mul_div_left _ _ hr, Nat.div_eq_of_lt (by omega), Nat.zero_add]

theorem made0 {w : World} {base g n : Nat} (h : w.ownsRow base 5 1 (.slice (some ⟨g, 0, none⟩) n n) n (madeCells (Value.int .u8 0).cells (n * 1)).toList) : w.ownsRow base 5 1 (.slice (some ⟨g, 0, none⟩) n n) n ((List.replicate n (0 : UInt8)).map vb) := by
  rw [show (Value.int .u8 0).cells = #[.int .u8 0] from rfl, toList_madeCells_one, Nat.mul_one] at h
  rw [List.map_replicate]
  exact h

theorem splice_mid (a b cs : List UInt8) (n t : Nat) (ha : a.length = t) (hb : b.length = n - t) (hk : t + cs.length ≤ n) : splice ((a ++ b).map vb) t (cs.map vb) = (a ++ cs ++ b.drop cs.length).map vb := by
  unfold splice
  rw [List.length_map, ← List.map_take, ← List.map_drop, ← List.map_append, ← List.map_append, List.take_left' ha, List.append_assoc, ← List.drop_drop, List.drop_left' ha]

section
variable {w0 w : World} {F0 : List Nat} {E : Env}

/-- a list whose block has no more than it -/
theorem St.rowFull {g n : Nat} {e : TypeId} {xs : List Value} (H : St w0 F0 w E) (k : Nat) (hk : E k = some (.row e 1 (.slice (some ⟨g, 0, none⟩) n n) n xs)) : St w0 F0 w (upd E k (.blk g e xs)) := by
  obtain ⟨F, ⟨h, hF⟩, -, -, hc⟩ := H.change k hk
  refine hc w _ [g] ⟨?_, rfl⟩ (Low.refl _ _) (by intro g' hg'; left; rw [hF]; simpa [Value.ownBlock] using hg')
  rcases h.2 with ⟨hv, -⟩ | ⟨g', cap, cur, hv, -, hg, hn, -, hs, hx⟩
  · cases hv
  · injection hv with h1 h2 h3
    injection h1 with h1
    injection h1 with h1
    subst h1 h3
    rw [hg]
    have : cur.toList = xs := by rw [← hx, List.take_of_length_le (by simp; omega)]
    rw [← this]

theorem St.blkRow {g n : Nat} {e : TypeId} {xs : List Value} (H : St w0 F0 w E) (k : Nat) (hk : E k = some (.blk g e xs)) (hx : xs.length = n) (hn : n ≤ maxLen) : St w0 F0 w (upd E k (.row e 1 (.slice (some ⟨g, 0, none⟩) n n) n xs)) := by
  obtain ⟨F, ⟨h, hF⟩, -, -, hc⟩ := H.change k hk
  subst hF
  subst hx
  refine hc w _ [g] ⟨⟨(Nat.mul_one _).symm, .inr ⟨g, xs.length, xs.toArray, rfl, Nat.zero_le _, h, Nat.le_refl _, hn, by rw [Nat.mul_one]; exact List.size_toArray, by rw [Nat.mul_one]; exact List.take_length⟩⟩, by simp [Value.ownBlock]⟩ (Low.refl _ _) (by simp)

/-- a third piece, which is new, is handed up with the two -/
theorem St.two_more {w0 w w' : World} {F0 F : List Nat} {E : Env} {A B R A0 B0 : Own} {i j k : Nat} (hij : i ≠ j) (hi : E i = some A0) (hj : E j = some B0) (hk : E k = none)
    (hback : ∀ (w' : World) (A' B' : Own), St w F w' (two A' B') → St w0 F0 w' (upd (upd E i A') j B')) (H : St w F w' (lay [A, B, R])) : St w0 F0 w' (upd (upd (upd E i A) j B) k R) := by
  have hki : k ≠ i := fun e => by rw [e, hi] at hk; cases hk
  have hkj : k ≠ j := fun e => by rw [e, hj] at hk; cases hk
  have H1 := H.join 0 2 (by omega) rfl rfl
  have H2 : St w F w' (two (.sep A R) B) := H1.sub fun n C hC => by
    simp only [two, upd, Env.nil] at hC
    by_cases h1 : n = 1
    · subst h1; rw [if_pos rfl] at hC; rw [← hC]; rfl
    · rw [if_neg h1] at hC
      by_cases h0 : n = 0
      · subst h0; rw [if_pos rfl] at hC; rw [← hC]; rfl
      · rw [if_neg h0] at hC; cases hC
  have H3 := hback _ _ _ H2
  have H4 := H3.part (A := A) (B := R) i k (Ne.symm hki) (by simp [upd, hij]) (by simp [upd, hki, hkj, hk])
  refine H4.env fun n => ?_
  simp only [upd]
  by_cases h1 : n = k
  · simp [h1]
  · by_cases h2 : n = j
    · subst h2; simp [h1, Ne.symm hij]
    · by_cases h3 : n = i <;> simp [h1, h2, h3, hij]

end

end Go.Proofs.Ytgjlclihgpahbaa
