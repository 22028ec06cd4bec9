/- Welch's t the other way round is its opposite. Nothing here walks. -/
import Derived.Test.YtpmgklmgaienhaaMeAb

namespace Go.Proofs.Ytpmgklmgaienhaa
open Go Ieee
set_option linter.unusedVariables false
set_option maxRecDepth 100000

/-- opposite data: alike but for the sign; noughts are all alike -/
def DOp : Datum → Datum → Prop
  | .number s m p, .number t n q => m = n ∧ p = q ∧ (t = !s ∨ m = 0)
  | .infinity s, .infinity t => t = !s
  | _, _ => False

def DOpO : Option Datum → Option Datum → Prop
  | none, none => True
  | some a, some b => DOp a b
  | _, _ => False

theorem signed_not (t : Bool) (n k : Nat) : signed (!t) n k = - signed t n k := by cases t <;> simp [signed]

theorem sum_op (a b : Datum) : DOpO (a.sum b.opposite) (b.sum a.opposite) := by
  cases a with
  | nan s t => cases b <;> exact trivial
  | infinity s =>
    cases b with
    | nan t u => exact trivial
    | infinity t => cases s <;> cases t <;> first | exact trivial | exact rfl
    | number t n j => exact rfl
  | number s m i =>
    cases b with
    | nan t u => exact trivial
    | infinity t => exact (by cases t <;> rfl : t = !!t)
    | number t n j =>
      show DOpO (some (.number (if signed s m (i - min i j).toNat + signed (!t) n (j - min i j).toNat = 0 then s && !t else decide (signed s m (i - min i j).toNat + signed (!t) n (j - min i j).toNat < 0)) (signed s m (i - min i j).toNat + signed (!t) n (j - min i j).toNat).natAbs (min i j))) (some (.number (if signed t n (j - min j i).toNat + signed (!s) m (i - min j i).toNat = 0 then t && !s else decide (signed t n (j - min j i).toNat + signed (!s) m (i - min j i).toNat < 0)) (signed t n (j - min j i).toNat + signed (!s) m (i - min j i).toNat).natAbs (min j i)))
      rw [Int.min_comm j i, signed_not, signed_not]
      generalize signed s m (i - min i j).toNat = A
      generalize signed t n (j - min i j).toNat = B
      refine ⟨by omega, rfl, ?_⟩
      by_cases h : A + -B = 0
      · right; omega
      · left
        rw [if_neg h, if_neg (by omega)]
        by_cases h2 : A + -B < 0
        · rw [decide_eq_true h2, decide_eq_false (by omega)]; rfl
        · rw [decide_eq_false h2, decide_eq_true (by omega)]; rfl

theorem sum_comm (a b : Datum) : a.sum b = b.sum a := by
  cases a with
  | nan s t => cases b <;> rfl
  | infinity s =>
    cases b with
    | nan t u => rfl
    | infinity t => cases s <;> cases t <;> rfl
    | number t n j => rfl
  | number s m i =>
    cases b with
    | nan t u => rfl
    | infinity t => rfl
    | number t n j =>
      show some (Datum.number (if signed s m (i - min i j).toNat + signed t n (j - min i j).toNat = 0 then s && t else decide (signed s m (i - min i j).toNat + signed t n (j - min i j).toNat < 0)) (signed s m (i - min i j).toNat + signed t n (j - min i j).toNat).natAbs (min i j)) = some (Datum.number (if signed t n (j - min j i).toNat + signed s m (i - min j i).toNat = 0 then t && s else decide (signed t n (j - min j i).toNat + signed s m (i - min j i).toNat < 0)) (signed t n (j - min j i).toNat + signed s m (i - min j i).toNat).natAbs (min j i))
      rw [Int.min_comm j i, Int.add_comm (signed t n _), Bool.and_comm t s]

theorem quot_op {a b : Datum} (h : DOp a b) (k : Nat) (q : Datum) : DOpO (a.quotient k q) (b.quotient k q) := by
  cases a with
  | nan s t => exact absurd h (by simp [DOp])
  | infinity s =>
    cases b with
    | nan t u => exact absurd h (by simp [DOp])
    | number t n j => exact absurd h (by simp [DOp])
    | infinity t =>
      have h : t = !s := h
      subst h
      cases q with
      | nan x y => exact trivial
      | infinity x => exact trivial
      | number x y z => exact (by cases s <;> cases x <;> rfl : (!s ^^ x) = !(s ^^ x))
  | number s m i =>
    cases b with
    | nan t u => exact absurd h (by simp [DOp])
    | infinity t => exact absurd h (by simp [DOp])
    | number t n j =>
      obtain ⟨rfl, rfl, h⟩ := (h : m = n ∧ i = j ∧ (t = !s ∨ m = 0))
      cases q with
      | nan x y => exact trivial
      | infinity x => exact ⟨rfl, rfl, .inr rfl⟩
      | number x y z =>
        unfold Datum.quotient
        dsimp only
        split
        · split
          · exact trivial
          · rename_i h1 h2
            have h := h.resolve_right h2
            subst h
            exact (by cases s <;> cases x <;> rfl : (!s ^^ x) = !(s ^^ x))
        · refine ⟨rfl, rfl, ?_⟩
          rcases h with h | h
          · left; subst h; cases s <;> cases x <;> rfl
          · right; subst h; simp

/-- opposite words -/
def WOp (x y : Nat) : Prop := ∃ s t r, r ≤ infR ∧ x = double.word s r ∧ y = double.word t r ∧ (t = !s ∨ r = 0)

theorem nearest_op (s t : Bool) (m : Nat) (p : Int) (h : t = !s ∨ m = 0) : WOp (double.nearest s m p) (double.nearest t m p) := by
  unfold Format.nearest
  by_cases hm : m = 0
  · rw [if_pos hm, if_pos hm]; exact ⟨s, t, 0, Nat.zero_le _, rfl, rfl, .inr rfl⟩
  · rw [if_neg hm, if_neg hm]
    simp only [cut_eq]
    refine ⟨s, t, _, ?_, rfl, rfl, .inl (h.resolve_right hm)⟩
    rw [← infR_eq]
    exact Nat.min_le_right _ _

theorem write_op {a b : Datum} (h : DOp a b) : WOp (double.write a) (double.write b) := by
  cases a with
  | nan s t => exact absurd h (by simp [DOp])
  | infinity s =>
    cases b with
    | nan t u => exact absurd h (by simp [DOp])
    | number t n j => exact absurd h (by simp [DOp])
    | infinity t => exact ⟨s, t, double.infRung, by rw [infR_eq]; exact Nat.le_refl _, rfl, rfl, .inl h⟩
  | number s m i =>
    cases b with
    | nan t u => exact absurd h (by simp [DOp])
    | infinity t => exact absurd h (by simp [DOp])
    | number t n j =>
      obtain ⟨rfl, rfl, h⟩ := (h : m = n ∧ i = j ∧ (t = !s ∨ m = 0))
      exact nearest_op s t m i h

theorem word_val (s : Bool) {r : Nat} (h : r ≤ infR) : double.word s r = r + (if s then 2 ^ 63 else 0) ∧ r < 2 ^ 63 := by
  have hi : infR < 2 ^ 63 := by decide
  refine ⟨?_, by omega⟩
  unfold Format.word
  rw [sw_eq]
  cases s <;> simp <;> omega

theorem read_any (s : Bool) {r : Nat} (h : r ≤ infR) : double.read (double.word s r) = if r < 2 ^ 52 then .number s r (-1074) else if r < infR then .number s (2 ^ 52 + r % 2 ^ 52) (-1074 + ((r / 2 ^ 52 - 1 : Nat) : Int)) else .infinity s := by
  obtain ⟨e, hr⟩ := word_val s h
  have e1 : double.word s r % 2 ^ 63 = r := by rw [e]; cases s <;> simp <;> omega
  have e2 : (double.word s r / 2 ^ 63 % 2 == 1) = s := by
    rw [e]
    cases s
    · rw [show (r + if false = true then 2 ^ 63 else 0) / 2 ^ 63 = 0 by simp; omega]; rfl
    · rw [show (r + if true = true then 2 ^ 63 else 0) / 2 ^ 63 = 1 by simp; omega]; rfl
  unfold Format.read
  rw [sw_eq, bin_eq, infR_eq, least_eq, e1, e2]
  simp only
  split
  · rfl
  · split
    · rfl
    · rw [if_pos (by omega)]

theorem read_op {x y : Nat} (h : WOp x y) : DOp (double.read x) (double.read y) := by
  obtain ⟨s, t, r, hr, rfl, rfl, h⟩ := h
  rw [read_any s hr, read_any t hr]
  split
  · exact ⟨rfl, rfl, h⟩
  · split
    · refine ⟨rfl, rfl, h.imp_right fun e => ?_⟩; omega
    · rename_i h1 h2
      exact (h.resolve_right (by omega))

/-- opposite results -/
def OOp (a b : Option Nat) : Prop := (a = none ∧ b = none) ∨ ∃ x y, a = some x ∧ b = some y ∧ WOp x y

theorem map_op {a b : Option Datum} (h : DOpO a b) : OOp (a.map double.write) (b.map double.write) := by
  cases a with
  | none =>
    cases b with
    | none => exact .inl ⟨rfl, rfl⟩
    | some b => exact absurd h (by simp [DOpO])
  | some a =>
    cases b with
    | none => exact absurd h (by simp [DOpO])
    | some b => exact .inr ⟨_, _, rfl, rfl, write_op h⟩

theorem sub_op (a b : Option Nat) : OOp (opA .sub a b) (opA .sub b a) := by
  cases a with
  | none => cases b <;> exact .inl ⟨rfl, rfl⟩
  | some x =>
    cases b with
    | none => exact .inl ⟨rfl, rfl⟩
    | some y => exact map_op (sum_op (double.read x) (double.read y))

theorem add_comm_op (a b : Option Nat) : opA .add a b = opA .add b a := by
  cases a with
  | none => cases b <;> rfl
  | some x =>
    cases b with
    | none => rfl
    | some y => exact congrArg (Option.map double.write) (sum_comm (double.read x) (double.read y))

theorem quo_op {a b : Option Nat} (h : OOp a b) (c : Option Nat) : OOp (opA .quo a c) (opA .quo b c) := by
  rcases h with ⟨rfl, rfl⟩ | ⟨x, y, rfl, rfl, h⟩
  · exact .inl ⟨rfl, rfl⟩
  · cases c with
    | none => exact .inl ⟨rfl, rfl⟩
    | some z => exact map_op (quot_op (read_op h) _ (double.read z))

theorem WOp.mod {x y : Nat} (h : WOp x y) : x % 2 ^ 63 = y % 2 ^ 63 ∧ x < 2 ^ 64 ∧ y < 2 ^ 64 ∧ isN x = false ∧ isN y = false := by
  obtain ⟨s, t, r, hr, rfl, rfl, h⟩ := h
  obtain ⟨e1, h1⟩ := word_val s hr
  obtain ⟨e2, -⟩ := word_val t hr
  refine ⟨?_, ?_, ?_, word_not_nan s (by rw [infR_eq]; exact hr), word_not_nan t (by rw [infR_eq]; exact hr)⟩
  · rw [e1, e2]; cases s <;> cases t <;> simp <;> omega
  · rw [e1]; cases s <;> simp <;> omega
  · rw [e2]; cases t <;> simp <;> omega

theorem WOp.side {x y : Nat} (h : WOp x y) (h0 : x % 2 ^ 63 ≠ 0) : (x < 2 ^ 63 ∧ 2 ^ 63 ≤ y) ∨ (2 ^ 63 ≤ x ∧ y < 2 ^ 63) := by
  obtain ⟨s, t, r, hr, rfl, rfl, h⟩ := h
  obtain ⟨e1, h1⟩ := word_val s hr
  obtain ⟨e2, -⟩ := word_val t hr
  rcases h with h | h
  · subst h
    rw [e1, e2]
    cases s
    · left; simp; omega
    · right; simp; omega
  · subst h
    exfalso; apply h0; rw [e1]; cases s <;> simp

theorem ord_op {x y : Nat} (h : WOp x y) : (FloatKind.f64.format.order x 0 = some Ordering.eq ∧ FloatKind.f64.format.order y 0 = some Ordering.eq) ∨ (FloatKind.f64.format.order x 0 = some Ordering.gt ∧ FloatKind.f64.format.order y 0 = some Ordering.lt) ∨ (FloatKind.f64.format.order x 0 = some Ordering.lt ∧ FloatKind.f64.format.order y 0 = some Ordering.gt) := by
  obtain ⟨hm, hx, hy, nx, ny⟩ := h.mod
  rcases ord_sign hx nx with ⟨a, o1⟩ | ⟨a, b, o1⟩ | ⟨a, b, o1⟩
  · rcases ord_sign hy ny with ⟨a', o2⟩ | ⟨a', b', o2⟩ | ⟨a', b', o2⟩
    · exact .inl ⟨o1, o2⟩
    · omega
    · omega
  · have hs := h.side a
    rcases ord_sign hy ny with ⟨a', o2⟩ | ⟨a', b', o2⟩ | ⟨a', b', o2⟩
    · omega
    · omega
    · exact .inr (.inl ⟨o1, o2⟩)
  · have hs := h.side a
    rcases ord_sign hy ny with ⟨a', o2⟩ | ⟨a', b', o2⟩ | ⟨a', b', o2⟩
    · omega
    · exact .inr (.inr ⟨o1, o2⟩)
    · omega

/-- no number, or an infinite one -/
def Bad (o : Option Nat) : Prop := ∀ x, o = some x → ∃ s, double.read x = .infinity s

theorem read_inf (s : Bool) : double.read (double.write (.infinity s)) = .infinity s := by
  have h := read_any s (Nat.le_refl infR)
  rw [if_neg (by decide), if_neg (by omega)] at h
  show double.read (double.word s double.infRung) = _
  rw [infR_eq]; exact h

theorem bad_some {a b : Option Nat} {op : BinOp} {r : Nat} (h : opA op a b = some r) : ∃ x y, a = some x ∧ b = some y ∧ floatBits op .f64 x y = some r := by
  cases a with
  | none => cases h
  | some x =>
    cases b with
    | none => cases h
    | some y => exact ⟨x, y, rfl, rfl, h⟩

theorem sum_bad (a : Datum) (s : Bool) {d : Datum} (h : a.sum (.infinity s) = some d) : ∃ t, d = .infinity t := by
  cases a with
  | nan x y => cases h
  | infinity t => simp [Datum.sum] at h; exact ⟨_, h.2.symm⟩
  | number t m i => simp [Datum.sum] at h; exact ⟨_, h.symm⟩

theorem bad_sub (a : Option Nat) {b : Option Nat} (h : Bad b) : Bad (opA .sub a b) := by
  intro r hr
  obtain ⟨x, y, rfl, rfl, hb⟩ := bad_some hr
  obtain ⟨d, hd, rfl⟩ := Option.map_eq_some_iff.1 (show (((double.read x).sum (double.read y).opposite).map double.write) = some r from hb)
  obtain ⟨s, hs⟩ := h y rfl
  rw [hs] at hd
  obtain ⟨t, rfl⟩ := sum_bad _ _ hd
  exact ⟨t, read_inf t⟩

theorem bad_add (a : Option Nat) {b : Option Nat} (h : Bad b) : Bad (opA .add a b) := by
  intro r hr
  obtain ⟨x, y, rfl, rfl, hb⟩ := bad_some hr
  obtain ⟨d, hd, rfl⟩ := Option.map_eq_some_iff.1 (show (((double.read x).sum (double.read y)).map double.write) = some r from hb)
  obtain ⟨s, hs⟩ := h y rfl
  rw [hs] at hd
  obtain ⟨t, rfl⟩ := sum_bad _ _ hd
  exact ⟨t, read_inf t⟩

theorem bad_sq {a : Option Nat} (h : Bad a) : Bad (opA .mul a a) := by
  intro r hr
  obtain ⟨x, y, rfl, e, hb⟩ := bad_some hr
  cases e
  obtain ⟨d, hd, rfl⟩ := Option.map_eq_some_iff.1 (show (((double.read x).product (double.read x)).map double.write) = some r from hb)
  obtain ⟨s, hs⟩ := h x rfl
  rw [hs] at hd
  simp [Datum.product] at hd
  subst hd
  exact ⟨_, read_inf _⟩

theorem bad_quo {a : Option Nat} (h : Bad a) (c : Option Nat) : Bad (opA .quo a c) := by
  intro r hr
  obtain ⟨x, y, rfl, rfl, hb⟩ := bad_some hr
  obtain ⟨d, hd, rfl⟩ := Option.map_eq_some_iff.1 (show (((double.read x).quotient (double.fractionBits + 2) (double.read y)).map double.write) = some r from hb)
  obtain ⟨s, hs⟩ := h x rfl
  rw [hs] at hd
  cases hy : double.read y with
  | nan u v => rw [hy] at hd; cases hd
  | infinity u => rw [hy] at hd; cases hd
  | number u v w =>
    rw [hy] at hd
    simp [Datum.quotient] at hd
    subst hd
    exact ⟨_, read_inf _⟩

theorem bad_ord {a : Option Nat} (h : Bad a) : ordA a (some 0) ≠ some Ordering.eq := by
  cases a with
  | none => intro h; cases h
  | some x =>
    obtain ⟨s, hs⟩ := h x rfl
    have h0 : double.read 0 = .number false 0 (-1074) := by decide +kernel
    show (double.read x).order (double.read 0) ≠ _
    rw [hs, h0]
    cases s <;> exact by simp [Datum.order]

theorem bad_sqO (x : List Nat) {m : Option Nat} (h : Bad m) (n : Nat) : Bad (sqO x m (n + 1)) := by
  show Bad (opA .add _ _)
  exact bad_add _ (bad_sq (bad_sub _ h))

theorem bad_spread (x : List Nat) {n : Nat} (hn : ¬ n < 2) (h : Bad (meanA x n)) : Bad (spreadA x n) := by
  unfold spreadA
  rw [if_neg hn]
  obtain ⟨k, rfl⟩ : ∃ k, n = k + 1 := ⟨n - 1, by omega⟩
  exact bad_quo (bad_sqO x h k) _

theorem not_bad {o : Option Nat} (h : ¬ Bad o) (hn : ∀ x, o = some x → isN x = false) : ∃ x s m i, o = some x ∧ double.read x = .number s m i := by
  cases o with
  | none => exact absurd (fun x hx => by cases hx) h
  | some x =>
    have hx := hn x rfl
    cases hr : double.read x with
    | number s m i => exact ⟨x, s, m, i, rfl, hr⟩
    | infinity s => exact absurd (fun y hy => by cases hy; exact ⟨s, hr⟩) h
    | nan s t =>
      exfalso
      have : isN x = true := by unfold isN; show (double.read x).isNaN = true; rw [hr]; rfl
      rw [this] at hx; cases hx

theorem mean_nan {x : List Nat} {n r : Nat} (hn : ¬ n < 2) (h : meanA x n = some r) : isN r = false := by
  unfold meanA at h
  rw [if_neg (by omega)] at h
  obtain ⟨a, b, -, -, hb⟩ := bad_some h
  exact (valid_nan rfl hb).1

/-- where the spreads are nought the difference is a number -/
theorem d_some {x y : List Nat} {n m : Nat} (hn : ¬ n < 2) (hm : ¬ m < 2) (h : ordA (sA x n y m) (some 0) = some Ordering.eq) : dA x n y m ≠ none := by
  have hx : ¬ Bad (meanA x n) := fun hb => by
    apply bad_ord (a := sA x n y m) _ h
    unfold sA
    rw [add_comm_op]
    exact bad_add _ (bad_quo (bad_spread x hn hb) _)
  have hy : ¬ Bad (meanA y m) := fun hb => by
    apply bad_ord (a := sA x n y m) _ h
    unfold sA
    exact bad_add _ (bad_quo (bad_spread y hm hb) _)
  obtain ⟨a, s, k, i, e1, r1⟩ := not_bad hx (fun r hr => mean_nan hn hr)
  obtain ⟨b, t, l, j, e2, r2⟩ := not_bad hy (fun r hr => mean_nan hm hr)
  unfold dA
  rw [e1, e2]
  show (((double.read a).sum (double.read b).opposite).map double.write) ≠ none
  rw [r1, r2]
  intro h
  cases h

theorem inf_op : WOp 9218868437227405312 18442240474082181120 := ⟨false, true, infR, Nat.le_refl _, by decide +kernel, by decide +kernel, .inl rfl⟩

theorem inf_op2 : WOp 18442240474082181120 9218868437227405312 := ⟨true, false, infR, Nat.le_refl _, by decide +kernel, by decide +kernel, .inl rfl⟩

theorem zero_op : WOp 0 0 := ⟨false, false, 0, Nat.zero_le _, by decide +kernel, by decide +kernel, .inr rfl⟩

theorem tRes_op {d d' s : Option Nat} (h : OOp d d') (hs : ordA s (some 0) = some Ordering.eq → d ≠ none) : OOp (tRes d s) (tRes d' s) := by
  unfold tRes
  by_cases e : (ordA s (some 0) == some Ordering.eq) = true
  · rw [if_pos e, if_pos e]
    rcases h with ⟨rfl, rfl⟩ | ⟨x, y, rfl, rfl, h⟩
    · exact absurd rfl (hs (by simpa using e))
    · have hx : ordA (some x) (some 0) = FloatKind.f64.format.order x 0 := rfl
      have hy : ordA (some y) (some 0) = FloatKind.f64.format.order y 0 := rfl
      rw [hx, hy]
      rcases ord_op h with ⟨a, b⟩ | ⟨a, b⟩ | ⟨a, b⟩
      · rw [a, b]; exact .inr ⟨_, _, rfl, rfl, zero_op⟩
      · rw [a, b]; exact .inr ⟨_, _, rfl, rfl, inf_op⟩
      · rw [a, b]; exact .inr ⟨_, _, rfl, rfl, inf_op2⟩
  · rw [if_neg e, if_neg e]
    exact quo_op h _

theorem tA_op (x y : List Nat) (n m : Nat) : OOp (tA x n y m) (tA y m x n) := by
  unfold tA
  by_cases h : n < 2 ∨ m < 2
  · rw [if_pos h, if_pos (Or.comm.1 h)]; exact .inr ⟨_, _, rfl, rfl, zero_op⟩
  · rw [if_neg h, if_neg (fun e => h (Or.comm.1 e))]
    have e : sA y m x n = sA x n y m := by unfold sA; exact add_comm_op _ _
    rw [e]
    exact tRes_op (sub_op _ _) (d_some (by omega) (by omega))

theorem tJ_op (as_ bs : List RowM) (kk : Int) (s : Bool) : OOp (tJ as_ bs kk s) (tJ bs as_ kk s) := tA_op _ _ _ _

/-- two states that differ but in which way the number looks -/
def VOp (p q : VS) : Prop := p.1 = q.1 ∧ p.2.1 = q.2.1 ∧ WOp p.2.2 q.2.2

theorem step_op {t t' : Option Nat} (h : OOp t t') {p q : VS} (hp : VOp p q) (k : Int) (s : Bool) : VOp (stepJ t k s p) (stepJ t' k s q) := by
  obtain ⟨h1, h2, h3⟩ := hp
  have e : wtO t = wtO t' := by
    rcases h with ⟨rfl, rfl⟩ | ⟨x, y, rfl, rfl, h⟩
    · rfl
    · exact h.mod.1
  unfold stepJ
  rw [e, h3.mod.1]
  split
  · refine ⟨rfl, rfl, ?_⟩
    rcases h with ⟨rfl, rfl⟩ | ⟨x, y, rfl, rfl, h⟩
    · exact zero_op
    · exact h
  · exact ⟨h1, h2, h3⟩

theorem stJ_op (as_ bs : List RowM) : ∀ i, VOp (stJ as_ bs i) (stJ bs as_ i)
  | 0 => ⟨rfl, rfl, zero_op⟩
  | i + 1 => by unfold stJ; exact step_op (tJ_op _ _ _ _) (stJ_op as_ bs i) _ _

theorem apart_op {x y : Nat} (h : WOp x y) : apartJ x = apartJ y := by unfold apartJ; rw [h.mod.1]

theorem neg_op {x y : Nat} (h : WOp x y) : FloatKind.f64.format.order x (Op.negFloat .f64 y) = some Ordering.eq := by
  obtain ⟨s, t, r, hr, rfl, rfl, h⟩ := h
  obtain ⟨e1, h1⟩ := word_val s hr
  obtain ⟨e2, -⟩ := word_val t hr
  have hn : Op.negFloat .f64 (double.word t r) = double.word (!t) r := by
    obtain ⟨e3, -⟩ := word_val (!t) hr
    rw [e2, e3]
    cases t
    · have e := neg_bits (x := r + 2 ^ 63) (by omega) (by omega)
      have e' : (r + 2 ^ 63) ^^^ 2 ^ 63 = (r + 2 ^ 63) % 2 ^ 63 := e
      have e'' : (r + 2 ^ 63) % 2 ^ 63 = r := by omega
      show (r + 0) ^^^ 2 ^ 63 = r + 2 ^ 63
      rw [e''] at e'
      calc (r + 0) ^^^ 2 ^ 63 = ((r + 2 ^ 63) ^^^ 2 ^ 63) ^^^ 2 ^ 63 := by rw [e', Nat.add_zero]
        _ = r + 2 ^ 63 := by rw [Nat.xor_assoc, Nat.xor_self, Nat.xor_zero]
    · have := neg_bits (x := r + 2 ^ 63) (by omega) (by omega)
      show Op.negFloat .f64 (r + 2 ^ 63) = r + 0
      rw [this]; omega
  rw [hn]
  rcases h with h | h
  · subst h
    rw [Bool.not_not]
    exact ord_self (word_not_nan s (by rw [infR_eq]; exact hr))
  · subst h
    cases s <;> cases t <;> decide +kernel

end Go.Proofs.Ytpmgklmgaienhaa
