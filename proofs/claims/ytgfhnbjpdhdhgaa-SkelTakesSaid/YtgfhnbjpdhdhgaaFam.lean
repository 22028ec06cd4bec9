/- A family of pieces, one for each element of a list; lists of operations that are lent. -/
import Derived.Test.YtgfhnbjpdhdhgaaRowOs
import Derived.Test.YtgfhnbjpdhdhgaaLentO
namespace Go.Proofs.Ytgfhnbjpdhdhgaa
open Go.RowKit
set_option linter.unusedVariables false

def bigO {α : Type} (f : α → Own) : List α → Own
  | [] => .emp
  | x :: t => .sep (f x) (bigO f t)
theorem bigO_snoc {α : Type} (f : α → Own) (x : α) : ∀ (L : List α) (w : World) (F : List Nat), (Own.sep (bigO f L) (f x)).holds w F → (bigO f (L ++ [x])).holds w F := by
  intro L
  induction L with
  | nil =>
    rintro w F ⟨G, H, rfl, hG, hH, d⟩
    have e : G = [] := hG
    subst e
    exact ⟨H, [], by simp, hH, rfl, by simp⟩
  | cons y L ih =>
    rintro w F ⟨G, H, rfl, ⟨G1, G2, rfl, h1, h2, d1⟩, hH, d⟩
    refine ⟨G1, G2 ++ H, by simp, h1, ih w (G2 ++ H) ⟨G2, H, rfl, h2, hH, fun g hg => d g (by simp [hg])⟩, fun g hg => ?_⟩
    rw [List.mem_append]
    rintro (h | h)
    · exact d1 g hg h
    · exact d g (by simp [hg]) h
section
variable {w0 w : World} {F0 : List Nat} {E : Env}
theorem St.recast {A A' : Own} (H : St w0 F0 w E) (k : Nat) (hk : E k = some A) (h : ∀ w F, A.holds w F → A'.holds w F) : St w0 F0 w (upd E k A') := by
  obtain ⟨F, hA, -, -, hc⟩ := H.change k hk
  exact hc w A' F (h w F hA) (Low.refl _ _) fun g hg => .inl hg
theorem St.part_mk {L : List Own} {A B : Own} (H : St w0 F0 w (lay L)) (i : Nat) (hi : L[i]? = some (.sep A B)) : St w0 F0 w (lay (L.set i A ++ [B])) := by
  have hl : i < L.length := (List.getElem?_eq_some_iff.1 hi).1
  refine (H.part i L.length (by omega) hi (by simp [lay])).env fun k => ?_
  simp only [lay, upd]
  by_cases hk : k = L.length
  · subst hk; simp
  · rw [if_neg hk]
    by_cases hki : k = i
    · subst hki; rw [if_pos rfl, List.getElem?_append_left (by simpa using hl), List.getElem?_set_self hl]
    · rw [if_neg hki]
      rcases Nat.lt_or_ge k L.length with h | h
      · rw [List.getElem?_append_left (by simpa using h), List.getElem?_set_ne (fun e => hki e.symm)]
      · rw [List.getElem?_eq_none (by simp; omega), List.getElem?_eq_none h]
/-- one more element -/
theorem St.fam_push {α : Type} {f : α → Own} {L : List α} {x : α} {A B X Y : Own} {rest : List Own} (H : St w0 F0 w (lay (A :: B :: bigO f L :: X :: Y :: rest))) (hf : f x = .sep X Y) : St w0 F0 w (lay [A, B, bigO f (L ++ [x])]) := by
  have H1 := (H.join 3 4 (by omega) (A := X) (B := Y) rfl rfl)
  have H2 := H1.join 2 3 (by omega) (A := bigO f L) (B := .sep X Y) (by simp [upd, del, lay]) (by simp [upd])
  have H3 := H2.recast (A := .sep (bigO f L) (.sep X Y)) (A' := bigO f (L ++ [x])) 2 (by simp [upd]) (fun w F h => bigO_snoc f x L w F (by rw [hf]; exact h))
  refine H3.sub fun k C hC => ?_
  match k, hC with
  | 0, hC => simpa [upd, del, lay] using hC
  | 1, hC => simpa [upd, del, lay] using hC
  | 2, hC => simpa [upd, del, lay] using hC
  | k + 3, hC => simp [lay] at hC
end

/-- the lists of an operation that is lent, the marks too -/
def lentO (r : OpR) : Own := .sep (.row 5 1 (.slice r.A (r.n + 6) r.cA) (r.n + 6) ((r.xs ++ marksB 7 0 6).map vb)) (.row 5 1 (.slice r.B (r.m + 6) r.cB) (r.m + 6) ((r.ys ++ marksB 7 0 6).map vb))
def fullC (r : OpR) : List Value := [.slice r.A (r.n + 6) r.cA, .slice r.B (r.m + 6) r.cB]
def fullsV (l : List OpR) : List Value := l.flatMap fullC
theorem fullC_length (s : OpR) : (fullC s).length = 2 := rfl
theorem fullsV_length (l : List OpR) : (fullsV l).length = l.length * 2 := flat_length fullC_length l
theorem opsV_append (a b : List OpR) : opsV (a ++ b) = opsV a ++ opsV b := by simp [opsV]
theorem fullsV_append (a b : List OpR) : fullsV (a ++ b) = fullsV a ++ fullsV b := by simp [fullsV]
/-- y is x, lent -/
def Lent (x y : OpR) : Prop := ∃ (g c g' d : Nat), x.n + 6 ≤ c ∧ x.m + 6 ≤ d ∧ y = ⟨x.k, x.h, x.a, x.c, x.o, some ⟨g, 0, none⟩, x.n, c, some ⟨g', 0, none⟩, x.m, d, x.xs, x.ys⟩
def LentAll (l L : List OpR) (j : Nat) : Prop := L.length = j ∧ ∀ (i : Nat) (x y : OpR), l[i]? = some x → L[i]? = some y → Lent x y
theorem LentAll.step {l L : List OpR} {j : Nat} {x y : OpR} (h : LentAll l L j) (hx : l[j]? = some x) (hy : Lent x y) : LentAll l (L ++ [y]) (j + 1) := by
  refine ⟨by simp [h.1], fun i a b ha hb => ?_⟩
  rcases Nat.lt_or_ge i L.length with hi | hi
  · rw [List.getElem?_append_left hi] at hb
    exact h.2 i a b ha hb
  · rw [List.getElem?_append_right hi] at hb
    have : i - L.length = 0 := by
      rcases Nat.eq_zero_or_pos (i - L.length) with h0 | h0
      · exact h0
      · rw [List.getElem?_eq_none (by simp; omega)] at hb; cases hb
    rw [this] at hb
    simp only [List.getElem?_cons_zero, Option.some.injEq] at hb
    subst hb
    obtain rfl : i = j := by have := h.1; omega
    rw [hx] at ha
    injection ha with ha
    subst ha
    exact hy
theorem op_info : (Try.prog.info? 31).map (fun i => (i.zero, i.size, i.bytes)) = some (some (.agg #[.int .u8 0, .int .i64 0, .int .u8 0, .int .i64 0, .int .i64 0, .slice none 0 0, .slice none 0 0]), 7, 88) := by kernel_rfl
theorem t2_info : (Try.prog.info? 47).map (fun i => (i.zero, i.size, i.bytes)) = some (some (.agg #[.slice none 0 0, .slice none 0 0]), 2, 48) := by kernel_rfl
theorem opsV_one (l : List OpR) : ∀ u ∈ opsV l, u.oneCell' = true := flat_one (by intro a u hu; simp [OpR.cs] at hu; rcases hu with rfl | rfl | rfl | rfl | rfl | rfl | rfl <;> rfl) l
theorem fullsV_one (l : List OpR) : ∀ u ∈ fullsV l, u.oneCell' = true := flat_one (by intro a u hu; simp [fullC] at hu; rcases hu with rfl | rfl <;> rfl) l
theorem full_cells {w : World} {A : Option Addr} {n k : Nat} {l : List OpR} {x : OpR} (h : Rd w 2 A n (fullsV l)) (hx : l[k]? = some x) : ∃ p o, A = some ⟨p, o, none⟩ ∧ w.rangeAt p (o + k * 2) (fullC x) := by
  have hl := h.1
  rw [fullsV_length] at hl
  have hk : k < l.length := (List.getElem?_eq_some_iff.1 hx).1
  obtain ⟨p, o, rfl, -, hc⟩ := h.flat (by omega) (by omega)
  refine ⟨p, o, rfl, fun j v hv => ?_⟩
  have hj : j < (fullC x).length := (List.getElem?_eq_some_iff.1 hv).1
  rw [fullC_length] at hj
  rw [Nat.add_assoc]
  exact hc (k * 2 + j) v (by rw [show fullsV l = l.flatMap fullC from rfl, flat_get fullC_length l k j x hx hj]; exact hv)
/-- seven cells are written over -/
theorem set7 (pre post : List Value) (q : Nat) (h : pre.length = q * 7) (a0 a1 a2 a3 a4 a5 a6 b0 b1 b2 b3 b4 b5 b6 : Value) :
    ((((((((pre ++ ([a0, a1, a2, a3, a4, a5, a6] ++ post)).set (q * 7) b0).set (q * 7 + 1) b1).set (q * 7 + 2) b2).set (q * 7 + 3) b3).set (q * 7 + 4) b4).set (q * 7 + 5) b5).set (q * 7 + 6) b6) = pre ++ ([b0, b1, b2, b3, b4, b5, b6] ++ post) := by
  rw [← h, List.set_append_right _ _ (Nat.le_refl _), List.set_append_right _ _ (by omega), List.set_append_right _ _ (by omega), List.set_append_right _ _ (by omega), List.set_append_right _ _ (by omega), List.set_append_right _ _ (by omega), List.set_append_right _ _ (by omega)]
  simp
def z77 : OpR := ⟨77, 0, 0, 0, 0, none, 0, 0, none, 0, 0, [], []⟩
end Go.Proofs.Ytgfhnbjpdhdhgaa
