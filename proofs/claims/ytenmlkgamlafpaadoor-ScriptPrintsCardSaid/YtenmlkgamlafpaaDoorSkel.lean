/- Skeletons as cells; the kit's functions for lists of them. -/
import Derived.Test.YtenmlkgamlafpaaDoorRows
import Derived.Test.YtenmlkgamlafpaaDoorSep
import Derived.Test.YtenmlkgamlafpaaDoorFlat

namespace Go.Proofs.YtenmlkgamlafpaaDoor
open Go.RowKit
set_option linter.unusedVariables false

/-- kind, handle, alg, count, out, data, more -/
abbrev SkT := Int × Int × Int × Int × Int × Int × Int
instance : DecidableEq SkT := @instDecidableEqProd _ _ inferInstance (@instDecidableEqProd _ _ inferInstance (@instDecidableEqProd _ _ inferInstance (@instDecidableEqProd _ _ inferInstance (@instDecidableEqProd _ _ inferInstance (@instDecidableEqProd _ _ inferInstance inferInstance)))))

def skV (s : SkT) : List Value := [.int .u8 s.1, .int .i64 s.2.1, .int .u8 s.2.2.1, .int .i64 s.2.2.2.1, .int .i64 s.2.2.2.2.1, .int .i64 s.2.2.2.2.2.1, .int .i64 s.2.2.2.2.2.2]

def sksV (l : List SkT) : List Value := l.flatMap skV

theorem skV_length (s : SkT) : (skV s).length = 7 := rfl

theorem sksV_length (l : List SkT) : (sksV l).length = l.length * 7 := flat_length skV_length l

theorem sksV_append (a b : List SkT) : sksV (a ++ b) = sksV a ++ sksV b := by simp [sksV]

theorem sksV_get (l : List SkT) (i j : Nat) (a : SkT) (hi : l[i]? = some a) (hj : j < 7) : (sksV l)[i * 7 + j]? = (skV a)[j]? := flat_get skV_length l i j a hi hj

theorem sksV_one (l : List SkT) : ∀ u ∈ sksV l, u.oneCell' = true := flat_one (by intro a u hu; simp [skV] at hu; rcases hu with rfl | rfl | rfl | rfl | rfl | rfl | rfl <;> rfl) l

theorem sk_info : (Tryd.prog.info? 60).map (fun i => (i.zero, i.size, i.bytes)) = some (some (.agg #[.int .u8 0, .int .i64 0, .int .u8 0, .int .i64 0, .int .i64 0, .int .i64 0, .int .i64 0]), 7, 56) := by kernel_rfl

theorem sk_cells {w : World} {A : Option Addr} {n k : Nat} {l : List SkT} {x : SkT} (h : Rd w 7 A n (sksV l)) (hx : l[k]? = some x) : ∃ p o, A = some ⟨p, o, none⟩ ∧ w.cell? ⟨p, o + k * 7, none⟩ = some (.int .u8 x.1) ∧
    w.cell? ⟨p, o + k * 7 + 1, none⟩ = some (.int .i64 x.2.1) ∧ w.cell? ⟨p, o + k * 7 + 2, none⟩ = some (.int .u8 x.2.2.1) ∧ w.cell? ⟨p, o + k * 7 + 3, none⟩ = some (.int .i64 x.2.2.2.1) ∧
    w.cell? ⟨p, o + k * 7 + 4, none⟩ = some (.int .i64 x.2.2.2.2.1) ∧ w.cell? ⟨p, o + k * 7 + 5, none⟩ = some (.int .i64 x.2.2.2.2.2.1) ∧ w.cell? ⟨p, o + k * 7 + 6, none⟩ = some (.int .i64 x.2.2.2.2.2.2) := by
  have hl := h.1
  rw [sksV_length] at hl
  have hk : k < l.length := (List.getElem?_eq_some_iff.1 hx).1
  obtain ⟨p, o, rfl, -, hc⟩ := h.flat (by omega) (by omega)
  refine ⟨p, o, rfl, ?_, ?_, ?_, ?_, ?_, ?_, ?_⟩
  · have := hc (k * 7 + 0) _ (sksV_get l k 0 x hx (by omega)); exact this
  · have := hc (k * 7 + 1) _ (sksV_get l k 1 x hx (by omega)); rwa [← Nat.add_assoc] at this
  · have := hc (k * 7 + 2) _ (sksV_get l k 2 x hx (by omega)); rwa [← Nat.add_assoc] at this
  · have := hc (k * 7 + 3) _ (sksV_get l k 3 x hx (by omega)); rwa [← Nat.add_assoc] at this
  · have := hc (k * 7 + 4) _ (sksV_get l k 4 x hx (by omega)); rwa [← Nat.add_assoc] at this
  · have := hc (k * 7 + 5) _ (sksV_get l k 5 x hx (by omega)); rwa [← Nat.add_assoc] at this
  · have := hc (k * 7 + 6) _ (sksV_get l k 6 x hx (by omega)); rwa [← Nat.add_assoc] at this

theorem sk_differ {x y : SkT} (h : x ≠ y) : (x.1 == y.1) = false ∨ (x.1 = y.1 ∧ (x.2.1 == y.2.1) = false) ∨ (x.1 = y.1 ∧ x.2.1 = y.2.1 ∧ (x.2.2.1 == y.2.2.1) = false) ∨ (x.1 = y.1 ∧ x.2.1 = y.2.1 ∧ x.2.2.1 = y.2.2.1 ∧ (x.2.2.2.1 == y.2.2.2.1) = false) ∨
    (x.1 = y.1 ∧ x.2.1 = y.2.1 ∧ x.2.2.1 = y.2.2.1 ∧ x.2.2.2.1 = y.2.2.2.1 ∧ (x.2.2.2.2.1 == y.2.2.2.2.1) = false) ∨ (x.1 = y.1 ∧ x.2.1 = y.2.1 ∧ x.2.2.1 = y.2.2.1 ∧ x.2.2.2.1 = y.2.2.2.1 ∧ x.2.2.2.2.1 = y.2.2.2.2.1 ∧ (x.2.2.2.2.2.1 == y.2.2.2.2.2.1) = false) ∨
    (x.1 = y.1 ∧ x.2.1 = y.2.1 ∧ x.2.2.1 = y.2.2.1 ∧ x.2.2.2.1 = y.2.2.2.1 ∧ x.2.2.2.2.1 = y.2.2.2.2.1 ∧ x.2.2.2.2.2.1 = y.2.2.2.2.2.1 ∧ (x.2.2.2.2.2.2 == y.2.2.2.2.2.2) = false) := by
  obtain ⟨a, b, c, d, e, f, g⟩ := x
  obtain ⟨a', b', c', d', e', f', g'⟩ := y
  simp only [ne_eq, Prod.mk.injEq, beq_eq_false_iff_ne] at h ⊢
  grind

/-- a row of skeletons of one's own -/
def OwnS (w : World) (base : Nat) (v : Value) (l : List SkT) : Prop := w.ownsRow base 60 7 v l.length (sksV l)

theorem OwnS.shape {w : World} {base : Nat} {v : Value} {l : List SkT} (h : OwnS w base v l) : ∃ A n c, v = .slice A n c ∧ Hid (n = l.length) ∧ Rd w 7 A n (sksV l) := by
  rcases h.2 with ⟨rfl, hn⟩ | ⟨g, cap, cur, rfl, h2, h3⟩
  · have : l = [] := List.length_eq_zero_iff.1 hn
    subst this
    exact ⟨none, 0, 0, rfl, rfl, Rd.none_⟩
  · exact ⟨_, _, _, rfl, rfl, Rd.of_own h⟩

/-- The marks behind a lent list. -/
def markS (k i : Nat) : SkT := (0, -1000 * (k : Int) - i - 7, 0, 0, 0, 0, 0)

def marksS (k s n : Nat) : List SkT := (List.range n).map fun i => markS k (s + i)

theorem marksS_succ (k s n : Nat) : marksS k s (n + 1) = marksS k s n ++ [markS k (s + n)] := by
  simp [marksS, List.range_succ]

theorem marksS_length (k s n : Nat) : (marksS k s n).length = n := by simp [marksS]

end Go.Proofs.YtenmlkgamlafpaaDoor
