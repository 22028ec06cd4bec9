/- What a verdict is, plainly: the best of 24 numbers, by weight. Nothing here walks. -/
import Derived.Test.YtpmgklmgaienhaaMeCol
import Derived.Test.YtpmgklmgaienhaaEiRef
namespace Go.Proofs.Ytpmgklmgaienhaa
open Go Ieee
set_option linter.unusedVariables false
set_option maxRecDepth 100000

/-- a number for what an operation gave -/
def wdO (o : Option Nat) : Nat := o.getD 9221120237041090561

theorem wdO_abs (y : Nat) : absF (wdO (absF y)) = absF y := by
  cases h : absF y with
  | none => show absF 9221120237041090561 = none; decide +kernel
  | some x =>
    obtain ⟨rfl, -⟩ := absF_s h
    exact h

theorem map_wdO {X : List Nat} {o : List (Option Nat)} (h : X.map absF = o) : (o.map wdO).map absF = o := by
  subst h
  rw [List.map_map, List.map_map]
  exact List.map_congr_left fun y _ => wdO_abs y

theorem abs_getD {X Y : List Nat} (h : X.map absF = Y.map absF) (k : Nat) : absF (X.getD k 0) = absF (Y.getD k 0) := by
  have h2 := congrArg (fun l => l[k]?) h
  simp only [List.getElem?_map] at h2
  rw [List.getD_eq_getElem?_getD, List.getD_eq_getElem?_getD]
  cases hx : X[k]? with
  | none =>
    cases hy : Y[k]? with
    | none => rfl
    | some y => rw [hx, hy] at h2; simp at h2
  | some x =>
    cases hy : Y[k]? with
    | none => rw [hx, hy] at h2; simp at h2
    | some y => rw [hx, hy] at h2; simp at h2; exact h2

theorem sumO_congr {X Y : List Nat} (h : X.map absF = Y.map absF) : ∀ n, sumO X n = sumO Y n
  | 0 => rfl
  | n + 1 => by unfold sumO; rw [sumO_congr h n, abs_getD h n]

theorem meanA_congr {X Y : List Nat} (h : X.map absF = Y.map absF) (n : Nat) : meanA X n = meanA Y n := by unfold meanA; rw [sumO_congr h]

theorem sqO_congr {X Y : List Nat} (h : X.map absF = Y.map absF) (m : Option Nat) : ∀ n, sqO X m n = sqO Y m n
  | 0 => rfl
  | n + 1 => by unfold sqO; rw [sqO_congr h m n, abs_getD h n]

theorem spreadA_congr {X Y : List Nat} (h : X.map absF = Y.map absF) (n : Nat) : spreadA X n = spreadA Y n := by unfold spreadA; rw [meanA_congr h, sqO_congr h]

theorem tA_congr {X Y X' Y' : List Nat} (h : X.map absF = X'.map absF) (h' : Y.map absF = Y'.map absF) (n m : Nat) : tA X n Y m = tA X' n Y' m := by
  unfold tA dA sA
  rw [meanA_congr h, meanA_congr h', spreadA_congr h, spreadA_congr h']

theorem sumA_congr {X Y : List Nat} (h : X.map absF = Y.map absF) (k : Nat) : ∀ n, sumA k X n = sumA k Y n
  | 0 => rfl
  | n + 1 => by unfold sumA; rw [sumA_congr h k n, abs_getD h n]

theorem powS_congr {X Y : List Nat} (h : X.map absF = Y.map absF) (n : Nat) : powS X n = powS Y n := by
  funext k; unfold powS; rw [sumA_congr h]

theorem opA_lt {op : BinOp} {a b : Option Nat} {r : Nat} (h : opA op a b = some r) : r < 2 ^ 64 := by
  unfold opA at h
  cases a with
  | none => simp at h
  | some x =>
    cases b with
    | none => simp at h
    | some y =>
      simp at h
      unfold floatBits at h
      split at h
      · exact Ieee.Format.add_lt _ h
      · exact Ieee.Format.sub_lt _ h
      · exact Ieee.Format.mul_lt _ h
      · exact Ieee.Format.div_lt _ h
      · cases h

theorem tA_lt {X Y : List Nat} {n m x : Nat} (h : tA X n Y m = some x) : x < 2 ^ 64 := by
  unfold tA tRes at h
  split at h
  · cases h; decide
  · split at h
    · split at h
      · cases h; decide
      · split at h
        · cases h; decide
        · cases h; decide
    · exact opA_lt h

/-- a column, as numbers -/
def colW (rs : List RowM) (kk : Int) (s : Bool) : List Nat := (colO rs kk s rs.length).map wdO

def tJ (as_ bs : List RowM) (kk : Int) (s : Bool) : Option Nat := tA (colW as_ kk s) as_.length (colW bs kk s) bs.length

theorem tJ_of {as_ bs : List RowM} {kk : Int} {s : Bool} {X Y : List Nat} (hX : X.map absF = colO as_ kk s as_.length) (hY : Y.map absF = colO bs kk s bs.length) : tA X as_.length Y bs.length = tJ as_ bs kk s := by
  unfold tJ
  refine tA_congr ?_ ?_ _ _
  · rw [hX]; unfold colW; rw [map_wdO hX]
  · rw [hY]; unfold colW; rw [map_wdO hY]

/-- the beat and its power, of both columns one behind the other -/
def beatP (as_ bs : List RowM) (kk : Int) (s : Bool) : Nat → Option Nat := powS (colW as_ kk s ++ colW bs kk s) (as_.length + bs.length)

theorem beatP_of {as_ bs : List RowM} {kk : Int} {s : Bool} {X Y : List Nat} (hX : X.map absF = colO as_ kk s as_.length) (hY : Y.map absF = colO bs kk s bs.length) : powS (X ++ Y) (as_.length + bs.length) = beatP as_ bs kk s := by
  unfold beatP
  refine powS_congr ?_ _
  rw [List.map_append, List.map_append]
  unfold colW
  rw [map_wdO hX, map_wdO hY, hX, hY]

/-- a number's weight -/
def wtO (o : Option Nat) : Nat := match o with | some x => x % 2 ^ 63 | none => 0

def gtW (a b : Nat) : Bool := FloatKind.f64.format.order a b == some Ordering.gt

/-- kind, sizes, T -/
abbrev VS := Int × Bool × Nat

def stepJ (t : Option Nat) (k : Int) (s : Bool) (st : VS) : VS := if gtW (wtO t) (st.2.2 % 2 ^ 63) = true then (k, s, t.getD 0) else st

/-- behind i of the 24 -/
def stJ (as_ bs : List RowM) : Nat → VS
  | 0 => (0, false, 0)
  | i + 1 => stepJ (tJ as_ bs ((i / 2 : Nat) + 1) (i % 2 == 1)) ((i / 2 : Nat) + 1) (i % 2 == 1) (stJ as_ bs i)

theorem gtW_zero : gtW 0 0 = false := by decide +kernel

/-- what stands in a state -/
def StOk (st : VS) : Prop := (st = (0, false, 0)) ∨ (1 ≤ st.1 ∧ st.1 ≤ 12 ∧ st.2.2 < 2 ^ 64 ∧ absF st.2.2 = some st.2.2 ∧ ∃ c, gtW (st.2.2 % 2 ^ 63) (c % 2 ^ 63) = true)

theorem tJ_abs {as_ bs : List RowM} {kk : Int} {s : Bool} {x : Nat} (h : tJ as_ bs kk s = some x) (hx : ∃ r, absF r = some x) : absF x = some x := by
  obtain ⟨r, hr⟩ := hx
  obtain ⟨rfl, -⟩ := absF_s hr
  exact hr

theorem stepJ_ok {t : Option Nat} {k : Int} {s : Bool} {st : VS} (h : StOk st) (hk : 1 ≤ k ∧ k ≤ 12) (ht : ∀ x, t = some x → x < 2 ^ 64 ∧ absF x = some x) : StOk (stepJ t k s st) := by
  unfold stepJ
  split
  · rename_i hg
    right
    cases t with
    | none =>
      simp only [wtO] at hg
      exact ⟨hk.1, hk.2, by show (0 : Nat) < 2 ^ 64; decide, by show absF 0 = some 0; decide +kernel, _, hg⟩
    | some x =>
      obtain ⟨h1, h2⟩ := ht x rfl
      exact ⟨hk.1, hk.2, h1, h2, _, hg⟩
  · exact h
/-- the rows of a heap are such as may be -/
def goodRows (rs : List RowM) : Nat → Bool
  | 0 => true
  | j + 1 => goodRows rs j && (match rs[j]? with | some r => goodTo r.l r.n | none => true)

theorem goodRows_yes {rs : List RowM} {j : Nat} {r : RowM} (h : goodRows rs j = true) (hr : rs[j]? = some r) (hg : goodTo r.l r.n = true) : goodRows rs (j + 1) = true := by
  unfold goodRows; rw [h, hr]; simp [hg]

theorem goodRows_no {rs : List RowM} {n j : Nat} {r : RowM} (hj : j < n) (hr : rs[j]? = some r) (hg : goodTo r.l r.n = false) : goodRows rs n = false := by
  have key : ∀ n, j < n → goodRows rs n = false := by
    intro n
    induction n with
    | zero => intro h; omega
    | succ n ih =>
      intro h
      unfold goodRows
      by_cases e : j = n
      · subst e; rw [hr]; simp [hg]
      · rw [ih (by omega)]; rfl
  exact key n hj

def judgeE (as_ bs : List RowM) : Int := if as_.length < 2 ∨ bs.length < 2 then 2 else if goodRows as_ as_.length = true ∧ goodRows bs bs.length = true then 0 else 120

def zeroV : List Value := [.bool false, .int .u8 0, .bool false, .float .f64 0, .int .i64 0, .float .f64 0]

def apartJ (T : Nat) : Bool := gtW (T % 2 ^ 63) 4616752568008179712

/-- the verdict's cells -/
def verV (as_ bs : List RowM) (st : VS) (P : Nat) : List Value := [.bool (apartJ st.2.2), .int .u8 st.1, .bool st.2.1, .float .f64 st.2.2, .int .i64 (bestA (beatP as_ bs st.1 st.2.1) 5 : Nat), .float .f64 P]

def VerIs (as_ bs : List RowM) (V : List Value) : Prop :=
  if judgeE as_ bs = 0 ∧ (stJ as_ bs 24).1 ≠ 0 then ∃ P, V = verV as_ bs (stJ as_ bs 24) P ∧ absF P = beatP as_ bs (stJ as_ bs 24).1 (stJ as_ bs 24).2.1 (bestA (beatP as_ bs (stJ as_ bs 24).1 (stJ as_ bs 24).2.1) 5) else V = zeroV
end Go.Proofs.Ytpmgklmgaienhaa
