/- What a verdict is of two heaps: it asks but what their rows hold. The numbers of the examples. -/
import Derived.Test.YtpmgklmgaienhaaMeJ
namespace Go.Proofs.Ytpmgklmgaienhaa
open Go.RowKit
set_option linter.unusedVariables false
set_option maxRecDepth 100000

/-- what a row holds -/
def core (r : RowM) : List RunT × Nat := (r.l, r.n)

theorem colO_core {as_ bs : List RowM} (h : as_.map core = bs.map core) (kk : Int) (s : Bool) (j : Nat) : colO as_ kk s j = colO bs kk s j := by
  have e : ∀ rs : List RowM, colO rs kk s j = ((rs.map core).take j).map fun p => if s = true then sizeO p.1 kk p.2 else some (floatOfInt .f64 (numI p.1 kk p.2)) := fun rs => by
    unfold colO
    rw [← List.map_take, List.map_map]
    rfl
  rw [e, e, h]

theorem core_length {as_ bs : List RowM} (h : as_.map core = bs.map core) : as_.length = bs.length := by
  have := congrArg List.length h
  simpa using this

theorem colW_core {as_ bs : List RowM} (h : as_.map core = bs.map core) (kk : Int) (s : Bool) : colW as_ kk s = colW bs kk s := by
  unfold colW; rw [colO_core h, core_length h]

theorem tJ_core {as_ bs as' bs' : List RowM} (h : as_.map core = as'.map core) (h' : bs.map core = bs'.map core) (kk : Int) (s : Bool) : tJ as_ bs kk s = tJ as' bs' kk s := by
  unfold tJ; rw [colW_core h, colW_core h', core_length h, core_length h']

theorem stJ_core {as_ bs as' bs' : List RowM} (h : as_.map core = as'.map core) (h' : bs.map core = bs'.map core) : ∀ i, stJ as_ bs i = stJ as' bs' i
  | 0 => rfl
  | i + 1 => by unfold stJ; rw [stJ_core h h' i, tJ_core h h']

theorem goodRows_core {as_ bs : List RowM} (h : as_.map core = bs.map core) : ∀ j, goodRows as_ j = goodRows bs j := by
  have e : ∀ (rs : List RowM) j, goodRows rs j = match j with | 0 => true | j + 1 => goodRows rs j && (match (rs.map core)[j]? with | some p => goodTo p.1 p.2 | none => true) := fun rs j => by
    cases j with
    | zero => rfl
    | succ j =>
      show (goodRows rs j && _) = (goodRows rs j && _)
      rw [List.getElem?_map]
      cases rs[j]? <;> rfl
  intro j
  induction j with
  | zero => rfl
  | succ j ih => rw [e as_, e bs]; simp only; rw [ih, h]

theorem judgeE_core {as_ bs as' bs' : List RowM} (h : as_.map core = as'.map core) (h' : bs.map core = bs'.map core) : judgeE as_ bs = judgeE as' bs' := by
  unfold judgeE; rw [core_length h, core_length h', goodRows_core h, goodRows_core h']

/-- a row in no place -/
def rowN9 (l : List RunT) : RowM := ⟨none, l.length, 0, l⟩

def four9 : List RunT := [(9, 1, 4)]
def one9 : List RunT := [(9, 1, 1)]
def bad9 : List RunT := [(5, 16, 0)]
def two9 : List RunT := [(5, 16, 2), (5, 24, 1)]

theorem names_x : stJ [rowN9 four9, rowN9 four9, rowN9 four9] [rowN9 four9, rowN9 four9, rowN9 four9] 24 = (0, false, 0) ∧ judgeE [rowN9 four9, rowN9 four9, rowN9 four9] [rowN9 four9, rowN9 four9, rowN9 four9] = 0 := by decide +kernel
theorem names_y : stJ [rowN9 four9, rowN9 four9] [rowN9 one9, rowN9 one9] 24 = (9, false, 9218868437227405312) ∧ judgeE [rowN9 four9, rowN9 four9] [rowN9 one9, rowN9 one9] = 0 := by decide +kernel
theorem names_e : judgeE [rowN9 four9] [rowN9 four9, rowN9 four9] = 2 ∧ judgeE [rowN9 four9, rowN9 bad9] [rowN9 four9, rowN9 four9] = 120 := by decide +kernel
theorem names_t : tA [4607182418800017408, 4613937818241073152] 2 [4617315517961601024, 4619567317775286272] 2 = opA .quo (some 13839561654909534208) (rootA (some 4611686018427387904)) ∧ (opA .quo (some 13839561654909534208) (rootA (some 4611686018427387904))).isSome = true := by decide +kernel
theorem names_u : tA [4611686018427387904, 4611686018427387904] 2 [4611686018427387904, 4611686018427387904] 2 = some 0 := by decide +kernel
theorem names_n : floatOfInt .f64 (numI two9 5 2) = 4613937818241073152 ∧ floatOfInt .f64 (numI two9 8 2) = 0 ∧ sizeO two9 5 2 = some 4633078116657397760 ∧ sizeO two9 8 2 = some 0 := by decide +kernel
theorem apart_inf : apartJ 9218868437227405312 = true := by decide +kernel
end Go.Proofs.Ytpmgklmgaienhaa
