/- What a row's reading gives to a walk: skeletons. -/
import Derived.Test.YtenmlkgamlafpaaDoorRow
import Derived.Test.YtenmlkgamlafpaaDoorSkel
import Derived.Deep.Slices

namespace Go.Proofs.YtenmlkgamlafpaaDoor
open Go.ChangeShapes Go.WideShapes Go.ChangeAt Go.RowKit
set_option linter.unusedVariables false
set_option maxRecDepth 100000

/-- whole numbers and bytes -/
def I64 (x : Int) : Prop := -9223372036854775808 ≤ x ∧ x ≤ 9223372036854775807

def U8 (x : Int) : Prop := 0 ≤ x ∧ x ≤ 255

structure SkOk (s : SkT) : Prop where
  kind : U8 s.1
  handle : I64 s.2.1
  alg : U8 s.2.2.1
  count : I64 s.2.2.2.1
  out : I64 s.2.2.2.2.1
  data : I64 s.2.2.2.2.2.1
  more : I64 s.2.2.2.2.2.2

theorem sk_cellsOf : Tryd.prog.cellsOf 60 = 7 := by kernel_rfl

theorem sk_bytesOf : Tryd.prog.bytesOf 60 = 56 := by kernel_rfl

set_option maxRecDepth 100000 in
theorem skel_of_trod {H : Type} {enc : TypeId × Value → H} {W : World} {b : Nat} {sp : Nat → Bool} {hd : Bool} {fuel : Nat} {cs : List Value} {x : DataW H × List MemPlace}
    (h : DataW.trod enc Tryd.prog W b sp hd fuel 60 cs = some x) : ∃ s : SkT, cs = skV s ∧ SkOk s := by
  obtain ⟨xs, k, hk, hxy, hlen, hxl, hf⟩ := DataW.trod_struct Tryd.underlying60 h
  rw [sk_cellsOf] at hlen
  match cs, hlen with
  | [c0, c1, c2, c3, c4, c5, c6], _ =>
    match xs, hxl with
    | [y0, y1, y2, y3, y4, y5, y6], _ =>
      have g0 := hf 0 _ rfl
      have g1 := hf 1 _ rfl
      have g2 := hf 2 _ rfl
      have g3 := hf 3 _ rfl
      have g4 := hf 4 _ rfl
      have g5 := hf 5 _ rfl
      have g6 := hf 6 _ rfl
      simp [List.drop, List.take, show Tryd.prog.cellsOf 3 = 1 by kernel_rfl, show Tryd.prog.cellsOf 24 = 1 by kernel_rfl, show Tryd.prog.cellsOf 25 = 1 by kernel_rfl] at g0 g1 g2 g3 g4 g5 g6
      obtain ⟨n0, e0, -, w0⟩ := DataW.trod_int Tryd.underlying24 g0
      obtain ⟨n1, e1, -, w1⟩ := DataW.trod_int Tryd.underlying3 g1
      obtain ⟨n2, e2, -, w2⟩ := DataW.trod_int Tryd.underlying25 g2
      obtain ⟨n3, e3, -, w3⟩ := DataW.trod_int Tryd.underlying3 g3
      obtain ⟨n4, e4, -, w4⟩ := DataW.trod_int Tryd.underlying3 g4
      obtain ⟨n5, e5, -, w5⟩ := DataW.trod_int Tryd.underlying3 g5
      obtain ⟨n6, e6, -, w6⟩ := DataW.trod_int Tryd.underlying3 g6
      simp only [List.cons.injEq, and_true] at e0 e1 e2 e3 e4 e5 e6
      subst e0 e1 e2 e3 e4 e5 e6
      exact ⟨(n0, n1, n2, n3, n4, n5, n6), rfl, ⟨bounds_u8 w0, i64_of w1, bounds_u8 w2, i64_of w3, i64_of w4, i64_of w5, i64_of w6⟩⟩

end Go.Proofs.YtenmlkgamlafpaaDoor
