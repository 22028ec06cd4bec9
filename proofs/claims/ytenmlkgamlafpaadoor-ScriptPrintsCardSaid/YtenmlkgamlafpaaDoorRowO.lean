/- What a row's reading gives to a walk: operations. -/
import Derived.Test.YtenmlkgamlafpaaDoorRowS
import Derived.Test.YtenmlkgamlafpaaDoorOpE

namespace Go.Proofs.YtenmlkgamlafpaaDoor
open Go.ChangeShapes Go.WideShapes Go.ChangeAt Go.RowKit
set_option linter.unusedVariables false
set_option maxRecDepth 100000

theorem bytes_trod {H : Type} {enc : TypeId × Value → H} {W : World} {b : Nat} {sp : Nat → Bool} {hd : Bool} {fuel : Nat} {c : Value} {x : DataW H × List MemPlace}
    (hw : ∀ n ∈ DataW.weights Tryd.prog 26 x.1, n ≤ reachBytes) (hf : DataW.trod enc Tryd.prog W b sp hd fuel 26 [c] = some x) :
    ∃ (a : Option Addr) (len cap : Nat) (l : List UInt8), c = .slice a len cap ∧ Rd W 1 a len (l.map vb) ∧ len ≤ 140737488351232 ∧ len ≤ cap := by
  rcases open_ints Tryd.underlying26 Tryd.underlying5 rowCells hf with ⟨hcs, _⟩ | ⟨x', len, cap, zs, hcs, _, hl, hm, hz, hx, hcell, hwz⟩
  · simp at hcs
    exact ⟨none, 0, 0, [], hcs, Rd.none_, by omega, by omega⟩
  · simp only [List.cons.injEq, and_true] at hcs
    subst hcs
    subst hx
    have hs := hw ((((zs.take len).map fun n => (DataW.lit (.int .u8 n) : DataW H)).length + ((zs.drop len).map fun n => (DataW.lit (.int .u8 n) : DataW H)).length) * Tryd.prog.bytesOf 5) (by simp [DataW.weights, Tryd.underlying26, lits])
    rw [rowBytes] at hs
    simp only [List.length_map, List.length_take, List.length_drop, reachBytes] at hs
    have hlz : len ≤ zs.length := by rw [hz]; split <;> omega
    have hb : ∀ (i : Nat) (hi : i < zs.length), 0 ≤ zs[i] ∧ zs[i] ≤ 255 := fun i hi => bounds_u8 (hwz _ (List.getElem_mem hi))
    refine ⟨some x', len, cap, (zs.take len).map fun z => UInt8.ofNat z.toNat, rfl, ⟨by simp; omega, fun hn => ⟨x', rfl, ?_, fun i u hu => ?_⟩⟩, by omega, hl⟩
    · have h0 := hcell 0 (by omega)
      have := World.block_lt_of_cell? W _ h0
      rwa [block_of_add] at this
    · rw [List.map_map, List.getElem?_map, List.getElem?_take] at hu
      by_cases hi : i < len
      · rw [if_pos hi, List.getElem?_eq_getElem (by omega)] at hu
        simp only [Option.map_some, Function.comp, Option.some.injEq] at hu
        subst hu
        rw [hcell i (by omega), List.getD_eq_getElem?_getD, List.getElem?_eq_getElem (by omega)]
        have h2 := hb i (by omega)
        simp only [Option.getD_some, vb, UInt8.toNat_ofNat', Option.some.injEq, Value.int.injEq, true_and]
        omega
      · rw [if_neg hi] at hu; cases hu

theorem op_cellsOf : Tryd.prog.cellsOf 28 = 7 := by kernel_rfl

theorem op_of_trod {H : Type} {enc : TypeId × Value → H} {W : World} {b : Nat} {sp : Nat → Bool} {hd : Bool} {fuel : Nat} {cs : List Value} {x : DataW H × List MemPlace}
    (hw : ∀ n ∈ DataW.weights Tryd.prog 28 x.1, n ≤ reachBytes) (h : DataW.trod enc Tryd.prog W b sp hd fuel 28 cs = some x) :
    ∃ (k : UInt8) (hh : Int) (a : UInt8) (c o : Int) (A B : Option Addr) (n cA m cB : Nat) (l l' : List UInt8), cs = [.int .u8 (k.toNat : Int), .int .i64 hh, .int .u8 (a.toNat : Int), .int .i64 c, .int .i64 o, .slice A n cA, .slice B m cB] ∧
      Rd W 1 A n (l.map vb) ∧ Rd W 1 B m (l'.map vb) ∧ n ≤ 140737488351232 ∧ m ≤ 140737488351232 ∧ I64 hh ∧ I64 c ∧ I64 o := by
  obtain ⟨xs, k, hk, hxy, hlen, hxl, hf⟩ := DataW.trod_struct Tryd.underlying28 h
  rw [op_cellsOf] at hlen
  match cs, hlen with
  | [c0, c1, c2, c3, c4, c5, c6], _ =>
    match xs, hxl with
    | [y0, y1, y2, y3, y4, y5, y6], _ =>
      have g0 := hf 0 _ rfl
      have g1 := hf 1 _ rfl
      have g2 := hf 2 _ rfl
      have g3 := hf 3 _ rfl
      have g4 := hf 4 _ rfl
      have g5 := hf 5 _ rfl
      have g6 := hf 6 _ rfl
      simp [List.drop, List.take, show Tryd.prog.cellsOf 3 = 1 by kernel_rfl, show Tryd.prog.cellsOf 24 = 1 by kernel_rfl, show Tryd.prog.cellsOf 25 = 1 by kernel_rfl, show Tryd.prog.cellsOf 26 = 1 by kernel_rfl] at g0 g1 g2 g3 g4 g5 g6
      obtain ⟨n0, e0, -, w0⟩ := DataW.trod_int Tryd.underlying24 g0
      obtain ⟨n1, e1, -, w1⟩ := DataW.trod_int Tryd.underlying3 g1
      obtain ⟨n2, e2, -, w2⟩ := DataW.trod_int Tryd.underlying25 g2
      obtain ⟨n3, e3, -, w3⟩ := DataW.trod_int Tryd.underlying3 g3
      obtain ⟨n4, e4, -, w4⟩ := DataW.trod_int Tryd.underlying3 g4
      subst hxy
      obtain ⟨A, n, cA, l, rfl, r5, b5, q5⟩ := bytes_trod (fun n hn => hw n (by
        simp only [DataW.weights, Tryd.underlying28]
        exact DataW.weights_mem_each (j := 5) rfl rfl n hn)) g5
      obtain ⟨B, m, cB, l', rfl, r6, b6, q6⟩ := bytes_trod (fun n hn => hw n (by
        simp only [DataW.weights, Tryd.underlying28]
        exact DataW.weights_mem_each (j := 6) rfl rfl n hn)) g6
      simp only [List.cons.injEq, and_true] at e0 e1 e2 e3 e4
      subst e0 e1 e2 e3 e4
      obtain ⟨k, rfl⟩ := u8_of w0
      obtain ⟨a, rfl⟩ := u8_of w2
      exact ⟨k, n1, a, n3, n4, A, B, n, cA, m, cB, l, l', rfl, r5, r6, b5, b6, i64_of w1, i64_of w3, i64_of w4⟩

theorem open_op {H : Type} {enc : TypeId × Value → H} {W : World} {ts : List TypeId} {ds : List (DataW H)} {d : DataW H} {p : List MemPlace} {j : Nat} {v : Value} {b base : Nat} {sp : Nat → Bool} {hd : Bool} {r : Reach}
    (hsz : (DataW.weightsEach Tryd.prog ts ds).all (· ≤ reachBytes) = true) (ht : ts[j]? = some 28) (hdj : ds[j]? = some d)
    (hv : Value.okWide Tryd.prog W r base 28 v) (h : DataW.Trod enc Tryd.prog W b sp hd 28 v d p) :
    ∃ (k : UInt8) (hh : Int) (a : UInt8) (c o : Int) (A B : Option Addr) (n cA m cB : Nat) (l l' : List UInt8), v = opV k hh a c o (.slice A n cA) (.slice B m cB) ∧
      Rd W 1 A n (l.map vb) ∧ Rd W 1 B m (l'.map vb) ∧ n ≤ 140737488351232 ∧ m ≤ 140737488351232 ∧ I64 hh ∧ I64 c ∧ I64 o := by
  obtain ⟨cs, rfl, -⟩ := okWide_struct Tryd.underlying28 hv
  obtain ⟨fuel, hf⟩ := h
  obtain ⟨k, hh, a, c, o, A, B, n, cA, m, cB, l, l', e, h1⟩ := op_of_trod (fun n hn => by
    have := List.all_eq_true.1 hsz _ (DataW.weights_mem_each ht hdj n hn)
    simpa using this) hf
  refine ⟨k, hh, a, c, o, A, B, n, cA, m, cB, l, l', ?_, h1⟩
  simp [Value.cells] at e
  unfold opV
  rw [← e]

end Go.Proofs.YtenmlkgamlafpaaDoor
