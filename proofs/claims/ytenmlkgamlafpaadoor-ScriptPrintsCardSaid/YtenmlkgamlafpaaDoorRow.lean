/- What a row's reading gives to a walk: slices of bytes that came in. -/
import Derived.Test.YtenmlkgamlafpaaDoorRows
import Derived.Test.YtenmlkgamlafpaaDoorLib
import Derived.WalkKit
import Derived.ProofKit
import Derived.OpenShut
import Derived.ShutString
import Derived.ChangeOld
import Derived.Below
import Derived.SizedLaws
namespace Go.Proofs.YtenmlkgamlafpaaDoor
open Go.ChangeShapes Go.WideShapes Go.ChangeAt Go.RowKit
open Go.ChangeMaps (open_string shut_string)

theorem rowOwn : ownKnob Tryd.prog.godebug = none := by kernel_rfl
theorem rowLaid : laidOutB Tryd.prog = true := by kernel_rfl
theorem rowBytes : Tryd.prog.bytesOf 5 = 1 := by kernel_rfl
theorem rowCells : Tryd.prog.cellsOf 5 = 1 := by kernel_rfl

theorem open_bytes {H : Type} {enc : TypeId × Value → H} {W : World} {ts : List TypeId} {ds : List (DataW H)} {d : DataW H} {p : List MemPlace} {j : Nat} {a : Option Addr} {len cap : Nat} {b : Nat} {sp : Nat → Bool} {hd : Bool}
    (hsz : (DataW.weightsEach Tryd.prog ts ds).all (· ≤ reachBytes) = true) (ht : ts[j]? = some 26) (hdj : ds[j]? = some d)
    (h : DataW.Trod enc Tryd.prog W b sp hd 26 (.slice a len cap) d p) : ∃ l : List UInt8, Rd W 1 a len (l.map vb) ∧ len ≤ 140737488351232 := by
  obtain ⟨fuel, hf⟩ := h
  rcases open_ints Tryd.underlying26 Tryd.underlying5 rowCells hf with ⟨hcs, _⟩ | ⟨x, l, c, zs, hcs, _, hl, hm, hz, hx, hcell, hwz⟩
  · simp [Value.cells] at hcs
    obtain ⟨rfl, rfl, rfl⟩ := hcs
    exact ⟨[], Rd.none_, by omega⟩
  · simp [Value.cells] at hcs
    obtain ⟨rfl, rfl, rfl⟩ := hcs
    injection hx with hx1 hx2
    subst hx1
    have hs := sized_slice hsz ht hdj Tryd.underlying26
    rw [rowBytes] at hs
    simp only [lits, List.length_map, List.length_take, List.length_drop, reachBytes] at hs
    have hlz : len ≤ zs.length := by rw [hz]; split <;> omega
    have hb : ∀ (i : Nat) (hi : i < zs.length), 0 ≤ zs[i] ∧ zs[i] ≤ 255 := fun i hi => by
      exact bounds_u8 (hwz _ (List.getElem_mem hi))
    refine ⟨(zs.take len).map fun z => UInt8.ofNat z.toNat, ⟨by simp; omega, fun hn => ⟨x, rfl, ?_, fun i u hu => ?_⟩⟩, by omega⟩
    · have h0 := hcell 0 (by omega)
      have := World.block_lt_of_cell? W _ h0
      rwa [block_of_add] at this
    · rw [List.map_map, List.getElem?_map, List.getElem?_take] at hu
      by_cases hi : i < len
      · rw [if_pos hi, List.getElem?_eq_getElem (by omega)] at hu
        simp only [Option.map_some, Function.comp, Option.some.injEq] at hu
        subst hu
        rw [hcell i (by omega), List.getD_eq_getElem?_getD, List.getElem?_eq_getElem (by omega)]
        have h2 := hb i (by omega)
        simp only [Option.getD_some, vb, UInt8.toNat_ofNat', Option.some.injEq, Value.int.injEq, true_and]
        omega
      · rw [if_neg hi] at hu; cases hu

theorem open_cap {H : Type} {enc : TypeId × Value → H} {W : World} {d : DataW H} {p : List MemPlace} {a : Option Addr} {len cap : Nat} {b : Nat} {sp : Nat → Bool} {hd : Bool}
    (h : DataW.Trod enc Tryd.prog W b sp hd 26 (.slice a len cap) d p) : len ≤ cap := by
  obtain ⟨fuel, hf⟩ := h
  rcases open_ints Tryd.underlying26 Tryd.underlying5 rowCells hf with ⟨hcs, _⟩ | ⟨x, l, c, zs, hcs, _, hl, _⟩
  · simp [Value.cells] at hcs
    obtain ⟨rfl, rfl, rfl⟩ := hcs
    exact Nat.le_refl _
  · simp [Value.cells] at hcs
    obtain ⟨rfl, rfl, rfl⟩ := hcs
    exact hl

theorem u64_of {x : Int} (h : (Lit.int .u64 x).wf = true) : ∃ u : UInt64, x = (u.toNat : Int) := by
  have hb : 0 ≤ x ∧ x ≤ 18446744073709551615 := by
    simp [Lit.wf, IntKind.min, IntKind.max, IntKind.signed, IntKind.bits] at h
    omega
  exact ⟨UInt64.ofNat x.toNat, by rw [UInt64.toNat_ofNat']; omega⟩
theorem u32_of {x : Int} (h : (Lit.int .u32 x).wf = true) : ∃ u : UInt32, x = (u.toNat : Int) := by
  have hb : 0 ≤ x ∧ x ≤ 4294967295 := by
    simp [Lit.wf, IntKind.min, IntKind.max, IntKind.signed, IntKind.bits] at h
    omega
  exact ⟨UInt32.ofNat x.toNat, by rw [UInt32.toNat_ofNat']; omega⟩
theorem u8_of {x : Int} (h : (Lit.int .u8 x).wf = true) : ∃ u : UInt8, x = (u.toNat : Int) := by
  have hb := bounds_u8 h
  exact ⟨UInt8.ofNat x.toNat, by rw [UInt8.toNat_ofNat']; omega⟩
theorem i64_of {x : Int} (h : (Lit.int .i64 x).wf = true) : -9223372036854775808 ≤ x ∧ x ≤ 9223372036854775807 := by
  simp [Lit.wf, IntKind.min, IntKind.max, IntKind.signed, IntKind.bits] at h
  omega
end Go.Proofs.YtenmlkgamlafpaaDoor
