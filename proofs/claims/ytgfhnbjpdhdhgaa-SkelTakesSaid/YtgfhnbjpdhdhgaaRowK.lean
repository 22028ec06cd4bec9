/- What a row's reading gives to a walk: one skeleton. -/
import Derived.Test.YtgfhnbjpdhdhgaaRowS
namespace Go.Proofs.Ytgfhnbjpdhdhgaa
open Go.ChangeShapes Go.WideShapes Go.ChangeAt Go.RowKit
set_option linter.unusedVariables false

theorem u8_named {x : Int} (h : U8 x) : ∃ u : UInt8, x = (u.toNat : Int) := by
  obtain ⟨h1, h2⟩ := h
  exact ⟨UInt8.ofNat x.toNat, by rw [UInt8.toNat_ofNat']; omega⟩
theorem open_skel {H : Type} {enc : TypeId × Value → H} {W : World} {d : DataW H} {p : List MemPlace} {v : Value} {b base : Nat} {sp : Nat → Bool} {hd : Bool} {r : Reach}
    (hv : Value.okWide Try.prog W r base 51 v) (h : DataW.Trod enc Try.prog W b sp hd 51 v d p) :
    ∃ (k : UInt8) (hh : Int) (a : UInt8) (c o dd m : Int), v = .agg #[.int .u8 (k.toNat : Int), .int .i64 hh, .int .u8 (a.toNat : Int), .int .i64 c, .int .i64 o, .int .i64 dd, .int .i64 m] ∧
      I64 hh ∧ I64 c ∧ I64 o ∧ I64 dd ∧ I64 m := by
  obtain ⟨cs, rfl, -⟩ := okWide_struct Try.underlying51 hv
  obtain ⟨fuel, hf⟩ := h
  obtain ⟨⟨s1, s2, s3, s4, s5, s6, s7⟩, e, ok⟩ := skel_of_trod hf
  obtain ⟨o1, o2, o3, o4, o5, o6, o7⟩ := ok
  obtain ⟨k, rfl⟩ := u8_named o1
  obtain ⟨a, rfl⟩ := u8_named o3
  refine ⟨k, s2, a, s4, s5, s6, s7, ?_, o2, o4, o5, o6, o7⟩
  simp [Value.cells, skV] at e
  rw [← e]
end Go.Proofs.Ytgfhnbjpdhdhgaa
