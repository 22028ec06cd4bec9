/- What a row's reading gives to a walk: lists of whole numbers and of floats that came in. -/
import Derived.Test.YtpmgklmgaienhaaRow
import Derived.Deep.Slices
namespace Go.Proofs.Ytpmgklmgaienhaa
open Go.ChangeShapes Go.WideShapes Go.ChangeAt Go.RowKit
set_option linter.unusedVariables false
set_option maxRecDepth 100000

theorem choose_list {α : Type} (n : Nat) (p : Nat → α → Prop) (h : ∀ i, i < n → ∃ y, p i y) : ∃ l : List α, l.length = n ∧ ∀ i y, l[i]? = some y → p i y := by
  induction n with
  | zero => exact ⟨[], rfl, fun i y h => by simp at h⟩
  | succ n ih =>
    obtain ⟨l, hl, hp⟩ := ih fun i hi => h i (by omega)
    obtain ⟨y, hy⟩ := h n (by omega)
    refine ⟨l ++ [y], by simp [hl], fun i z hz => ?_⟩
    rcases Nat.lt_or_ge i l.length with hi | hi
    · rw [List.getElem?_append_left hi] at hz; exact hp i z hz
    · rw [List.getElem?_append_right hi] at hz
      have : i - l.length = 0 := by
        have := (List.getElem?_eq_some_iff.1 hz).1
        simp at this; omega
      rw [this] at hz
      simp at hz
      subst hz
      rw [show i = n by omega]; exact hy
theorem open_ones {H : Type} {enc : TypeId × Value → H} {W : World} {ts : List TypeId} {ds : List (DataW H)} {d : DataW H} {p : List MemPlace} {j : Nat} {a : Option Addr} {len cap : Nat} {b : Nat} {sp : Nat → Bool} {hd : Bool} {T e : TypeId} {α : Type}
    (val : α → Value) (bytes : Nat) (hT : Try.prog.underlying T = some (.slice e)) (hc : Try.prog.cellsOf e = 1) (hby : Try.prog.bytesOf e = bytes) (hb0 : 0 < bytes)
    (one : ∀ n v x, DataW.trod enc Try.prog W b sp hd n e [v] = some x → ∃ y, v = val y)
    (hsz : (DataW.weightsEach Try.prog ts ds).all (· ≤ reachBytes) = true) (ht : ts[j]? = some T) (hdj : ds[j]? = some d)
    (h : DataW.Trod enc Try.prog W b sp hd T (.slice a len cap) d p) : ∃ l : List α, Rd W 1 a len (l.map val) ∧ len * bytes ≤ 140737488351232 ∧ len ≤ cap := by
  obtain ⟨fuel, hf⟩ := h
  rcases Go.Deep.open_slice1 hT hc hf with ⟨hcs, _⟩ | ⟨x, l, c, m, n, V, D, Pl, hcs, _, hl, hm, hmm, hx, hel⟩
  · simp [Value.cells] at hcs
    obtain ⟨rfl, rfl, rfl⟩ := hcs
    exact ⟨[], Rd.none_, by omega, by omega⟩
  · simp [Value.cells] at hcs
    obtain ⟨rfl, rfl, rfl⟩ := hcs
    injection hx with hx1 hx2
    subst hx1
    have hs := sized_slice hsz ht hdj hT
    rw [hby] at hs
    simp only [List.length_map, List.length_range, reachBytes] at hs
    have hlm : len ≤ m := by rw [hmm]; split <;> omega
    obtain ⟨ys, hy, hp⟩ := choose_list len (fun i y => V i = val y) fun i hi => one _ _ _ (hel i (by omega)).2
    refine ⟨ys, ⟨by simp [hy], fun hn => ⟨x, rfl, ?_, fun i u hu => ?_⟩⟩, ?_, hl⟩
    · have h0 := (hel 0 (by omega)).1
      have := World.block_lt_of_cell? W _ h0
      rwa [block_of_add] at this
    · rw [List.getElem?_map] at hu
      cases hz : ys[i]? with
      | none => rw [hz] at hu; cases hu
      | some z =>
        rw [hz] at hu
        cases hu
        have hi : i < len := by rw [← hy]; exact (List.getElem?_eq_some_iff.1 hz).1
        rw [(hel i (by omega)).1, hp i z hz]
    · exact Nat.le_trans (Nat.mul_le_mul_right _ (by omega)) hs

abbrev uv (u : UInt64) : Value := .int .u64 (u.toNat : Int)
abbrev fv8 (b : Nat) : Value := .float .f64 b
abbrev iv8 (x : Int) : Value := .int .i64 x
theorem trod_float {H : Type} {enc : TypeId × Value → H} {W : World} {b : Nat} {sp : Nat → Bool} {hd : Bool} {fuel : Nat} {t : TypeId} {cs : List Value} {x : DataW H × List MemPlace}
    (ht : Try.prog.underlying t = some (.float .f64)) (h : DataW.trod enc Try.prog W b sp hd fuel t cs = some x) : ∃ n, cs = [.float .f64 n] := by
  cases fuel with
  | zero => simp [DataW.trod] at h
  | succ n =>
    unfold DataW.trod at h
    rw [ht] at h
    split at h <;> simp_all

theorem open_f64s {H : Type} {enc : TypeId × Value → H} {W : World} {ts : List TypeId} {ds : List (DataW H)} {d : DataW H} {p : List MemPlace} {j : Nat} {a : Option Addr} {len cap : Nat} {b : Nat} {sp : Nat → Bool} {hd : Bool}
    (hsz : (DataW.weightsEach Try.prog ts ds).all (· ≤ reachBytes) = true) (ht : ts[j]? = some 22) (hdj : ds[j]? = some d)
    (h : DataW.Trod enc Try.prog W b sp hd 22 (.slice a len cap) d p) : ∃ l : List Nat, Rd W 1 a len (l.map fv8) ∧ len * 8 ≤ 140737488351232 ∧ len ≤ cap :=
  open_ones fv8 8 Try.underlying22 (by kernel_rfl) (by kernel_rfl) (by omega) (fun n v x h => by
    obtain ⟨z, hz⟩ := trod_float Try.underlying25 h
    simp at hz
    exact ⟨z, hz⟩) hsz ht hdj h
theorem i32_of {x : Int} (h : (Lit.int .i32 x).wf = true) : -2147483648 ≤ x ∧ x ≤ 2147483647 := by
  simp [Lit.wf, IntKind.min, IntKind.max, IntKind.signed, IntKind.bits] at h
  omega
theorem u16_of {x : Int} (h : (Lit.int .u16 x).wf = true) : 0 ≤ x ∧ x ≤ 65535 := by
  simp [Lit.wf, IntKind.min, IntKind.max, IntKind.signed, IntKind.bits] at h
  omega
end Go.Proofs.Ytpmgklmgaienhaa
