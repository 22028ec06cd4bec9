/- What a row's reading gives to a walk: skeletons. -/
import Derived.Test.YtgfhnbjpdhdhgaaRow
import Derived.Test.YtgfhnbjpdhdhgaaSkel
import Derived.Deep.Slices
namespace Go.Proofs.Ytgfhnbjpdhdhgaa
open Go.ChangeShapes Go.WideShapes Go.ChangeAt Go.RowKit
set_option linter.unusedVariables false

/-- whole numbers and bytes -/
def I64 (x : Int) : Prop := -9223372036854775808 ≤ x ∧ x ≤ 9223372036854775807
def U8 (x : Int) : Prop := 0 ≤ x ∧ x ≤ 255
structure SkOk (s : SkT) : Prop where
  kind : U8 s.1
  handle : I64 s.2.1
  alg : U8 s.2.2.1
  count : I64 s.2.2.2.1
  out : I64 s.2.2.2.2.1
  data : I64 s.2.2.2.2.2.1
  more : I64 s.2.2.2.2.2.2

theorem sk_cellsOf : Try.prog.cellsOf 51 = 7 := by kernel_rfl
theorem sk_bytesOf : Try.prog.bytesOf 51 = 56 := by kernel_rfl

theorem skel_of_trod {H : Type} {enc : TypeId × Value → H} {W : World} {b : Nat} {sp : Nat → Bool} {hd : Bool} {fuel : Nat} {cs : List Value} {x : DataW H × List MemPlace}
    (h : DataW.trod enc Try.prog W b sp hd fuel 51 cs = some x) : ∃ s : SkT, cs = skV s ∧ SkOk s := by
  obtain ⟨xs, k, hk, hxy, hlen, hxl, hf⟩ := DataW.trod_struct Try.underlying51 h
  rw [sk_cellsOf] at hlen
  match cs, hlen with
  | [c0, c1, c2, c3, c4, c5, c6], _ =>
    match xs, hxl with
    | [y0, y1, y2, y3, y4, y5, y6], _ =>
      have g0 := hf 0 _ rfl
      have g1 := hf 1 _ rfl
      have g2 := hf 2 _ rfl
      have g3 := hf 3 _ rfl
      have g4 := hf 4 _ rfl
      have g5 := hf 5 _ rfl
      have g6 := hf 6 _ rfl
      simp [List.drop, List.take, show Try.prog.cellsOf 3 = 1 by kernel_rfl, show Try.prog.cellsOf 28 = 1 by kernel_rfl, show Try.prog.cellsOf 29 = 1 by kernel_rfl] at g0 g1 g2 g3 g4 g5 g6
      obtain ⟨n0, e0, -, w0⟩ := DataW.trod_int Try.underlying28 g0
      obtain ⟨n1, e1, -, w1⟩ := DataW.trod_int Try.underlying3 g1
      obtain ⟨n2, e2, -, w2⟩ := DataW.trod_int Try.underlying29 g2
      obtain ⟨n3, e3, -, w3⟩ := DataW.trod_int Try.underlying3 g3
      obtain ⟨n4, e4, -, w4⟩ := DataW.trod_int Try.underlying3 g4
      obtain ⟨n5, e5, -, w5⟩ := DataW.trod_int Try.underlying3 g5
      obtain ⟨n6, e6, -, w6⟩ := DataW.trod_int Try.underlying3 g6
      simp only [List.cons.injEq, and_true] at e0 e1 e2 e3 e4 e5 e6
      subst e0 e1 e2 e3 e4 e5 e6
      exact ⟨(n0, n1, n2, n3, n4, n5, n6), rfl, ⟨bounds_u8 w0, i64_of w1, bounds_u8 w2, i64_of w3, i64_of w4, i64_of w5, i64_of w6⟩⟩

theorem open_skels {H : Type} {enc : TypeId × Value → H} {W : World} {ts : List TypeId} {ds : List (DataW H)} {d : DataW H} {p : List MemPlace} {j : Nat} {a : Option Addr} {len cap : Nat} {b : Nat} {sp : Nat → Bool} {hd : Bool}
    (hsz : (DataW.weightsEach Try.prog ts ds).all (· ≤ reachBytes) = true) (ht : ts[j]? = some 22) (hdj : ds[j]? = some d)
    (h : DataW.Trod enc Try.prog W b sp hd 22 (.slice a len cap) d p) : ∃ l : List SkT, Rd W 7 a len (sksV l) ∧ len ≤ 2513169434900 ∧ ∀ s ∈ l, SkOk s := by
  obtain ⟨fuel, hf⟩ := h
  rcases Go.Deep.open_slice Try.underlying22 hf with ⟨hcs, _⟩ | ⟨x, l, c, m, n, D, Pl, hcs, hb, hl, hm, hmm, hx, hel⟩
  · simp [Value.cells] at hcs
    obtain ⟨rfl, rfl, rfl⟩ := hcs
    exact ⟨[], Rd.none_, by omega, by simp⟩
  · simp [Value.cells] at hcs
    obtain ⟨rfl, rfl, rfl⟩ := hcs
    simp only [Prod.mk.injEq] at hx
    have hx1 := hx.1
    subst hx1
    have hs := sized_slice hsz ht hdj Try.underlying22
    rw [sk_bytesOf] at hs
    simp only [List.length_map, List.length_range, reachBytes] at hs
    have hlm : len ≤ m := by rw [hmm]; split <;> omega
    have each : ∀ i, i < len → ∃ s : SkT, SkOk s ∧ ∀ q, q < 7 → W.cell? (x.add (i * 7 + q)) = (skV s)[q]? := by
      intro i hi
      obtain ⟨cs', h1, h2⟩ := hel i (by omega)
      rw [sk_cellsOf] at h1
      obtain ⟨s, rfl, hok⟩ := skel_of_trod h2
      refine ⟨s, hok, fun q hq => ?_⟩
      have := (World.cells?_some h1).2.2 q hq
      rwa [add_of_add] at this
    haveI : Inhabited SkT := ⟨(0, 0, 0, 0, 0, 0, 0)⟩
    obtain ⟨f, hf'⟩ := Go.Deep.choose_lt each
    have hlen : ((List.range len).map f).length = len := by simp
    refine ⟨(List.range len).map f, ⟨by rw [sksV_length, hlen], fun hn => ⟨x, rfl, ?_, fun i u hu => ?_⟩⟩, by omega, ?_⟩
    · have h0 := (hf' 0 hn).2 0 (by omega)
      have := World.block_lt_of_cell? W _ (h0.trans rfl)
      rwa [block_of_add] at this
    · have hi : i < (sksV ((List.range len).map f)).length := (List.getElem?_eq_some_iff.1 hu).1
      rw [sksV_length, hlen] at hi
      have hq : i = (i / 7) * 7 + i % 7 := by omega
      have h7 : i / 7 < len := by omega
      have hg := sksV_get ((List.range len).map f) (i / 7) (i % 7) (f (i / 7)) (by simp [h7]) (by omega)
      rw [← hq, hu] at hg
      rw [hq, (hf' (i / 7) h7).2 (i % 7) (by omega), ← hg]
    · intro s hs
      obtain ⟨i, hi, rfl⟩ := List.mem_map.1 hs
      exact (hf' i (List.mem_range.1 hi)).1
end Go.Proofs.Ytgfhnbjpdhdhgaa
