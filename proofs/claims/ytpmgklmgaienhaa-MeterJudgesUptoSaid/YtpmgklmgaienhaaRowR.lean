/- What a row's reading gives to a walk: lists of runs. -/
import Derived.Test.YtpmgklmgaienhaaRow
import Derived.Test.YtpmgklmgaienhaaRuns
import Derived.Deep.Slices
namespace Go.Proofs.Ytpmgklmgaienhaa
open Go.ChangeShapes Go.WideShapes Go.ChangeAt Go.RowKit
set_option linter.unusedVariables false
set_option maxRecDepth 100000

def RunOk (r : RunT) : Prop := (0 ≤ r.1 ∧ r.1 ≤ 255) ∧ (-9223372036854775808 ≤ r.2.1 ∧ r.2.1 ≤ 9223372036854775807) ∧ (-9223372036854775808 ≤ r.2.2 ∧ r.2.2 ≤ 9223372036854775807)
theorem run_cellsOf : Try.prog.cellsOf 60 = 3 := by kernel_rfl
theorem event_cellsOf : Try.prog.cellsOf 58 = 2 := by kernel_rfl
theorem run_bytesOf : Try.prog.bytesOf 60 = 24 := by kernel_rfl
theorem event_of_trod {H : Type} {enc : TypeId × Value → H} {W : World} {b : Nat} {sp : Nat → Bool} {hd : Bool} {fuel : Nat} {cs0 : List Value} {x : DataW H × List MemPlace}
    (h : DataW.trod enc Try.prog W b sp hd fuel 58 cs0 = some x) : ∃ k s : Int, cs0 = [.int .u8 k, .int .i64 s] ∧ (0 ≤ k ∧ k ≤ 255) ∧ (-9223372036854775808 ≤ s ∧ s ≤ 9223372036854775807) := by
  obtain ⟨xs, k, hk, hxy, hlen, hxl, hf⟩ := DataW.trod_struct Try.underlying58 h
  rw [event_cellsOf] at hlen
  subst hxy
  match cs0, hlen with
  | [c0, c1], _ =>
    match xs, hxl with
    | [y0, y1], _ =>
      have g0 := hf 0 _ rfl
      have g1 := hf 1 _ rfl
      simp [List.drop, List.take, show Try.prog.cellsOf 36 = 1 by kernel_rfl, show Try.prog.cellsOf 3 = 1 by kernel_rfl] at g0 g1
      obtain ⟨Z0, e0, -, w0⟩ := DataW.trod_int Try.underlying36 g0
      simp only [List.cons.injEq, and_true] at e0
      subst e0
      obtain ⟨Z1, e1, -, w1⟩ := DataW.trod_int Try.underlying3 g1
      simp only [List.cons.injEq, and_true] at e1
      subst e1
      exact ⟨Z0, Z1, rfl, bounds_u8 w0, i64_of w1⟩
theorem run_of_trod {H : Type} {enc : TypeId × Value → H} {W : World} {b : Nat} {sp : Nat → Bool} {hd : Bool} {fuel : Nat} {cs0 : List Value} {x : DataW H × List MemPlace}
    (h : DataW.trod enc Try.prog W b sp hd fuel 60 cs0 = some x) : ∃ r : RunT, cs0 = runV r ∧ RunOk r := by
  obtain ⟨xs, k, hk, hxy, hlen, hxl, hf⟩ := DataW.trod_struct Try.underlying60 h
  rw [run_cellsOf] at hlen
  subst hxy
  match cs0, hlen with
  | [c0, c1, c2], _ =>
    match xs, hxl with
    | [y0, y1], _ =>
      have g0 := hf 0 _ rfl
      have g1 := hf 1 _ rfl
      simp [List.drop, List.take, event_cellsOf, show Try.prog.cellsOf 3 = 1 by kernel_rfl] at g0 g1
      obtain ⟨k0, s0, e0, hk0, hs0⟩ := event_of_trod g0
      simp only [List.cons.injEq, and_true] at e0
      obtain ⟨rfl, rfl⟩ := e0
      obtain ⟨Z1, e1, -, w1⟩ := DataW.trod_int Try.underlying3 g1
      simp only [List.cons.injEq, and_true] at e1
      subst e1
      exact ⟨(k0, s0, Z1), rfl, hk0, hs0, i64_of w1⟩
theorem runs_of_trod {H : Type} {enc : TypeId × Value → H} {W : World} {b : Nat} {sp : Nat → Bool} {hd : Bool} {fuel : Nat} {cs0 : List Value} {y : DataW H × List MemPlace}
    (hf : DataW.trod enc Try.prog W b sp hd fuel 35 cs0 = some y) : ∃ (a : Option Addr) (len cap : Nat) (l : List RunT), cs0 = [.slice a len cap] ∧ Rd W 3 a len (runsV l) ∧ len ≤ cap ∧ (∀ r ∈ l, RunOk r) ∧
      (len = 0 ∨ ∃ ds ds' : List (DataW H), y.1 = .slice ds ds' ∧ len ≤ ds.length) := by
  rcases Go.Deep.open_slice Try.underlying35 hf with ⟨rfl, _⟩ | ⟨x, l, c, m, n, D, Pl, rfl, hb, hl, hm, hmm, hx, hel⟩
  · exact ⟨none, 0, 0, [], rfl, Rd.none_, by omega, by simp, .inl rfl⟩
  · have hlm : l ≤ m := by rw [hmm]; split <;> omega
    have each : ∀ i, i < l → ∃ s : RunT, RunOk s ∧ ∀ q, q < 3 → W.cell? (x.add (i * 3 + q)) = (runV s)[q]? := by
      intro i hi
      obtain ⟨cs', h1, h2⟩ := hel i (by omega)
      rw [run_cellsOf] at h1
      obtain ⟨s, rfl, ok⟩ := run_of_trod h2
      refine ⟨s, ok, fun q hq => ?_⟩
      have := (World.cells?_some h1).2.2 q hq
      rwa [add_of_add] at this
    obtain ⟨f, hf'⟩ := Go.Deep.choose_lt each
    have hlen : ((List.range l).map f).length = l := by simp
    refine ⟨some x, l, c, (List.range l).map f, rfl, ⟨by rw [runsV_length, hlen], fun hn => ⟨x, rfl, ?_, fun i u hu => ?_⟩⟩, hl, ?_, .inr ⟨_, _, by rw [hx], by simp⟩⟩
    · have h0 := (hf' 0 hn).2 0 (by omega)
      have := World.block_lt_of_cell? W _ (h0.trans rfl)
      rwa [block_of_add] at this
    · have hi : i < (runsV ((List.range l).map f)).length := (List.getElem?_eq_some_iff.1 hu).1
      rw [runsV_length, hlen] at hi
      have hq : i = (i / 3) * 3 + i % 3 := by omega
      have h7 : i / 3 < l := by omega
      have hg := runsV_get ((List.range l).map f) (i / 3) (i % 3) (f (i / 3)) (by simp [h7]) (by omega)
      rw [← hq, hu] at hg
      rw [hq, (hf' (i / 3) h7).2 (i % 3) (by omega), ← hg]
    · intro s hs
      obtain ⟨i, hi, rfl⟩ := List.mem_map.1 hs
      exact (hf' i (List.mem_range.1 hi)).1

theorem open_runs {H : Type} {enc : TypeId × Value → H} {W : World} {ts : List TypeId} {ds : List (DataW H)} {d : DataW H} {p : List MemPlace} {j : Nat} {a : Option Addr} {len cap : Nat} {b : Nat} {sp : Nat → Bool} {hd : Bool}
    (hsz : (DataW.weightsEach Try.prog ts ds).all (· ≤ reachBytes) = true) (ht : ts[j]? = some 35) (hdj : ds[j]? = some d)
    (h : DataW.Trod enc Try.prog W b sp hd 35 (.slice a len cap) d p) : ∃ l : List RunT, Rd W 3 a len (runsV l) ∧ len * 24 ≤ 140737488351232 ∧ len ≤ cap ∧ ∀ r ∈ l, RunOk r := by
  obtain ⟨fuel, hf⟩ := h
  obtain ⟨a', len', cap', l, hcs, hR, hc, hok, hds⟩ := runs_of_trod hf
  simp [Value.cells] at hcs
  obtain ⟨rfl, rfl, rfl⟩ := hcs
  refine ⟨l, hR, ?_, hc, hok⟩
  rcases hds with rfl | ⟨es, es', hd, hle⟩
  · omega
  · simp only at hd
    rw [hd] at hdj
    have hs := sized_slice hsz ht hdj Try.underlying35
    rw [run_bytesOf] at hs
    simp only [reachBytes] at hs
    omega
end Go.Proofs.Ytpmgklmgaienhaa
