/- What a row's reading gives to a walk: a list of operations. -/
import Derived.Test.YtenmlkgamlafpaaDoorRowO

namespace Go.Proofs.YtenmlkgamlafpaaDoor
open Go.ChangeShapes Go.WideShapes Go.ChangeAt Go.RowKit
set_option linter.unusedVariables false
set_option maxRecDepth 100000

/-- an operation as it lies in memory, and what its lists hold -/
structure OpR where
  k : UInt8
  h : Int
  a : UInt8
  c : Int
  o : Int
  A : Option Addr
  n : Nat
  cA : Nat
  B : Option Addr
  m : Nat
  cB : Nat
  xs : List UInt8
  ys : List UInt8
instance : Inhabited OpR := ⟨⟨0, 0, 0, 0, 0, none, 0, 0, none, 0, 0, [], []⟩⟩

def OpR.cs (s : OpR) : List Value := [.int .u8 (s.k.toNat : Int), .int .i64 s.h, .int .u8 (s.a.toNat : Int), .int .i64 s.c, .int .i64 s.o, .slice s.A s.n s.cA, .slice s.B s.m s.cB]

structure OpR.Ok (w : World) (s : OpR) : Prop where
  ra : Rd w 1 s.A s.n (s.xs.map vb)
  rb : Rd w 1 s.B s.m (s.ys.map vb)
  ba : s.n ≤ 140737488351232
  bb : s.m ≤ 140737488351232
  ih : I64 s.h
  ic : I64 s.c
  io : I64 s.o

def opsV (l : List OpR) : List Value := l.flatMap OpR.cs

theorem OpR.cs_length (s : OpR) : s.cs.length = 7 := rfl

theorem opsV_length (l : List OpR) : (opsV l).length = l.length * 7 := flat_length OpR.cs_length l

theorem opsV_get (l : List OpR) (i j : Nat) (a : OpR) (hi : l[i]? = some a) (hj : j < 7) : (opsV l)[i * 7 + j]? = a.cs[j]? := flat_get OpR.cs_length l i j a hi hj

theorem op_bytesOf : Tryd.prog.bytesOf 28 = 88 := by kernel_rfl

theorem weightsAll_mem {H : Type} {P : Program} {e : TypeId} {d : DataW H} {elems : List (DataW H)} (h : d ∈ elems) : ∀ n ∈ DataW.weights P e d, n ∈ DataW.weightsAll P e elems := by
  induction elems with
  | nil => simp at h
  | cons x l ih =>
    intro n hn
    rw [DataW.weightsAll, List.mem_append]
    rcases List.mem_cons.1 h with rfl | h
    · exact .inl hn
    · exact .inr (ih h n hn)

theorem open_ops {H : Type} {enc : TypeId × Value → H} {W : World} {ts : List TypeId} {ds : List (DataW H)} {d : DataW H} {p : List MemPlace} {j : Nat} {a : Option Addr} {len cap : Nat} {b : Nat} {sp : Nat → Bool} {hd : Bool}
    (hsz : (DataW.weightsEach Tryd.prog ts ds).all (· ≤ reachBytes) = true) (ht : ts[j]? = some 22) (hdj : ds[j]? = some d)
    (h : DataW.Trod enc Tryd.prog W b sp hd 22 (.slice a len cap) d p) : ∃ l : List OpR, Rd W 7 a len (opsV l) ∧ len ≤ 1599289640354 ∧ ∀ s ∈ l, s.Ok W := by
  obtain ⟨fuel, hf⟩ := h
  rcases Go.Deep.open_slice Tryd.underlying22 hf with ⟨hcs, _⟩ | ⟨x, l, c, m, n, D, Pl, hcs, hb, hl, hm, hmm, hx, hel⟩
  · simp [Value.cells] at hcs
    obtain ⟨rfl, rfl, rfl⟩ := hcs
    exact ⟨[], Rd.none_, by omega, by simp⟩
  · simp [Value.cells] at hcs
    obtain ⟨rfl, rfl, rfl⟩ := hcs
    simp only [Prod.mk.injEq] at hx
    have hx1 := hx.1
    subst hx1
    have hs := sized_slice hsz ht hdj Tryd.underlying22
    rw [op_bytesOf] at hs
    simp only [List.length_map, List.length_range, reachBytes] at hs
    have hlm : len ≤ m := by rw [hmm]; split <;> omega
    have each : ∀ i, i < len → ∃ s : OpR, s.Ok W ∧ ∀ q, q < 7 → W.cell? (x.add (i * 7 + q)) = s.cs[q]? := by
      intro i hi
      obtain ⟨cs', h1, h2⟩ := hel i (by omega)
      rw [op_cellsOf] at h1
      obtain ⟨k, hh, aa, cc, o, A, B, n', cA, m', cB, ls, ls', rfl, r1, r2, b1, b2, i1, i2, i3⟩ := op_of_trod (fun n hn => by
        have hmem : n ∈ DataW.weightsEach Tryd.prog ts ds := DataW.weights_mem_each ht hdj n (by
          simp only [DataW.weights, Tryd.underlying22]
          refine List.mem_cons_of_mem _ (List.mem_append.2 (.inl ?_))
          exact weightsAll_mem (List.mem_map.2 ⟨i, List.mem_range.2 hi, rfl⟩) n hn)
        have := List.all_eq_true.1 hsz _ hmem
        simpa using this) h2
      refine ⟨⟨k, hh, aa, cc, o, A, n', cA, B, m', cB, ls, ls'⟩, ⟨r1, r2, b1, b2, i1, i2, i3⟩, fun q hq => ?_⟩
      have := (World.cells?_some h1).2.2 q hq
      rwa [add_of_add] at this
    obtain ⟨f, hf'⟩ := Go.Deep.choose_lt each
    have hlen : ((List.range len).map f).length = len := by simp
    refine ⟨(List.range len).map f, ⟨by rw [opsV_length, hlen], fun hn => ⟨x, rfl, ?_, fun i u hu => ?_⟩⟩, by omega, ?_⟩
    · have h0 := (hf' 0 hn).2 0 (by omega)
      have := World.block_lt_of_cell? W _ (h0.trans rfl)
      rwa [block_of_add] at this
    · have hi : i < (opsV ((List.range len).map f)).length := (List.getElem?_eq_some_iff.1 hu).1
      rw [opsV_length, hlen] at hi
      have hq : i = (i / 7) * 7 + i % 7 := by omega
      have h7 : i / 7 < len := by omega
      have hg := opsV_get ((List.range len).map f) (i / 7) (i % 7) (f (i / 7)) (by simp [h7]) (by omega)
      rw [← hq, hu] at hg
      rw [hq, (hf' (i / 7) h7).2 (i % 7) (by omega), ← hg]
    · intro s hs
      obtain ⟨i, hi, rfl⟩ := List.mem_map.1 hs
      exact (hf' i (List.mem_range.1 hi)).1

theorem op_cells {w : World} {A : Option Addr} {n k : Nat} {l : List OpR} {x : OpR} (h : Rd w 7 A n (opsV l)) (hx : l[k]? = some x) : ∃ p o, A = some ⟨p, o, none⟩ ∧ w.rangeAt p (o + k * 7) x.cs := by
  have hl := h.1
  rw [opsV_length] at hl
  have hk : k < l.length := (List.getElem?_eq_some_iff.1 hx).1
  obtain ⟨p, o, rfl, -, hc⟩ := h.flat (by omega) (by omega)
  refine ⟨p, o, rfl, fun j v hv => ?_⟩
  have hj : j < x.cs.length := (List.getElem?_eq_some_iff.1 hv).1
  rw [OpR.cs_length] at hj
  rw [Nat.add_assoc]
  exact hc (k * 7 + j) v (by rw [opsV_get l k j x hx hj]; exact hv)

end Go.Proofs.YtenmlkgamlafpaaDoor
