/- Two arrays of integers held against one another. -/
import Derived.Test.YtoodgdcpkkfdgaaSep
import Derived.Laws.StructEq
namespace Go.Proofs.Ytoodgdcpkkfdgaa
open Go.RowKit
set_option linter.unusedVariables false

theorem run_equalIn_ints {P : Program} (d : Nat) (t e : TypeId) (len : Nat) (k k' : IntKind) (xs ys : List Int) (ht : P.underlying t = some (.array len e)) (he : P.underlying e = some (.int k')) (hs : (P.info? e).map (·.size) = some 1)
    (hx : xs.length = len) (hy : ys.length = len) (w : World) :
    (Op.equalIn (d + 2) t (.agg (xs.map (Value.int k)).toArray) (.agg (ys.map (Value.int k)).toArray)).run P w = .ok (decide (xs = ys)) w := by
  have hag : ∀ w, (isAgg e).run P w = .ok false w := fun w => by simp [isAgg, run_underlying he]
  have hsz : ∀ w, (sizeOf e).run P w = .ok 1 w := fun w => by
    cases hi : P.info? e with
    | none => simp [hi] at hs
    | some i => simp [hi] at hs; simp [sizeOf, typeInfo, hi, hs]
  rw [Op.equalIn]
  simp only [Sem.run_bind, run_underlying ht, Result.andThen_ok, hsz]
  rw [Std.Legacy.Range.forIn_eq_forIn_range']
  have hp : ∀ (zs : List Int) (i : Nat) (h : i < zs.length) (w : World), (part e (zs.map (Value.int k)).toArray (i * 1)).run P w = .ok (.int k zs[i]) w := fun zs i h w => by
    simp [part, hag, h]
  have key : ∀ (n i : Nat) (w : World), i + n = len →
      (forIn (m := Sem) (List.range' i n 1) ((none, ()) : Option Bool × Unit) fun i __s => do
            let a ← part e (List.map (Value.int k) xs).toArray (i * 1)
            let b ← part e (List.map (Value.int k) ys).toArray (i * 1)
            let r ← Op.equalIn (d + 1) e a b
            if (!r) = true then pure (ForInStep.done (some false, ())) else pure (ForInStep.yield (none, ()))).run P w =
        .ok (if xs.drop i = ys.drop i then (none, ()) else (some false, ())) w := by
    intro n
    induction n with
    | zero =>
      intro i w h
      rw [List.drop_of_length_le (by omega), List.drop_of_length_le (by omega)]
      simp
    | succ n ih =>
      intro i w h
      have h1 : i < xs.length := by omega
      have h2 : i < ys.length := by omega
      rw [List.range'_succ, List.forIn_cons]
      simp only [Sem.run_bind, hp xs i h1, hp ys i h2, Result.andThen_ok, run_equalIn_int w d e k k' _ _ he]
      rw [List.drop_eq_getElem_cons h1, List.drop_eq_getElem_cons h2]
      by_cases he' : xs[i] = ys[i]
      · simp only [he', beq_self_eq_true, Bool.not_true, Bool.false_eq_true, if_false, Sem.run_pure, Result.andThen_ok, List.cons.injEq, true_and]
        exact ih (i + 1) w (by omega)
      · have hb : (xs[i] == ys[i]) = false := by simpa using he'
        simp [hb]
        intro hd
        rw [List.drop_eq_getElem_cons h1, List.drop_eq_getElem_cons h2] at hd
        injection hd with h3
        exact he' h3
  have h0 := key len 0 w (by omega)
  simp only [List.drop_zero] at h0
  have hr : List.range' [:len].start [:len].size [:len].step = List.range' 0 len 1 := by simp [Std.Legacy.Range.size]
  rw [hr, h0]
  by_cases h : xs = ys <;> simp [h]
end Go.Proofs.Ytoodgdcpkkfdgaa
