/- Operations as bytes: Encode, in op and in the document. -/
import Derived.Test.YtenmlkgamlafpaaDoorOpA
import Derived.LoopN

namespace Go.Proofs.YtenmlkgamlafpaaDoor
open Go.RowKit
set_option linter.unusedVariables false

structure OpT where
  kind : UInt8
  handle : Int
  alg : UInt8
  count : Int
  out : Int
  data : List UInt8
  more : List UInt8

abbrev opV (k : UInt8) (h : Int) (a : UInt8) (c o : Int) (d m : Value) : Value := .agg #[.int .u8 (k.toNat : Int), .int .i64 h, .int .u8 (a.toNat : Int), .int .i64 c, .int .i64 o, d, m]

/-- a whole number as a word of 64 bits -/
def u64N (x : Int) : Nat := (x % 18446744073709551616).toNat

theorem u64N_le (x : Int) : u64N x ≤ 18446744073709551615 := by unfold u64N; omega

theorem u64N_eq (x : Int) : x % 18446744073709551616 = (u64N x : Int) := by unfold u64N; omega

theorem own_enc {w : World} {base n : Nat} {v : Value} {l : List UInt8} {xs : List Value} (h : l.map vb = xs) (ho : w.ownsRow base 5 1 v n xs) (hn : n = l.length) : OwnB w base v l := by
  subst h hn; exact ho

def encB (k : UInt8) (h : Int) (a : UInt8) (c o : Int) (d m : List UInt8) : List UInt8 := [k, a] ++ beL 8 (u64N h) ++ beL 8 (u64N c) ++ beL 8 (u64N o) ++ beL 3 d.length ++ beL 3 m.length ++ d ++ m

theorem St.pushOwnB {w0 w w' : World} {F0 : List Nat} {E : Env} {v : Value} {l : List UInt8} (H : St w0 F0 w E) (k : Nat) (hk : E k = none) (ho : OwnB w' w.heap.size v l) (hb : Below w.heap.size w w') : St w0 F0 w' (upd E k (.row 5 1 v l.length (l.map vb))) := H.pushRow k hk hb ho

theorem St.lit {w0 w : World} {F0 : List Nat} {E : Env} (H : St w0 F0 w E) (k : Nat) (hk : E k = none) (e : TypeId) (cs : Array Value) (n : Nat) (hn : cs.size = n) (h1 : n ≤ 1000) (b : Nat) (hb : b = w.heap.size) : St w0 F0 (w.alloc (.cells cs e)) (upd E k (.row e 1 (.slice (some ⟨b, 0, none⟩) n n) n cs.toList)) := by
  subst hb
  exact H.pushRow k hk ((Below.refl _ _).alloc (Nat.le_refl _) _) (World.ownsRow_lit w cs n (Nat.le_refl _) (by simp only [maxLen]; omega) (by omega))

theorem i3_size : (Tryd.prog.info? 3).map (·.size) = some 1 := by kernel_rfl

theorem i3_notAgg (w : World) : (isAgg 3).run Tryd.prog w = .ok false w := by simp [isAgg, run_underlying Tryd.underlying3]

end Go.Proofs.YtenmlkgamlafpaaDoor
