/- The law WordTakes, walked: every bytes, every place. -/
import Derived.Test.YthocpfhajnnplaaRows
import Derived.Test.YthocpfhajnnplaaLib
import Derived.Test.YthocpfhajnnplaaKitB
import Derived.Test.YthocpfhajnnplaaHeap
import Derived.Test.YthocpfhajnnplaaLay
import Derived.Test.YthocpfhajnnplaaTakeA
import Derived.Test.YthocpfhajnnplaaRefTake
import Derived.Test.YthocpfhajnnplaaTake
import Derived.Test.YthocpfhajnnplaaTakeLE
namespace Go.Proofs.Ythocpfhajnnplaa
open Go.RowKit
set_option linter.unusedVariables false

set_option maxRecDepth 20000 in
set_option maxHeartbeats 1000000 in
theorem takes_any (A : Option Addr) (n c : Nat) (B : Option Addr) (m d : Nat) (l : List UInt8) (a : Int) (w : World) (h : Rd w 1 A n (l.map vb)) (h2 : Rd w 1 B m (l.map vb)) (hn : n ≤ 140737488355328) (hm : m ≤ 140737488355328)
    (ha1 : -9223372036854775808 ≤ a) (ha2 : a ≤ 9223372036854775807) :
    Calls Try.prog 32 #[.slice A n c, .slice B m d, .int .i64 a] w fun e w' => e = .returned (.bool true) ∧ w = w' := by
  have b1 : ((beTo l a 4 : Nat) : Int) ≤ 4294967295 := by have := beTo_lt l a 4; omega
  have b2 : ((leTo l a 4 : Nat) : Int) ≤ 4294967295 := by have := leTo_lt l a 4; omega
  have b3 : ((beTo l a 8 : Nat) : Int) ≤ 18446744073709551615 := by have := beTo_lt l a 8; omega
  have b4 : ((leTo l a 8 : Nat) : Int) ≤ 18446744073709551615 := by have := leTo_lt l a 8; omega
  go_enter Try.func32, Try.ntmps32
  go_wp2_with fail
  refine (refTake_32 B m d l a _ h2 hm ha1 ha2).mono ?_
  rintro e w1 ⟨rfl, rfl⟩
  go_wp2_with fail
  refine (refTake_64 B m d l a _ h2 hm ha1 ha2).mono ?_
  rintro e w1 ⟨rfl, rfl⟩
  go_wp2_with fail
  refine (refTakeLE_32 B m d l a _ h2 hm ha1 ha2).mono ?_
  rintro e w1 ⟨rfl, rfl⟩
  go_wp2_with fail
  refine (refTakeLE_64 B m d l a _ h2 hm ha1 ha2).mono ?_
  rintro e w1 ⟨rfl, rfl⟩
  go_wp2_with fail
  refine (take_u32 A n c l a _ h hn).mono ?_
  rintro e w1 ⟨rfl, rfl⟩
  go_wp2_with fail
  refine (take_s32 A n c l a _ h hn).mono ?_
  rintro e w1 ⟨rfl, rfl⟩
  go_wp2_with fail
  refine (take_u64 A n c l a _ h hn).mono ?_
  rintro e w1 ⟨rfl, rfl⟩
  go_wp2_with fail
  refine (take_l64 A n c l a _ h hn).mono ?_
  rintro e w1 ⟨rfl, rfl⟩
  go_wp2_with fail
  refine (takeLE_u32 A n c l a _ h hn).mono ?_
  rintro e w1 ⟨rfl, rfl⟩
  go_wp2_with fail
  refine (takeLE_s32 A n c l a _ h hn).mono ?_
  rintro e w1 ⟨rfl, rfl⟩
  go_wp2_with fail
  refine (takeLE_u64 A n c l a _ h hn).mono ?_
  rintro e w1 ⟨rfl, rfl⟩
  go_wp2_with fail
  refine (takeLE_l64 A n c l a _ h hn).mono ?_
  rintro e w1 ⟨rfl, rfl⟩
  go_wp2
  go_ret
  exact ⟨by simp, rfl⟩

set_option maxRecDepth 20000 in
set_option maxHeartbeats 1000000 in
theorem wordTakes_walk (A : Option Addr) (n c : Nat) (xs : List UInt8) (a : Int) (w : World) (ha : Rd w 1 A n (xs.map vb)) (hn : n ≤ 140737488351232) (ha1 : -9223372036854775808 ≤ a) (ha2 : a ≤ 9223372036854775807) :
    Calls Try.prog 6 #[.slice A n c, .int .i64 a] w fun e w' => e = .returned (.bool true) ∧ Below w.heap.size w w' := by
  have hlx : xs.length = n := by simpa using ha.1
  have Hx := Lib.hid hlx
  clear hlx
  go_enter Try.func6, Try.ntmps6
  have H0 := St.start w
  go_wp2_with fail
  refine (lentBytes_any A n c xs _ ha (by omega)).mono ?_
  rintro e w1 ⟨v1, rfl, ho1, hb1⟩
  have H1 := H0.push ho1 hb1
  obtain ⟨g1, c1, rfl, hc1, -, -⟩ := ho1.lent Hx.out
  have hc1' : n ≤ c1 := by omega
  clear H0 ho1 hb1
  go_wp2_with fail
  refine (copyBytes_any A n c xs _ (H1.arg ha) (by omega)).mono ?_
  rintro e w2 ⟨v2, rfl, ho2, hb2⟩
  have H2 := H1.push ho2 hb2
  obtain ⟨A2, n2, c2, rfl, hn2, -⟩ := ho2.shape
  have hl2 : n2 ≤ 140737488351232 := by rw [hn2.out, Hx.out]; omega
  clear H1 ho2 hb2
  go_wp2_with fail
  refine (takes_any _ n c1 A2 n2 c2 xs a _ (H2.pre 0 rfl Hx.out) (H2.rd 1 rfl) (by omega) (by omega) ha1 ha2).mono ?_
  rintro e w3 ⟨rfl, rfl⟩
  go_wp2_with fail
  refine (keptBytes_yes _ _ (n + 6) n c1 c _ _ _ (H2.rd 0 rfl) (H2.arg ha) (by omega) (by omega) rfl).mono ?_
  rintro e w3 ⟨rfl, hb3⟩
  have H3 := H2.call hb3
  clear H2
  go_wp2_with fail
  refine (overBytes_any _ g1 c1 (n + 6) _ _ (H3.get 0 rfl) (show n + 6 = _ by rw [List.length_append, Hx.out, marksB_length]) (by omega)).mono ?_
  rintro e w8 ⟨rfl, ho8, hg8⟩
  have H4 := H3.overs 0 rfl ho8 hg8
  clear H3
  have hmk : marksB 9 0 (n + 6) = marksB 9 0 n ++ marksB 9 n 6 := by simp [marksB, List.range_add]
  rw [hmk] at H4
  clear hmk
  have Hm := Lib.hid (marksB_length 9 0 n)
  go_wp2_with fail
  refine (copyBytes_any _ n c1 (marksB 9 0 n) _ (H4.pre 0 rfl Hm.out) (by omega)).mono ?_
  rintro e w10 ⟨v10, rfl, ho10, hb10⟩
  have H5 := H4.push ho10 hb10
  obtain ⟨A10, n10, c10, rfl, hn10, -⟩ := ho10.shape
  have hl10 : n10 ≤ 140737488351232 := by rw [hn10.out, Hm.out]; omega
  clear H4 ho10 hb10
  go_wp2_with fail
  refine (takes_any _ n c1 A10 n10 c10 (marksB 9 0 n) a _ (H5.pre 0 rfl Hm.out) (H5.rd 2 rfl) (by omega) (by omega) ha1 ha2).mono ?_
  rintro e w11 ⟨rfl, rfl⟩
  go_wp2
  go_ret
  exact ⟨rfl, H5.low⟩
end Go.Proofs.Ythocpfhajnnplaa
