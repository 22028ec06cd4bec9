/- The examples of the first chapter: awake, and the law WordKnown, walked. -/
import Derived.Test.YthocpfhajnnplaaRows
import Derived.Test.YthocpfhajnnplaaLib
import Derived.Test.YthocpfhajnnplaaKitB
import Derived.Test.YthocpfhajnnplaaHeap
import Derived.Test.YthocpfhajnnplaaWordXor
import Derived.Test.YthocpfhajnnplaaRot
import Derived.Test.YthocpfhajnnplaaTurn
import Derived.Test.YthocpfhajnnplaaLay
import Derived.Test.YthocpfhajnnplaaTake
import Derived.Test.YthocpfhajnnplaaTakeLE
import Derived.Test.YthocpfhajnnplaaWLay
import Derived.Test.YthocpfhajnnplaaWLayLE
namespace Go.Proofs.Ythocpfhajnnplaa
open Go.RowKit
set_option linter.unusedVariables false

theorem St.lit {w0 w : World} {ps : List (Value × List UInt8)} (h : St w0 w ps) (cs : Array Value) (l : List UInt8) (n : Nat) (hc : cs = (l.map vb).toArray) (hn : l.length = n) (hb : n ≤ 1000) :
    St w0 (w.alloc (.cells cs 5)) (ps ++ [(.slice (some ⟨w.heap.size, 0, none⟩) n n, l)]) := by
  subst hn hc
  refine h.push ?_ ((Below.refl _ _).alloc (Nat.le_refl _) _)
  have := World.ownsRow_lit (base := w.heap.size) (e := 5) (size := 1) w (l.map vb).toArray l.length (Nat.le_refl _) (by simp only [maxLen]; omega) (by simp)
  simpa [OwnB] using this

theorem turn_u32_lit {a : Int} (n r : Int) (w : World) (x : Nat) (ha : a = (x : Int)) (hx : x < 2 ^ 32) (hr : ((rotN 32 x (n % 32).toNat : Nat) : Int) = r) :
    Calls Try.prog 17 #[.int .u32 a, .int .i64 n] w fun e w' => e = .returned (.int .u32 r) ∧ Below w.heap.size w w' := by
  subst ha; exact (turn_u32 x n w hx).mono fun _ _ h => ⟨by rw [h.1, hr], by obtain ⟨q, rfl⟩ := h.2; exact bdrewN (Below.refl _ _) q⟩
theorem turn_u64_lit {a : Int} (n r : Int) (w : World) (x : Nat) (ha : a = (x : Int)) (hx : x < 2 ^ 64) (hr : ((rotN 64 x (n % 64).toNat : Nat) : Int) = r) :
    Calls Try.prog 20 #[.int .u64 a, .int .i64 n] w fun e w' => e = .returned (.int .u64 r) ∧ Below w.heap.size w w' := by
  subst ha; exact (turn_u64 x n w hx).mono fun _ _ h => ⟨by rw [h.1, hr], by obtain ⟨q, rfl⟩ := h.2; exact bdrewN (Below.refl _ _) q⟩
theorem take_u32_lit (A : Option Addr) (n c : Nat) (l : List UInt8) (a r : Int) (w : World) (h : Rd w 1 A n (l.map vb)) (hn : n ≤ 140737488355328) (hr : ((beTo l a 4 : Nat) : Int) = r) :
    Calls Try.prog 36 #[.slice A n c, .int .i64 a] w fun e w' => e = .returned (.int .u32 r) ∧ w = w' := (take_u32 A n c l a w h hn).mono fun _ _ h => ⟨by rw [h.1, hr], h.2⟩
theorem take_u64_lit (A : Option Addr) (n c : Nat) (l : List UInt8) (a r : Int) (w : World) (h : Rd w 1 A n (l.map vb)) (hn : n ≤ 140737488355328) (hr : ((beTo l a 8 : Nat) : Int) = r) :
    Calls Try.prog 34 #[.slice A n c, .int .i64 a] w fun e w' => e = .returned (.int .u64 r) ∧ w = w' := (take_u64 A n c l a w h hn).mono fun _ _ h => ⟨by rw [h.1, hr], h.2⟩
theorem takeLE_u32_lit (A : Option Addr) (n c : Nat) (l : List UInt8) (a r : Int) (w : World) (h : Rd w 1 A n (l.map vb)) (hn : n ≤ 140737488355328) (hr : ((leTo l a 4 : Nat) : Int) = r) :
    Calls Try.prog 37 #[.slice A n c, .int .i64 a] w fun e w' => e = .returned (.int .u32 r) ∧ w = w' := (takeLE_u32 A n c l a w h hn).mono fun _ _ h => ⟨by rw [h.1, hr], h.2⟩
theorem takeLE_u64_lit (A : Option Addr) (n c : Nat) (l : List UInt8) (a r : Int) (w : World) (h : Rd w 1 A n (l.map vb)) (hn : n ≤ 140737488355328) (hr : ((leTo l a 8 : Nat) : Int) = r) :
    Calls Try.prog 35 #[.slice A n c, .int .i64 a] w fun e w' => e = .returned (.int .u64 r) ∧ w = w' := (takeLE_u64 A n c l a w h hn).mono fun _ _ h => ⟨by rw [h.1, hr], h.2⟩
theorem lay_u32_lit {a : Int} (x : Nat) (l : List UInt8) (w : World) (ha : a = (x : Int)) (hx : x < 2 ^ 32) (hl : beL 4 x = l) :
    Calls Try.prog 22 #[.int .u32 a] w fun e w' => ∃ v, e = .returned v ∧ OwnB w' w.heap.size v l ∧ Below w.heap.size w w' := by
  subst ha hl; exact lay_u32 x w hx
theorem layLE_u32_lit {a : Int} (x : Nat) (l : List UInt8) (w : World) (ha : a = (x : Int)) (hx : x < 2 ^ 32) (hl : leL 4 x = l) :
    Calls Try.prog 24 #[.int .u32 a] w fun e w' => ∃ v, e = .returned v ∧ OwnB w' w.heap.size v l ∧ Below w.heap.size w w' := by
  subst ha hl; exact layLE_u32 x w hx

set_option maxRecDepth 100000 in
set_option maxHeartbeats 1000000 in
theorem awake_any (w : World) : Calls Try.prog 33 #[] w fun e w' => e = .returned (.bool true) ∧ Below w.heap.size w w' := by
  have H0 := St.start w
  go_enter Try.func33, Try.ntmps33
  go_wp2_with fail
  have H1 := H0.lit #[.int .u8 1, .int .u8 2, .int .u8 3, .int .u8 4, .int .u8 5] [1, 2, 3, 4, 5] 5 rfl rfl (by omega)
  simp only [List.nil_append] at H1
  refine (turn_u32_lit 1 3 _ 2147483649 (by rfl) (by decide) (by decide)).mono ?_
  rintro e w1 ⟨rfl, hb1⟩
  have H2 := H1.call hb1
  clear H0 H1 hb1
  go_wp2_with fail
  refine (turn_u64_lit (-1) 9223372036854775808 _ 1 (by rfl) (by decide) (by decide)).mono ?_
  rintro e w2 ⟨rfl, hb1⟩
  have H3 := H2.call hb1
  clear H2 hb1
  go_wp2_with fail
  refine (take_u32_lit _ 5 5 [1, 2, 3, 4, 5] 1 33752069 _ (H3.rd 0 rfl) (by omega) (by decide)).mono ?_
  rintro e w3 ⟨rfl, rfl⟩
  go_wp2_with fail
  refine (take_u32_lit _ 5 5 [1, 2, 3, 4, 5] (-2) 258 _ (H3.rd 0 rfl) (by omega) (by decide)).mono ?_
  rintro e w3 ⟨rfl, rfl⟩
  go_wp2_with fail
  refine (takeLE_u32_lit _ 5 5 [1, 2, 3, 4, 5] 1 84148994 _ (H3.rd 0 rfl) (by omega) (by decide)).mono ?_
  rintro e w3 ⟨rfl, rfl⟩
  go_wp2_with fail
  refine (lay_u32_lit 16909060 [1, 2, 3, 4] _ (by rfl) (by decide) (by decide)).mono ?_
  rintro e w4 ⟨v4, rfl, ho, hb⟩
  have H4 := H3.push ho hb
  simp only [List.nil_append, List.cons_append] at H4
  obtain ⟨A4, n4, c4, rfl, hn, -⟩ := ho.shape
  obtain rfl : n4 = 4 := hn.out
  clear H3 ho hb hn
  have H5 := H4.lit #[.int .u8 1, .int .u8 2, .int .u8 3, .int .u8 4] [1, 2, 3, 4] 4 rfl rfl (by omega)
  simp only [List.nil_append, List.cons_append] at H5
  clear H4
  go_wp2_with fail
  refine (sameBytes_yes _ _ 4 4 c4 4 _ _ _ (H5.rd 1 rfl) (H5.rd 2 rfl) (by omega) (by omega) rfl).mono ?_
  rintro e w5 ⟨rfl, hb⟩
  have H6 := H5.call hb
  clear H5 hb
  have H7 := H6.lit #[.int .u8 1, .int .u8 2, .int .u8 3] [1, 2, 3] 3 rfl rfl (by omega)
  have H8 := H7.lit #[.int .u8 255, .int .u8 1] [255, 1] 2 rfl rfl (by omega)
  simp only [List.nil_append, List.cons_append, World.size_alloc] at H8
  clear H6 H7
  go_wp2_with fail
  refine (xor_any _ _ 3 2 3 2 [1, 2, 3] [255, 1] _ (H8.rd 3 rfl) (H8.rd 4 rfl) (by omega) (by omega)).mono ?_
  rintro e w6 ⟨v6, rfl, ho, hb⟩
  have H9 := H8.push ho hb
  simp only [List.nil_append, List.cons_append] at H9
  obtain ⟨A6, n6, c6, rfl, hn, -⟩ := ho.shape
  obtain rfl : n6 = 2 := hn.out
  clear H8 ho hb hn
  have H10 := H9.lit #[.int .u8 254, .int .u8 3] [254, 3] 2 rfl rfl (by omega)
  simp only [List.nil_append, List.cons_append] at H10
  clear H9
  go_wp2_with fail
  refine (sameBytes_yes _ _ 2 2 c6 2 _ _ _ (H10.rd 5 rfl) (H10.rd 6 rfl) (by omega) (by omega) (by decide)).mono ?_
  rintro e w7 ⟨rfl, hb⟩
  have H11 := H10.call hb
  go_wp2
  go_ret
  exact ⟨rfl, H11.low⟩

set_option maxRecDepth 100000 in
set_option maxHeartbeats 1000000 in
theorem wordKnown_walk (w : World) : Calls Try.prog 8 #[] w fun e w' => e = .returned (.bool true) ∧ Below w.heap.size w w' := by
  have H0 := St.start w
  go_enter Try.func8, Try.ntmps8
  go_wp2_with fail
  have H1 := H0.lit #[.int .u8 1, .int .u8 2, .int .u8 3, .int .u8 4, .int .u8 5] [1, 2, 3, 4, 5] 5 rfl rfl (by omega)
  simp only [List.nil_append] at H1
  refine (turn_u32_lit 33 3 _ 2147483649 (by rfl) (by decide) (by decide)).mono ?_
  rintro e w1 ⟨rfl, hb1⟩
  have H2 := H1.call hb1
  clear H0 H1 hb1
  go_wp2_with fail
  refine (turn_u32_lit (-1) 3221225472 _ 2147483649 (by rfl) (by decide) (by decide)).mono ?_
  rintro e w2 ⟨rfl, hb1⟩
  have H3 := H2.call hb1
  clear H2 hb1
  go_wp2_with fail
  refine (turn_u32_lit 32 2147483649 _ 2147483649 (by rfl) (by decide) (by decide)).mono ?_
  rintro e w3 ⟨rfl, hb1⟩
  have H4 := H3.call hb1
  clear H3 hb1
  go_wp2_with fail
  refine (turn_u64_lit 63 9223372036854775808 _ 1 (by rfl) (by decide) (by decide)).mono ?_
  rintro e w4 ⟨rfl, hb1⟩
  have H5 := H4.call hb1
  clear H4 hb1
  go_wp2_with fail
  refine (turn_u64_lit (-9223372036854775808) 1 _ 1 (by rfl) (by decide) (by decide)).mono ?_
  rintro e w5 ⟨rfl, hb1⟩
  have H6 := H5.call hb1
  clear H5 hb1
  go_wp2_with fail
  refine (take_u32_lit _ 5 5 [1, 2, 3, 4, 5] 3 67436544 _ (H6.rd 0 rfl) (by omega) (by decide)).mono ?_
  rintro e w6 ⟨rfl, rfl⟩
  go_wp2_with fail
  refine (take_u32_lit _ 5 5 [1, 2, 3, 4, 5] 5 0 _ (H6.rd 0 rfl) (by omega) (by decide)).mono ?_
  rintro e w6 ⟨rfl, rfl⟩
  go_wp2_with fail
  refine (take_u64_lit _ 5 5 [1, 2, 3, 4, 5] 0 72623859789987840 _ (H6.rd 0 rfl) (by omega) (by decide)).mono ?_
  rintro e w6 ⟨rfl, rfl⟩
  go_wp2_with fail
  refine (takeLE_u32_lit _ 5 5 [1, 2, 3, 4, 5] 3 1284 _ (H6.rd 0 rfl) (by omega) (by decide)).mono ?_
  rintro e w6 ⟨rfl, rfl⟩
  go_wp2_with fail
  refine (take_u64_lit _ 5 5 [1, 2, 3, 4, 5] 9223372036854775807 0 _ (H6.rd 0 rfl) (by omega) (by decide)).mono ?_
  rintro e w6 ⟨rfl, rfl⟩
  go_wp2_with fail
  refine (take_u64_lit _ 5 5 [1, 2, 3, 4, 5] (-9223372036854775808) 0 _ (H6.rd 0 rfl) (by omega) (by decide)).mono ?_
  rintro e w6 ⟨rfl, rfl⟩
  go_wp2_with fail
  refine (takeLE_u64_lit _ 5 5 [1, 2, 3, 4, 5] 9223372036854775805 0 _ (H6.rd 0 rfl) (by omega) (by decide)).mono ?_
  rintro e w6 ⟨rfl, rfl⟩
  go_wp2_with fail
  refine (layLE_u32_lit 16909060 [4, 3, 2, 1] _ (by rfl) (by decide) (by decide)).mono ?_
  rintro e w7 ⟨v7, rfl, ho, hb⟩
  have H7 := H6.push ho hb
  simp only [List.nil_append, List.cons_append] at H7
  obtain ⟨A7, n7, c7, rfl, hn, -⟩ := ho.shape
  obtain rfl : n7 = 4 := hn.out
  clear H6 ho hb hn
  have H8 := H7.lit #[.int .u8 4, .int .u8 3, .int .u8 2, .int .u8 1] [4, 3, 2, 1] 4 rfl rfl (by omega)
  simp only [List.nil_append, List.cons_append] at H8
  clear H7
  go_wp2_with fail
  refine (sameBytes_yes _ _ 4 4 c7 4 _ _ _ (H8.rd 1 rfl) (H8.rd 2 rfl) (by omega) (by omega) rfl).mono ?_
  rintro e w8 ⟨rfl, hb⟩
  have H9 := H8.call hb
  clear H8 hb
  have H10 := H9.lit #[.int .u8 7] [7] 1 rfl rfl (by omega)
  simp only [List.nil_append, List.cons_append] at H10
  clear H9
  go_wp2_with fail
  refine (xor_any _ _ 0 1 0 1 [] [7] _ Rd.none_ (H10.rd 3 rfl) (by omega) (by omega)).mono ?_
  rintro e w9 ⟨v9, rfl, ho, hb⟩
  have H11 := H10.call hb
  obtain ⟨A9, n9, c9, rfl, hn, -⟩ := ho.shape
  obtain rfl : n9 = 0 := hn.out
  clear H10 ho hb hn
  go_wp2_with fail
  refine (awake_any _).mono ?_
  rintro e w10 ⟨rfl, hb⟩
  have H12 := H11.call hb
  go_wp2
  go_ret
  exact ⟨rfl, H12.low⟩
end Go.Proofs.Ythocpfhajnnplaa
