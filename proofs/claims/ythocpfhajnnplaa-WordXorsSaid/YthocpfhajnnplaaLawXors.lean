/- The law WordXors, walked. -/
import Derived.Test.YthocpfhajnnplaaRows
import Derived.Test.YthocpfhajnnplaaLib
import Derived.Test.YthocpfhajnnplaaKitB
import Derived.Test.YthocpfhajnnplaaHeap
import Derived.Test.YthocpfhajnnplaaApart
import Derived.Test.YthocpfhajnnplaaWordXor
namespace Go.Proofs.Ythocpfhajnnplaa
open Go.RowKit

set_option maxRecDepth 100000 in
set_option maxHeartbeats 2000000 in
theorem wordXors_walk (A : Option Addr) (n c : Nat) (xs : List UInt8) (B : Option Addr) (m d : Nat) (ys : List UInt8) (w : World) (ha : Rd w 1 A n (xs.map vb)) (hn : n ≤ 140737488351232) (hb : Rd w 1 B m (ys.map vb)) (hm : m ≤ 140737488351232) :
    Calls Try.prog 3 #[.slice A n c, .slice B m d] w fun e w' => e = .returned (.bool true) ∧ Below w.heap.size w w' := by
  have hlx : xs.length = n := by simpa using ha.1
  have hly : ys.length = m := by simpa using hb.1
  have Hx := Lib.hid hlx
  have Hy := Lib.hid hly
  clear hlx hly
  go_enter Try.func3, Try.ntmps3
  have H0 := St.start w
  go_wp2_with fail
  refine (lentBytes_any A n c xs _ ha (by omega)).mono ?_
  rintro e w1 ⟨v1, rfl, ho1, hb1⟩
  have H1 := H0.push ho1 hb1
  obtain ⟨g1, c1, rfl, hc1, -, -⟩ := ho1.lent Hx.out
  have hop1 := (H1.get 0 rfl).front
  rw [Hx.out] at hop1
  clear H0 ho1 hb1
  go_wp2_with fail
  refine (lentBytes_any B m d ys _ (H1.arg hb) (by omega)).mono ?_
  rintro e w2 ⟨v2, rfl, ho2, hb2⟩
  have H2 := H1.push ho2 hb2
  obtain ⟨g2, c2, rfl, hc2, -, -⟩ := ho2.lent Hy.out
  clear H1 ho2 hb2 hop1
  have hc1' : n ≤ c1 := by omega
  have hc2' : m ≤ c2 := by omega
  go_wp2_with fail
  refine (refXor_any A B n m c d xs ys _ (H2.arg ha) (H2.arg hb) (by omega) (by omega)).mono ?_
  rintro e w3 ⟨v3, rfl, ho3, hb3⟩
  have H3 := H2.push ho3 hb3
  obtain ⟨A3, n3, c3, rfl, hn3, -⟩ := ho3.shape
  clear H2 ho3 hb3
  go_wp2_with fail
  have Hx3 := Lib.hid (xorL_length xs ys)
  have hl3 : n3 ≤ 140737488351232 := by rw [hn3.out, Hx3.out, Hx.out]; omega
  refine (xor_any _ _ n m c1 c2 xs ys w3 (H3.pre 0 rfl Hx.out) (H3.pre 1 rfl Hy.out) (by omega) (by omega)).mono ?_
  rintro e w4 ⟨v4, rfl, ho4, hb4⟩
  have H4 := H3.push ho4 hb4
  obtain ⟨A4, n4, c4, rfl, hn4, -⟩ := ho4.shape
  have hl4 : n4 ≤ 140737488351232 := by rw [hn4.out, Hx3.out, Hx.out]; omega
  clear H3 ho4 hb4
  go_wp2_with fail
  refine (xor_any _ _ n m c1 c2 xs ys w4 (H4.pre 0 rfl Hx.out) (H4.pre 1 rfl Hy.out) (by omega) (by omega)).mono ?_
  rintro e w5 ⟨v5, rfl, ho5, hb5⟩
  have H5 := H4.push ho5 hb5
  obtain ⟨A5, n5, c5, rfl, hn5, -⟩ := ho5.shape
  have hl5 : n5 ≤ 140737488351232 := by rw [hn5.out, Hx3.out, Hx.out]; omega
  clear H4 ho5 hb5
  go_wp2_with fail
  refine (sameBytes_yes _ _ n4 n3 c4 c3 _ _ w5 (H5.rd 3 rfl) (H5.rd 2 rfl) (by omega) (by omega) rfl).mono ?_
  rintro e w5' ⟨rfl, hb5⟩
  have H6 := H5.call hb5
  clear H5
  go_wp2_with fail
  refine (sameBytes_yes _ _ n5 n3 c5 c3 _ _ _ (H6.rd 4 rfl) (H6.rd 2 rfl) (by omega) (by omega) rfl).mono ?_
  rintro e w5'' ⟨rfl, hb5'⟩
  have H7 := H6.call hb5'
  clear H6
  go_wp2_with fail
  refine (keptBytes_yes _ _ (n + 6) n c1 c _ _ _ (H7.rd 0 rfl) (H7.arg ha) (by omega) (by omega) rfl).mono ?_
  rintro e w6 ⟨rfl, hb6⟩
  have H8 := H7.call hb6
  clear H7
  go_wp2_with fail
  refine (keptBytes_yes _ _ (m + 6) m c2 d _ _ _ (H8.rd 1 rfl) (H8.arg hb) (by omega) (by omega) rfl).mono ?_
  rintro e w7 ⟨rfl, hb7⟩
  have H9 := H8.call hb7
  clear H8
  go_wp2_with fail
  refine (overBytes_any _ g1 c1 (n + 6) _ _ (H9.get 0 rfl) (show n + 6 = _ by rw [List.length_append, Hx.out, marksB_length]) (by omega)).mono ?_
  rintro e w8 ⟨rfl, ho8, hg8⟩
  have H10 := H9.overs 0 rfl ho8 hg8
  clear H9
  have hxs : n = (marksB 9 0 n).length := by rw [marksB_length]
  have Hm := Lib.hid hxs
  clear hxs
  have hmk : marksB 9 0 (n + 6) = marksB 9 0 n ++ marksB 9 n 6 := by simp [marksB, List.range_add]
  rw [hmk] at H10
  clear hmk
  go_wp2_with fail
  refine (xor_any _ _ n m c1 c2 (marksB 9 0 n) ys w8 (H10.pre 0 rfl Hm.out.symm) (H10.pre 1 rfl Hy.out) (by omega) (by omega)).mono ?_
  rintro e w9 ⟨v9, rfl, ho9, hb9⟩
  have H11 := H10.push ho9 hb9
  obtain ⟨A9, n9, c9, rfl, hn9, -⟩ := ho9.shape
  have Hx9 := Lib.hid (xorL_length (marksB 9 0 n) ys)
  have hl9 : n9 ≤ 140737488351232 := by rw [hn9.out, Hx9.out, marksB_length]; omega
  clear H10 ho9 hb9
  go_wp2_with fail
  refine (copyBytes_any _ n c1 (marksB 9 0 n) w9 (H11.pre 0 rfl Hm.out.symm) (by omega)).mono ?_
  rintro e w10 ⟨v10, rfl, ho10, hb10⟩
  have H12 := H11.push ho10 hb10
  obtain ⟨A10, n10, c10, rfl, hn10, -⟩ := ho10.shape
  have hl10 : n10 ≤ 140737488351232 := by rw [hn10.out, marksB_length]; omega
  clear H11 ho10 hb10
  go_wp2_with fail
  refine (refXor_any _ B n10 m c10 d (marksB 9 0 n) ys w10 (H12.rd 6 rfl) (H12.arg hb) (by omega) (by omega)).mono ?_
  rintro e w11 ⟨v11, rfl, ho11, hb11⟩
  have H13 := H12.push ho11 hb11
  obtain ⟨A11, n11, c11, rfl, hn11, -⟩ := ho11.shape
  have hl11 : n11 ≤ 140737488351232 := by rw [hn11.out, Hx9.out, marksB_length]; omega
  clear H12 ho11 hb11
  go_wp2_with fail
  refine (sameBytes_yes _ _ n9 n11 c9 c11 _ _ _ (H13.rd 5 rfl) (H13.rd 7 rfl) (by omega) (by omega) rfl).mono ?_
  rintro e w12 ⟨rfl, hb12⟩
  have H14 := H13.call hb12
  clear H13
  go_wp2_with fail
  refine (sameBytes_yes _ _ n4 n3 c4 c3 _ _ _ (H14.rd 3 rfl) (H14.rd 2 rfl) (by omega) (by omega) rfl).mono ?_
  rintro e w13 ⟨rfl, hb13⟩
  have H15 := H14.call hb13
  clear H14
  go_wp2_with fail
  refine (apartBytes_lit H15 [(.slice A4 n4 c4, xorL xs ys), (.slice A5 n5 c5, xorL xs ys), (.slice A9 n9 c9, xorL (marksB 9 0 n) ys)] [3, 4, 5] (by decide) rfl 3 rfl (by omega) ?_ _ rfl).mono ?_
  · intro p hp
    simp only [List.mem_cons, List.not_mem_nil, or_false] at hp
    rcases hp with rfl | rfl | rfl <;> simp only [Hx3.out, Hx9.out, Hx.out, marksB_length] <;> omega
  rintro e w14 ⟨rfl, hb14⟩
  go_wp2
  go_ret
  exact ⟨rfl, hb14⟩
end Go.Proofs.Ythocpfhajnnplaa
