/- Whether two operations are the same, in op and in the document. -/
import Derived.Test.YtgfhnbjpdhdhgaaKitO
import Derived.Laws.BytesArg
import Derived.Shelf.Bytes.SlSmallAll
namespace Go.Proofs.Ytgfhnbjpdhdhgaa
open Go.RowKit
set_option linter.unusedVariables false

/-- bytes as a string -/
def strB (l : List UInt8) : ByteArray := ⟨l.toArray⟩
theorem conv_b {w : World} {A : Option Addr} {n c : Nat} {l : List UInt8} (h : Rd w 1 A n (l.map vb)) : (convert 25 9 (.slice A n c)).run Try.prog w = .ok (.string (strB l)) w := by
  have hl : l.length = n := by simpa using h.1
  by_cases h0 : n = 0
  · subst h0
    obtain rfl : l = [] := List.eq_nil_of_length_eq_zero hl
    exact Go.Proofs.run_convert_bytes_zero w 25 5 Try.underlying25 Try.underlying5 A c 9 Try.underlying9
  · obtain ⟨b, o, rfl, -, hc⟩ := h.flat (by omega) (by omega)
    have h1 := run_convert_bytes_arg (P := Try.prog) w 25 5 Try.underlying25 Try.underlying5 b o n c (l.map fun b => (b.toNat : Int)) (by simpa using hl) (fun i hi => by
      have := hc i (vb (l.getD i 0)) (by rw [List.getElem?_map, List.getD_eq_getElem?_getD, List.getElem?_eq_getElem (by omega)]; rfl)
      rw [this]
      simp [List.getD_eq_getElem?_getD, List.getElem?_map, List.getElem?_eq_getElem (show i < l.length by omega)]) 9 Try.underlying9
    rw [h1]
    unfold strOfNums strB
    rw [List.map_map]
    congr 4
    conv => rhs; rw [← List.map_id l]
    refine List.map_congr_left fun x _ => ?_
    simp
theorem str_eq (xs ys : List UInt8) : ((strB xs).toList == (strB ys).toList) = decide (xs = ys) := by
  unfold strB
  rw [ByteArray.toList_mk, ByteArray.toList_mk]
  by_cases h : xs = ys
  · subst h; simp
  · rw [decide_eq_false h]; simpa using h
theorem u8_beq (x y : UInt8) : ((x.toNat : Int) == (y.toNat : Int)) = decide (x = y) := by
  by_cases h : x = y
  · subst h; simp
  · rw [decide_eq_false h]
    simp only [beq_eq_false_iff_ne, ne_eq]
    exact fun e => h (UInt8.toNat_inj.1 (by omega))
theorem i_beq (x y : Int) : (x == y) = decide (x = y) := by
  by_cases h : x = y
  · subst h; simp
  · rw [decide_eq_false h]; simpa using h
theorem i_bne (x y : Int) : (x != y) = !decide (x = y) := by rw [bne, i_beq]
theorem u8_bne (x y : UInt8) : ((x.toNat : Int) != (y.toNat : Int)) = !decide (x = y) := by rw [bne, u8_beq]

set_option maxHeartbeats 400000 in
theorem refSameL_any (A B : Option Addr) (n m c d : Nat) (xs ys : List UInt8) (w : World) (ha : Rd w 1 A n (xs.map vb)) (hb : Rd w 1 B m (ys.map vb)) (hn : n ≤ 9223372036854775807) (hm : m ≤ 9223372036854775807) :
    Calls Try.prog 63 #[.slice A n c, .slice B m d] w fun e w' => e = .returned (.bool (decide (xs = ys))) ∧ ∃ k, w' = w.drewN k := by
  have hlx : xs.length = n := by simpa using ha.1
  have hly : ys.length = m := by simpa using hb.1
  have Hx := Lib.hid hlx
  have Hy := Lib.hid hly
  clear hlx hly
  by_cases hnm : n = m
  · subst hnm
    have h0 : ((n : Int) != n) = false := by simp
    go_enter Try.func63, Try.ntmps63
    go_wp2
    go_loopw [5] (fun i wr => ∃ k q : Nat, k ≤ n ∧ i = .int .i64 k ∧ wr = w.drewN q ∧ Hid (xs.take k = ys.take k)) (fun i _ => n - (intOf i).toNat)
    case atStart => exact ⟨0, 0, Nat.zero_le _, rfl, rfl, rfl⟩
    case round =>
      obtain ⟨k, q, hk, rfl, rfl, hpre⟩ := hrel
      by_cases hlt : k < n
      · obtain ⟨p, x, rfl, hx, hcx⟩ := ha.byteAt hlt
        obtain ⟨p', y, rfl, hy, hcy⟩ := hb.byteAt hlt
        have HX := Lib.hid hx
        have HY := Lib.hid hy
        clear hx hy
        go_wp2
        go_quiet (fail)
        by_cases hxy : x = y
        · subst hxy
          have h2 : ((x.toNat : Int) != (x.toNat : Int)) = false := by simp
          go_wp2
          go_roundw
          case rel => exact ⟨k + 1, q + nq, by omega, by go_num, by simp, take_succ_eq hpre.out HX.out HY.out⟩
          case measure => simp [intOf]; omega
        · have h2 : ((x.toNat : Int) != (y.toNat : Int)) = true := by
            simp only [bne_iff_ne, ne_eq]
            intro h; exact hxy (UInt8.toNat_inj.1 (by omega))
          go_wp2
          go_ret
          refine ⟨ret_bool ?_, q + nq, by simp⟩
          symm; simp only [decide_eq_false_iff_not]
          rintro rfl
          have a := HX.out
          have b := HY.out
          rw [a] at b
          exact hxy (Option.some.inj b)
      · go_wp2
        go_ret
        refine ⟨ret_bool ?_, q, rfl⟩
        symm; simp only [decide_eq_true_eq]
        have h := hpre.out
        have a := Hx.out
        have b := Hy.out
        rwa [List.take_of_length_le (by omega), List.take_of_length_le (by omega)] at h
  · have h0 : ((n : Int) != m) = true := by simp only [bne_iff_ne, ne_eq]; omega
    go_enter Try.func63, Try.ntmps63
    go_wp2
    go_ret
    refine ⟨ret_bool ?_, 0, rfl⟩
    symm; simp only [decide_eq_false_iff_not]
    rintro rfl
    exact hnm (Hx.out.symm.trans Hy.out)

set_option maxHeartbeats 2000000 in
theorem refSame_s (k k' : UInt8) (h h' : Int) (a a' : UInt8) (cn cn' ou ou' : Int) (A B A' B' : Option Addr) (n m c d n' m' c' d' : Nat) (xs ys xs' ys' : List UInt8) (w : World) (hA : Rd w 1 A n (xs.map vb)) (hB : Rd w 1 B m (ys.map vb)) (hA' : Rd w 1 A' n' (xs'.map vb)) (hB' : Rd w 1 B' m' (ys'.map vb))
    (hn : n ≤ 9223372036854775807) (hm : m ≤ 9223372036854775807) (hn' : n' ≤ 9223372036854775807) (hm' : m' ≤ 9223372036854775807) :
    Calls Try.prog 40 #[opV k h a cn ou (.slice A n c) (.slice B m d), opV k' h' a' cn' ou' (.slice A' n' c') (.slice B' m' d')] w fun e w' => e = .returned (.bool (decide (k = k' ∧ h = h' ∧ a = a' ∧ cn = cn' ∧ ou = ou' ∧ xs = xs' ∧ ys = ys'))) ∧ Below w.heap.size w w' := by
  have e0 := u8_beq k k'
  by_cases c0 : k = k'
  case neg =>
    rw [decide_eq_false c0] at e0
    have C := Lib.hid c0
    clear c0
    try simp only [Bool.not_false] at e0
    go_enter Try.func40, Try.ntmps40
    go_wp2
    go_ret
    exact ⟨ret_bool (by symm; rw [decide_eq_false_iff_not]; exact fun h => C.out h.1), ((Below.refl _ _).alloc (Nat.le_refl _) _).alloc (by simp) _⟩
  rw [decide_eq_true c0] at e0
  subst c0
  try simp only [Bool.not_true] at e0
  have e1 := i_beq h h'
  by_cases c1 : h = h'
  case neg =>
    rw [decide_eq_false c1] at e1
    have C := Lib.hid c1
    clear c1
    try simp only [Bool.not_false] at e1
    go_enter Try.func40, Try.ntmps40
    go_wp2
    go_ret
    exact ⟨ret_bool (by symm; rw [decide_eq_false_iff_not]; exact fun h => C.out h.2.1), ((Below.refl _ _).alloc (Nat.le_refl _) _).alloc (by simp) _⟩
  rw [decide_eq_true c1] at e1
  subst c1
  try simp only [Bool.not_true] at e1
  have e2 := u8_beq a a'
  by_cases c2 : a = a'
  case neg =>
    rw [decide_eq_false c2] at e2
    have C := Lib.hid c2
    clear c2
    try simp only [Bool.not_false] at e2
    go_enter Try.func40, Try.ntmps40
    go_wp2
    go_ret
    exact ⟨ret_bool (by symm; rw [decide_eq_false_iff_not]; exact fun h => C.out h.2.2.1), ((Below.refl _ _).alloc (Nat.le_refl _) _).alloc (by simp) _⟩
  rw [decide_eq_true c2] at e2
  subst c2
  try simp only [Bool.not_true] at e2
  have e3 := i_beq cn cn'
  by_cases c3 : cn = cn'
  case neg =>
    rw [decide_eq_false c3] at e3
    have C := Lib.hid c3
    clear c3
    try simp only [Bool.not_false] at e3
    go_enter Try.func40, Try.ntmps40
    go_wp2
    go_ret
    exact ⟨ret_bool (by symm; rw [decide_eq_false_iff_not]; exact fun h => C.out h.2.2.2.1), ((Below.refl _ _).alloc (Nat.le_refl _) _).alloc (by simp) _⟩
  rw [decide_eq_true c3] at e3
  subst c3
  try simp only [Bool.not_true] at e3
  have e4 := i_beq ou ou'
  by_cases c4 : ou = ou'
  case neg =>
    rw [decide_eq_false c4] at e4
    have C := Lib.hid c4
    clear c4
    try simp only [Bool.not_false] at e4
    go_enter Try.func40, Try.ntmps40
    go_wp2
    go_ret
    exact ⟨ret_bool (by symm; rw [decide_eq_false_iff_not]; exact fun h => C.out h.2.2.2.2.1), ((Below.refl _ _).alloc (Nat.le_refl _) _).alloc (by simp) _⟩
  rw [decide_eq_true c4] at e4
  subst c4
  try simp only [Bool.not_true] at e4
  have H0 := St.start_lay w []
  go_enter Try.func40, Try.ntmps40
  go_wp2_with fail
  refine absorb_calls (H0.allocAt 0 rfl w.heap.size rfl _ _ |>.push_mk rfl |>.allocAt 1 rfl (w.heap.size + 1) (by simp) _ _ |>.push_mk rfl) ?_
  intro w1 H
  generalize w.heap.size + 1 = gb at H ⊢
  generalize hga : w.heap.size = ga at H ⊢
  clear hga H0 e0 e1 e2 e3 e4
  refine (refSameL_any A A' n n' c c' xs xs' w1 (H.arg0 hA) (H.arg0 hA') hn hn').mono ?_
  rintro e w2 ⟨rfl, q, rfl⟩
  replace H := H.drewN q
  generalize w1.drewN q = w2 at H ⊢
  have c0 := H.cell 0 rfl (o := 6) rfl
  have c1 := H.cell 1 rfl (o := 6) rfl
  by_cases hx : xs = xs'
  · subst hx
    rw [decide_eq_true rfl]
    go_wp2_with fail
    refine (refSameL_any B B' m m' d d' ys ys' w2 (H.arg0 hB) (H.arg0 hB') hm hm').mono ?_
    rintro e w3 ⟨rfl, q', rfl⟩
    replace H := H.drewN q'
    go_wp2_with fail
    go_ret
    exact ⟨ret_bool (by simp), H.below⟩
  · rw [decide_eq_false hx]
    have C := Lib.hid hx
    clear hx
    go_wp2_with fail
    go_ret
    exact ⟨ret_bool (by symm; rw [decide_eq_false_iff_not]; exact fun h => C.out h.2.2.2.2.2.1), H.below⟩

set_option maxHeartbeats 2000000 in
theorem opSame_s (k k' : UInt8) (h h' : Int) (a a' : UInt8) (cn cn' ou ou' : Int) (A B A' B' : Option Addr) (n m c d n' m' c' d' : Nat) (xs ys xs' ys' : List UInt8) (w : World) (hA : Rd w 1 A n (xs.map vb)) (hB : Rd w 1 B m (ys.map vb)) (hA' : Rd w 1 A' n' (xs'.map vb)) (hB' : Rd w 1 B' m' (ys'.map vb))
    (hn : n ≤ 9223372036854775807) (hm : m ≤ 9223372036854775807) (hn' : n' ≤ 9223372036854775807) (hm' : m' ≤ 9223372036854775807) :
    Calls Try.prog 39 #[opV k h a cn ou (.slice A n c) (.slice B m d), opV k' h' a' cn' ou' (.slice A' n' c') (.slice B' m' d')] w fun e w' => e = .returned (.bool (decide (k = k' ∧ h = h' ∧ a = a' ∧ cn = cn' ∧ ou = ou' ∧ xs = xs' ∧ ys = ys'))) ∧ Below w.heap.size w w' := by
  have e0 := u8_bne k k'
  by_cases c0 : k = k'
  case neg =>
    rw [decide_eq_false c0] at e0
    have C := Lib.hid c0
    clear c0
    try simp only [Bool.not_false] at e0
    go_enter Try.func39, Try.ntmps39
    go_wp2
    go_ret
    exact ⟨ret_bool (by symm; rw [decide_eq_false_iff_not]; exact fun h => C.out h.1), ((Below.refl _ _).alloc (Nat.le_refl _) _).alloc (by simp) _⟩
  rw [decide_eq_true c0] at e0
  subst c0
  try simp only [Bool.not_true] at e0
  have e1 := i_bne h h'
  by_cases c1 : h = h'
  case neg =>
    rw [decide_eq_false c1] at e1
    have C := Lib.hid c1
    clear c1
    try simp only [Bool.not_false] at e1
    go_enter Try.func39, Try.ntmps39
    go_wp2
    go_ret
    exact ⟨ret_bool (by symm; rw [decide_eq_false_iff_not]; exact fun h => C.out h.2.1), ((Below.refl _ _).alloc (Nat.le_refl _) _).alloc (by simp) _⟩
  rw [decide_eq_true c1] at e1
  subst c1
  try simp only [Bool.not_true] at e1
  have e2 := u8_bne a a'
  by_cases c2 : a = a'
  case neg =>
    rw [decide_eq_false c2] at e2
    have C := Lib.hid c2
    clear c2
    try simp only [Bool.not_false] at e2
    go_enter Try.func39, Try.ntmps39
    go_wp2
    go_ret
    exact ⟨ret_bool (by symm; rw [decide_eq_false_iff_not]; exact fun h => C.out h.2.2.1), ((Below.refl _ _).alloc (Nat.le_refl _) _).alloc (by simp) _⟩
  rw [decide_eq_true c2] at e2
  subst c2
  try simp only [Bool.not_true] at e2
  have e3 := i_bne cn cn'
  by_cases c3 : cn = cn'
  case neg =>
    rw [decide_eq_false c3] at e3
    have C := Lib.hid c3
    clear c3
    try simp only [Bool.not_false] at e3
    go_enter Try.func39, Try.ntmps39
    go_wp2
    go_ret
    exact ⟨ret_bool (by symm; rw [decide_eq_false_iff_not]; exact fun h => C.out h.2.2.2.1), ((Below.refl _ _).alloc (Nat.le_refl _) _).alloc (by simp) _⟩
  rw [decide_eq_true c3] at e3
  subst c3
  try simp only [Bool.not_true] at e3
  have e4 := i_bne ou ou'
  by_cases c4 : ou = ou'
  case neg =>
    rw [decide_eq_false c4] at e4
    have C := Lib.hid c4
    clear c4
    try simp only [Bool.not_false] at e4
    go_enter Try.func39, Try.ntmps39
    go_wp2
    go_ret
    exact ⟨ret_bool (by symm; rw [decide_eq_false_iff_not]; exact fun h => C.out h.2.2.2.2.1), ((Below.refl _ _).alloc (Nat.le_refl _) _).alloc (by simp) _⟩
  rw [decide_eq_true c4] at e4
  subst c4
  try simp only [Bool.not_true] at e4
  have hb2 : Below w.heap.size w ((w.alloc (.cells #[.int .u8 (k.toNat : Int), .int .i64 h, .int .u8 (a.toNat : Int), .int .i64 cn, .int .i64 ou, .slice A n c, .slice B m d] 31)).alloc (.cells #[.int .u8 (k.toNat : Int), .int .i64 h, .int .u8 (a.toNat : Int), .int .i64 cn, .int .i64 ou, .slice A' n' c', .slice B' m' d'] 31)) := ((Below.refl _ _).alloc (Nat.le_refl _) _).alloc (by simp) _
  have q1 := conv_b (c := c) (hA.below hb2)
  have q2 := conv_b (c := c') (hA'.below hb2)
  have q3 := conv_b (c := d) (hB.below hb2)
  have q4 := conv_b (c := d') (hB'.below hb2)
  have s1 := str_eq xs xs'
  have s2 := str_eq ys ys'
  have HB := Lib.hid hb2
  clear hb2
  generalize strB xs = t1 at *
  generalize strB xs' = t2 at *
  generalize strB ys = t3 at *
  generalize strB ys' = t4 at *
  by_cases hx : xs = xs'
  · rw [decide_eq_true hx] at s1
    have C := Lib.hid hx
    clear hx
    by_cases hy : ys = ys'
    · rw [decide_eq_true hy] at s2
      have C2 := Lib.hid hy
      clear hy
      go_enter Try.func39, Try.ntmps39
      go_wp2
      go_ret
      exact ⟨ret_bool (by symm; rw [decide_eq_true_eq]; exact ⟨by simp, by simp, by simp, by simp, by simp, C.out, C2.out⟩), HB.out⟩
    · rw [decide_eq_false hy] at s2
      have C2 := Lib.hid hy
      clear hy
      go_enter Try.func39, Try.ntmps39
      go_wp2
      go_ret
      exact ⟨ret_bool (by symm; rw [decide_eq_false_iff_not]; exact fun h => C2.out h.2.2.2.2.2.2), HB.out⟩
  · rw [decide_eq_false hx] at s1
    have C := Lib.hid hx
    clear hx
    go_enter Try.func39, Try.ntmps39
    go_wp2
    go_ret
    exact ⟨ret_bool (by symm; rw [decide_eq_false_iff_not]; exact fun h => C.out h.2.2.2.2.2.1), HB.out⟩
end Go.Proofs.Ytgfhnbjpdhdhgaa
