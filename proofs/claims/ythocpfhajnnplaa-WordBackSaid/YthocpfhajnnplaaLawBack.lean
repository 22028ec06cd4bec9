/- The law WordBack, walked: there and back. -/
import Derived.Test.YthocpfhajnnplaaRows
import Derived.Test.YthocpfhajnnplaaLib
import Derived.Test.YthocpfhajnnplaaKitB
import Derived.Test.YthocpfhajnnplaaHeap
import Derived.Test.YthocpfhajnnplaaWordXor
import Derived.Test.YthocpfhajnnplaaBackP
import Derived.Test.YthocpfhajnnplaaAwake
namespace Go.Proofs.Ythocpfhajnnplaa
open Go.RowKit
set_option linter.unusedVariables false

theorem xorL_back (xs ys : List UInt8) (h : xs.length = ys.length) : xorL (xorL xs ys) ys = xs := by
  unfold xorL
  apply List.ext_getElem?
  intro i
  rw [List.getElem?_zipWith, List.getElem?_zipWith]
  cases hx : xs[i]? with
  | none => rfl
  | some x =>
    have hi : i < ys.length := by rw [← h]; exact (List.getElem?_eq_some_iff.1 hx).1
    rw [List.getElem?_eq_getElem hi]
    simp only [Option.some.injEq]
    rw [UInt8.xor_assoc, UInt8.xor_self, UInt8.xor_zero]

theorem ltt64 (X : Nat) (n : Int) (hx : X < 2 ^ 64) : rotN 64 X (n % 64).toNat < 2 ^ 64 := rotN_lt 64 X _ (by omega) hx
theorem ltt32 (X : Nat) (n : Int) (hx : X < 2 ^ 32) : rotN 32 X (n % 32).toNat < 2 ^ 32 := rotN_lt 32 X _ (by omega) hx
theorem twice64 (X : Nat) (n m : Int) (hx : X < 2 ^ 64) : rotN 64 (rotN 64 X (n % 64).toNat) (m % 64).toNat = rotN 64 X ((n + m) % 64).toNat := by
  have ha : (n % 64).toNat < 64 := by omega
  have hb : (m % 64).toNat < 64 := by omega
  have e := emod_add 64 (by omega) n m
  rw [rotN_rotN 64 X _ _ ha hb hx]
  exact congrArg (rotN 64 X) e
theorem twice32 (X : Nat) (n m : Int) (hx : X < 2 ^ 32) : rotN 32 (rotN 32 X (n % 32).toNat) (m % 32).toNat = rotN 32 X ((n + m) % 32).toNat := by
  have ha : (n % 32).toNat < 32 := by omega
  have hb : (m % 32).toNat < 32 := by omega
  have e := emod_add 32 (by omega) n m
  rw [rotN_rotN 32 X _ _ ha hb hx]
  exact congrArg (rotN 32 X) e

theorem facts64 (X : Nat) (n m : Int) (hx : X < 2 ^ 64) : ∃ R1 R3 : Nat, Hid (R1 = rotN 64 X (n % 64).toNat) ∧ Hid (rotN 64 R1 (m % 64).toNat = R3) ∧ Hid (R3 = rotN 64 X (wrap64 (n + m) % 64).toNat) ∧ Hid (R1 < 2 ^ 64) :=
  ⟨_, _, rfl, twice64 X n m hx, by rw [show wrap64 (n + m) % 64 = (n + m) % 64 from by unfold wrap64; omega]; exact rfl, ltt64 X n hx⟩
theorem facts32 (X : Nat) (n m : Int) (hx : X < 2 ^ 32) : ∃ R1 R3 : Nat, Hid (R1 = rotN 32 X (n % 32).toNat) ∧ Hid (rotN 32 R1 (m % 32).toNat = R3) ∧ Hid (R3 = rotN 32 X (wrap64 (n + m) % 32).toNat) ∧ Hid (R1 < 2 ^ 32) :=
  ⟨_, _, rfl, twice32 X n m hx, by rw [show wrap64 (n + m) % 32 = (n + m) % 32 from by unfold wrap64; omega]; exact rfl, ltt32 X n hx⟩

set_option maxRecDepth 100000 in
set_option maxHeartbeats 20000000 in
theorem wordBack_walk (x : UInt64) (n m : Int) (A : Option Addr) (la cp : Nat) (xs : List UInt8) (B : Option Addr) (lb cq : Nat) (ys : List UInt8) (w : World)
    (hn1 : -9223372036854775808 ≤ n) (hn2 : n ≤ 9223372036854775807) (hm1 : -9223372036854775808 ≤ m) (hm2 : m ≤ 9223372036854775807)
    (ha : Rd w 1 A la (xs.map vb)) (hnp : la ≤ 140737488351232) (hcp : la ≤ cp) (hb : Rd w 1 B lb (ys.map vb)) (hnq : lb ≤ 140737488351232) (hcq : lb ≤ cq) :
    Calls Try.prog 7 #[.int .u64 (x.toNat : Int), .int .i64 n, .int .i64 m, .slice A la cp, .slice B lb cq] w fun e w' => e = .returned (.bool true) ∧ Below w.heap.size w w' := by
  have hx : x.toNat < 2 ^ 64 := x.toNat_lt
  generalize x.toNat = X at hx ⊢
  obtain ⟨Y, hy⟩ : ∃ Y : Nat, Y = X % 4294967296 := ⟨_, rfl⟩
  have hyb : Y < 2 ^ 32 := by omega
  have hXy : (X : Int) % 4294967296 = (Y : Int) := by omega
  have hy' : (Y : Int) ≤ 4294967295 := by omega
  have hx' : (X : Int) ≤ 18446744073709551615 := by omega
  have Rx := Lib.hid hx
  have Ry := Lib.hid hyb
  have Rx2 : Hid (X < 256 ^ 8) := hx
  have Ry2 : Hid (Y < 256 ^ 4) := hyb
  clear hx hyb hy
  have H0 := St.start w
  go_enter Try.func7, Try.ntmps7
  go_wp2_with fail
  refine (awake_any _).mono ?_
  rintro e w1 ⟨rfl, hb1⟩
  have H1 := H0.call hb1
  clear H0 hb1
  go_wp2_with fail
  refine (lay_u64 X _ Rx.out).mono ?_
  rintro e w2 ⟨v2, rfl, ho, hb2⟩
  have H2 := H1.push ho hb2
  obtain ⟨A2, n2, c2, rfl, hn, -⟩ := ho.shape
  obtain rfl : n2 = 8 := by rw [hn.out, beL_length]
  clear H1 ho hb2 hn
  go_wp2_with fail
  refine (take_u64_lit _ 8 c2 (beL 8 X) 0 (X : Int) _ (H2.rd 0 rfl) (by omega) (by rw [beTo_back X 8 Rx2.out])).mono ?_
  rintro e w3 ⟨rfl, rfl⟩
  go_wp2_with fail
  refine (layLE_u64 X _ Rx.out).mono ?_
  rintro e w3 ⟨v3, rfl, ho, hb3⟩
  have H3 := H2.push ho hb3
  obtain ⟨A3, n3, c3, rfl, hn, -⟩ := ho.shape
  obtain rfl : n3 = 8 := by rw [hn.out, leL_length]
  clear H2 ho hb3 hn
  go_wp2_with fail
  refine (takeLE_u64_lit _ 8 c3 (leL 8 X) 0 (X : Int) _ (H3.rd 1 rfl) (by omega) (by rw [leTo_back X 8 Rx2.out])).mono ?_
  rintro e w4 ⟨rfl, rfl⟩
  go_wp2_with fail
  refine (lay_u32 Y _ Ry.out).mono ?_
  rintro e w4 ⟨v4, rfl, ho, hb4⟩
  have H4 := H3.push ho hb4
  obtain ⟨A4, n4, c4, rfl, hn, -⟩ := ho.shape
  obtain rfl : n4 = 4 := by rw [hn.out, beL_length]
  clear H3 ho hb4 hn
  go_wp2_with fail
  refine (take_u32_lit _ 4 c4 (beL 4 Y) 0 (Y : Int) _ (H4.rd 2 rfl) (by omega) (by rw [beTo_back Y 4 Ry2.out])).mono ?_
  rintro e w5 ⟨rfl, rfl⟩
  go_wp2_with fail
  refine (layLE_u32 Y _ Ry.out).mono ?_
  rintro e w5 ⟨v5, rfl, ho, hb5⟩
  have H5 := H4.push ho hb5
  obtain ⟨A5, n5, c5, rfl, hn, -⟩ := ho.shape
  obtain rfl : n5 = 4 := by rw [hn.out, leL_length]
  clear H4 ho hb5 hn
  go_wp2_with fail
  refine (takeLE_u32_lit _ 4 c5 (leL 4 Y) 0 (Y : Int) _ (H5.rd 3 rfl) (by omega) (by rw [leTo_back Y 4 Ry2.out])).mono ?_
  rintro e w6 ⟨rfl, rfl⟩
  go_wp2_with fail
  refine (lay_u64 X _ Rx.out).mono ?_
  rintro e w6 ⟨v6, rfl, ho6, hb6⟩
  have H6 := H5.push ho6 hb6
  obtain ⟨A6, n6, c6, rfl, hn, -⟩ := ho6.shape
  obtain rfl : n6 = 8 := by rw [hn.out, beL_length]
  clear H5 ho6 hb6 hn
  go_wp2_with fail
  refine (layLE_u64 X _ Rx.out).mono ?_
  rintro e w7 ⟨v7, rfl, ho7, hb7⟩
  have H7 := H6.push ho7 hb7
  simp only [List.nil_append, List.cons_append] at H7
  obtain ⟨A7, n7, c7, rfl, hn, -⟩ := ho7.shape
  obtain rfl : n7 = 8 := by rw [hn.out, leL_length]
  clear H6 ho7 hb7 hn
  have r6 := H7.rd 4 rfl
  have r7 := H7.rd 5 rfl
  go_wp2_with fail
  go_loopw [15] (fun i wr => ∃ k q : Nat, k ≤ 8 ∧ i = .int .i64 k ∧ wr = w7.drewN q) (fun i _ => 8 - (intOf i).toNat)
  case atStart => exact ⟨0, 0, Nat.zero_le _, rfl, rfl⟩
  case round =>
    obtain ⟨k, q, hk, rfl, rfl⟩ := hrel
    by_cases hlt : k < 8
    · obtain ⟨j, hj⟩ : ∃ j, j + k = 7 := ⟨7 - k, by omega⟩
      obtain ⟨p6, b6, rfl, hb6, hc6⟩ := r6.byteAt (show k < 8 by omega)
      obtain ⟨p7, b7, rfl, hb7, hc7⟩ := r7.byteAt (show j < 8 by omega)
      obtain rfl : b6 = b7 := by
        rw [beL_get (by omega), show 8 - 1 - k = j by omega] at hb6
        rw [leL_get (by omega)] at hb7
        exact Option.some.inj (hb6.symm.trans hb7)
      have hw1 : IntKind.i64.wrap (7 - (k : Int)) = (j : Int) := by rw [IntWalk.i64_in _ (by omega)]; omega
      have hjb : (j : Int) < 8 := by omega
      have hkb : (k : Int) < 8 := by omega
      have hbb : ((b6.toNat : Int) != (b6.toNat : Int)) = false := by simp
      clear hb6 hb7 hj
      go_wp2
      go_quiet (fail)
      go_wp2
      go_roundw
      case rel => exact ⟨k + 1, q + nq, by omega, by go_num, by simp⟩
      case measure => simp [intOf]; omega
    · have H8 := H7.drewN q
      clear H7 r6 r7
      have hlx : xs.length = la := by simpa using ha.1
      have hly : ys.length = lb := by simpa using hb.1
      have HLx := Lib.hid hlx
      have HLy := Lib.hid hly
      clear hlx hly
      by_cases hin : (-4611686018427387904 ≤ n ∧ n ≤ 4611686018427387904) ∧ (-4611686018427387904 ≤ m ∧ m ≤ 4611686018427387904)
      · obtain ⟨⟨hi1, hi2⟩, hi3, hi4⟩ := hin
        obtain ⟨R1, R3, Q1, Q2, Q3, Q4⟩ := facts64 X n m Rx.out
        obtain ⟨T1, T3, P1, P2, P3, P4⟩ := facts32 Y n m Ry.out
        go_wp2_with fail
        refine (turn_u64_lit n (R1 : Int) _ X (by rfl) Rx.out (by rw [Q1.out])).mono ?_
        rintro e w9 ⟨rfl, hb9⟩
        have H9 := H8.call hb9
        clear H8 hb9
        go_wp2_with fail
        refine (turn_u64_lit m (R3 : Int) _ R1 (by rfl) Q4.out (by rw [Q2.out])).mono ?_
        rintro e w10 ⟨rfl, hb10⟩
        have H10 := H9.call hb10
        clear H9 hb10
        go_wp2_with fail
        refine (turn_u64_lit (wrap64 (n + m)) (R3 : Int) _ X (by rfl) Rx.out (by rw [Q3.out])).mono ?_
        rintro e w11 ⟨rfl, hb11⟩
        have H11 := H10.call hb11
        clear H10 hb11
        go_wp2_with fail
        refine (turn_u32_lit n (T1 : Int) _ Y (by rfl) Ry.out (by rw [P1.out])).mono ?_
        rintro e w12 ⟨rfl, hb12⟩
        have H12 := H11.call hb12
        clear H11 hb12
        go_wp2_with fail
        refine (turn_u32_lit m (T3 : Int) _ T1 (by rfl) P4.out (by rw [P2.out])).mono ?_
        rintro e w13 ⟨rfl, hb13⟩
        have H13 := H12.call hb13
        clear H12 hb13
        go_wp2_with fail
        refine (turn_u32_lit (wrap64 (n + m)) (T3 : Int) _ Y (by rfl) Ry.out (by rw [P3.out])).mono ?_
        rintro e w14 ⟨rfl, hb14⟩
        have H8 := H13.call hb14
        clear H13 hb14
        rcases (Nat.lt_or_ge lb la).symm with hle | hle
        · have hle' : (la : Int) ≤ lb := by omega
          go_wp2_with fail
          refine (turn_u64_lit 0 (X : Int) _ X (by rfl) Rx.out (by rw [show ((0 : Int) % 64).toNat = 0 from rfl, rotN_zero 64 X Rx.out])).mono ?_
          rintro e w20 ⟨rfl, hb20⟩
          have H20 := H8.call hb20
          go_wp2_with fail
          refine (turn_u32_lit 0 (Y : Int) _ Y (by rfl) Ry.out (by rw [show ((0 : Int) % 32).toNat = 0 from rfl, rotN_zero 32 Y Ry.out])).mono ?_
          rintro e w21 ⟨rfl, hb21⟩
          have H21 := H20.call hb21
          clear H8 H20 hb20 hb21
          go_wp2_with fail
          have hs1 : (0 : Int) ≤ (la : Int) := by omega
          have hs2 : (la : Int) ≤ (cp : Int) := by omega
          have hs3 : (la : Int) ≤ (cq : Int) := by omega
          go_still_tail 6, (by kernel_rfl)
          change wpList _ _ _ _ _ w21.drew
          go_wp2_with fail
          refine (xor_any A B la la cp cq (xs.take la) (ys.take la) _ ((H21.arg ha).take (by omega)).drew_ ((H21.arg hb).take (by omega)).drew_ (by omega) (by omega)).mono ?_
          rintro e w22 ⟨v22, rfl, ho22, hb22⟩
          have H22 := H21.drew.push ho22 hb22
          obtain ⟨A22, n22, c22, rfl, hn22, -⟩ := ho22.shape
          obtain rfl : la = n22 := (show n22 = la by rw [hn22.out, xorL_length, List.length_take, List.length_take, HLx.out, HLy.out]; omega).symm
          simp only [List.nil_append, List.cons_append] at H22
          clear H21 ho22 hb22 hn22
          have r22 := H22.rd 6 rfl
          have rb := (H22.arg hb).take (show la ≤ lb by omega)
          have ra := (H22.arg ha).take (show la ≤ la by omega)
          have HB := Lib.hid (xorL_back (xs.take la) (ys.take la) (by rw [List.length_take, List.length_take, HLx.out, HLy.out]; omega))
          have HN := Lib.hid (show (xorL (xorL (xs.take la) (ys.take la)) (ys.take la)).length = la by rw [HB.out, List.length_take, HLx.out]; omega)
          go_wp2
          go_region_held3 (fun _ => True) (trivial) ((first | (go_at_call 11; refine (xor_any A22 B la la c22 cq _ (ys.take la) _ (by exact r22.drew_) (by exact rb.drew_) (by omega) (by omega)).mono ?_; rintro e w23 ⟨v23, rfl, ho23, hb23⟩; obtain ⟨A23, n23, c23, rfl, hn23, hr23⟩ := ho23.shape; have hl23 : n23 ≤ 140737488351232 := (by rw [hn23.out, HN.out]; omega)) | (go_at_call 12; refine (sameBytes_yes A23 A n23 la c23 cp _ (xs.take la) _ (by exact hr23) (by exact ra.drew_.below hb23) (by omega) (by omega) HB.out).mono ?_; rintro e w24 ⟨rfl, hb24⟩)))
          go_wp2
          go_ret
          exact ⟨rfl, (((H22.drew.push ho23 hb23).call hb24)).low⟩
        · have hle' : (lb : Int) < la := by omega
          go_wp2_with fail
          refine (turn_u64_lit 0 (X : Int) _ X (by rfl) Rx.out (by rw [show ((0 : Int) % 64).toNat = 0 from rfl, rotN_zero 64 X Rx.out])).mono ?_
          rintro e w20 ⟨rfl, hb20⟩
          have H20 := H8.call hb20
          go_wp2_with fail
          refine (turn_u32_lit 0 (Y : Int) _ Y (by rfl) Ry.out (by rw [show ((0 : Int) % 32).toNat = 0 from rfl, rotN_zero 32 Y Ry.out])).mono ?_
          rintro e w21 ⟨rfl, hb21⟩
          have H21 := H20.call hb21
          clear H8 H20 hb20 hb21
          go_wp2_with fail
          have hs1 : (0 : Int) ≤ (lb : Int) := by omega
          have hs2 : (lb : Int) ≤ (cp : Int) := by omega
          have hs3 : (lb : Int) ≤ (cq : Int) := by omega
          go_still_tail 6, (by kernel_rfl)
          change wpList _ _ _ _ _ w21.drew
          go_wp2_with fail
          refine (xor_any A B lb lb cp cq (xs.take lb) (ys.take lb) _ ((H21.arg ha).take (by omega)).drew_ ((H21.arg hb).take (by omega)).drew_ (by omega) (by omega)).mono ?_
          rintro e w22 ⟨v22, rfl, ho22, hb22⟩
          have H22 := H21.drew.push ho22 hb22
          obtain ⟨A22, n22, c22, rfl, hn22, -⟩ := ho22.shape
          obtain rfl : lb = n22 := (show n22 = lb by rw [hn22.out, xorL_length, List.length_take, List.length_take, HLx.out, HLy.out]; omega).symm
          simp only [List.nil_append, List.cons_append] at H22
          clear H21 ho22 hb22 hn22
          have r22 := H22.rd 6 rfl
          have rb := (H22.arg hb).take (show lb ≤ lb by omega)
          have ra := (H22.arg ha).take (show lb ≤ la by omega)
          have HB := Lib.hid (xorL_back (xs.take lb) (ys.take lb) (by rw [List.length_take, List.length_take, HLx.out, HLy.out]; omega))
          have HN := Lib.hid (show (xorL (xorL (xs.take lb) (ys.take lb)) (ys.take lb)).length = lb by rw [HB.out, List.length_take, HLx.out]; omega)
          go_wp2
          go_region_held3 (fun _ => True) (trivial) ((first | (go_at_call 11; refine (xor_any A22 B lb lb c22 cq _ (ys.take lb) _ (by exact r22.drew_) (by exact rb.drew_) (by omega) (by omega)).mono ?_; rintro e w23 ⟨v23, rfl, ho23, hb23⟩; obtain ⟨A23, n23, c23, rfl, hn23, hr23⟩ := ho23.shape; have hl23 : n23 ≤ 140737488351232 := (by rw [hn23.out, HN.out]; omega)) | (go_at_call 12; refine (sameBytes_yes A23 A n23 lb c23 cp _ (xs.take lb) _ (by exact hr23) (by exact ra.drew_.below hb23) (by omega) (by omega) HB.out).mono ?_; rintro e w24 ⟨rfl, hb24⟩)))
          go_wp2
          go_ret
          exact ⟨rfl, (((H22.drew.push ho23 hb23).call hb24)).low⟩
      · have ho : n < -4611686018427387904 ∨ 4611686018427387904 < n ∨ (-4611686018427387904 ≤ n ∧ n ≤ 4611686018427387904 ∧ (m < -4611686018427387904 ∨ 4611686018427387904 < m)) := by omega
        clear hin
        rcases ho with ho | ho | ⟨ho1, ho2, ho | ho⟩
        all_goals
          rcases (Nat.lt_or_ge lb la).symm with hle | hle
          · have hle' : (la : Int) ≤ lb := by omega
            go_wp2_with fail
            refine (turn_u64_lit 0 (X : Int) _ X (by rfl) Rx.out (by rw [show ((0 : Int) % 64).toNat = 0 from rfl, rotN_zero 64 X Rx.out])).mono ?_
            rintro e w20 ⟨rfl, hb20⟩
            have H20 := H8.call hb20
            go_wp2_with fail
            refine (turn_u32_lit 0 (Y : Int) _ Y (by rfl) Ry.out (by rw [show ((0 : Int) % 32).toNat = 0 from rfl, rotN_zero 32 Y Ry.out])).mono ?_
            rintro e w21 ⟨rfl, hb21⟩
            have H21 := H20.call hb21
            clear H8 H20 hb20 hb21
            go_wp2_with fail
            have hs1 : (0 : Int) ≤ (la : Int) := by omega
            have hs2 : (la : Int) ≤ (cp : Int) := by omega
            have hs3 : (la : Int) ≤ (cq : Int) := by omega
            go_still_tail 6, (by kernel_rfl)
            change wpList _ _ _ _ _ w21.drew
            go_wp2_with fail
            refine (xor_any A B la la cp cq (xs.take la) (ys.take la) _ ((H21.arg ha).take (by omega)).drew_ ((H21.arg hb).take (by omega)).drew_ (by omega) (by omega)).mono ?_
            rintro e w22 ⟨v22, rfl, ho22, hb22⟩
            have H22 := H21.drew.push ho22 hb22
            obtain ⟨A22, n22, c22, rfl, hn22, -⟩ := ho22.shape
            obtain rfl : la = n22 := (show n22 = la by rw [hn22.out, xorL_length, List.length_take, List.length_take, HLx.out, HLy.out]; omega).symm
            simp only [List.nil_append, List.cons_append] at H22
            clear H21 ho22 hb22 hn22
            have r22 := H22.rd 6 rfl
            have rb := (H22.arg hb).take (show la ≤ lb by omega)
            have ra := (H22.arg ha).take (show la ≤ la by omega)
            have HB := Lib.hid (xorL_back (xs.take la) (ys.take la) (by rw [List.length_take, List.length_take, HLx.out, HLy.out]; omega))
            have HN := Lib.hid (show (xorL (xorL (xs.take la) (ys.take la)) (ys.take la)).length = la by rw [HB.out, List.length_take, HLx.out]; omega)
            go_wp2
            go_region_held3 (fun _ => True) (trivial) ((first | (go_at_call 11; refine (xor_any A22 B la la c22 cq _ (ys.take la) _ (by exact r22.drew_) (by exact rb.drew_) (by omega) (by omega)).mono ?_; rintro e w23 ⟨v23, rfl, ho23, hb23⟩; obtain ⟨A23, n23, c23, rfl, hn23, hr23⟩ := ho23.shape; have hl23 : n23 ≤ 140737488351232 := (by rw [hn23.out, HN.out]; omega)) | (go_at_call 12; refine (sameBytes_yes A23 A n23 la c23 cp _ (xs.take la) _ (by exact hr23) (by exact ra.drew_.below hb23) (by omega) (by omega) HB.out).mono ?_; rintro e w24 ⟨rfl, hb24⟩)))
            go_wp2
            go_ret
            exact ⟨rfl, (((H22.drew.push ho23 hb23).call hb24)).low⟩
          · have hle' : (lb : Int) < la := by omega
            go_wp2_with fail
            refine (turn_u64_lit 0 (X : Int) _ X (by rfl) Rx.out (by rw [show ((0 : Int) % 64).toNat = 0 from rfl, rotN_zero 64 X Rx.out])).mono ?_
            rintro e w20 ⟨rfl, hb20⟩
            have H20 := H8.call hb20
            go_wp2_with fail
            refine (turn_u32_lit 0 (Y : Int) _ Y (by rfl) Ry.out (by rw [show ((0 : Int) % 32).toNat = 0 from rfl, rotN_zero 32 Y Ry.out])).mono ?_
            rintro e w21 ⟨rfl, hb21⟩
            have H21 := H20.call hb21
            clear H8 H20 hb20 hb21
            go_wp2_with fail
            have hs1 : (0 : Int) ≤ (lb : Int) := by omega
            have hs2 : (lb : Int) ≤ (cp : Int) := by omega
            have hs3 : (lb : Int) ≤ (cq : Int) := by omega
            go_still_tail 6, (by kernel_rfl)
            change wpList _ _ _ _ _ w21.drew
            go_wp2_with fail
            refine (xor_any A B lb lb cp cq (xs.take lb) (ys.take lb) _ ((H21.arg ha).take (by omega)).drew_ ((H21.arg hb).take (by omega)).drew_ (by omega) (by omega)).mono ?_
            rintro e w22 ⟨v22, rfl, ho22, hb22⟩
            have H22 := H21.drew.push ho22 hb22
            obtain ⟨A22, n22, c22, rfl, hn22, -⟩ := ho22.shape
            obtain rfl : lb = n22 := (show n22 = lb by rw [hn22.out, xorL_length, List.length_take, List.length_take, HLx.out, HLy.out]; omega).symm
            simp only [List.nil_append, List.cons_append] at H22
            clear H21 ho22 hb22 hn22
            have r22 := H22.rd 6 rfl
            have rb := (H22.arg hb).take (show lb ≤ lb by omega)
            have ra := (H22.arg ha).take (show lb ≤ la by omega)
            have HB := Lib.hid (xorL_back (xs.take lb) (ys.take lb) (by rw [List.length_take, List.length_take, HLx.out, HLy.out]; omega))
            have HN := Lib.hid (show (xorL (xorL (xs.take lb) (ys.take lb)) (ys.take lb)).length = lb by rw [HB.out, List.length_take, HLx.out]; omega)
            go_wp2
            go_region_held3 (fun _ => True) (trivial) ((first | (go_at_call 11; refine (xor_any A22 B lb lb c22 cq _ (ys.take lb) _ (by exact r22.drew_) (by exact rb.drew_) (by omega) (by omega)).mono ?_; rintro e w23 ⟨v23, rfl, ho23, hb23⟩; obtain ⟨A23, n23, c23, rfl, hn23, hr23⟩ := ho23.shape; have hl23 : n23 ≤ 140737488351232 := (by rw [hn23.out, HN.out]; omega)) | (go_at_call 12; refine (sameBytes_yes A23 A n23 lb c23 cp _ (xs.take lb) _ (by exact hr23) (by exact ra.drew_.below hb23) (by omega) (by omega) HB.out).mono ?_; rintro e w24 ⟨rfl, hb24⟩)))
            go_wp2
            go_ret
            exact ⟨rfl, (((H22.drew.push ho23 hb23).call hb24)).low⟩
end Go.Proofs.Ythocpfhajnnplaa
