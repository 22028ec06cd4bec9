/- Numbers as bytes and bytes as numbers, in op and in the document. -/
import Derived.Test.YtgfhnbjpdhdhgaaRows
import Derived.Test.YtgfhnbjpdhdhgaaFlat
import Derived.Test.YtgfhnbjpdhdhgaaKitB
import Derived.Test.YtgfhnbjpdhdhgaaRot
import Derived.Test.YtgfhnbjpdhdhgaaTurn
import Derived.Test.YtgfhnbjpdhdhgaaLay
import Derived.Test.YtgfhnbjpdhdhgaaMade
namespace Go.Proofs.Ytgfhnbjpdhdhgaa
open Go.RowKit
set_option linter.unusedVariables false

/-- the number that bytes are -/
def tk (l : List UInt8) : Nat := l.foldl (fun n b => 256 * n + b.toNat) 0
theorem tk_zero : tk [] = 0 := rfl
theorem tk_snoc (l : List UInt8) (b : UInt8) : tk (l ++ [b]) = 256 * tk l + b.toNat := by simp [tk]
theorem tk_from (l : List UInt8) : ∀ a, l.foldl (fun n b => 256 * n + b.toNat) a + 1 ≤ (a + 1) * 256 ^ l.length := by
  induction l with
  | nil => intro a; simp
  | cons b l ih =>
    intro a
    have h := ih (256 * a + b.toNat)
    have hb := b.toNat_lt
    rw [List.foldl_cons, List.length_cons, Nat.pow_succ]
    refine Nat.le_trans h ?_
    rw [Nat.mul_comm (256 ^ l.length), ← Nat.mul_assoc]
    exact Nat.mul_le_mul_right _ (by omega)
theorem tk_lt (l : List UInt8) : tk l < 256 ^ l.length := by
  have h := tk_from l 0
  unfold tk
  omega
theorem byte_eq (x d : Nat) : (x : Int) / 2 ^ (8 * d) % 256 = ((UInt8.ofNat (x / 256 ^ d)).toNat : Int) := by
  have e : (x : Int) / 2 ^ (8 * d) = ((x / 256 ^ d : Nat) : Int) := by
    rw [show (256 : Nat) ^ d = 2 ^ (8 * d) by rw [Nat.pow_mul], Int.natCast_ediv, Int.natCast_pow]; rfl
  rw [e, UInt8.toNat_ofNat']
  rfl
theorem or_byte_64 {b x : Nat} (hb : b ≤ 72057594037927935) (hx : x ≤ 255) : bits .or .u64 ((b : Int) * 256) (x : Int) = ((256 * b + x : Nat) : Int) := by
  have e : (b : Int) * 256 = ((256 * b : Nat) : Int) := by omega
  rw [e, u64_or_nat _ _ (by omega) (by omega), Nat.two_pow_add_eq_or_of_lt (i := 8) (by omega)]

set_option maxHeartbeats 1000000 in
theorem number_s {w0 w : World} {F0 : List Nat} {E : Env} (i m N x : Nat) (v : Value) (pre : List UInt8) (H : St w0 F0 w E) (hi : E i = some (.row 5 1 v m (pre.map vb))) {a b : Int} (ha : a = (x : Int)) (hb : b = (N : Int)) (hx : x ≤ 18446744073709551615) (hN : N ≤ 8) (hm : m ≤ 140737488355000) :
    Calls Try.prog 60 #[v, .int .u64 a, .int .i64 b] w fun e w' => ∃ v', e = .returned v' ∧ St w0 F0 w' (upd E i (.row 5 1 v' (m + N) ((pre ++ beL N x).map vb))) := by
  obtain ⟨i0, hi0, hz0, hz1, hz2⟩ := info_parts u8_info
  obtain ⟨F, HF, -, -, hback⟩ := H.frame1 i hi
  have HB := Lib.hid hback
  clear hback H
  subst ha hb
  have H1 := HF.as1
  clear HF
  go_enter Try.func60, Try.ntmps60
  go_wp2
  go_loopw [0, 7] (fun v i wr => ∃ (k : Nat) (j : Int), k ≤ N ∧ j ≤ (N : Int) - 1 - k ∧ (N : Int) - 1 - k ≤ j ∧ i = .int .i64 j ∧ St w F wr (lay [.row 5 1 v (m + k) ((pre ++ (beL N x).take k).map vb)])) (fun _ i _ => (intOf i + 1).toNat)
  case atStart => exact ⟨0, (N : Int) - 1, Nat.zero_le _, by omega, by omega, rfl, by simpa using H1⟩
  case round =>
    clear H1
    obtain ⟨k, j, hk, hj1, hj2, rfl, Hk⟩ := hrel
    by_cases hlt : k < N
    · obtain ⟨d, rfl⟩ := Int.eq_ofNat_of_zero_le (by omega : 0 ≤ j)
      have hd : N - 1 - k = d := by omega
      have hg := beL_get (x := x) hlt
      rw [hd] at hg
      have HT : Hid ((beL N x).take (k + 1) = (beL N x).take k ++ [UInt8.ofNat (x / 256 ^ d)]) := by unfold Hid; rw [List.take_add_one, hg]; rfl
      have hbe := byte_eq x d
      have hr := Hk.row 0 rfl
      clear hg hd
      generalize UInt8.ofNat (x / 256 ^ d) = y at HT hbe
      go_wp2_with (at_builtin; rw [hbe]; refine wpList_append_any _ rfl (.tmp 14) (.tmp 20) _ rfl 0 5 i0 _ 1 1 Try.underlying25 hi0 hz0 hz1 hz2 rfl (by omega) u0 (m + k) _ rfl (hr.alloc _) (some ⟨wr.heap.size, 0, none⟩) 1 1 [vb y] rfl (rd_new0 wr [vb y] _ 1 rfl) (by simp [Value.oneCell']) (by simp only [maxLen]; omega) (by omega) (by omega) ?_; intro v3 w3 hown3 hg3 hat3)
      have H3 := ((Hk.alloc 1 rfl #[vb y] 5).grow 0 rfl hown3 hg3 hat3).sub (E' := lay [.row 5 1 v3 (m + k + 1) ((pre ++ (beL N x).take k).map vb ++ [vb y])]) (fun i A hA => by cases i with | zero => exact hA | succ i => simp [lay] at hA)
      go_roundw
      case rel => exact ⟨k + 1, (d : Int) - 1, by omega, by omega, by omega, by go_num, by rw [HT.out, ← Nat.add_assoc]; simpa using H3⟩
      case measure => first | (simp [intOf]; omega) | simp [intOf]
    · have hkN : k = N := by omega
      go_wp2
      go_ret
      refine ⟨_, rfl, ?_⟩
      subst hkN
      rw [List.take_of_length_le (by rw [beL_length]; omega)] at Hk
      exact HB.out _ _ (Hk.to1 rfl)

set_option maxHeartbeats 1000000 in
theorem taken_s (A : Option Addr) (n c : Nat) (l : List UInt8) (w : World) (h : Rd w 1 A n (l.map vb)) (hn : n ≤ 8) :
    Calls Try.prog 57 #[.slice A n c] w fun e w' => e = .returned (.int .u64 (tk l : Nat)) ∧ w = w' := by
  have hl : l.length = n := by simpa using h.1
  have HL := Lib.hid hl
  clear hl
  go_enter Try.func57, Try.ntmps57
  go_wp2
  go_loop [2, 4, 7] (fun y u i => ∃ k : Nat, k ≤ n ∧ i = .int .i64 k ∧ y = .int .u64 (tk (l.take k) : Nat)) (fun _ _ i => n - (intOf i).toNat)
  case atStart => exact ⟨0, Nat.zero_le _, rfl, rfl⟩
  case round =>
    obtain ⟨k, hk, rfl, rfl⟩ := hrel
    by_cases hlt : k < n
    · obtain ⟨p, x, rfl, hx, hc⟩ := h.byteAt hlt
      have hb := tk_lt (l.take k)
      have hp : 256 ^ (l.take k).length ≤ 72057594037927936 := Nat.le_trans (Nat.pow_le_pow_right (by omega) (show (l.take k).length ≤ 7 by simp; omega)) (by decide)
      have hs : tk (l.take (k + 1)) = 256 * tk (l.take k) + x.toNat := by rw [List.take_add_one, hx]; exact tk_snoc _ _
      have HS := Lib.hid hs
      have hb' : ((tk (l.take k) : Nat) : Int) ≤ 72057594037927935 := by omega
      have hxb : (x.toNat : Int) ≤ 255 := by have := x.toNat_lt; omega
      have hk3 : (k : Int) < n := by omega
      clear hs hp hb hx
      generalize tk (l.take k) = t at hb' HS ⊢
      go_wp2
      go_round
      case rel => exact ⟨k + 1, by omega, by go_num, by rw [HS.out, or_byte_64 (by omega) (by omega)]⟩
      case measure => first | (simp [intOf]; omega) | simp [intOf]
    · have hkN : k = n := by omega
      go_wp2
      go_ret
      exact ⟨ret_int (by rw [List.take_of_length_le (by rw [HL.out]; omega)]), rfl⟩

set_option maxHeartbeats 1000000 in
theorem refTaken_s (A : Option Addr) (n c : Nat) (l : List UInt8) (w : World) (h : Rd w 1 A n (l.map vb)) (hn : n ≤ 8) :
    Calls Try.prog 58 #[.slice A n c] w fun e w' => e = .returned (.int .u64 (tk l : Nat)) ∧ w = w' := by
  have hl : l.length = n := by simpa using h.1
  have HL := Lib.hid hl
  clear hl
  go_enter Try.func58, Try.ntmps58
  go_wp2
  go_loop [3, 4] (fun y i => ∃ k : Nat, k ≤ n ∧ i = .int .i64 k ∧ y = .int .u64 (tk (l.take k) : Nat)) (fun _ i => n - (intOf i).toNat)
  case atStart => exact ⟨0, Nat.zero_le _, rfl, rfl⟩
  case round =>
    obtain ⟨k, hk, rfl, rfl⟩ := hrel
    by_cases hlt : k < n
    · obtain ⟨p, x, rfl, hx, hc⟩ := h.byteAt hlt
      have hb := tk_lt (l.take k)
      have hp : 256 ^ (l.take k).length ≤ 72057594037927936 := Nat.le_trans (Nat.pow_le_pow_right (by omega) (show (l.take k).length ≤ 7 by simp; omega)) (by decide)
      have hs : tk (l.take (k + 1)) = 256 * tk (l.take k) + x.toNat := by rw [List.take_add_one, hx]; exact tk_snoc _ _
      have HS := Lib.hid hs
      have hb' : ((tk (l.take k) : Nat) : Int) ≤ 72057594037927935 := by omega
      have hxb : (x.toNat : Int) ≤ 255 := by have := x.toNat_lt; omega
      have hk3 : (k : Int) < n := by omega
      clear hs hp hb hx
      generalize tk (l.take k) = t at hb' HS ⊢
      go_wp2
      go_round
      case rel => exact ⟨k + 1, by omega, by go_num, by rw [HS.out]; go_num⟩
      case measure => first | (simp [intOf]; omega) | simp [intOf]
    · have hkN : k = n := by omega
      go_wp2
      go_ret
      exact ⟨ret_int (by rw [List.take_of_length_le (by rw [HL.out]; omega)]), rfl⟩

set_option maxHeartbeats 1000000 in
theorem refNumber_s (N x : Nat) (w : World) {a b : Int} (ha : a = (x : Int)) (hb : b = (N : Int)) (hx : x ≤ 18446744073709551615) (hN : N ≤ 8) :
    Calls Try.prog 68 #[.int .u64 a, .int .i64 b] w fun e w' => ∃ v, e = .returned v ∧ OwnB w' w.heap.size v (beL N x) ∧ Below w.heap.size w w' := by
  obtain ⟨i0, hi0, hz0, hz1, hz2⟩ := info_parts u8_info
  have H0 := (St.start_lay w []).nilRow 0 rfl 5 1 |>.push_mk rfl
  subst ha hb
  go_enter Try.func68, Try.ntmps68
  go_wp2
  go_loopw [5, 6] (fun v i wr => ∃ (k : Nat) (j : Int), k ≤ N ∧ j ≤ (N : Int) - 1 - k ∧ (N : Int) - 1 - k ≤ j ∧ i = .int .i64 j ∧ St w [] wr (lay [.row 5 1 v k (((beL N x).take k).map vb)])) (fun _ i _ => (intOf i + 1).toNat)
  case atStart => exact ⟨0, (N : Int) - 1, Nat.zero_le _, by omega, by omega, rfl, by simpa using H0⟩
  case round =>
    clear H0
    obtain ⟨k, j, hk, hj1, hj2, rfl, Hk⟩ := hrel
    by_cases hlt : k < N
    · obtain ⟨d, rfl⟩ := Int.eq_ofNat_of_zero_le (by omega : 0 ≤ j)
      have hd : N - 1 - k = d := by omega
      have hg := beL_get (x := x) hlt
      rw [hd] at hg
      have HT : Hid ((beL N x).take (k + 1) = (beL N x).take k ++ [UInt8.ofNat (x / 256 ^ d)]) := by unfold Hid; rw [List.take_add_one, hg]; rfl
      have hbe := byte_eq x d
      have hr := Hk.row 0 rfl
      clear hg hd
      generalize UInt8.ofNat (x / 256 ^ d) = y at HT hbe
      go_wp2_with (at_builtin; rw [hbe]; refine wpList_append_any _ rfl (.tmp 13) (.tmp 19) _ rfl 0 5 i0 _ 1 1 Try.underlying25 hi0 hz0 hz1 hz2 rfl (by omega) u5 k _ rfl (hr.alloc _) (some ⟨wr.heap.size, 0, none⟩) 1 1 [vb y] rfl (rd_new0 wr [vb y] _ 1 rfl) (by simp [Value.oneCell']) (by simp only [maxLen]; omega) (by omega) (by omega) ?_; intro v3 w3 hown3 hg3 hat3)
      have H3 := ((Hk.alloc 1 rfl #[vb y] 5).grow 0 rfl hown3 hg3 hat3).sub (E' := lay [.row 5 1 v3 (k + 1) (((beL N x).take k).map vb ++ [vb y])]) (fun i A hA => by cases i with | zero => exact hA | succ i => simp [lay] at hA)
      go_roundw
      case rel => exact ⟨k + 1, (d : Int) - 1, by omega, by omega, by omega, by go_num, by rw [HT.out]; simpa using H3⟩
      case measure => first | (simp [intOf]; omega) | simp [intOf]
    · have hkN : k = N := by omega
      go_wp2
      go_ret
      subst hkN
      rw [List.take_of_length_le (by rw [beL_length]; omega)] at Hk
      have h := Hk.ownRow 0 rfl
      exact ⟨_, rfl, by unfold OwnB; rw [beL_length]; exact h, Hk.below⟩
end Go.Proofs.Ytgfhnbjpdhdhgaa
