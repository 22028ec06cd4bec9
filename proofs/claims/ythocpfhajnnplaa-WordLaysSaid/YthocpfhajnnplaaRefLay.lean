/- The reference's Lay and LayLE. -/
import Derived.Test.YthocpfhajnnplaaRows
import Derived.Test.YthocpfhajnnplaaLib
import Derived.Test.YthocpfhajnnplaaKitB
import Derived.Test.YthocpfhajnnplaaHeap
import Derived.Test.YthocpfhajnnplaaLay
namespace Go.Proofs.Ythocpfhajnnplaa
open Go.RowKit
set_option linter.unusedVariables false

theorem tmod_byte (y : Nat) : (y : Int).tmod 256 = ((UInt8.ofNat y).toNat : Int) := by
  rw [Int.tmod_eq_emod_of_nonneg (Int.natCast_nonneg _), UInt8.toNat_ofNat']; rfl
theorem tdiv_byte (y : Nat) : (y : Int).tdiv 256 = ((y / 256 : Nat) : Int) := by
  rw [Int.tdiv_eq_ediv_of_nonneg (Int.natCast_nonneg _)]; rfl

set_option maxHeartbeats 400000 in
theorem refLayLE_any (x N : Nat) {b : Int} (hb : b = (N : Int)) (w : World) (hx : x < 2 ^ 64) (hN : N ≤ 8) :
    Calls Try.prog 31 #[.int .u64 (x : Int), .int .i64 b] w fun e w' => ∃ v, e = .returned v ∧ OwnB w' w.heap.size v (leL N x) ∧ Below w.heap.size w w' := by
  subst hb
  obtain ⟨i0, hi0, hz0, hz1, hz2⟩ := info_parts u8_info
  have HX := Lib.hid hx
  clear hx
  go_enter Try.func31, Try.ntmps31
  go_wp2
  go_loopw [0, 5, 6] (fun y v i wr => ∃ k z : Nat, k ≤ N ∧ i = .int .i64 k ∧ y = .int .u64 (z : Int) ∧ Hid (z = x / 256 ^ k) ∧ OwnB wr w.heap.size v (leL k x) ∧ Below w.heap.size w wr) (fun _ _ i _ => N - (intOf i).toNat)
  case atStart => exact ⟨0, x, Nat.zero_le _, rfl, rfl, by simp [Hid], World.ownsRow_nil _ _ _ _, Below.refl _ _⟩
  case round =>
    obtain ⟨k, z, hk, rfl, rfl, hz, ho, hbw⟩ := hrel
    by_cases hlt : k < N
    · have h1 := tmod_byte z
      obtain ⟨z', hz'⟩ : ∃ z', z' = z / 256 := ⟨_, rfl⟩
      have h2 := tdiv_byte z
      rw [← hz'] at h2
      have HZ' : Hid (z' = x / 256 ^ (k + 1)) := by have h3 := hz.out; unfold Hid; rw [hz', h3, Nat.pow_succ, ← Nat.div_div_eq_div_mul]
      have hz9 : (z' : Int) ≤ 18446744073709551615 := by
        have h3 := hz.out; have h4 := HX.out; have h5 := Nat.div_le_self x (256 ^ k); omega
      have hq : ((UInt8.ofNat z).toNat : Int) ≤ 255 := by have := (UInt8.ofNat z).toNat_lt; omega
      clear hz'
      have hsz : w.heap.size ≤ wr.heap.size := hbw.size
      have hor : wr.ownsRow w.heap.size 5 1 u5 k ((leL k x).map vb) := by have h := ho; unfold OwnB at h; rwa [leL_length] at h
      have HL := Lib.hid (leL_succ k x)
      rw [← hz.out] at HL
      have HK := Lib.hid (leL_length k x)
      generalize UInt8.ofNat z = b at h1 hq HL
      go_wp2_with (at_builtin; refine wpList_append_own _ rfl (.tmp 12) (.tmp 16) 22 rfl w.heap.size 5 i0 (.int .u8 0) 1 1 Try.underlying22 hi0 hz0 hz1 hz2 rfl (by decide) _ _ _ rfl (hor.alloc _) ⟨wr.heap.size, 0, none⟩ 1 1 [.int .u8 (b.toNat : Int)] rfl rfl (cell_one_new _ _ _) (by simp [Value.oneCell']) (by simp only [maxLen]; omega) (by omega) (by simp; omega) ?_; intro v2 w2 ho2 hg2 hnil)
      go_roundw
      case rel => exact ⟨k + 1, z', by omega, by go_num, rfl, HZ', by rw [HL.out]; exact OwnB.push_at HK.out ho2, (hbw.alloc hsz _).grown hg2 (by simp; omega) (fun g hg => (ho.lt g hg).1)⟩
      case measure => simp [intOf]; omega
    · have hkN : k = N := by omega
      subst hkN
      go_wp2
      go_ret
      exact ⟨_, rfl, ho, hbw⟩

set_option maxHeartbeats 400000 in
theorem refLay_any (x N : Nat) {b : Int} (hb : b = (N : Int)) (w : World) (hx : x < 2 ^ 64) (hN : N ≤ 8) (hN1 : 1 ≤ N) :
    Calls Try.prog 30 #[.int .u64 (x : Int), .int .i64 b] w fun e w' => ∃ v, e = .returned v ∧ OwnB w' w.heap.size v (beL N x) ∧ Below w.heap.size w w' := by
  obtain ⟨i0, hi0, hz0, hz1, hz2⟩ := info_parts u8_info
  have HX := Lib.hid hx
  have HB := Lib.hid hb
  clear hx hb
  go_enter Try.func30, Try.ntmps30
  go_wp2_with fail
  refine (refLayLE_any x N HB.out _ HX.out hN).mono ?_
  rintro e w1 ⟨v1, rfl, ho1, hb1⟩
  obtain ⟨A1, n1, c1, rfl, hn1, hr1⟩ := ho1.shape
  have hn1' := hn1.out
  rw [leL_length] at hn1'
  subst hn1'
  go_wp2
  go_loopw [6, 7] (fun v i wr => ∃ (k : Nat) (j : Int), k ≤ n1 ∧ j ≤ (n1 : Int) - 1 - k ∧ (n1 : Int) - 1 - k ≤ j ∧ i = .int .i64 j ∧ OwnB wr w1.heap.size v ((beL n1 x).take k) ∧ Below w1.heap.size w1 wr) (fun _ i _ => (intOf i + 1).toNat)
  case atStart => exact ⟨0, (n1 : Int) - 1, Nat.zero_le _, by omega, by omega, by first | rfl | go_num, World.ownsRow_nil _ _ _ _, Below.refl _ _⟩
  case round =>
    obtain ⟨k, j, hk, hj1, hj2, rfl, ho, hbw⟩ := hrel
    by_cases hlt : k < n1
    · obtain ⟨q, rfl⟩ := Int.eq_ofNat_of_zero_le (by omega : 0 ≤ j)
      obtain ⟨p, b, rfl, hx', hc, hpb⟩ := (hr1.below hbw).byteIn (show q < n1 by omega)
      have hqn : (q : Int) < n1 := by omega
      have hxb : (beL n1 x)[k]? = some b := by
        rw [← hx']; unfold beL
        rw [List.getElem?_reverse (by rw [leL_length]; omega), leL_length]
        congr 1; omega
      have htk : (beL n1 x).take (k + 1) = (beL n1 x).take k ++ [b] := by rw [List.take_add_one, hxb]; rfl
      have hlk : ((beL n1 x).take k).length = k := by rw [List.length_take, beL_length]; omega
      have hsz : w1.heap.size ≤ wr.heap.size := hbw.size
      have hor : wr.ownsRow w1.heap.size 5 1 u6 k (((beL n1 x).take k).map vb) := by have h := ho; unfold OwnB at h; rwa [hlk] at h
      have HT := Lib.hid htk
      have HK := Lib.hid hlk
      clear hx' hxb htk hlk
      go_wp2_with (at_builtin; refine wpList_append_own _ rfl (.tmp 18) (.tmp 23) 22 rfl w1.heap.size 5 i0 (.int .u8 0) 1 1 Try.underlying22 hi0 hz0 hz1 hz2 rfl (by decide) _ _ _ rfl (hor.alloc _) ⟨wr.heap.size, 0, none⟩ 1 1 [.int .u8 (b.toNat : Int)] rfl rfl (cell_one_new _ _ _) (by simp [Value.oneCell']) (by simp only [maxLen]; omega) (by omega) (by simp; omega) ?_; intro v2 w2 ho2 hg2 hnil)
      have hb3 : Below w1.heap.size w1 w2 := (hbw.alloc hsz _).grown hg2 (by simp; omega) (fun g hg => (ho.lt g hg).1)
      go_roundw
      case rel => exact ⟨k + 1, (q : Int) - 1, by omega, by omega, by omega, by go_num, by rw [HT.out]; exact OwnB.push_at HK.out ho2, hb3⟩
      case measure => simp [intOf]
    · have hkN : k = n1 := by omega
      subst hkN
      rw [List.take_of_length_le (by rw [beL_length]; omega)] at ho
      have hj : j < 0 := by omega
      go_wp2
      go_ret
      exact ⟨_, rfl, ho.more hb1.size, hb1.trans (hbw.mono hb1.size)⟩
end Go.Proofs.Ythocpfhajnnplaa
