/- word.Lay in its four instances. -/
import Derived.Test.YthieegmmbjjcbaaRows
import Derived.Test.YthieegmmbjjcbaaLib
import Derived.Test.YthieegmmbjjcbaaKitB
import Derived.Test.YthieegmmbjjcbaaHeap
import Derived.Test.YthieegmmbjjcbaaRot
import Derived.Test.YthieegmmbjjcbaaTurn
import Derived.Test.YthieegmmbjjcbaaLay
import Derived.Test.YthieegmmbjjcbaaMade
namespace Go.Proofs.Ythieegmmbjjcbaa
open Go.RowKit
set_option maxRecDepth 100000
set_option linter.unusedVariables false

theorem byte_eq (x d : Nat) : (x : Int) / 2 ^ (8 * d) % 256 = ((UInt8.ofNat (x / 256 ^ d)).toNat : Int) := by
  have e : (x : Int) / 2 ^ (8 * d) = ((x / 256 ^ d : Nat) : Int) := by
    rw [show (256 : Nat) ^ d = 2 ^ (8 * d) by rw [Nat.pow_mul], Int.natCast_ediv, Int.natCast_pow]; rfl
  rw [e, UInt8.toNat_ofNat']
  rfl
theorem made_bytes {w : World} {base g n : Nat} (h : w.ownsRow base 5 1 (.slice (some ⟨g, 0, none⟩) n n) n (madeCells (Value.int .u8 0).cells (n * 1)).toList) : OwnB w base (.slice (some ⟨g, 0, none⟩) n n) (List.replicate n 0) := by
  unfold OwnB
  rw [List.length_replicate, List.map_replicate]
  rw [show (Value.int .u8 0).cells = #[.int .u8 0] from rfl, toList_madeCells_one, Nat.mul_one] at h
  exact h

set_option maxHeartbeats 400000 in
theorem lay_u64 (x : Nat) (w : World) (hx : x < 2 ^ 64) :
    Calls Try.prog 39 #[.int .u64 (x : Int)] w fun e w' => ∃ v, e = .returned v ∧ OwnB w' w.heap.size v (beL 8 x) ∧ Below w.heap.size w w' := by
  obtain ⟨i0, hi0, hz0, hz1, hz2⟩ := info_parts u8_info
  have HX := Lib.hid hx
  clear hx
  go_enter Try.func39, Try.ntmps39
  go_wp2_with (first | (go_at_call 48; refine (width_u64 _).mono ?_; rintro e w1 ⟨rfl, rfl⟩) | (at_make; refine wpList_make_full _ rfl (.tmp 8) (.tmp 8) 22 rfl w.heap.size 5 i0 (.int .u8 0) 1 Try.underlying22 hi0 hz0 hz1 .i64 .i64 _ _ 8 rfl rfl (by omega) (by omega) (by rw [hz2]; omega) (by simp only [maxLen]; omega) (Nat.le_refl _) ?_; intro w1 ho1 hg1))
  have ho1' := made_bytes ho1
  have hb1 : Below w.heap.size w w1 := (Below.refl _ _).grown hg1 (Nat.le_refl _) (fun _ h => by cases h)
  go_loopw [12] (fun i wr => ∃ k : Nat, k ≤ 8 ∧ i = .int .i64 k ∧ OwnB wr w.heap.size (.slice (some ⟨w.heap.size, 0, none⟩) 8 8) ((beL 8 x).take k ++ List.replicate (8 - k) 0) ∧ Below w.heap.size w wr) (fun i _ => 8 - (intOf i).toNat)
  case atStart => exact ⟨0, Nat.zero_le _, rfl, by simpa using ho1', hb1⟩
  case round =>
    clear ho1 hg1 hb1 ho1'
    obtain ⟨k, hk, rfl, ho, hbw⟩ := hrel
    by_cases hlt : k < 8
    · have hxy := beL_get (x := x) hlt
      rw [show 8 - 1 - k = 7 - k by omega] at hxy
      have hst := ho.stored k (UInt8.ofNat (x / 256 ^ (7 - k)))
      rw [zeros_step hlt hxy, ← byte_eq] at hst
      obtain ⟨z, -, hcz⟩ := ho.cellAt (k := k) (by simp only [List.length_append, List.length_take, beL_length, List.length_replicate]; omega)
      have hfz := ho.frozenAt k
      clear hxy
      go_wp2
      go_roundw
      case rel => exact ⟨k + 1, by omega, by go_num, hst.1, hbw.setCell (Nat.le_refl _) _⟩
      case measure => simp [intOf]; omega
    · have hkr : k = 8 := by omega
      subst hkr
      rw [Nat.sub_self, List.replicate_zero, List.append_nil, List.take_of_length_le (by rw [beL_length]; omega)] at ho
      go_wp2
      go_ret
      exact ⟨_, rfl, ho, hbw⟩

end Go.Proofs.Ythieegmmbjjcbaa
