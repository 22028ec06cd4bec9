/- word.Xor, the reference's Xor, and the law WordXors walked. -/
import Derived.Test.YthocpfhajnnplaaRows
import Derived.Test.YthocpfhajnnplaaLib
import Derived.Test.YthocpfhajnnplaaKitB
import Derived.Test.YthocpfhajnnplaaHeap
import Derived.Test.YthocpfhajnnplaaApart
namespace Go.Proofs.Ythocpfhajnnplaa
open Go.RowKit

theorem bits_xor_u8 (a b : UInt8) : bits .xor .u8 (a.toNat : Int) (b.toNat : Int) = ((a ^^^ b).toNat : Int) := by
  rw [u8_xor_nat _ _ a.toNat_lt b.toNat_lt, UInt8.toNat_xor]
theorem bits_or_u8 (a b : UInt8) : bits .or .u8 (a.toNat : Int) (b.toNat : Int) = ((a ||| b).toNat : Int) := by
  rw [u8_or_nat _ _ a.toNat_lt b.toNat_lt, UInt8.toNat_or]
theorem bits_and_u8 (a b : UInt8) : bits .and .u8 (a.toNat : Int) (b.toNat : Int) = ((a &&& b).toNat : Int) := by
  rw [u8_and_nat _ _ a.toNat_lt b.toNat_lt, UInt8.toNat_and]

theorem or_sub_and_nat : ∀ x : Fin 256, ∀ y : Fin 256, (x.val ||| y.val) - (x.val &&& y.val) = x.val ^^^ y.val ∧ (x.val &&& y.val) ≤ (x.val ||| y.val) := by decide +kernel
/-- behind names that the walk does not open -/
def xorB (a b : UInt8) : UInt8 := a ^^^ b
def orB (a b : UInt8) : UInt8 := a ||| b
def andB (a b : UInt8) : UInt8 := a &&& b
theorem or_sub_and_u8 (a b : UInt8) : IntKind.u8.wrap (((orB a b).toNat : Int) - ((andB a b).toNat : Int)) = ((xorB a b).toNat : Int) := by
  obtain ⟨h1, h2⟩ := or_sub_and_nat ⟨a.toNat, a.toNat_lt⟩ ⟨b.toNat, b.toNat_lt⟩
  simp only at h1 h2
  have h3 := (a ^^^ b).toNat_lt
  unfold orB andB xorB
  rw [UInt8.toNat_or, UInt8.toNat_and, UInt8.toNat_xor] at *
  rw [IntKind.wrap_u8]
  omega

/-- what both tell -/
def xorL (xs ys : List UInt8) : List UInt8 := List.zipWith (fun a b => a ^^^ b) xs ys
theorem xorL_length (xs ys : List UInt8) : (xorL xs ys).length = min xs.length ys.length := by simp [xorL]
theorem xorL_get {xs ys : List UInt8} {k : Nat} {x y : UInt8} (hx : xs[k]? = some x) (hy : ys[k]? = some y) : (xorL xs ys)[k]? = some (x ^^^ y) := by
  simp [xorL, List.getElem?_zipWith, hx, hy]
theorem zeros_step {l : List UInt8} {k n : Nat} {b : UInt8} (hk : k < n) (hb : l[k]? = some b) : (l.take k ++ List.replicate (n - k) 0).set k b = l.take (k + 1) ++ List.replicate (n - (k + 1)) 0 := by
  have hl : k < l.length := (List.getElem?_eq_some_iff.1 hb).1
  have e : n - k = (n - (k + 1)) + 1 := by omega
  have hm : min k l.length = k := by omega
  rw [List.set_append_right _ _ (by simp; omega), List.length_take, hm, Nat.sub_self, e, List.replicate_succ, List.set_cons_zero, List.take_add_one, hb]
  simp

set_option maxHeartbeats 400000 in
theorem xor_any (A B : Option Addr) (n m c d : Nat) (xs ys : List UInt8) (w : World) (ha : Rd w 1 A n (xs.map vb)) (hb : Rd w 1 B m (ys.map vb)) (hn : n ≤ 140737488355328) (hm : m ≤ 140737488355328) :
    Calls Try.prog 11 #[.slice A n c, .slice B m d] w fun e w' => ∃ v, e = .returned v ∧ OwnB w' w.heap.size v (xorL xs ys) ∧ Below w.heap.size w w' := by
  obtain ⟨i0, hi0, hz0, hz1, hz2⟩ := info_parts u8_info
  have hlx : xs.length = n := by simpa using ha.1
  have hly : ys.length = m := by simpa using hb.1
  have Hx := Lib.hid hlx
  have Hy := Lib.hid hly
  clear hlx hly
  obtain ⟨r, hr⟩ : ∃ r, r = min n m := ⟨_, rfl⟩
  have hr1 : r ≤ n := by omega
  have hr2 : r ≤ m := by omega
  have hlen : (xorL xs ys).length = r := by rw [xorL_length, Hx.out, Hy.out, hr]
  have Hl := Lib.hid hlen
  have HR := Lib.hid hr
  clear hlen hr
  go_enter Try.func11, Try.ntmps11
  go_wp2_with (at_make; refine wpList_make_full _ rfl (.tmp 11) (.tmp 11) 22 rfl w.heap.size 5 i0 (.int .u8 0) 1 Try.underlying22 hi0 hz0 hz1 .i64 .i64 _ _ r rfl rfl (by have := HR.out; omega) (by have := HR.out; omega) (by rw [hz2]; omega) (by simp only [maxLen]; omega) (Nat.le_refl _) ?_; intro w1 ho1 hg1)
  all_goals
    have ho1' : OwnB w1 w.heap.size (.slice (some ⟨w.heap.size, 0, none⟩) r r) (List.replicate r 0) := by
      unfold OwnB; rw [List.length_replicate, List.map_replicate]
      rw [show (Value.int .u8 0).cells = #[.int .u8 0] from rfl, toList_madeCells_one, Nat.mul_one] at ho1
      exact ho1
    have hb1 : Below w.heap.size w w1 := (Below.refl _ _).grown hg1 (Nat.le_refl _) (fun _ h => by cases h)
    go_loopw [15] (fun i wr => ∃ k : Nat, k ≤ r ∧ i = .int .i64 k ∧ OwnB wr w.heap.size (.slice (some ⟨w.heap.size, 0, none⟩) r r) ((xorL xs ys).take k ++ List.replicate (r - k) 0) ∧ Below w.heap.size w wr) (fun i _ => r - (intOf i).toNat)
    case atStart => exact ⟨0, Nat.zero_le _, rfl, by simpa using ho1', hb1⟩
    case round =>
      clear ho1 hg1 hb1
      obtain ⟨k, hk, rfl, ho, hbw⟩ := hrel
      by_cases hlt : k < r
      · obtain ⟨p, x, rfl, hx, hcx⟩ := (ha.below hbw).byteAt (show k < n by omega)
        obtain ⟨p', y, rfl, hy, hcy⟩ := (hb.below hbw).byteAt (show k < m by omega)
        have hxy := xorL_get hx hy
        have hst := ho.stored k (x ^^^ y)
        rw [zeros_step hlt hxy] at hst
        obtain ⟨z, -, hcz⟩ := ho.cellAt (k := k) (by simp only [List.length_append, List.length_take, Hl.out, List.length_replicate]; omega)
        have hfz := ho.frozenAt k
        have HXY := Lib.hid hxy
        have hbx := bits_xor_u8 x y
        clear hx hy hxy
        have hi1 : (k : Int) < n := by omega
        have hi2 : (k : Int) < m := by omega
        go_wp2
        go_still_tail 12, (by kernel_rfl)
        go_wp2
        go_roundw
        case rel => exact ⟨k + 1, by omega, by go_num, hst.1, (hbw.setCell (Nat.le_refl _) _).drew⟩
        case measure => simp [intOf]; omega
      · have hkr : k = r := by omega
        subst hkr
        have hl := Hl.out
        rw [Nat.sub_self, List.replicate_zero, List.append_nil, List.take_of_length_le (by omega)] at ho
        clear hl
        go_wp2
        go_ret
        exact ⟨_, rfl, ho, hbw⟩

set_option maxHeartbeats 400000 in
theorem refXor_any (A B : Option Addr) (n m c d : Nat) (xs ys : List UInt8) (w : World) (ha : Rd w 1 A n (xs.map vb)) (hb : Rd w 1 B m (ys.map vb)) (hn : n ≤ 140737488355328) (_hm : m ≤ 140737488355328) :
    Calls Try.prog 10 #[.slice A n c, .slice B m d] w fun e w' => ∃ v, e = .returned v ∧ OwnB w' w.heap.size v (xorL xs ys) ∧ Below w.heap.size w w' := by
  obtain ⟨i0, hi0, hz0, hz1, hz2⟩ := info_parts u8_info
  have hlx : xs.length = n := by simpa using ha.1
  have hly : ys.length = m := by simpa using hb.1
  have Hx := Lib.hid hlx
  have Hy := Lib.hid hly
  clear hlx hly
  go_enter Try.func10, Try.ntmps10
  go_wp2
  go_loopw [5, 6] (fun v i wr => ∃ k : Nat, k ≤ n ∧ k ≤ m ∧ i = .int .i64 k ∧ OwnB wr w.heap.size v ((xorL xs ys).take k) ∧ Below w.heap.size w wr) (fun _ i _ => n - (intOf i).toNat)
  case atStart => exact ⟨0, Nat.zero_le _, Nat.zero_le _, rfl, World.ownsRow_nil _ _ _ _, Below.refl _ _⟩
  case round =>
    obtain ⟨k, hk1, hk2, rfl, ho, hbw⟩ := hrel
    by_cases hlt1 : k < n
    · by_cases hlt2 : k < m
      · obtain ⟨p, x, rfl, hx, hcx, hpb⟩ := ha.byteIn hlt1
        obtain ⟨p', y, rfl, hy, hcy, hpb'⟩ := hb.byteIn hlt2
        rw [← hbw.cell hpb] at hcx
        rw [← hbw.cell hpb'] at hcy
        have hnp : some (p.add k).block ≠ u5.ownBlock := fun e => by have := (ho.lt _ e.symm).1; omega
        have hnp' : some (p'.add k).block ≠ u5.ownBlock := fun e => by have := (ho.lt _ e.symm).1; omega
        have hxy := xorL_get hx hy
        have htk : (xorL xs ys).take (k + 1) = (xorL xs ys).take k ++ [x ^^^ y] := by rw [List.take_add_one, hxy]; rfl
        have hlk : ((xorL xs ys).take k).length = k := by rw [List.length_take, xorL_length, Hx.out, Hy.out]; omega
        have HTK := Lib.hid htk
        have HLK := Lib.hid hlk
        have hsz : w.heap.size ≤ wr.heap.size := hbw.size
        have hor : wr.ownsRow w.heap.size 5 1 u5 k (((xorL xs ys).take k).map vb) := by unfold OwnB at ho; rwa [hlk] at ho
        have hb1 : bits .or .u8 (x.toNat : Int) (y.toNat : Int) = ((orB x y).toNat : Int) := bits_or_u8 x y
        have hb2 : bits .and .u8 (x.toNat : Int) (y.toNat : Int) = ((andB x y).toNat : Int) := bits_and_u8 x y
        have hb3 := or_sub_and_u8 x y
        have hi1 : (k : Int) < n := by omega
        have hi2 : (k : Int) < m := by omega
        clear hx hy hxy htk hlk
        go_wp2
        go_region_held3 (fun w' => w'.cell? (p.add k) = some (.int .u8 (x.toNat : Int)) ∧ w'.cell? (p'.add k) = some (.int .u8 (y.toNat : Int)))
          (first | go_keep | (go_split_ands; refine ⟨?_, ?_⟩; (rw [hg1.cell_far _ (by simp; omega) hnp]; assumption); (rw [hg1.cell_far _ (by simp; omega) hnp']; assumption)))
          ((refine step_append_any _ (by rfl) (.tmp 19) (.tmp 39) _ (by rfl) w.heap.size 5 i0 (.int .u8 0) 1 1 Try.underlying22 hi0 hz0 hz1 hz2 rfl (by omega) u5 k _ (by rfl) ((hor.alloc _).drew) (some ⟨wr.heap.size, 0, none⟩) 1 1 [.int .u8 ((xorB x y).toNat : Int)] (by rfl) (Rd.new1 _ _ _) (by simp [Value.oneCell']) (by simp only [maxLen]; omega) (by omega) (by simp; omega) ?_; intro v1 w1 hown1 hg1 hat1))
        go_wp2
        go_roundw
        case rel => exact ⟨k + 1, by omega, by omega, by go_num, by rw [HTK.out]; exact OwnB.push_at HLK.out hown1, (hbw.alloc hsz _).drew.grown hg1 (by simp; omega) (fun g e => (ho.lt g e).1)⟩
        case measure => simp [intOf]; omega
      · have hkm : k = m := by omega
        have h2 : decide ((k : Int) < m) = false := by simp; omega
        have he : (xorL xs ys).take k = xorL xs ys := List.take_of_length_le (by rw [xorL_length, Hx.out, Hy.out]; omega)
        rw [he] at ho
        clear he hkm
        go_wp2
        go_ret
        exact ⟨_, rfl, ho, hbw⟩
    · have he : (xorL xs ys).take k = xorL xs ys := List.take_of_length_le (by rw [xorL_length, Hx.out, Hy.out]; omega)
      rw [he] at ho
      clear he
      go_wp2
      go_ret
      exact ⟨_, rfl, ho, hbw⟩

end Go.Proofs.Ythocpfhajnnplaa
