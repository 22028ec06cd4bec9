/- The program's permutation, walked. -/
import Derived.Test.YtgjlclihgpahbaaRows
import Derived.Test.YtgjlclihgpahbaaSep
import Derived.Test.YtgjlclihgpahbaaKecS
import Derived.Test.YtgjlclihgpahbaaTurn
import Derived.Test.YtgjlclihgpahbaaQTail
import Derived.Laws.BitsAllLaws
namespace Go.Proofs.Ytgjlclihgpahbaa
open Go.RowKit
set_option linter.unusedVariables false

def u64v (x : UInt64) : Value := .int .u64 (x.toNat : Int)
theorem u64_get {l : List UInt64} {k : Nat} (h : k < l.length) : (l.map u64v)[k]? = some (.int .u64 ((at64 l k).toNat : Int)) := by
  rw [List.getElem?_map, List.getElem?_eq_getElem h]; simp [u64v, h, at64]
theorem u64_set (l : List UInt64) (k : Nat) (x : UInt64) : (l.map u64v).set k (u64v x) = (l.set k x).map u64v := by simp [List.map_set]

theorem xor64 (x y : UInt64) : bits .xor .u64 (x.toNat : Int) (y.toNat : Int) = ((x ^^^ y).toNat : Int) := by
  rw [u64_xor_nat _ _ x.toNat_lt y.toNat_lt, UInt64.toNat_xor]
theorem not64 (x : UInt64) : bits .xor .u64 (if IntKind.u64.signed = true then -1 else IntKind.u64.max) (x.toNat : Int) = ((~~~x).toNat : Int) := by
  rw [show (if IntKind.u64.signed = true then -1 else IntKind.u64.max) = (((-1 : UInt64).toNat : Nat) : Int) from by decide, xor64, UInt64.neg_one_xor]
theorem and64 (x y : UInt64) : bits .and .u64 (x.toNat : Int) (y.toNat : Int) = ((x &&& y).toNat : Int) := by
  rw [u64_and_nat _ _ x.toNat_lt y.toNat_lt, UInt64.toNat_and]
theorem or64 (x y : UInt64) : bits .or .u64 (x.toNat : Int) (y.toNat : Int) = ((x ||| y).toNat : Int) := by
  rw [u64_or_nat _ _ x.toNat_lt y.toNat_lt, UInt64.toNat_or]

theorem turn_q (x : UInt64) (n : Nat) (w : World) (q : Nat) : Calls Try.prog 68 #[.int .u64 (x.toNat : Int), .int .i64 (n : Int)] (w.drewN q) fun e w' => e = .returned (.int .u64 ((rotl x n).toNat : Int)) ∧ ∃ m, w' = w.drewN m := by
  refine (turn_u64 x.toNat (n : Int) (w.drewN q) x.toNat_lt).mono ?_
  rintro e w' ⟨rfl, m, rfl⟩
  refine ⟨?_, q + m, by simp⟩
  rw [rotl_toNat, show ((n : Int) % 64).toNat = n % 64 by omega]

theorem state_size : (Try.prog.info? 93).map (·.size) = some 25 := by kernel_rfl
theorem u64_one (l : List UInt64) : ∀ v ∈ l.map u64v, v.oneCell' = true := by
  intro v hv
  obtain ⟨x, -, rfl⟩ := List.mem_map.1 hv
  rfl

theorem tri_eq (k : Nat) (h : k < 24) : wrap64 ((wrap64 (((k : Int) + 1) * ((k : Int) + 2))).tdiv 2) = (((k + 1) * (k + 2) / 2 : Nat) : Int) := by
  have H : ∀ k : Fin 24, wrap64 ((wrap64 (((k.val : Int) + 1) * ((k.val : Int) + 2))).tdiv 2) = (((k.val + 1) * (k.val + 2) / 2 : Nat) : Int) := by decide +kernel
  exact H ⟨k, h⟩

section
variable {w0 w : World} {F0 : List Nat} {E : Env}
set_option maxHeartbeats 1000000 in
theorem theta_s (g : Nat) (s : List UInt64) (H : St w0 F0 w E) (i : Nat) (hi : E i = some (.blk g 93 (s.map u64v))) (hs : s.length = 25) :
    Calls Try.prog 60 #[.pointer (some ⟨g, 0, none⟩)] w fun e w' => e = .returned (.tuple #[]) ∧ St w0 F0 w' (upd E i (.blk g 93 ((kTheta s).map u64v))) := by
  obtain ⟨F, HF, -, -, hback⟩ := H.frame1 i hi
  have HB := Lib.hid hback
  have HS := Lib.hid hs
  clear H hback hs
  go_enter Try.func60, Try.ntmps60
  go_wp2
  have H1 := (HF.as1.allocAt 1 rfl w.heap.size rfl #[.int .u64 0, .int .u64 0, .int .u64 0, .int .u64 0, .int .u64 0] 110).push_mk rfl
  clear HF
  generalize hw1 : w.alloc (.cells #[.int .u64 0, .int .u64 0, .int .u64 0, .int .u64 0, .int .u64 0] 110) = w1 at H1 ⊢
  clear hw1
  generalize w.heap.size = gc at H1 ⊢
  go_loopw [8] (fun i wr => ∃ k : Nat, k ≤ 25 ∧ i = .int .i64 k ∧ St w F wr (lay [.blk g 93 (s.map u64v), .blk gc 110 ((kCol s k).map u64v)])) (fun i _ => 25 - (intOf i).toNat)
  case atStart => exact ⟨0, by omega, rfl, H1⟩
  case round =>
    clear H1
    obtain ⟨k, hk, rfl, Hk⟩ := hrel
    by_cases hlt : k < 25
    · have a0 := Hk.cell 0 rfl (u64_get (by rw [HS.out]; exact hlt))
      have b0 := Hk.cell 1 rfl (u64_get (k := k % 5) (by rw [kCol_length]; omega))
      have bf := Hk.free 1 rfl (k % 5)
      have hk1 : (k : Int) < 25 := by omega
      go_wp2
      go_quiet (fail)
      go_wp2
      go_roundw
      case rel => exact ⟨k + 1, by omega, by go_num, by rw [xor64]; exact by have h := ((Hk.drewN nq).store 1 rfl (o := k % 5) (u := u64v (at64 (kCol s k) (k % 5) ^^^ at64 s k))).upd_mk (by simp); rw [u64_set] at h; exact h⟩
      case measure => simp [intOf]; omega
    · obtain rfl : k = 25 := by omega
      go_wp2
      go_loopw [22] (fun i wr => ∃ k : Nat, k ≤ 25 ∧ i = .int .i64 k ∧ St w F wr (lay [.blk g 93 ((kMix (kCol s 25) s k).map u64v), .blk gc 110 ((kCol s 25).map u64v)])) (fun i _ => 25 - (intOf i).toNat)
      case atStart => exact ⟨0, by omega, rfl, Hk⟩
      case round =>
        clear Hk
        obtain ⟨k, hk, rfl, Hk⟩ := hrel
        by_cases hlt : k < 25
        · have a0 := Hk.cell 0 rfl (u64_get (k := k) (by rw [kMix_length, HS.out]; exact hlt))
          have af := Hk.free 0 rfl k
          have b0 := Hk.cell 1 rfl (u64_get (k := (k + 4) % 5) (by rw [kCol_length]; omega))
          have b1 := Hk.cell 1 rfl (u64_get (k := (k + 1) % 5) (by rw [kCol_length]; omega))
          have hk1 : (k : Int) < 25 := by omega
          have hT := turn_q (at64 (kCol s 25) ((k + 1) % 5)) 1
          go_wp2
          refine region_quiet_tail 20 (by kernel_rfl) (by kernel_rfl) ?_
          simp only [List.take_succ_cons, List.take_zero, List.drop_succ_cons, List.drop_zero]
          repeat (go_big_quiet_step ((go_at_call 68; exact hT _ _)))
          refine wpQuiet_nil ?_
          intro nq
          clear hT
          go_wp2
          go_roundw
          case rel => exact ⟨k + 1, by omega, by go_num, by rw [xor64, xor64]; exact by have h := ((Hk.drewN nq).store 0 rfl (o := k) (u := u64v (at64 (kMix (kCol s 25) s k) k ^^^ (at64 (kCol s 25) ((k + 4) % 5) ^^^ rotl (at64 (kCol s 25) ((k + 1) % 5)) 1)))).upd_mk (by simp); rw [u64_set] at h; exact h⟩
          case measure => simp [intOf]; omega
        · obtain rfl : k = 25 := by omega
          go_wp2
          go_end0
          exact ⟨rfl, HB.out _ _ (Hk.to1 rfl)⟩

theorem kPlace_lt (k : Nat) : (kPlace k).1 < 5 ∧ (kPlace k).2 < 5 := by
  induction k with
  | zero => exact ⟨by decide, by decide⟩
  | succ k ih => exact ⟨ih.2, Nat.mod_lt _ (by omega)⟩
theorem turn_at (x : UInt64) (m : Int) (n : Nat) (h : m = (n : Int)) (w : World) : Calls Try.prog 68 #[.int .u64 (x.toNat : Int), .int .i64 m] w fun e w' => e = .returned (.int .u64 ((rotl x n).toNat : Int)) ∧ ∃ q, w' = w.drewN q := by
  subst h; exact turn_q x n w 0

set_option maxHeartbeats 1000000 in
theorem walk_s (s : List UInt64) (hs : s.length = 25) (w : World) :
    Calls Try.prog 61 #[.agg (s.map u64v).toArray] w fun e w' => e = .returned (.agg ((kWalk s).map u64v).toArray) ∧ Below w.heap.size w w' := by
  have HS := Lib.hid hs
  have hz := u64_get (l := s) (k := 0) (by omega)
  clear hs
  go_enter Try.func61, Try.ntmps61
  go_wp2
  refine absorb_wp (St.start_lay w [] |>.allocAt 0 rfl w.heap.size rfl _ _ |>.push_mk rfl |>.allocAt 1 rfl (w.heap.size + 1) (by simp) _ _ |>.push_mk rfl |>.allocAt 2 rfl (w.heap.size + 1 + 1) (by simp) _ _ |>.push_mk rfl) ?_
  intro w3 H3
  clear hz
  generalize w.heap.size + 1 + 1 = g3 at H3 ⊢
  generalize w.heap.size + 1 = g2 at H3 ⊢
  generalize w.heap.size = g1 at H3 ⊢
  go_loopw [4, 5, 12] (fun x y i wr => ∃ k : Nat, k ≤ 24 ∧ i = .int .i64 k ∧ x = .int .i64 ((kPlace k).1 : Nat) ∧ y = .int .i64 ((kPlace k).2 : Nat) ∧ St w [] wr (lay [.blk g1 93 (s.map u64v), .blk g2 93 ((List.replicate 25 0).map u64v), .blk g3 93 ((kWalkTo s k).map u64v)])) (fun _ _ i _ => 24 - (intOf i).toNat)
  case atStart => exact ⟨0, by omega, rfl, rfl, rfl, H3⟩
  case round =>
    clear H3
    obtain ⟨k, hk, rfl, rfl, rfl, Hk⟩ := hrel
    by_cases hlt : k < 24
    · obtain ⟨hX, hY⟩ := kPlace_lt k
      have HE : Hid (kWalkTo s (k + 1) = (kWalkTo s k).set ((kPlace k).2 + 5 * ((2 * (kPlace k).1 + 3 * (kPlace k).2) % 5)) (rotl (at64 s ((kPlace k).1 + 5 * (kPlace k).2)) ((k + 1) * (k + 2) / 2))) := rfl
      have HP : Hid (kPlace (k + 1) = ((kPlace k).2, (2 * (kPlace k).1 + 3 * (kPlace k).2) % 5)) := rfl
      generalize (kPlace k).1 = X at *
      generalize (kPlace k).2 = Y at *
      have a0 := Hk.cell 0 rfl (u64_get (k := X + 5 * Y) (by rw [HS.out]; omega))
      obtain ⟨u, hu⟩ : ∃ u, ((kWalkTo s k).map u64v)[Y + 5 * ((2 * X + 3 * Y) % 5)]? = some u := ⟨_, u64_get (by rw [kWalkTo_length]; omega)⟩
      have b0 := Hk.cell 2 rfl hu
      have bf := Hk.free 2 rfl (Y + 5 * ((2 * X + 3 * Y) % 5))
      clear hu
      go_wp2_with fail
      refine (turn_at _ _ ((k + 1) * (k + 2) / 2) (tri_eq k hlt) _).mono ?_
      rintro e w4 ⟨rfl, q, rfl⟩
      go_wp2
      go_roundw
      case rel => exact ⟨k + 1, by omega, by go_num, by rw [HP.out], by rw [HP.out]; go_num, by have h := ((Hk.drewN q).store 2 rfl (o := Y + 5 * ((2 * X + 3 * Y) % 5)) (u := u64v (rotl (at64 s (X + 5 * Y)) ((k + 1) * (k + 2) / 2)))).upd_mk (by simp); rw [u64_set, ← HE.out] at h; exact h⟩
      case measure => simp [intOf]; omega
    · obtain rfl : k = 24 := by omega
      go_wp2_with (first | (refine wpList_load_row rfl 93 (.tmp 3) rfl g3 rfl _ _ _ _ (Hk.blk 2 rfl) Try.underlying93 rfl (by rw [state_size]; simp [kWalkTo_length]) ?_) | (refine wpList_store_mid rfl 93 (.tmp 2) (.tmp 43) rfl g2 0 _ rfl rfl (by simpa [kWalkTo_length] using Hk.there 1 rfl) (by rw [state_size]; simp [kWalkTo_length]) (all_oneCell_toArray (u64_one _)) ?_))
      have H4 := (Hk.storeAll 1 rfl (vs := (kWalkTo s 24).map u64v) (by simp [kWalkTo_length])).upd_mk (by simp)
      exact bodyPost_ret (results_cell_row rfl _ _ g2 93 ((kWalkTo s 24).map u64v).toArray _ _ rfl (H4.blk 1 rfl) Try.underlying93 rfl (by rw [state_size]; simp [kWalkTo_length])) rfl ⟨rfl, H4.below⟩
end
end Go.Proofs.Ytgjlclihgpahbaa
