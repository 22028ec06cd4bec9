/- Small functions of the laws of layer 7: raw, state, runs. -/
import Derived.Test.YtoodgdcpkkfdgaaKecF
import Derived.Test.YtoodgdcpkkfdgaaKecK
import Derived.Test.YtoodgdcpkkfdgaaEqArr
namespace Go.Proofs.Ytoodgdcpkkfdgaa
open Go.RowKit
set_option linter.unusedVariables false

/-- the first 200 bytes, noughts behind them -/
def wide (p : List UInt8) : List UInt8 := p.take 200 ++ List.replicate (200 - p.length) 0
theorem wide_length (p : List UInt8) : (wide p).length = 200 := by unfold wide; simp; omega
def wideTo (p : List UInt8) (k : Nat) : List UInt8 := p.take k ++ List.replicate (200 - k) 0
theorem wideTo_length (p : List UInt8) (k : Nat) (hk : k ≤ 200) (hp : k ≤ p.length) : (wideTo p k).length = 200 := by unfold wideTo; simp; omega
theorem wideTo_succ (p : List UInt8) (k : Nat) (x : UInt8) (hk : k < 200) (hx : p[k]? = some x) : (wideTo p k).set k x = wideTo p (k + 1) := by
  unfold wideTo
  exact zeros_step hk hx
theorem wideTo_zero (p : List UInt8) : (wideTo p 0).map vb = zb 200 := by
  unfold wideTo zb; rw [List.take_zero, List.nil_append, List.map_replicate]; rfl
theorem wideTo_end (p : List UInt8) (k : Nat) (h : k = p.length ∨ k = 200) (hk : k ≤ 200) (hp : k ≤ p.length) : wideTo p k = wide p := by
  unfold wideTo wide
  rcases h with rfl | rfl
  · rw [List.take_of_length_le (by omega), List.take_of_length_le (by omega)]
  · rw [show 200 - 200 = 200 - p.length by omega]
theorem eq_u64 (t : TypeId) (len : Nat) (ht : Try.prog.underlying t = some (.array len 23)) (xs ys : List UInt64) (hx : xs.length = len) (hy : ys.length = len) (w : World) :
    (Op.equalIn 10000 t (.agg (xs.map u64v).toArray) (.agg (ys.map u64v).toArray)).run Try.prog w = .ok (decide (xs = ys)) w := by
  have h := run_equalIn_ints (P := Try.prog) 9998 t _ len .u64 .u64 (xs.map fun x => (x.toNat : Int)) (ys.map fun x => (x.toNat : Int)) ht Try.underlying23 u64_size (by simpa) (by simpa) w
  rw [List.map_map, List.map_map] at h
  have e : decide ((xs.map fun x => (x.toNat : Int)) = ys.map fun x => (x.toNat : Int)) = decide (xs = ys) := by
    congr 1
    exact propext (List.map_inj_right fun a b h => UInt64.toNat_inj.1 (by omega))
  rw [e] at h
  exact h
theorem eq_u8 (t : TypeId) (len : Nat) (ht : Try.prog.underlying t = some (.array len 5)) (xs ys : List UInt8) (hx : xs.length = len) (hy : ys.length = len) (w : World) :
    (Op.equalIn 10000 t (.agg (xs.map vb).toArray) (.agg (ys.map vb).toArray)).run Try.prog w = .ok (decide (xs = ys)) w := by
  have h := run_equalIn_ints (P := Try.prog) 9998 t _ len .u8 .u8 (xs.map fun x => (x.toNat : Int)) (ys.map fun x => (x.toNat : Int)) ht Try.underlying5 u8_size (by simpa) (by simpa) w
  rw [List.map_map, List.map_map] at h
  have e : decide ((xs.map fun x => (x.toNat : Int)) = ys.map fun x => (x.toNat : Int)) = decide (xs = ys) := by
    congr 1
    exact propext (List.map_inj_right fun a b h => UInt8.toNat_inj.1 (by omega))
  rw [e] at h
  exact h

set_option maxHeartbeats 2000000 in
theorem raw_s (A : Option Addr) (n c : Nat) (p : List UInt8) (w : World) (ha : Rd w 1 A n (p.map vb)) (hn : n ≤ 140737488355328) :
    Calls Try.prog 19 #[.slice A n c] w fun e w' => e = .returned (.agg ((kFrom (wide p)).map u64v).toArray) ∧ Below w.heap.size w w' := by
  have hl : p.length = n := by simpa using ha.1
  have HL := Lib.hid hl
  clear hl
  have hz0 := zero_bytes
  go_enter Try.func19, Try.ntmps19
  go_wp2
  clear hz0
  refine absorb_wp (St.start_lay w [] |>.allocAt 0 rfl w.heap.size rfl _ _ |>.push_mk rfl |>.allocAt 1 rfl (w.heap.size + 1) (by simp) _ _ |>.push_mk rfl) ?_
  intro w3 H3
  generalize w.heap.size + 1 = g2 at H3 ⊢
  generalize hg1 : w.heap.size = g1 at H3 ⊢
  clear hg1
  go_loopw [4] (fun i wr => ∃ k : Nat, k ≤ n ∧ k ≤ 200 ∧ i = .int .i64 k ∧ St w [] wr (lay [.blk g1 29 ((List.replicate 25 0).map u64v), .blk g2 26 ((wideTo p k).map vb)])) (fun i _ => 200 - (intOf i).toNat)
  case atStart => exact ⟨0, by omega, by omega, rfl, by rw [wideTo_zero]; exact H3⟩
  case round =>
    clear H3
    obtain ⟨k, hk, hk2, rfl, Hk⟩ := hrel
    by_cases hlt' : k < n ∧ k < 200
    · obtain ⟨hlt, hlt2⟩ := hlt'
      · obtain ⟨b, o, rfl, -, hc⟩ := (Hk.arg0 ha).flat (by omega) (by omega)
        obtain ⟨x, hx⟩ : ∃ x, p[k]? = some x := ⟨_, List.getElem?_eq_getElem (by rw [HL.out]; exact hlt)⟩
        have a0 := hc k (vb x) (by rw [List.getElem?_map, hx]; rfl)
        clear hc
        have HW : Hid ((wideTo p k).length = 200) := wideTo_length p k hk2 (by rw [HL.out]; omega)
        have HN := Lib.hid (wideTo_succ p k x hlt2 hx)
        obtain ⟨u, hu⟩ : ∃ u, ((wideTo p k).map vb)[k]? = some u := ⟨_, List.getElem?_eq_getElem (by rw [List.length_map, HW.out]; exact hlt2)⟩
        have b0 := Hk.cell 1 rfl hu
        have bf := Hk.free 1 rfl k
        clear hu hx
        have hk3 : (k : Int) < n := by omega
        have hk4 : (k : Int) < 200 := by omega
        go_wp2
        go_roundw
        case rel => exact ⟨k + 1, by omega, by omega, by go_num, by have h := (Hk.store 1 rfl (o := k) (u := vb x)).upd_mk (by simp); rw [← List.map_set, HN.out] at h; exact h⟩
        case measure => simp [intOf]; omega
    · have HE := wideTo_end p k (by rw [HL.out]; omega) hk2 (by rw [HL.out]; omega)
      rw [HE] at Hk
      have hor : k = n ∨ (k < n ∧ k = 200) := by omega
      clear hlt' HE
      rcases hor with rfl | ⟨h1, rfl⟩
      all_goals
        go_wp2_with (refine wpList_load_row rfl 26 (.tmp 3) rfl g2 rfl _ _ _ _ (Hk.blk 1 rfl) Try.underlying26 rfl (by rw [bytes_size]; simp [wide_length]) ?_)
        refine (from_s (wide p) (wide_length p) _).mono ?_
        rintro e w4 ⟨rfl, hb4⟩
        have H4 := Hk.call hb4
        go_wp2_with (refine wpList_store_mid rfl 29 (.tmp 2) (.tmp 22) rfl g1 0 _ rfl rfl (there_eq (H4.there 0 rfl) (by simp [kFrom_length])) (by rw [state_size]; simp [kFrom_length]) (all_oneCell_toArray (u64_one _)) ?_)
        have H5 := (H4.storeAll 0 rfl (vs := (kFrom (wide p)).map u64v) (by simp [kFrom_length])).upd_mk (by simp)
        exact bodyPost_ret (results_cell_row rfl _ _ g1 29 ((kFrom (wide p)).map u64v).toArray _ _ rfl (H5.blk 0 rfl) Try.underlying29 rfl (by rw [state_size]; simp [kFrom_length])) rfl ⟨rfl, H5.below⟩
end Go.Proofs.Ytoodgdcpkkfdgaa
