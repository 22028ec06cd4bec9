/- Lists of whole numbers: read, held against one another (turnkeykit.SameInts). -/
import Derived.Test.YtcnphkmcgefjoaaKitB
namespace Go.Proofs.Ytcnphkmcgefjoaa
open Go.RowKit

/-- a number as a value -/
def iv (x : Int) : Value := .int .i64 x
theorem iv_one (l : List Int) : ∀ u ∈ l.map iv, u.oneCell' = true := by
  intro v hv
  obtain ⟨x, -, rfl⟩ := List.mem_map.1 hv
  rfl
theorem int_info : (Try.prog.info? 3).map (fun i => (i.zero, i.size, i.bytes)) = some (some (.int .i64 0), 1, 8) := by kernel_rfl

theorem Rd.intAt {w : World} {A : Option Addr} {n k : Nat} {l : List Int} (h : Rd w 1 A n (l.map iv)) (hk : k < n) :
    ∃ ad b, A = some ad ∧ l[k]? = some b ∧ w.cell? (ad.add k) = some (.int .i64 b) := by
  obtain ⟨ad, u, rfl, -, hu, hc⟩ := h.at_ hk
  rw [List.getElem?_map] at hu
  cases hb : l[k]? with
  | none => rw [hb] at hu; cases hu
  | some b => rw [hb] at hu; cases hu; exact ⟨ad, b, rfl, rfl, hc⟩

set_option maxHeartbeats 400000 in
theorem sameInts_any (A B : Option Addr) (n m c d : Nat) (xs ys : List Int) (w : World) (ha : Rd w 1 A n (xs.map iv)) (hb : Rd w 1 B m (ys.map iv)) (hn : n ≤ 9223372036854775807) (hm : m ≤ 9223372036854775807) :
    Calls Try.prog 26 #[.slice A n c, .slice B m d] w fun e w' => e = .returned (.bool (decide (xs = ys))) ∧ ∃ k, w' = w.drewN k := by
  have hlx : xs.length = n := by simpa using ha.1
  have hly : ys.length = m := by simpa using hb.1
  have Hx := Lib.hid hlx
  have Hy := Lib.hid hly
  clear hlx hly
  by_cases hnm : n = m
  · subst hnm
    have h0 : ((n : Int) != n) = false := by simp
    go_enter Try.func26, Try.ntmps26
    go_wp2
    go_loopw [5] (fun i wr => ∃ k q : Nat, k ≤ n ∧ i = .int .i64 k ∧ wr = w.drewN q ∧ Hid (xs.take k = ys.take k)) (fun i _ => n - (intOf i).toNat)
    case atStart => exact ⟨0, 0, Nat.zero_le _, rfl, rfl, rfl⟩
    case round =>
      obtain ⟨k, q, hk, rfl, rfl, hpre⟩ := hrel
      by_cases hlt : k < n
      · obtain ⟨p, x, rfl, hx, hcx⟩ := ha.intAt hlt
        obtain ⟨p', y, rfl, hy, hcy⟩ := hb.intAt hlt
        have HX := Lib.hid hx
        have HY := Lib.hid hy
        clear hx hy
        go_wp2
        go_quiet (fail)
        by_cases hxy : x = y
        · subst hxy
          have h2 : (x != x) = false := by simp
          go_wp2
          go_roundw
          case rel => exact ⟨k + 1, q + nq, by omega, by go_num, by simp, take_succ_eq hpre.out HX.out HY.out⟩
          case measure => simp [intOf]; omega
        · have h2 : (x != y) = true := by simpa using hxy
          go_wp2
          go_ret
          refine ⟨ret_bool ?_, q + nq, by simp⟩
          symm; simp only [decide_eq_false_iff_not]
          rintro rfl
          have a := HX.out
          have b := HY.out
          rw [a] at b
          exact hxy (Option.some.inj b)
      · go_wp2
        go_ret
        refine ⟨ret_bool ?_, q, rfl⟩
        symm; simp only [decide_eq_true_eq]
        have h := hpre.out
        have a := Hx.out
        have b := Hy.out
        rwa [List.take_of_length_le (by omega), List.take_of_length_le (by omega)] at h
  · have h0 : ((n : Int) != m) = true := by simp only [bne_iff_ne, ne_eq]; omega
    go_enter Try.func26, Try.ntmps26
    go_wp2
    go_ret
    refine ⟨ret_bool ?_, 0, rfl⟩
    symm; simp only [decide_eq_false_iff_not]
    rintro rfl
    exact hnm (Hx.out.symm.trans Hy.out)
end Go.Proofs.Ytcnphkmcgefjoaa
