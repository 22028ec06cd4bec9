/- Lists of runs kept; the law MeterRows, walked. -/
import Derived.Test.YtpmgklmgaienhaaMeU
namespace Go.Proofs.Ytpmgklmgaienhaa
open Go.RowKit
set_option linter.unusedVariables false
set_option maxRecDepth 100000

set_option maxHeartbeats 400000 in
theorem sameRn_yes (A B : Option Addr) (n c d : Nat) (l : List RunT) (w : World) (ha : Rd w 3 A n (runsV l)) (hb : Rd w 3 B n (runsV l)) (hn : n ≤ 10000000000000) :
    Calls Try.prog 45 #[.slice A n c, .slice B n d] w fun e w' => e = .returned (.bool true) ∧ ∃ k, w' = w.drewN k := by
  have h0 : ((n : Int) != n) = false := by simp
  have hll : l.length = n := by have := ha.1; rw [runsV_length] at this; omega
  have HL := Lib.hid hll
  clear hll
  go_enter Try.func45, Try.ntmps45
  go_wp2
  go_loopw [5] (fun i wr => ∃ k q : Nat, k ≤ n ∧ i = .int .i64 k ∧ wr = w.drewN q) (fun i _ => n - (intOf i).toNat)
  case atStart => exact ⟨0, 0, Nat.zero_le _, rfl, rfl⟩
  case round =>
    obtain ⟨k, q, hk, rfl, rfl⟩ := hrel
    by_cases hlt : k < n
    · obtain ⟨⟨x1, x2, x3⟩, hx⟩ : ∃ r, l[k]? = some r := ⟨_, List.getElem?_eq_getElem (by rw [HL.out]; exact hlt)⟩
      obtain ⟨p, o, rfl, a0, a1, a2, -⟩ := run_cells ha hx
      obtain ⟨p', o', rfl, b0, b1, b2, -⟩ := run_cells hb hx
      have hk1 : (k : Int) < n := by omega
      clear hx
      go_wp2
      go_quiet (fail)
      go_wp2
      go_roundw
      case rel => exact ⟨k + 1, q + nq, by omega, by go_num, by simp⟩
      case measure => simp [intOf]; omega
    · have hk1 : ¬ (k : Int) < n := by omega
      go_wp2
      go_ret
      exact ⟨rfl, q, rfl⟩
theorem keptRn_yes (A B : Option Addr) (n m c d : Nat) (l : List RunT) (w : World) (ha : Rd w 3 A m (runsV (l ++ marksRn 7 0 6))) (hb : Rd w 3 B n (runsV l)) (hn : n ≤ 5864062014634) (hm : m ≤ 10000000000000) :
    Calls Try.prog 25 #[.slice A m c, .slice B n d] w fun e w' => e = .returned (.bool true) ∧ Below w.heap.size w w' := by
  have hm' : m = (l ++ marksRn 7 0 6).length := by have := ha.1; rw [runsV_length] at this; omega
  go_enter Try.func25, Try.ntmps25
  go_wp2_with fail
  refine (lentRn_any B n d l w hb (by omega)).mono ?_
  rintro e w1 ⟨v, rfl, ho, hbl⟩
  unfold OwnRn at ho
  rw [← hm'] at ho
  clear hm'
  obtain ⟨A2, c2, rfl⟩ : ∃ A2 c2, v = .slice A2 m c2 := by
    rcases ho.2 with ⟨rfl, h0⟩ | ⟨g, cap, cur, rfl, -⟩
    · exact ⟨none, 0, by rw [h0]⟩
    · exact ⟨some ⟨g, 0, none⟩, cap, rfl⟩
  have hr2 : Rd w1 3 A2 m (runsV (l ++ marksRn 7 0 6)) := Rd.of_own ho
  go_wp2_with fail
  refine (sameRn_yes A A2 m c c2 (l ++ marksRn 7 0 6) w1 (ha.below hbl) hr2 hm).mono ?_
  rintro e w2 ⟨rfl, k, rfl⟩
  go_wp2
  go_ret
  exact ⟨rfl, bdrewN hbl _⟩
theorem Rd.takeRn {w : World} {A : Option Addr} {n k : Nat} {l m : List RunT} (h : Rd w 3 A n (runsV (l ++ m))) (hl : l.length = k) (hk : k ≤ n) : Rd w 3 A k (runsV l) := by
  refine ⟨by rw [runsV_length, hl], fun hn => ?_⟩
  obtain ⟨ad, rfl, hb, hc⟩ := h.2 (by omega)
  refine ⟨ad, rfl, hb, fun j u hu => hc j u ?_⟩
  rw [runsV_append, List.getElem?_append_left (List.getElem?_eq_some_iff.1 hu).1]
  exact hu
/-- a lent list of runs, its beginning, and what was lent -/
theorem lentRn_shape {w : World} {base n : Nat} {v : Value} {l : List RunT} (hx : l.length = n) (h : OwnRn w base v (l ++ marksRn 7 0 6)) : ∃ g c, v = .slice (some ⟨g, 0, none⟩) (n + 6) c ∧ n + 6 ≤ c ∧ w.ownsRow base 60 3 (.slice (some ⟨g, 0, none⟩) (n + 6) c) (n + 6) (runsV (l ++ marksRn 7 0 6)) := by
  have hN : (l ++ marksRn 7 0 6).length = n + 6 := by rw [List.length_append, hx, marksRn_length]
  unfold OwnRn at h
  rw [hN] at h
  have hf : ∃ g c, v = .slice (some ⟨g, 0, none⟩) (n + 6) c ∧ n + 6 ≤ c := by
    rcases h.2 with ⟨-, h0⟩ | ⟨g, cap, cur, rfl, _, hg, hc, _⟩
    · omega
    · exact ⟨g, cap, rfl, hc⟩
  obtain ⟨g, c, rfl, hc⟩ := hf
  exact ⟨g, c, rfl, hc, h⟩

set_option maxHeartbeats 2000000 in
theorem meterRows_walk (A : Option Addr) (n c : Nat) (l : List RunT) (kk : UInt8) (w : World) (hR : Rd w 3 A n (runsV l)) (hn : n * 24 ≤ 140737488351232) (hcok : n ≤ c ∧ ∀ r ∈ l, RunOk r) :
    Calls Try.prog 5 #[.slice A n c, .int .u8 (kk.toNat : Int)] w fun e w' => e = .returned (.bool true) ∧ Below w.heap.size w w' := by
  have H := St.start_lay w []
  have hl : l.length = n := by have := hR.1; rw [runsV_length] at this; omega
  have HL := Lib.hid hl
  have HOK := Lib.hid hcok.2
  have RA := Lib.hid hR
  have hn5 : n ≤ 5864062014634 := by omega
  clear hl hR hcok hn
  generalize (kk.toNat : Int) = k
  go_enter Try.func5, Try.ntmps5
  go_wp2_with fail
  refine (lentRn_any A n c l w RA.out (by omega)).mono ?_
  rintro e w1 ⟨v1, rfl, ho, hb⟩
  obtain ⟨g1, c1, hv, hc1, ho1⟩ := lentRn_shape HL.out ho
  replace H := (H.pushRow 0 rfl hb ho1).push_mk rfl
  rw [hv]
  have R1 := Lib.hid ((H.rd 0 rfl).takeRn HL.out (by omega))
  have C1 : (n : Int) ≤ c1 := by omega
  clear hv ho hb ho1 hc1
  go_wp2_with fail
  refine (number_s (some ⟨g1, 0, none⟩) n c1 l k w1 R1.out HOK.out hn5).mono ?_
  rintro e w2 ⟨rfl, hb⟩
  replace H := H.call hb
  have R2 := Lib.hid (R1.out.below hb)
  clear hb
  go_wp2_with fail
  refine (size_a (some ⟨g1, 0, none⟩) n c1 l k w2 R2.out hn5).mono ?_
  rintro e w3 ⟨r, rfl, S1, hb⟩
  replace H := H.call hb
  clear hb
  go_wp2_with fail
  refine (lives29_s w3).mono ?_
  rintro e w4 ⟨rfl, hb⟩
  replace H := H.call hb
  clear hb
  go_wp2_with fail
  refine (refNumber_s A n c l k w4 (H.arg0 RA.out) HOK.out hn5).mono ?_
  rintro e w5 ⟨rfl, hb⟩
  replace H := H.call hb
  clear hb
  go_wp2_with fail
  refine (alikeF _ _ w5 rfl).mono ?_
  rintro e w6 ⟨rfl, rfl⟩
  go_wp2_with fail
  refine (refSize_a A n c l k _ (H.arg0 RA.out) hn5).mono ?_
  rintro e w7 ⟨r2, q, rfl, S2, rfl⟩
  go_wp2_with fail
  refine (alikeF r r2 _ (by rw [S1.out, S2.out])).mono ?_
  rintro e w8 ⟨rfl, rfl⟩
  have H5 := H.drewN q
  have F5 := Lib.hid (H5.rd 0 rfl)
  have A5 := Lib.hid (H5.arg0 RA.out)
  go_wp2_with fail
  refine (keptRn_yes (some ⟨g1, 0, none⟩) A n (n + 6) c1 c l _ F5.out A5.out hn5 (by omega)).mono ?_
  rintro e w9 ⟨rfl, hb⟩
  replace H5 := H5.call hb
  clear hb
  go_wp2
  go_ret
  exact ⟨rfl, H5.below⟩
end Go.Proofs.Ytpmgklmgaienhaa
