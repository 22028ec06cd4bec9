/- The law MeterNumbers, walked. -/
import Derived.Test.YtpmgklmgaienhaaMeB
import Derived.Test.YtpmgklmgaienhaaRealK
import Derived.Test.YtpmgklmgaienhaaRowI
namespace Go.Proofs.Ytpmgklmgaienhaa
open Go.RowKit
set_option linter.unusedVariables false
set_option maxRecDepth 100000

theorem Rd.takeM {w : World} {A : Option Addr} {n k : Nat} {l : List Nat} (h : Rd w 1 A n (l.map rv)) (hk : k ≤ n) : Rd w 1 A k ((l.take k).map rv) := by
  have hl := h.1
  rw [List.length_map] at hl
  refine ⟨by simp; omega, fun hn => ?_⟩
  obtain ⟨ad, rfl, hb, hc⟩ := h.2 (by omega)
  refine ⟨ad, rfl, hb, fun j u hu => hc j u ?_⟩
  rw [List.map_take, List.getElem?_take] at hu
  split at hu
  · exact hu
  · cases hu
/-- a lent list, its beginning, and what was lent -/
theorem lent_shape {w : World} {base n : Nat} {v : Value} {x : List Nat} (hx : x.length = n) (h : OwnR w base v (x ++ marksR 6)) : ∃ g c, v = .slice (some ⟨g, 0, none⟩) (n + 6) c ∧ (n : Int) ≤ c ∧ w.ownsRow base 25 1 (.slice (some ⟨g, 0, none⟩) (n + 6) c) (n + 6) ((x ++ marksR 6).map rv) ∧ Rd w 1 (some ⟨g, 0, none⟩) n (x.map rv) ∧ Rd w 1 (some ⟨g, 0, none⟩) (n + 6) ((x ++ marksR 6).map rv) := by
  have hN : (x ++ marksR 6).length = n + 6 := by rw [List.length_append, hx, marksR_length]
  unfold OwnR at h
  rw [hN] at h
  have hf : ∃ g c, v = .slice (some ⟨g, 0, none⟩) (n + 6) c ∧ n + 6 ≤ c := by
    rcases h.2 with ⟨-, h0⟩ | ⟨g, cap, cur, rfl, _, hg, hc, _⟩
    · omega
    · exact ⟨g, cap, rfl, hc⟩
  obtain ⟨g, c, rfl, hc⟩ := hf
  have hr : Rd w 1 (some ⟨g, 0, none⟩) (n + 6) ((x ++ marksR 6).map rv) := Rd.of_own h
  have h2 := hr.takeM (k := n) (by omega)
  rw [List.take_left' hx] at h2
  exact ⟨g, c, rfl, by omega, h, h2, hr⟩

set_option maxHeartbeats 4000000 in
theorem meterNumbers_walk (A : Option Addr) (n c : Nat) (x : List Nat) (B : Option Addr) (m d : Nat) (y : List Nat) (w : World) (hA : Rd w 1 A n (x.map fv8)) (hn : n * 8 ≤ 140737488351232) (hnc : n ≤ c) (hB : Rd w 1 B m (y.map fv8)) (hm : m * 8 ≤ 140737488351232) (hmd : m ≤ d) :
    Calls Try.prog 3 #[.slice A n c, .slice B m d] w fun e w' => e = .returned (.bool true) ∧ Below w.heap.size w w' := by
  have H := St.start_lay w []
  have hlx : x.length = n := by simpa using hA.1
  have hly : y.length = m := by simpa using hB.1
  have HX := Lib.hid hlx
  have HY := Lib.hid hly
  have RA := Lib.hid hA
  have RB := Lib.hid hB
  clear hlx hly hnc hmd hA hB
  go_enter Try.func3, Try.ntmps3
  go_wp2_with fail
  refine (lives29_s w).mono ?_
  rintro e w1 ⟨rfl, hb⟩
  replace H := H.call hb
  clear hb
  go_wp2_with fail
  refine (lentR_any A n c x w1 (H.arg0 RA.out) (by omega)).mono ?_
  rintro e w2 ⟨v1, rfl, ho, hb⟩
  obtain ⟨g1, c1, hv, hc1, ho1, h1, h2⟩ := lent_shape HX.out ho
  replace H := (H.pushRow 0 rfl hb ho1).push_mk rfl
  rw [hv]
  clear hv ho hb h1 h2 ho1
  go_wp2_with fail
  refine (lentR_any B m d y w2 (H.arg0 RB.out) (by omega)).mono ?_
  rintro e w3 ⟨v2, rfl, ho, hb⟩
  obtain ⟨g2, c2, hv, hc2, ho2, h1, h2⟩ := lent_shape HY.out ho
  replace H := (H.pushRow 1 rfl hb ho2).push_mk rfl
  rw [hv]
  have R2 := Lib.hid h1
  have F2 := Lib.hid h2
  have F1 := Lib.hid (H.rd 0 rfl)
  have R1 := Lib.hid (show Rd w3 1 (some ⟨g1, 0, none⟩) n (x.map rv) by
    have h := F1.out.takeM (k := n) (by omega)
    rwa [List.take_left' HX.out] at h)
  have RA3 := Lib.hid (H.arg0 RA.out)
  have RB3 := Lib.hid (H.arg0 RB.out)
  clear hv ho hb h1 h2 ho2
  go_wp2_with fail
  refine (t_a (some ⟨g1, 0, none⟩) (some ⟨g2, 0, none⟩) n m c1 c2 x y w3 R1.out R2.out (by omega) (by omega)).mono ?_
  rintro e w4 ⟨r1, q1, rfl, T1, rfl⟩
  go_wp2_with fail
  refine (t_a (some ⟨g2, 0, none⟩) (some ⟨g1, 0, none⟩) m n c2 c1 y x _ (R2.out.drewN _) (R1.out.drewN _) (by omega) (by omega)).mono ?_
  rintro e w4 ⟨r2, q2, rfl, T2, rfl⟩
  go_wp2_with fail
  refine (refT_a A B n m c d x y _ (RA3.out.drewN _) (RB3.out.drewN _) (by omega) (by omega)).mono ?_
  rintro e w4 ⟨r3, q3, rfl, T3, rfl⟩
  go_wp2_with fail
  refine (refT_a B A m n d c y x _ (RB3.out.drewN _) (RA3.out.drewN _) (by omega) (by omega)).mono ?_
  rintro e w4 ⟨r4, q4, rfl, T4, rfl⟩
  go_wp2_with fail
  refine (alikeF r1 r3 _ (by rw [T1.out, T3.out])).mono ?_
  rintro e w4 ⟨rfl, rfl⟩
  go_wp2_with fail
  refine (alikeF r2 r4 _ (by rw [T2.out, T4.out])).mono ?_
  rintro e w4 ⟨rfl, rfl⟩
  go_wp2_with fail
  refine (mean_a (some ⟨g1, 0, none⟩) n c1 x _ (R1.out.drewN _) (by omega)).mono ?_
  rintro e w4 ⟨r5, q5, rfl, T5, rfl⟩
  go_wp2_with fail
  refine (refMean_a A n c x _ (RA3.out.drewN _) (by omega)).mono ?_
  rintro e w4 ⟨r6, q6, rfl, T6, rfl⟩
  go_wp2_with fail
  refine (alikeF r5 r6 _ (by rw [T5.out, T6.out])).mono ?_
  rintro e w4 ⟨rfl, rfl⟩
  go_wp2_with fail
  refine (spread_a (some ⟨g2, 0, none⟩) m c2 y _ (R2.out.drewN _) (by omega)).mono ?_
  rintro e w4 ⟨r7, q7, rfl, T7, rfl⟩
  go_wp2_with fail
  refine (refSpread_a B m d y _ (RB3.out.drewN _) (by omega)).mono ?_
  rintro e w4 ⟨r8, q8, rfl, T8, rfl⟩
  go_wp2_with fail
  refine (alikeF r7 r8 _ (by rw [T7.out, T8.out])).mono ?_
  rintro e w4 ⟨rfl, rfl⟩
  have H5 := H.drewN (q1 + q2 + q3 + q4 + q5 + q6 + q7 + q8)
  go_wp2_with fail
  refine (keptR_yes (some ⟨g1, 0, none⟩) A n (n + 6) c1 c x _ (F1.out.drewN _) (RA3.out.drewN _) (by omega)).mono ?_
  rintro e w5 ⟨rfl, hb⟩
  have RB5 := Lib.hid ((RB3.out.drewN _).below hb)
  have F5 := Lib.hid ((F2.out.drewN _).below hb)
  replace H5 := H5.call hb
  clear hb
  go_wp2_with fail
  refine (keptR_yes (some ⟨g2, 0, none⟩) B m (m + 6) c2 d y w5 F5.out RB5.out (by omega)).mono ?_
  rintro e w6 ⟨rfl, hb⟩
  replace H5 := H5.call hb
  go_wp2
  go_ret
  exact ⟨rfl, H5.below⟩
end Go.Proofs.Ytpmgklmgaienhaa
