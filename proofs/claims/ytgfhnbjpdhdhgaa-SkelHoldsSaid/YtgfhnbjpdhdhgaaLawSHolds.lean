/- The law SkelHolds, walked. -/
import Derived.Test.YtgfhnbjpdhdhgaaSkel
namespace Go.Proofs.Ytgfhnbjpdhdhgaa
open Go.RowKit
set_option linter.unusedVariables false

theorem OwnS.lent {w : World} {base n : Nat} {v : Value} {l : List SkT} (h : OwnS w base v (l ++ marksS 7 0 6)) (hn : l.length = n) : ∃ g c, v = .slice (some ⟨g, 0, none⟩) (n + 6) c ∧ n + 6 ≤ c ∧ base ≤ g ∧ g < w.heap.size := by
  rcases h.2 with ⟨rfl, h0⟩ | ⟨g, cap, cur, rfl, hb, hg, hnc, _⟩
  · rw [List.length_append, marksS_length] at h0; omega
  · rw [List.length_append, marksS_length, hn] at hnc ⊢
    exact ⟨g, cap, rfl, hnc, hb, (Array.getElem?_eq_some_iff.1 hg).1⟩
theorem Rd.sk_front {w : World} {A : Option Addr} {n m : Nat} {l k : List SkT} (h : Rd w 7 A m (sksV (l ++ k))) (hn : l.length = n) (hm : n ≤ m) : Rd w 7 A n (sksV l) := by
  have := h.takeF skV_length (by omega) hm
  rw [List.take_left' hn] at this
  exact this

set_option maxHeartbeats 4000000 in
theorem skelHolds_walk (A : Option Addr) (n c : Nat) (xs : List SkT) (B : Option Addr) (m d : Nat) (ys : List SkT) (w : World) (ha : Rd w 7 A n (sksV xs)) (hn : n ≤ 2513169434900) (hb : Rd w 7 B m (sksV ys)) (hm : m ≤ 2513169434900) :
    Calls Try.prog 3 #[.slice A n c, .slice B m d] w fun e w' => e = .returned (.bool true) ∧ Below w.heap.size w w' := by
  have hlx : xs.length = n := by have := ha.1; rw [sksV_length] at this; omega
  have hly : ys.length = m := by have := hb.1; rw [sksV_length] at this; omega
  have Hx := Lib.hid hlx
  have Hy := Lib.hid hly
  clear hlx hly
  have H0 := St.start_lay w []
  go_enter Try.func3, Try.ntmps3
  go_wp2_with fail
  refine (lentSk_any A n c xs _ ha hn).mono ?_
  rintro e w1 ⟨v1, rfl, ho1, hb1⟩
  obtain ⟨g1, c1, rfl, hc1, -, -⟩ := ho1.lent Hx.out
  have H1 := (H0.pushRow 0 rfl hb1 ho1).push_mk rfl
  clear H0 ho1 hb1
  go_wp2_with fail
  refine (lentSk_any B m d ys _ (H1.arg0 hb) hm).mono ?_
  rintro e w2 ⟨v2, rfl, ho2, hb2⟩
  obtain ⟨g2, c2, rfl, hc2, -, -⟩ := ho2.lent Hy.out
  have H2 := (H1.pushRow 1 rfl hb2 ho2).push_mk rfl
  clear H1 ho2 hb2
  simp only [List.cons_append, List.nil_append] at H2
  have LX : Hid ((xs ++ marksS 7 0 6).length = n + 6) := by unfold Hid; rw [List.length_append, marksS_length, Hx.out]
  have LY : Hid ((ys ++ marksS 7 0 6).length = m + 6) := by unfold Hid; rw [List.length_append, marksS_length, Hy.out]
  rw [LX.out, LY.out] at H2
  generalize hX : xs ++ marksS 7 0 6 = X at H2 LX
  generalize hY : ys ++ marksS 7 0 6 = Y at H2 LY
  have HX := Lib.hid hX
  have HY := Lib.hid hY
  clear hX hY
  go_wp2_with fail
  go_quiet (fail)
  have H3 := H2.drewN nq
  clear H2
  generalize w2.drewN nq = w3 at H3 ⊢
  have rp : Rd w3 7 (some ⟨g1, 0, none⟩) n (sksV xs) := Rd.sk_front (m := n + 6) (k := marksS 7 0 6) (by rw [HX.out]; exact H3.rd 0 rfl) Hx.out (by omega)
  have rq : Rd w3 7 (some ⟨g2, 0, none⟩) m (sksV ys) := Rd.sk_front (m := m + 6) (k := marksS 7 0 6) (by rw [HY.out]; exact H3.rd 1 rfl) Hy.out (by omega)
  go_wp2_with fail
  refine (sameSk_any A B n m c d xs ys _ (H3.arg0 ha) (H3.arg0 hb) (by omega) (by omega)).mono ?_
  rintro e w4 ⟨rfl, k4, rfl⟩
  replace H3 := H3.drewN k4
  replace rp := rp.drewN k4
  replace rq := rq.drewN k4
  generalize w3.drewN k4 = w4 at H3 rp rq ⊢
  go_wp2_with fail
  refine (skelSame_any _ _ n m _ _ xs ys _ rp rq (by omega) (by omega)).mono ?_
  rintro e w5 ⟨rfl, k5, rfl⟩
  replace H3 := H3.drewN k5
  replace rp := rp.drewN k5
  replace rq := rq.drewN k5
  generalize w4.drewN k5 = w5 at H3 rp rq ⊢
  generalize hs : decide (xs = ys) = s
  have hs' : decide (ys = xs) = s := by rw [← hs]; simp only [eq_comm]
  have HS := Lib.hid hs'
  clear hs hs'
  have hss : (s == s) = true := by simp
  go_wp2_with fail
  refine (skelSame_any _ _ m n _ _ ys xs _ rq rp (by omega) (by omega)).mono ?_
  rw [HS.out]
  rintro e w6 ⟨rfl, k6, rfl⟩
  replace H3 := H3.drewN k6
  replace rp := rp.drewN k6
  replace rq := rq.drewN k6
  generalize w5.drewN k6 = w6 at H3 rp rq ⊢
  go_wp2_with fail
  refine (skelSame_any _ _ n n _ _ xs xs _ rp rp (by omega) (by omega)).mono ?_
  rw [decide_eq_true rfl]
  rintro e w7 ⟨rfl, k7, rfl⟩
  replace H3 := H3.drewN k7
  replace rp := rp.drewN k7
  generalize w6.drewN k7 = w7 at H3 rp ⊢
  go_wp2_with fail
  refine (copySk_any A n c xs _ (H3.arg0 ha) (by omega)).mono ?_
  rintro e w8 ⟨v8, rfl, ho8, hb8⟩
  obtain ⟨A8, n8, c8, rfl, hn8, hr8⟩ := ho8.shape
  replace H3 := H3.call hb8
  replace rp := rp.below hb8
  have hn8' : n8 ≤ 2513169434900 := by have := hn8.out; have := Hx.out; omega
  go_wp2_with fail
  refine (skelSame_any _ _ n n8 _ _ xs xs _ rp hr8 (by omega) (by omega)).mono ?_
  rw [decide_eq_true rfl]
  rintro e w9 ⟨rfl, k9, rfl⟩
  replace H3 := H3.drewN k9
  clear ho8 hr8 rp rq
  generalize w8.drewN k9 = w9 at H3 ⊢
  go_wp2_with fail
  refine (keptSk_any _ _ _ n _ _ X xs _ (H3.rd 0 rfl) (H3.arg0 ha) (by omega) (by omega)).mono ?_
  rw [decide_eq_true HX.out.symm]
  rintro e w10 ⟨rfl, hb10⟩
  replace H3 := H3.call hb10
  go_wp2_with fail
  refine (keptSk_any _ _ _ m _ _ Y ys _ (H3.rd 1 rfl) (H3.arg0 hb) (by omega) (by omega)).mono ?_
  rw [decide_eq_true HY.out.symm]
  rintro e w11 ⟨rfl, hb11⟩
  replace H3 := H3.call hb11
  go_wp2_with fail
  go_ret
  exact ⟨rfl, H3.below⟩
end Go.Proofs.Ytgfhnbjpdhdhgaa
