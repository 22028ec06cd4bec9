/- skel.Of. -/
import Derived.Test.YtgfhnbjpdhdhgaaRefFillJ
namespace Go.Proofs.Ytgfhnbjpdhdhgaa
open Go.RowKit
set_option linter.unusedVariables false

set_option maxHeartbeats 1000000 in
theorem skOf_s (k : UInt8) (h : Int) (a : UInt8) (c o : Int) (A B : Option Addr) (n cA m cB : Nat) (w : World) :
    Calls Try.prog 32 #[opV k h a c o (.slice A n cA) (.slice B m cB)] w fun e w' => e = .returned (.agg (skV ((k.toNat : Int), qI 1 k h, qI 2 k (a.toNat : Int), qI 3 k c, qI 4 k o, qI 5 k n, qI 6 k m)).toArray) ∧ Below w.heap.size w w' := by
  have H0 := St.start_lay w []
  go_enter Try.func32, Try.ntmps32
  go_wp2_with fail
  refine absorb_calls (H0.allocAt 0 rfl w.heap.size rfl _ _ |>.push_mk rfl |>.allocAt 1 rfl (w.heap.size + 1) (by simp) _ _ |>.push_mk rfl) ?_
  intro w1 H
  generalize w.heap.size + 1 = gR at H ⊢
  generalize hga : w.heap.size = gA at H ⊢
  clear hga H0
  refine (plain_s k h (a.toNat : Int) c o n m w1).mono ?_
  rintro e w2 ⟨rfl, hb2⟩
  replace H := H.call hb2
  rw [plainS_eq]
  have ht := H.there 1 rfl
  obtain ⟨T, hT⟩ : ∃ T : SkT, Hid (((k.toNat : Int), qI 1 k h, qI 2 k (a.toNat : Int), qI 3 k c, qI 4 k o, qI 5 k n, qI 6 k m) = T) := ⟨_, rfl⟩
  rw [hT.out]
  obtain ⟨t1, t2, t3, t4, t5, t6, t7⟩ := T
  go_wp2_with (refine wpList_store_mid rfl 51 (.tmp 2) (.tmp 20) rfl gR 0 (List.toArray (skV (t1, t2, t3, t4, t5, t6, t7))) rfl rfl ht sk_size (all_oneCell_toArray (by simpa [sksV] using sksV_one [(t1, t2, t3, t4, t5, t6, t7)])) ?_)
  have HZ := (H.storeAll 1 rfl (vs := skV (t1, t2, t3, t4, t5, t6, t7)) rfl).upd_mk (by simp)
  refine bodyPost_ret (results_cell_row rfl _ _ gR 51 _ _ _ rfl (HZ.blk 1 rfl) Try.underlying51 rfl sk_size) rfl ⟨?_, HZ.below⟩
  rw [hT.out]
end Go.Proofs.Ytgfhnbjpdhdhgaa
