/- SHA-256: a state is made, written, wiped, copied, walked. -/
import Derived.Test.YtcnphkmcgefjoaaSh2S
namespace Go.Proofs.Ytcnphkmcgefjoaa
open Go.RowKit
set_option linter.unusedVariables false
set_option maxRecDepth 100000

attribute [local irreducible] comp2 hTo

def shZ : List Value := List.replicate 8 (.int .u32 0) ++ (.int .i64 0 :: (List.replicate 64 (.int .u8 0) ++ [.bool false]))

theorem zero_sh (w : World) : (zeroValue 77).run Try.prog w = .ok (.agg shZ.toArray) w := by kernel_rfl

theorem sh_size : (Try.prog.info? 77).map (·.size) = some 74 := by kernel_rfl

theorem sh2S_nil : sh2S [] = shVs hBeg2 0 (List.replicate 64 0) := by
  unfold sh2S h2 w2'
  rw [hAll_nil, wait_nil]
  rfl

section
variable {w0 w : World} {F0 : List Nat} {E : Env}

set_option maxHeartbeats 1000000 in
theorem sh2New_s (H : St w0 F0 w E) (k : Nat) (hk : E k = none) :
    Calls Try.prog 21 #[] w fun e w' => ∃ g, e = .returned (lptr g) ∧ St w0 F0 w' (upd E k (.blk g 77 (sh2S []))) := by
  go_enter Try.func21, Try.ntmps21
  go_wp2
  go_ret
  have key : ∀ cs : Array Value, cs.toList = sh2S [] → St w0 F0 (w.alloc (.cells cs 77)) (upd E k (.blk w.heap.size 77 (sh2S []))) := fun cs h => by rw [← h]; exact H.alloc k hk cs 77
  exact ⟨w.heap.size, rfl, key _ (by rw [sh2S_nil]; kernel_rfl)⟩

theorem sh2Write_s (l : Value) (r : Option (List RunT)) (m : Nat) (c : Int) (g : Nat) (M : List UInt8) (A : Option Addr) (n cA : Nat) (p : List UInt8) (H : St w0 F0 w E) (i j : Nat) (hij : i ≠ j) (hi : E i = some (led l r)) (hj : E j = some (.blk g 77 (sh2S M))) (hg : LW r m c) (hm : m ≤ 999999999) (hc : c ≤ 400000000000000000)
    (hR : ∀ w' X Y, St w0 F0 w' (upd (upd E i X) j Y) → Rd w' 1 A n (p.map vb)) (hcap : n ≤ cA) (hn : M.length + n ≤ 281474976710656) :
    Calls Try.prog 23 #[lptr g, l, .slice A n cA] w fun e w' => e = .returned (.int .i64 0) ∧ St w0 F0 w' (upd (upd E i (led l (noteN r 1 64 ((M.length + n) / 64 - M.length / 64)))) j (.blk g 77 (sh2S (M ++ p)))) := by
  have c0 := H.cell j hj (shVs_made (h2_length M) (w2_length M))
  have hput := sh2Put_s l r m c g M A n cA p H i j hij hi hj hg hm hc hR hcap hn
  have HP := Lib.hid hput
  clear hput hi hj hij hR H hg
  go_enter Try.func23, Try.ntmps23
  go_wp2_with fail
  refine (sh2None_no g w c0).mono ?_
  rintro e w1 ⟨rfl, rfl⟩
  unfold lptr
  go_wp2_with fail
  refine HP.out.mono ?_
  rintro e w1 ⟨rfl, H1⟩
  go_wp2
  go_ret
  exact ⟨rfl, H1⟩

theorem sh2S_one (M : List UInt8) : ∀ u ∈ sh2S M, u.oneCell' = true := shVs_one
theorem sh2S_length (M : List UInt8) : (sh2S M).length = 74 := shVs_length (h2_length M) (w2_length M)
theorem shZ_one : ∀ u ∈ shZ, u.oneCell' = true := by decide
theorem there_new' (w : World) (cs : Array Value) (T : TypeId) (n : Nat) (h : n = cs.size) : (w.alloc (.cells cs T)).there w.heap.size 0 n := fun j hj => by
  rw [Nat.zero_add, World.cell?_alloc_at _ _ _ _ rfl, World.frozen?_alloc_at _ _ _ _ rfl]
  exact ⟨by rw [Array.getElem?_eq_getElem (by omega)]; rfl, rfl⟩

set_option maxHeartbeats 1000000 in
theorem sh2Wipe_s (l : Value) (r : Option (List RunT)) (m : Nat) (b : Int) (g : Nat) (M : List UInt8) (H : St w0 F0 w E) (i j : Nat) (hij : i ≠ j) (hi : E i = some (led l r)) (hj : E j = some (.blk g 77 (sh2S M))) (hg : LW r m b) (hm : m ≤ 999999999999) (hb : b ≤ 4000000000000000000) :
    Calls Try.prog 34 #[lptr g, l] w fun e w' => e = .returned (.int .i64 0) ∧ St w0 F0 w' (upd (upd E i (led l (noteN r 8 104 1))) j (.blk g 77 shZ)) := by
  have c0 := H.cell j hj (shVs_made (h2_length M) (w2_length M))
  have hz0 := zero_sh
  have HI := Lib.hid hi
  have HJ := Lib.hid hj
  have HG := Lib.hid hg
  have HIJ := Lib.hid hij
  clear hi hj hg hij
  go_enter Try.func34, Try.ntmps34
  go_wp2_with fail
  refine (sh2None_no g w c0).mono ?_
  rintro e w1 ⟨rfl, rfl⟩
  unfold lptr
  go_wp2_with fail
  refine (ledger_note_w m b 8 104 H i HI.out HG.out (by omega) (by omega)).mono ?_
  rintro e w3 ⟨rfl, H3⟩
  have HJ2 : Hid (upd E i (led l (noteN r 8 104 1)) j = some (.blk g 77 (sh2S M))) := by unfold Hid; rw [show upd E i (led l (noteN r 8 104 1)) j = E j from if_neg (Ne.symm HIJ.out)]; exact HJ.out
  clear H
  go_wp2_with (with_reducible refine hold_store 77 (.tmp 12) (.tmp 11) (by rfl) ?_)
  refine Lib.hid ?_
  refine wpList_store_mid rfl 77 (.tmp 12) (.tmp 11) rfl g 0 shZ.toArray rfl rfl (by have h := H3.there j HJ2.out; rw [sh2S_length] at h; exact h) (by rw [sh_size]; rfl) (all_oneCell_toArray shZ_one) ?_
  have H4 := H3.storeAll j HJ2.out (vs := shZ) (by rw [sh2S_length]; rfl)
  show wpList Try.prog _ _ [] _ (w3.setCells g 0 shZ)
  go_wp2
  go_ret
  exact ⟨rfl, H4⟩

end
end Go.Proofs.Ytcnphkmcgefjoaa
