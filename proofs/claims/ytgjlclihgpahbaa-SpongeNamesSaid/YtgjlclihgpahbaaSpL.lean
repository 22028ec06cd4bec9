/- What the statements of layer 8 share: lives, empty, rateOf. -/
import Derived.Test.YtgjlclihgpahbaaSpZ
import Derived.Test.YtgjlclihgpahbaaPick
import Derived.Test.YtgjlclihgpahbaaLedR

namespace Go.Proofs.Ytgjlclihgpahbaa
open Go.RowKit
set_option linter.unusedVariables false
set_option maxRecDepth 100000

theorem lives_val : (Sp.new 168 31).shut.read 8 = [0x7f, 0x9c, 0x2b, 0xa4, 0xe8, 0x8f, 0x82, 0x7d] := by decide +kernel

theorem total_nil : total [] = 0 := rfl

attribute [local irreducible] permB kBytes kPerm kFrom

theorem spBelow {w w' : World} {a : Addr} {v : Value} (hb : Below w.heap.size w w') (h : w.cell? a = some v) : w'.cell? a = some v := by
  rw [hb.cell (World.block_lt_of_cell? w _ h)]; exact h

theorem SpNo.below {w w' : World} {s : Value} (h : SpNo w s) (hb : Below w.heap.size w w') : SpNo w' s := by
  rcases h with rfl | ⟨g, rfl, c0, c3⟩
  · exact .inl rfl
  · exact .inr ⟨g, rfl, spBelow hb c0, spBelow hb c3⟩

/-- a sponge that Wipe left, or that nobody made -/
theorem St.spNo {w0 w : World} {F0 : List Nat} {E : Env} {g : Nat} (H : St w0 F0 w E) (k : Nat) (hk : E k = some (.blk g 71 spZero)) : SpNo w (lptr g) :=
  .inr ⟨g, rfl, H.cell k hk (by unfold spZero; rw [sp_get _ _ 0 zb200 rfl]; rfl), H.cell k hk (by unfold spZero; rw [sp_get _ _ 3 zb200 rfl]; rfl)⟩

section
variable {w : World}

set_option maxHeartbeats 1000000 in
theorem lives_s : Calls Try.prog 18 #[] w fun e w' => e = .returned (.bool true) ∧ Below w.heap.size w w' := by
  have H := (St.start_lay w []).ledNil 0 rfl |>.push_mk rfl
  go_enter Try.func18, Try.ntmps18
  go_wp2_with fail
  refine (spNew_s 168 31 H 1 rfl (by omega) (by omega) (by omega)).mono ?_
  rintro e w1 ⟨g, rfl, H1⟩
  replace H1 := H1.push_mk rfl
  clear H
  unfold lptr
  go_wp2_with fail
  refine (spRead_s (.pointer none) none 0 0 g (Sp.new 168 31) 8 8 rfl H1 0 1 2 (by omega) rfl rfl rfl (LW.none _ _) (by omega) (by omega) (Sp.new_ok _ _ (by omega) (by omega)) (by omega)).mono ?_
  rintro e w2 ⟨v, rfl, H2⟩
  rw [lives_val, upd_laid (by simp), upd_laid (by simp)] at H2
  replace H2 := H2.push_mk rfl
  obtain ⟨A, c, rfl, -⟩ := row_form (H2.row 2 rfl)
  clear H1
  go_wp2_with fail
  refine absorb_calls (H2.allocAt 3 rfl w2.heap.size rfl _ _ |>.push_mk rfl) ?_
  intro w3 H3
  clear H2
  generalize w2.heap.size = g3 at H3 ⊢
  refine (sameBytes_yes A _ 8 8 c 8 [0x7f, 0x9c, 0x2b, 0xa4, 0xe8, 0x8f, 0x82, 0x7d] [0x7f, 0x9c, 0x2b, 0xa4, 0xe8, 0x8f, 0x82, 0x7d] w3 (H3.rd 2 rfl) (H3.rdBlk 3 rfl 1 8 rfl) (by omega) (by omega) rfl).mono ?_
  rintro e w4 ⟨rfl, hb⟩
  go_wp2
  go_ret
  exact ⟨rfl, (H3.call hb).below⟩

theorem rateOf_s (n : Int) (h1 : -9223372036854775808 ≤ n) (h2 : n ≤ 9223372036854775807) : Calls Try.prog 19 #[.int .i64 n] w fun e w' => (∃ r : Int, e = .returned (.int .i64 r) ∧ 8 ≤ r ∧ r ≤ 192 ∧ r % 8 = 0 ∧ r = 8 + 8 * (n % 24)) ∧ w = w' := by
  go_enter Try.func19, Try.ntmps19
  go_wp2_with fail
  refine (pick_any n 24 w h1 h2 (by omega) (by omega) rfl).mono ?_
  rintro e w1 ⟨⟨m, hm, he, rfl⟩, rfl⟩
  have hm1 : (m : Int) ≤ 23 := by omega
  have HE := Lib.hid he
  clear he
  go_wp2
  go_ret
  exact ⟨⟨8 + 8 * (m : Int), rfl, by omega, by omega, by omega, by have := HE.out; omega⟩, rfl⟩

set_option maxHeartbeats 1000000 in
theorem empty_s (s v : Value) (n : Int) (h : SpNo w s) : Calls Try.prog 31 #[s, v, .int .i64 n] w fun e w' => e = .returned (.bool true) ∧ Below w.heap.size w w' := by
  have H := St.start_lay w []
  go_enter Try.func31, Try.ntmps31
  go_wp2_with fail
  refine (ledger_new H 0 rfl).mono ?_
  rintro e w1 ⟨l, rfl, H1⟩
  replace H1 := H1.push_mk rfl
  have hs := h.below H1.below
  clear H h
  go_wp2_with fail
  refine (spRead_none l n s hs).mono ?_
  rintro e w2 ⟨rfl, rfl⟩
  go_wp2_with fail
  refine (spClone_none s hs).mono ?_
  rintro e w2 ⟨rfl, rfl⟩
  go_wp2_with fail
  refine (spWrite_none l v s hs).mono ?_
  rintro e w2 ⟨rfl, rfl⟩
  go_wp2_with fail
  refine (spClose_none l s hs).mono ?_
  rintro e w2 ⟨rfl, rfl⟩
  go_wp2_with fail
  refine (spWipe_none l s hs).mono ?_
  rintro e w2 ⟨rfl, rfl⟩
  go_wp2_with fail
  refine (spForm_none s hs).mono ?_
  rintro e w2 ⟨rfl, rfl⟩
  go_wp2_with fail
  refine (spRate_none s hs).mono ?_
  rintro e w2 ⟨rfl, rfl⟩
  go_wp2_with fail
  refine (spShut_none s hs).mono ?_
  rintro e w2 ⟨rfl, rfl⟩
  go_wp2_with fail
  refine (ledger_len_w H1 0 rfl).mono ?_
  rintro e w2 ⟨rfl, rfl⟩
  rw [total_nil]
  go_wp2
  go_ret
  exact ⟨rfl, H1.below⟩

end

end Go.Proofs.Ytgjlclihgpahbaa
