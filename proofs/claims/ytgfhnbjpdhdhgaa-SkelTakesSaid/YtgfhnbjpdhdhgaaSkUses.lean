/- skel's table of what each kind uses. -/
import Derived.Test.YtgfhnbjpdhdhgaaRows
import Derived.Test.YtgfhnbjpdhdhgaaMap
import Derived.Test.YtgfhnbjpdhdhgaaSkel
import Derived.Test.YtgfhnbjpdhdhgaaOpE
import Derived.Carry
import Derived.Test.YtgfhnbjpdhdhgaaLentO
namespace Go.Proofs.Ytgfhnbjpdhdhgaa
open Go.RowKit
set_option linter.unusedVariables false

/-- the table's functions: Handle, Alg, Count, Out, Data, More -/
abbrev skf : Nat → Value
  | 1 => .func (.func 71) #[] #[]
  | 2 => .func (.func 72) #[] #[]
  | 3 => .func (.func 73) #[] #[]
  | 4 => .func (.func 74) #[] #[]
  | 5 => .func (.func 75) #[] #[]
  | _ => .func (.func 76) #[] #[]
def sku (k : UInt8) : List Nat :=
  if k = 1 then [5] else
  if k = 2 then [1, 2, 5, 4] else
  if k = 3 then [1, 5] else
  if k = 4 then [1] else
  if k = 5 then [1, 5] else
  if k = 6 then [1] else
  if k = 7 then [1, 2, 5, 6, 4] else
  if k = 8 then [1, 2, 5, 3, 4] else
  if k = 9 then [1] else
  if k = 10 then [1] else
  []
theorem sku_1 : sku 1 = [5] := rfl
theorem sku_2 : sku 2 = [1, 2, 5, 4] := rfl
theorem sku_3 : sku 3 = [1, 5] := rfl
theorem sku_4 : sku 4 = [1] := rfl
theorem sku_5 : sku 5 = [1, 5] := rfl
theorem sku_6 : sku 6 = [1] := rfl
theorem sku_7 : sku 7 = [1, 2, 5, 6, 4] := rfl
theorem sku_8 : sku 8 = [1, 2, 5, 3, 4] := rfl
theorem sku_9 : sku 9 = [1] := rfl
theorem sku_10 : sku 10 = [1] := rfl
theorem sku_no {k : UInt8} (h1 : k ≠ 1) (h2 : k ≠ 2) (h3 : k ≠ 3) (h4 : k ≠ 4) (h5 : k ≠ 5) (h6 : k ≠ 6) (h7 : k ≠ 7) (h8 : k ≠ 8) (h9 : k ≠ 9) (h10 : k ≠ 10) : sku k = [] := by unfold sku; simp [h1, h2, h3, h4, h5, h6, h7, h8, h9, h10]
def skEs (b1 b2 b3 b4 b5 b6 b7 b8 b9 b10 : Nat) : List MapEntry := [({ key := .int .u8 1, val := .slice (some ⟨b1, 0, none⟩) 1 1, born := 0 } : MapEntry), ({ key := .int .u8 2, val := .slice (some ⟨b2, 0, none⟩) 4 4, born := 1 } : MapEntry), ({ key := .int .u8 3, val := .slice (some ⟨b3, 0, none⟩) 2 2, born := 2 } : MapEntry), ({ key := .int .u8 4, val := .slice (some ⟨b4, 0, none⟩) 1 1, born := 3 } : MapEntry), ({ key := .int .u8 5, val := .slice (some ⟨b5, 0, none⟩) 2 2, born := 4 } : MapEntry), ({ key := .int .u8 6, val := .slice (some ⟨b6, 0, none⟩) 1 1, born := 5 } : MapEntry), ({ key := .int .u8 7, val := .slice (some ⟨b7, 0, none⟩) 5 5, born := 6 } : MapEntry), ({ key := .int .u8 8, val := .slice (some ⟨b8, 0, none⟩) 5 5, born := 7 } : MapEntry), ({ key := .int .u8 9, val := .slice (some ⟨b9, 0, none⟩) 1 1, born := 8 } : MapEntry), ({ key := .int .u8 10, val := .slice (some ⟨b10, 0, none⟩) 1 1, born := 9 } : MapEntry)]

set_option maxRecDepth 100000 in
set_option maxHeartbeats 4000000 in
theorem skUses_s (w : World) : Calls Try.prog 70 #[] w fun e w' => ∃ g b1 b2 b3 b4 b5 b6 b7 b8 b9 b10, e = .returned (.map (some g)) ∧ St w [] w' (lay [.mapO g (skEs b1 b2 b3 b4 b5 b6 b7 b8 b9 b10) 10, .row 92 1 (.slice (some ⟨b1, 0, none⟩) 1 1) 1 [skf 5], .row 92 1 (.slice (some ⟨b2, 0, none⟩) 4 4) 4 [skf 1, skf 2, skf 5, skf 4], .row 92 1 (.slice (some ⟨b3, 0, none⟩) 2 2) 2 [skf 1, skf 5], .row 92 1 (.slice (some ⟨b4, 0, none⟩) 1 1) 1 [skf 1], .row 92 1 (.slice (some ⟨b5, 0, none⟩) 2 2) 2 [skf 1, skf 5], .row 92 1 (.slice (some ⟨b6, 0, none⟩) 1 1) 1 [skf 1], .row 92 1 (.slice (some ⟨b7, 0, none⟩) 5 5) 5 [skf 1, skf 2, skf 5, skf 6, skf 4], .row 92 1 (.slice (some ⟨b8, 0, none⟩) 5 5) 5 [skf 1, skf 2, skf 5, skf 3, skf 4], .row 92 1 (.slice (some ⟨b9, 0, none⟩) 1 1) 1 [skf 1], .row 92 1 (.slice (some ⟨b10, 0, none⟩) 1 1) 1 [skf 1]]) := by
  have hmm := @run_makeMap Try.prog
  have H := St.start_lay w []
  go_enter Try.func70, Try.ntmps70
  go_wp
  replace H := (H.mkMap 0 rfl w.heap.size rfl).push_mk rfl
  have HA := (H.lit 1 rfl 92 #[skf 5] 1 rfl (by omega) (w.heap.size + 1) (by simp)).push_mk rfl
  refine upon_insert Try.underlying89 Try.underlying28 1 _ HA 0 rfl rfl ?_
  intro w1 H
  replace H := H.upd_mk (by simp)
  clear HA
  generalize hb1 : w.heap.size + 1 = b1 at H ⊢
  generalize hg : w.heap.size = g at H ⊢
  clear hb1 hg
  replace H : St w [] w1 (lay [.mapO g [({ key := .int .u8 1, val := .slice (some ⟨b1, 0, none⟩) 1 1, born := 0 } : MapEntry)] 1, .row 92 1 (.slice (some ⟨b1, 0, none⟩) 1 1) 1 [skf 5]]) := H
  go_at_K
  go_wp
  have HA := (H.lit 2 rfl 92 #[skf 1, skf 2, skf 5, skf 4] 4 rfl (by omega) w1.heap.size rfl).push_mk rfl
  refine upon_insert Try.underlying89 Try.underlying28 2 _ HA 0 rfl rfl ?_
  clear H
  intro w2 H
  replace H := H.upd_mk (by simp)
  clear HA
  generalize hb2 : w1.heap.size = b2 at H ⊢
  clear hb2
  replace H : St w [] w2 (lay [.mapO g [({ key := .int .u8 1, val := .slice (some ⟨b1, 0, none⟩) 1 1, born := 0 } : MapEntry), ({ key := .int .u8 2, val := .slice (some ⟨b2, 0, none⟩) 4 4, born := 1 } : MapEntry)] 2, .row 92 1 (.slice (some ⟨b1, 0, none⟩) 1 1) 1 [skf 5], .row 92 1 (.slice (some ⟨b2, 0, none⟩) 4 4) 4 [skf 1, skf 2, skf 5, skf 4]]) := H
  go_at_K
  go_wp
  have HA := (H.lit 3 rfl 92 #[skf 1, skf 5] 2 rfl (by omega) w2.heap.size rfl).push_mk rfl
  refine upon_insert Try.underlying89 Try.underlying28 3 _ HA 0 rfl rfl ?_
  clear H
  intro w3 H
  replace H := H.upd_mk (by simp)
  clear HA
  generalize hb3 : w2.heap.size = b3 at H ⊢
  clear hb3
  replace H : St w [] w3 (lay [.mapO g [({ key := .int .u8 1, val := .slice (some ⟨b1, 0, none⟩) 1 1, born := 0 } : MapEntry), ({ key := .int .u8 2, val := .slice (some ⟨b2, 0, none⟩) 4 4, born := 1 } : MapEntry), ({ key := .int .u8 3, val := .slice (some ⟨b3, 0, none⟩) 2 2, born := 2 } : MapEntry)] 3, .row 92 1 (.slice (some ⟨b1, 0, none⟩) 1 1) 1 [skf 5], .row 92 1 (.slice (some ⟨b2, 0, none⟩) 4 4) 4 [skf 1, skf 2, skf 5, skf 4], .row 92 1 (.slice (some ⟨b3, 0, none⟩) 2 2) 2 [skf 1, skf 5]]) := H
  go_at_K
  go_wp
  have HA := (H.lit 4 rfl 92 #[skf 1] 1 rfl (by omega) w3.heap.size rfl).push_mk rfl
  refine upon_insert Try.underlying89 Try.underlying28 4 _ HA 0 rfl rfl ?_
  clear H
  intro w4 H
  replace H := H.upd_mk (by simp)
  clear HA
  generalize hb4 : w3.heap.size = b4 at H ⊢
  clear hb4
  replace H : St w [] w4 (lay [.mapO g [({ key := .int .u8 1, val := .slice (some ⟨b1, 0, none⟩) 1 1, born := 0 } : MapEntry), ({ key := .int .u8 2, val := .slice (some ⟨b2, 0, none⟩) 4 4, born := 1 } : MapEntry), ({ key := .int .u8 3, val := .slice (some ⟨b3, 0, none⟩) 2 2, born := 2 } : MapEntry), ({ key := .int .u8 4, val := .slice (some ⟨b4, 0, none⟩) 1 1, born := 3 } : MapEntry)] 4, .row 92 1 (.slice (some ⟨b1, 0, none⟩) 1 1) 1 [skf 5], .row 92 1 (.slice (some ⟨b2, 0, none⟩) 4 4) 4 [skf 1, skf 2, skf 5, skf 4], .row 92 1 (.slice (some ⟨b3, 0, none⟩) 2 2) 2 [skf 1, skf 5], .row 92 1 (.slice (some ⟨b4, 0, none⟩) 1 1) 1 [skf 1]]) := H
  go_at_K
  go_wp
  have HA := (H.lit 5 rfl 92 #[skf 1, skf 5] 2 rfl (by omega) w4.heap.size rfl).push_mk rfl
  refine upon_insert Try.underlying89 Try.underlying28 5 _ HA 0 rfl rfl ?_
  clear H
  intro w5 H
  replace H := H.upd_mk (by simp)
  clear HA
  generalize hb5 : w4.heap.size = b5 at H ⊢
  clear hb5
  replace H : St w [] w5 (lay [.mapO g [({ key := .int .u8 1, val := .slice (some ⟨b1, 0, none⟩) 1 1, born := 0 } : MapEntry), ({ key := .int .u8 2, val := .slice (some ⟨b2, 0, none⟩) 4 4, born := 1 } : MapEntry), ({ key := .int .u8 3, val := .slice (some ⟨b3, 0, none⟩) 2 2, born := 2 } : MapEntry), ({ key := .int .u8 4, val := .slice (some ⟨b4, 0, none⟩) 1 1, born := 3 } : MapEntry), ({ key := .int .u8 5, val := .slice (some ⟨b5, 0, none⟩) 2 2, born := 4 } : MapEntry)] 5, .row 92 1 (.slice (some ⟨b1, 0, none⟩) 1 1) 1 [skf 5], .row 92 1 (.slice (some ⟨b2, 0, none⟩) 4 4) 4 [skf 1, skf 2, skf 5, skf 4], .row 92 1 (.slice (some ⟨b3, 0, none⟩) 2 2) 2 [skf 1, skf 5], .row 92 1 (.slice (some ⟨b4, 0, none⟩) 1 1) 1 [skf 1], .row 92 1 (.slice (some ⟨b5, 0, none⟩) 2 2) 2 [skf 1, skf 5]]) := H
  go_at_K
  go_wp
  have HA := (H.lit 6 rfl 92 #[skf 1] 1 rfl (by omega) w5.heap.size rfl).push_mk rfl
  refine upon_insert Try.underlying89 Try.underlying28 6 _ HA 0 rfl rfl ?_
  clear H
  intro w6 H
  replace H := H.upd_mk (by simp)
  clear HA
  generalize hb6 : w5.heap.size = b6 at H ⊢
  clear hb6
  replace H : St w [] w6 (lay [.mapO g [({ key := .int .u8 1, val := .slice (some ⟨b1, 0, none⟩) 1 1, born := 0 } : MapEntry), ({ key := .int .u8 2, val := .slice (some ⟨b2, 0, none⟩) 4 4, born := 1 } : MapEntry), ({ key := .int .u8 3, val := .slice (some ⟨b3, 0, none⟩) 2 2, born := 2 } : MapEntry), ({ key := .int .u8 4, val := .slice (some ⟨b4, 0, none⟩) 1 1, born := 3 } : MapEntry), ({ key := .int .u8 5, val := .slice (some ⟨b5, 0, none⟩) 2 2, born := 4 } : MapEntry), ({ key := .int .u8 6, val := .slice (some ⟨b6, 0, none⟩) 1 1, born := 5 } : MapEntry)] 6, .row 92 1 (.slice (some ⟨b1, 0, none⟩) 1 1) 1 [skf 5], .row 92 1 (.slice (some ⟨b2, 0, none⟩) 4 4) 4 [skf 1, skf 2, skf 5, skf 4], .row 92 1 (.slice (some ⟨b3, 0, none⟩) 2 2) 2 [skf 1, skf 5], .row 92 1 (.slice (some ⟨b4, 0, none⟩) 1 1) 1 [skf 1], .row 92 1 (.slice (some ⟨b5, 0, none⟩) 2 2) 2 [skf 1, skf 5], .row 92 1 (.slice (some ⟨b6, 0, none⟩) 1 1) 1 [skf 1]]) := H
  go_at_K
  go_wp
  have HA := (H.lit 7 rfl 92 #[skf 1, skf 2, skf 5, skf 6, skf 4] 5 rfl (by omega) w6.heap.size rfl).push_mk rfl
  refine upon_insert Try.underlying89 Try.underlying28 7 _ HA 0 rfl rfl ?_
  clear H
  intro w7 H
  replace H := H.upd_mk (by simp)
  clear HA
  generalize hb7 : w6.heap.size = b7 at H ⊢
  clear hb7
  replace H : St w [] w7 (lay [.mapO g [({ key := .int .u8 1, val := .slice (some ⟨b1, 0, none⟩) 1 1, born := 0 } : MapEntry), ({ key := .int .u8 2, val := .slice (some ⟨b2, 0, none⟩) 4 4, born := 1 } : MapEntry), ({ key := .int .u8 3, val := .slice (some ⟨b3, 0, none⟩) 2 2, born := 2 } : MapEntry), ({ key := .int .u8 4, val := .slice (some ⟨b4, 0, none⟩) 1 1, born := 3 } : MapEntry), ({ key := .int .u8 5, val := .slice (some ⟨b5, 0, none⟩) 2 2, born := 4 } : MapEntry), ({ key := .int .u8 6, val := .slice (some ⟨b6, 0, none⟩) 1 1, born := 5 } : MapEntry), ({ key := .int .u8 7, val := .slice (some ⟨b7, 0, none⟩) 5 5, born := 6 } : MapEntry)] 7, .row 92 1 (.slice (some ⟨b1, 0, none⟩) 1 1) 1 [skf 5], .row 92 1 (.slice (some ⟨b2, 0, none⟩) 4 4) 4 [skf 1, skf 2, skf 5, skf 4], .row 92 1 (.slice (some ⟨b3, 0, none⟩) 2 2) 2 [skf 1, skf 5], .row 92 1 (.slice (some ⟨b4, 0, none⟩) 1 1) 1 [skf 1], .row 92 1 (.slice (some ⟨b5, 0, none⟩) 2 2) 2 [skf 1, skf 5], .row 92 1 (.slice (some ⟨b6, 0, none⟩) 1 1) 1 [skf 1], .row 92 1 (.slice (some ⟨b7, 0, none⟩) 5 5) 5 [skf 1, skf 2, skf 5, skf 6, skf 4]]) := H
  go_at_K
  go_wp
  have HA := (H.lit 8 rfl 92 #[skf 1, skf 2, skf 5, skf 3, skf 4] 5 rfl (by omega) w7.heap.size rfl).push_mk rfl
  refine upon_insert Try.underlying89 Try.underlying28 8 _ HA 0 rfl rfl ?_
  clear H
  intro w8 H
  replace H := H.upd_mk (by simp)
  clear HA
  generalize hb8 : w7.heap.size = b8 at H ⊢
  clear hb8
  replace H : St w [] w8 (lay [.mapO g [({ key := .int .u8 1, val := .slice (some ⟨b1, 0, none⟩) 1 1, born := 0 } : MapEntry), ({ key := .int .u8 2, val := .slice (some ⟨b2, 0, none⟩) 4 4, born := 1 } : MapEntry), ({ key := .int .u8 3, val := .slice (some ⟨b3, 0, none⟩) 2 2, born := 2 } : MapEntry), ({ key := .int .u8 4, val := .slice (some ⟨b4, 0, none⟩) 1 1, born := 3 } : MapEntry), ({ key := .int .u8 5, val := .slice (some ⟨b5, 0, none⟩) 2 2, born := 4 } : MapEntry), ({ key := .int .u8 6, val := .slice (some ⟨b6, 0, none⟩) 1 1, born := 5 } : MapEntry), ({ key := .int .u8 7, val := .slice (some ⟨b7, 0, none⟩) 5 5, born := 6 } : MapEntry), ({ key := .int .u8 8, val := .slice (some ⟨b8, 0, none⟩) 5 5, born := 7 } : MapEntry)] 8, .row 92 1 (.slice (some ⟨b1, 0, none⟩) 1 1) 1 [skf 5], .row 92 1 (.slice (some ⟨b2, 0, none⟩) 4 4) 4 [skf 1, skf 2, skf 5, skf 4], .row 92 1 (.slice (some ⟨b3, 0, none⟩) 2 2) 2 [skf 1, skf 5], .row 92 1 (.slice (some ⟨b4, 0, none⟩) 1 1) 1 [skf 1], .row 92 1 (.slice (some ⟨b5, 0, none⟩) 2 2) 2 [skf 1, skf 5], .row 92 1 (.slice (some ⟨b6, 0, none⟩) 1 1) 1 [skf 1], .row 92 1 (.slice (some ⟨b7, 0, none⟩) 5 5) 5 [skf 1, skf 2, skf 5, skf 6, skf 4], .row 92 1 (.slice (some ⟨b8, 0, none⟩) 5 5) 5 [skf 1, skf 2, skf 5, skf 3, skf 4]]) := H
  go_at_K
  go_wp
  have HA := (H.lit 9 rfl 92 #[skf 1] 1 rfl (by omega) w8.heap.size rfl).push_mk rfl
  refine upon_insert Try.underlying89 Try.underlying28 9 _ HA 0 rfl rfl ?_
  clear H
  intro w9 H
  replace H := H.upd_mk (by simp)
  clear HA
  generalize hb9 : w8.heap.size = b9 at H ⊢
  clear hb9
  replace H : St w [] w9 (lay [.mapO g [({ key := .int .u8 1, val := .slice (some ⟨b1, 0, none⟩) 1 1, born := 0 } : MapEntry), ({ key := .int .u8 2, val := .slice (some ⟨b2, 0, none⟩) 4 4, born := 1 } : MapEntry), ({ key := .int .u8 3, val := .slice (some ⟨b3, 0, none⟩) 2 2, born := 2 } : MapEntry), ({ key := .int .u8 4, val := .slice (some ⟨b4, 0, none⟩) 1 1, born := 3 } : MapEntry), ({ key := .int .u8 5, val := .slice (some ⟨b5, 0, none⟩) 2 2, born := 4 } : MapEntry), ({ key := .int .u8 6, val := .slice (some ⟨b6, 0, none⟩) 1 1, born := 5 } : MapEntry), ({ key := .int .u8 7, val := .slice (some ⟨b7, 0, none⟩) 5 5, born := 6 } : MapEntry), ({ key := .int .u8 8, val := .slice (some ⟨b8, 0, none⟩) 5 5, born := 7 } : MapEntry), ({ key := .int .u8 9, val := .slice (some ⟨b9, 0, none⟩) 1 1, born := 8 } : MapEntry)] 9, .row 92 1 (.slice (some ⟨b1, 0, none⟩) 1 1) 1 [skf 5], .row 92 1 (.slice (some ⟨b2, 0, none⟩) 4 4) 4 [skf 1, skf 2, skf 5, skf 4], .row 92 1 (.slice (some ⟨b3, 0, none⟩) 2 2) 2 [skf 1, skf 5], .row 92 1 (.slice (some ⟨b4, 0, none⟩) 1 1) 1 [skf 1], .row 92 1 (.slice (some ⟨b5, 0, none⟩) 2 2) 2 [skf 1, skf 5], .row 92 1 (.slice (some ⟨b6, 0, none⟩) 1 1) 1 [skf 1], .row 92 1 (.slice (some ⟨b7, 0, none⟩) 5 5) 5 [skf 1, skf 2, skf 5, skf 6, skf 4], .row 92 1 (.slice (some ⟨b8, 0, none⟩) 5 5) 5 [skf 1, skf 2, skf 5, skf 3, skf 4], .row 92 1 (.slice (some ⟨b9, 0, none⟩) 1 1) 1 [skf 1]]) := H
  go_at_K
  go_wp
  have HA := (H.lit 10 rfl 92 #[skf 1] 1 rfl (by omega) w9.heap.size rfl).push_mk rfl
  refine upon_insert Try.underlying89 Try.underlying28 10 _ HA 0 rfl rfl ?_
  clear H
  intro w10 H
  replace H := H.upd_mk (by simp)
  clear HA
  generalize hb10 : w9.heap.size = b10 at H ⊢
  clear hb10
  replace H : St w [] w10 (lay [.mapO g [({ key := .int .u8 1, val := .slice (some ⟨b1, 0, none⟩) 1 1, born := 0 } : MapEntry), ({ key := .int .u8 2, val := .slice (some ⟨b2, 0, none⟩) 4 4, born := 1 } : MapEntry), ({ key := .int .u8 3, val := .slice (some ⟨b3, 0, none⟩) 2 2, born := 2 } : MapEntry), ({ key := .int .u8 4, val := .slice (some ⟨b4, 0, none⟩) 1 1, born := 3 } : MapEntry), ({ key := .int .u8 5, val := .slice (some ⟨b5, 0, none⟩) 2 2, born := 4 } : MapEntry), ({ key := .int .u8 6, val := .slice (some ⟨b6, 0, none⟩) 1 1, born := 5 } : MapEntry), ({ key := .int .u8 7, val := .slice (some ⟨b7, 0, none⟩) 5 5, born := 6 } : MapEntry), ({ key := .int .u8 8, val := .slice (some ⟨b8, 0, none⟩) 5 5, born := 7 } : MapEntry), ({ key := .int .u8 9, val := .slice (some ⟨b9, 0, none⟩) 1 1, born := 8 } : MapEntry), ({ key := .int .u8 10, val := .slice (some ⟨b10, 0, none⟩) 1 1, born := 9 } : MapEntry)] 10, .row 92 1 (.slice (some ⟨b1, 0, none⟩) 1 1) 1 [skf 5], .row 92 1 (.slice (some ⟨b2, 0, none⟩) 4 4) 4 [skf 1, skf 2, skf 5, skf 4], .row 92 1 (.slice (some ⟨b3, 0, none⟩) 2 2) 2 [skf 1, skf 5], .row 92 1 (.slice (some ⟨b4, 0, none⟩) 1 1) 1 [skf 1], .row 92 1 (.slice (some ⟨b5, 0, none⟩) 2 2) 2 [skf 1, skf 5], .row 92 1 (.slice (some ⟨b6, 0, none⟩) 1 1) 1 [skf 1], .row 92 1 (.slice (some ⟨b7, 0, none⟩) 5 5) 5 [skf 1, skf 2, skf 5, skf 6, skf 4], .row 92 1 (.slice (some ⟨b8, 0, none⟩) 5 5) 5 [skf 1, skf 2, skf 5, skf 3, skf 4], .row 92 1 (.slice (some ⟨b9, 0, none⟩) 1 1) 1 [skf 1], .row 92 1 (.slice (some ⟨b10, 0, none⟩) 1 1) 1 [skf 1]]) := H
  go_at_K
  go_wp
  go_ret
  exact ⟨g, b1, b2, b3, b4, b5, b6, b7, b8, b9, b10, rfl, H⟩

theorem u8_is' (k c : UInt8) (h : k ≠ c) (x : Int) (hx : x = (c.toNat : Int)) : ((k.toNat : Int) == x) = false := by
  subst hx
  simp only [beq_eq_false_iff_ne, ne_eq]
  exact fun e => h (UInt8.toNat_inj.1 (by omega))
theorem zero_uses (w : World) : (zeroValue 88).run Try.prog w = .ok (.slice none 0 0) w := by
  rfl
theorem sk_pick {w0 w : World} {F0 : List Nat} {X Y Z : Own} (g b1 b2 b3 b4 b5 b6 b7 b8 b9 b10 : Nat) (k : UInt8) (H : St w0 F0 w (lay [X, Y, Z, .mapO g (skEs b1 b2 b3 b4 b5 b6 b7 b8 b9 b10) 10, .row 92 1 (.slice (some ⟨b1, 0, none⟩) 1 1) 1 [skf 5], .row 92 1 (.slice (some ⟨b2, 0, none⟩) 4 4) 4 [skf 1, skf 2, skf 5, skf 4], .row 92 1 (.slice (some ⟨b3, 0, none⟩) 2 2) 2 [skf 1, skf 5], .row 92 1 (.slice (some ⟨b4, 0, none⟩) 1 1) 1 [skf 1], .row 92 1 (.slice (some ⟨b5, 0, none⟩) 2 2) 2 [skf 1, skf 5], .row 92 1 (.slice (some ⟨b6, 0, none⟩) 1 1) 1 [skf 1], .row 92 1 (.slice (some ⟨b7, 0, none⟩) 5 5) 5 [skf 1, skf 2, skf 5, skf 6, skf 4], .row 92 1 (.slice (some ⟨b8, 0, none⟩) 5 5) 5 [skf 1, skf 2, skf 5, skf 3, skf 4], .row 92 1 (.slice (some ⟨b9, 0, none⟩) 1 1) 1 [skf 1], .row 92 1 (.slice (some ⟨b10, 0, none⟩) 1 1) 1 [skf 1]])) :
    ∃ A, (Instr.lookup 89 (.map (some g)) (.int .u8 (k.toNat : Int)) false).run Try.prog w = .ok (.slice A (sku k).length (sku k).length) w ∧ St w0 F0 w (lay [X, Y, Z, .row 92 1 (.slice A (sku k).length (sku k).length) (sku k).length ((sku k).map skf)]) := by
  by_cases h1 : k = 1
  · subst h1
    exact ⟨some ⟨b1, 0, none⟩, run_look Try.underlying89 Try.underlying28 (H.map_at 3 rfl) 1 0 _ rfl, H.perm [0, 1, 2, 4] 4 rfl (by decide) (by intro i hi; match i with | 0 => rfl | 1 => rfl | 2 => rfl | 3 => rfl | i + 4 => omega)⟩
  by_cases h2 : k = 2
  · subst h2
    exact ⟨some ⟨b2, 0, none⟩, run_look Try.underlying89 Try.underlying28 (H.map_at 3 rfl) 2 1 _ rfl, H.perm [0, 1, 2, 5] 4 rfl (by decide) (by intro i hi; match i with | 0 => rfl | 1 => rfl | 2 => rfl | 3 => rfl | i + 4 => omega)⟩
  by_cases h3 : k = 3
  · subst h3
    exact ⟨some ⟨b3, 0, none⟩, run_look Try.underlying89 Try.underlying28 (H.map_at 3 rfl) 3 2 _ rfl, H.perm [0, 1, 2, 6] 4 rfl (by decide) (by intro i hi; match i with | 0 => rfl | 1 => rfl | 2 => rfl | 3 => rfl | i + 4 => omega)⟩
  by_cases h4 : k = 4
  · subst h4
    exact ⟨some ⟨b4, 0, none⟩, run_look Try.underlying89 Try.underlying28 (H.map_at 3 rfl) 4 3 _ rfl, H.perm [0, 1, 2, 7] 4 rfl (by decide) (by intro i hi; match i with | 0 => rfl | 1 => rfl | 2 => rfl | 3 => rfl | i + 4 => omega)⟩
  by_cases h5 : k = 5
  · subst h5
    exact ⟨some ⟨b5, 0, none⟩, run_look Try.underlying89 Try.underlying28 (H.map_at 3 rfl) 5 4 _ rfl, H.perm [0, 1, 2, 8] 4 rfl (by decide) (by intro i hi; match i with | 0 => rfl | 1 => rfl | 2 => rfl | 3 => rfl | i + 4 => omega)⟩
  by_cases h6 : k = 6
  · subst h6
    exact ⟨some ⟨b6, 0, none⟩, run_look Try.underlying89 Try.underlying28 (H.map_at 3 rfl) 6 5 _ rfl, H.perm [0, 1, 2, 9] 4 rfl (by decide) (by intro i hi; match i with | 0 => rfl | 1 => rfl | 2 => rfl | 3 => rfl | i + 4 => omega)⟩
  by_cases h7 : k = 7
  · subst h7
    exact ⟨some ⟨b7, 0, none⟩, run_look Try.underlying89 Try.underlying28 (H.map_at 3 rfl) 7 6 _ rfl, H.perm [0, 1, 2, 10] 4 rfl (by decide) (by intro i hi; match i with | 0 => rfl | 1 => rfl | 2 => rfl | 3 => rfl | i + 4 => omega)⟩
  by_cases h8 : k = 8
  · subst h8
    exact ⟨some ⟨b8, 0, none⟩, run_look Try.underlying89 Try.underlying28 (H.map_at 3 rfl) 8 7 _ rfl, H.perm [0, 1, 2, 11] 4 rfl (by decide) (by intro i hi; match i with | 0 => rfl | 1 => rfl | 2 => rfl | 3 => rfl | i + 4 => omega)⟩
  by_cases h9 : k = 9
  · subst h9
    exact ⟨some ⟨b9, 0, none⟩, run_look Try.underlying89 Try.underlying28 (H.map_at 3 rfl) 9 8 _ rfl, H.perm [0, 1, 2, 12] 4 rfl (by decide) (by intro i hi; match i with | 0 => rfl | 1 => rfl | 2 => rfl | 3 => rfl | i + 4 => omega)⟩
  by_cases h10 : k = 10
  · subst h10
    exact ⟨some ⟨b10, 0, none⟩, run_look Try.underlying89 Try.underlying28 (H.map_at 3 rfl) 10 9 _ rfl, H.perm [0, 1, 2, 13] 4 rfl (by decide) (by intro i hi; match i with | 0 => rfl | 1 => rfl | 2 => rfl | 3 => rfl | i + 4 => omega)⟩
  rw [sku_no h1 h2 h3 h4 h5 h6 h7 h8 h9 h10]
  have e1 := u8_is' k 1 h1 1 rfl
  have e2 := u8_is' k 2 h2 2 rfl
  have e3 := u8_is' k 3 h3 3 rfl
  have e4 := u8_is' k 4 h4 4 rfl
  have e5 := u8_is' k 5 h5 5 rfl
  have e6 := u8_is' k 6 h6 6 rfl
  have e7 := u8_is' k 7 h7 7 rfl
  have e8 := u8_is' k 8 h8 8 rfl
  have e9 := u8_is' k 9 h9 9 rfl
  have e10 := u8_is' k 10 h10 10 rfl
  refine ⟨none, run_look_none Try.underlying89 Try.underlying28 (H.map_at 3 rfl) (k.toNat : Int) _ (zero_uses w) ?_, ?_⟩
  · simp only [skEs, Instr.findNow, Instr.sameNow, if_true, e1, e2, e3, e4, e5, e6, e7, e8, e9, e10]
  · exact ((H.front 3).nilRow 3 rfl 92 1).push_mk rfl
end Go.Proofs.Ytgfhnbjpdhdhgaa
