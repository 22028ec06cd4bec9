/- script.lines: the table of all lines. -/
import Derived.Test.YtenmlkgamlafpaaDoorScC
import Derived.Test.YtenmlkgamlafpaaDoorMap
import Derived.Carry
import Derived.Test.YtenmlkgamlafpaaDoorLentO

namespace Go.Proofs.YtenmlkgamlafpaaDoor
open Go.RowKit
set_option linter.unusedVariables false
set_option maxRecDepth 100000

def fn0 (f : FuncId) : Value := .func (.func f) #[] #[]

def fnp (f : FuncId) (p : Nat) : Value := .func (.func f) #[] #[.pointer (some ⟨p, 0, none⟩)]

/-- a field's two functions -/
def numF (p : Nat) : List Value := [fnp 36 p, fnp 37 p]

def lstF (p : Nat) : List Value := [fnp 39 p, fnp 41 p]

def algF : List Value := [fn0 28, fn0 29]

theorem fld_size : (Tryd.prog.info? 57).map (·.size) = some 2 := by kernel_rfl

set_option maxHeartbeats 1000000 in
theorem number_s (f : FuncId) (w : World) : Calls Tryd.prog 21 #[.func (.func f) #[] #[]] w fun e w' => e = .returned (.agg #[.func (.func 36) #[] #[.pointer (some ⟨w.heap.size, 0, none⟩)], .func (.func 37) #[] #[.pointer (some ⟨w.heap.size, 0, none⟩)]]) ∧ St w [] w' (lay [.blk w.heap.size 67 [.func (.func f) #[] #[]]]) := by
  have H0 := St.start_lay w []
  go_enter Tryd.func21, Tryd.ntmps21
  go_upto_region 1 with (fail)
  refine absorb_wp (H0.allocAt 0 rfl w.heap.size rfl _ _ |>.push_mk rfl |>.allocAt 1 rfl (w.heap.size + 1) (by simp) _ _ |>.push_mk rfl) ?_
  clear H0
  intro w2 H
  generalize w.heap.size + 1 = gR at H ⊢
  generalize hga : w.heap.size = gA at H ⊢
  have HGA := Lib.hid hga
  clear hga
  have ht := H.there 1 rfl
  go_wp2_with (refine wpList_store_mid rfl 57 (.tmp 2) (.tmp 5) rfl gR 0 #[.func (.func 36) #[] #[.pointer (some ⟨gA, 0, none⟩)], .func (.func 37) #[] #[.pointer (some ⟨gA, 0, none⟩)]] rfl rfl ht fld_size (all_oneCell_toArray (by intro u hu; simp at hu; rcases hu with rfl | rfl <;> rfl)) ?_)
  have HZ := (H.storeAll 1 rfl (vs := [.func (.func 36) #[] #[.pointer (some ⟨gA, 0, none⟩)], .func (.func 37) #[] #[.pointer (some ⟨gA, 0, none⟩)]]) rfl).upd_mk (by simp)
  refine bodyPost_ret (results_cell_row rfl _ _ gR 57 _ _ _ rfl (HZ.blk 1 rfl) Tryd.underlying57 rfl fld_size) rfl ?_
  have hga := HGA.out
  subst hga
  exact ⟨rfl, HZ.front 1⟩

set_option maxHeartbeats 1000000 in
theorem list_s (f : FuncId) (w : World) : Calls Tryd.prog 25 #[.func (.func f) #[] #[]] w fun e w' => e = .returned (.agg #[.func (.func 39) #[] #[.pointer (some ⟨w.heap.size, 0, none⟩)], .func (.func 41) #[] #[.pointer (some ⟨w.heap.size, 0, none⟩)]]) ∧ St w [] w' (lay [.blk w.heap.size 70 [.func (.func f) #[] #[]]]) := by
  have H0 := St.start_lay w []
  go_enter Tryd.func25, Tryd.ntmps25
  go_upto_region 1 with (fail)
  refine absorb_wp (H0.allocAt 0 rfl w.heap.size rfl _ _ |>.push_mk rfl |>.allocAt 1 rfl (w.heap.size + 1) (by simp) _ _ |>.push_mk rfl) ?_
  clear H0
  intro w2 H
  generalize w.heap.size + 1 = gR at H ⊢
  generalize hga : w.heap.size = gA at H ⊢
  have HGA := Lib.hid hga
  clear hga
  have ht := H.there 1 rfl
  go_wp2_with (refine wpList_store_mid rfl 57 (.tmp 2) (.tmp 5) rfl gR 0 #[.func (.func 39) #[] #[.pointer (some ⟨gA, 0, none⟩)], .func (.func 41) #[] #[.pointer (some ⟨gA, 0, none⟩)]] rfl rfl ht fld_size (all_oneCell_toArray (by intro u hu; simp at hu; rcases hu with rfl | rfl <;> rfl)) ?_)
  have HZ := (H.storeAll 1 rfl (vs := [.func (.func 39) #[] #[.pointer (some ⟨gA, 0, none⟩)], .func (.func 41) #[] #[.pointer (some ⟨gA, 0, none⟩)]]) rfl).upd_mk (by simp)
  refine bodyPost_ret (results_cell_row rfl _ _ gR 57 _ _ _ rfl (HZ.blk 1 rfl) Tryd.underlying57 rfl fld_size) rfl ?_
  have hga := HGA.out
  subst hga
  exact ⟨rfl, HZ.front 1⟩

def scEs (b1 b2 b3 b4 b5 b6 b7 b8 b9 b10 : Nat) : List MapEntry := [({ key := .int .u8 1, val := .agg #[.string { data := #[112, 117, 116] }, .slice (some ⟨b1, 0, none⟩) 1 1], born := 0 } : MapEntry), ({ key := .int .u8 2, val := .agg #[.string { data := #[98, 101, 103, 105, 110] }, .slice (some ⟨b2, 0, none⟩) 4 4], born := 1 } : MapEntry), ({ key := .int .u8 3, val := .agg #[.string { data := #[117, 112, 100, 97, 116, 101] }, .slice (some ⟨b3, 0, none⟩) 2 2], born := 2 } : MapEntry), ({ key := .int .u8 4, val := .agg #[.string { data := #[102, 105, 110, 105, 115, 104] }, .slice (some ⟨b4, 0, none⟩) 1 1], born := 3 } : MapEntry), ({ key := .int .u8 5, val := .agg #[.string { data := #[118, 101, 114, 105, 102, 121] }, .slice (some ⟨b5, 0, none⟩) 2 2], born := 4 } : MapEntry), ({ key := .int .u8 6, val := .agg #[.string { data := #[99, 108, 111, 110, 101] }, .slice (some ⟨b6, 0, none⟩) 1 1], born := 5 } : MapEntry), ({ key := .int .u8 7, val := .agg #[.string { data := #[104, 107, 100, 102] }, .slice (some ⟨b7, 0, none⟩) 5 5], born := 6 } : MapEntry), ({ key := .int .u8 8, val := .agg #[.string { data := #[112, 98, 107, 100, 102] }, .slice (some ⟨b8, 0, none⟩) 5 5], born := 7 } : MapEntry), ({ key := .int .u8 9, val := .agg #[.string { data := #[114, 101, 118, 101, 97, 108] }, .slice (some ⟨b9, 0, none⟩) 1 1], born := 8 } : MapEntry), ({ key := .int .u8 10, val := .agg #[.string { data := #[100, 114, 111, 112] }, .slice (some ⟨b10, 0, none⟩) 1 1], born := 9 } : MapEntry)]

def scRows (p1 p2 p3 p4 p5 b1 b2 b3 b4 b5 b6 b7 b8 b9 b10 : Nat) : List Own := [.blk b1 57 [.func (.func 39) #[] #[.pointer (some ⟨p4, 0, none⟩)], .func (.func 41) #[] #[.pointer (some ⟨p4, 0, none⟩)]], .blk b2 57 [.func (.func 36) #[] #[.pointer (some ⟨p1, 0, none⟩)], .func (.func 37) #[] #[.pointer (some ⟨p1, 0, none⟩)], .func (.func 28) #[] #[], .func (.func 29) #[] #[], .func (.func 36) #[] #[.pointer (some ⟨p3, 0, none⟩)], .func (.func 37) #[] #[.pointer (some ⟨p3, 0, none⟩)], .func (.func 39) #[] #[.pointer (some ⟨p4, 0, none⟩)], .func (.func 41) #[] #[.pointer (some ⟨p4, 0, none⟩)]], .blk b3 57 [.func (.func 36) #[] #[.pointer (some ⟨p1, 0, none⟩)], .func (.func 37) #[] #[.pointer (some ⟨p1, 0, none⟩)], .func (.func 39) #[] #[.pointer (some ⟨p4, 0, none⟩)], .func (.func 41) #[] #[.pointer (some ⟨p4, 0, none⟩)]], .blk b4 57 [.func (.func 36) #[] #[.pointer (some ⟨p1, 0, none⟩)], .func (.func 37) #[] #[.pointer (some ⟨p1, 0, none⟩)]], .blk b5 57 [.func (.func 36) #[] #[.pointer (some ⟨p1, 0, none⟩)], .func (.func 37) #[] #[.pointer (some ⟨p1, 0, none⟩)], .func (.func 39) #[] #[.pointer (some ⟨p4, 0, none⟩)], .func (.func 41) #[] #[.pointer (some ⟨p4, 0, none⟩)]], .blk b6 57 [.func (.func 36) #[] #[.pointer (some ⟨p1, 0, none⟩)], .func (.func 37) #[] #[.pointer (some ⟨p1, 0, none⟩)]], .blk b7 57 [.func (.func 36) #[] #[.pointer (some ⟨p1, 0, none⟩)], .func (.func 37) #[] #[.pointer (some ⟨p1, 0, none⟩)], .func (.func 28) #[] #[], .func (.func 29) #[] #[], .func (.func 36) #[] #[.pointer (some ⟨p3, 0, none⟩)], .func (.func 37) #[] #[.pointer (some ⟨p3, 0, none⟩)], .func (.func 39) #[] #[.pointer (some ⟨p4, 0, none⟩)], .func (.func 41) #[] #[.pointer (some ⟨p4, 0, none⟩)], .func (.func 39) #[] #[.pointer (some ⟨p5, 0, none⟩)], .func (.func 41) #[] #[.pointer (some ⟨p5, 0, none⟩)]], .blk b8 57 [.func (.func 36) #[] #[.pointer (some ⟨p1, 0, none⟩)], .func (.func 37) #[] #[.pointer (some ⟨p1, 0, none⟩)], .func (.func 28) #[] #[], .func (.func 29) #[] #[], .func (.func 36) #[] #[.pointer (some ⟨p2, 0, none⟩)], .func (.func 37) #[] #[.pointer (some ⟨p2, 0, none⟩)], .func (.func 36) #[] #[.pointer (some ⟨p3, 0, none⟩)], .func (.func 37) #[] #[.pointer (some ⟨p3, 0, none⟩)], .func (.func 39) #[] #[.pointer (some ⟨p4, 0, none⟩)], .func (.func 41) #[] #[.pointer (some ⟨p4, 0, none⟩)]], .blk b9 57 [.func (.func 36) #[] #[.pointer (some ⟨p1, 0, none⟩)], .func (.func 37) #[] #[.pointer (some ⟨p1, 0, none⟩)]], .blk b10 57 [.func (.func 36) #[] #[.pointer (some ⟨p1, 0, none⟩)], .func (.func 37) #[] #[.pointer (some ⟨p1, 0, none⟩)]]]

def scGets (p1 p2 p3 p4 p5 : Nat) : List Own := [.blk p1 67 [.func (.func 22) #[] #[]], .blk p2 67 [.func (.func 23) #[] #[]], .blk p3 67 [.func (.func 24) #[] #[]], .blk p4 70 [.func (.func 26) #[] #[]], .blk p5 70 [.func (.func 27) #[] #[]]]

set_option maxHeartbeats 16000000 in
theorem lines_s (w : World) : Calls Tryd.prog 11 #[] w fun e w' => ∃ g p1 p2 p3 p4 p5 b1 b2 b3 b4 b5 b6 b7 b8 b9 b10, e = .returned (.map (some g)) ∧ St w [] w' (lay (.mapO g (scEs b1 b2 b3 b4 b5 b6 b7 b8 b9 b10) 10 :: (scGets p1 p2 p3 p4 p5 ++ scRows p1 p2 p3 p4 p5 b1 b2 b3 b4 b5 b6 b7 b8 b9 b10))) := by
  have hmm := @run_makeMap Tryd.prog
  have hst := fun (a : Addr) (p : Nat) (f : FuncId) (m : Mode) (w : World) => run_store Tryd.prog w a (.func (.func f) #[] #[.pointer (some ⟨p, 0, none⟩)]) m rfl
  have hst2 := fun (a : Addr) (f : FuncId) (m : Mode) (w : World) => run_store Tryd.prog w a (.func (.func f) #[] #[]) m rfl
  have H := St.start_lay w []
  go_enter Tryd.func11, Tryd.ntmps11
  go_wp2_with fail
  refine (number_s 22 w).mono ?_
  rintro e v1 ⟨rfl, HN⟩
  obtain ⟨p1, hp1⟩ : ∃ p, w.heap.size = p := ⟨_, rfl⟩
  rw [hp1] at HN ⊢
  replace H := H.also HN
  clear HN hp1
  replace H : St w [] v1 (lay [.blk p1 67 [.func (.func 22) #[] #[]]]) := H
  have HA := H.allocAt 1 rfl v1.heap.size rfl #[.func (.func 36) #[] #[.pointer (some ⟨p1, 0, none⟩)], .func (.func 37) #[] #[.pointer (some ⟨p1, 0, none⟩)]] 57 |>.push_mk rfl
  go_upto_region 2 with (fail)
  refine absorb_wp HA ?_
  clear H HA
  intro w1 H
  generalize v1.heap.size = f1 at H ⊢
  replace H : St w [] w1 (lay [.blk p1 67 [.func (.func 22) #[] #[]], .blk f1 57 [.func (.func 36) #[] #[.pointer (some ⟨p1, 0, none⟩)], .func (.func 37) #[] #[.pointer (some ⟨p1, 0, none⟩)]]]) := H
  go_wp2_with fail
  refine (number_s 23 w1).mono ?_
  rintro e v2 ⟨rfl, HN⟩
  obtain ⟨p2, hp2⟩ : ∃ p, w1.heap.size = p := ⟨_, rfl⟩
  rw [hp2] at HN ⊢
  replace H := H.also HN
  clear HN hp2
  replace H : St w [] v2 (lay [.blk p1 67 [.func (.func 22) #[] #[]], .blk f1 57 [.func (.func 36) #[] #[.pointer (some ⟨p1, 0, none⟩)], .func (.func 37) #[] #[.pointer (some ⟨p1, 0, none⟩)]], .blk p2 67 [.func (.func 23) #[] #[]]]) := H
  have HA := H.allocAt 3 rfl v2.heap.size rfl #[.func (.func 36) #[] #[.pointer (some ⟨p2, 0, none⟩)], .func (.func 37) #[] #[.pointer (some ⟨p2, 0, none⟩)]] 57 |>.push_mk rfl
  go_upto_region 3 with (fail)
  refine absorb_wp HA ?_
  clear H HA
  intro w2 H
  generalize v2.heap.size = f2 at H ⊢
  replace H : St w [] w2 (lay [.blk p1 67 [.func (.func 22) #[] #[]], .blk f1 57 [.func (.func 36) #[] #[.pointer (some ⟨p1, 0, none⟩)], .func (.func 37) #[] #[.pointer (some ⟨p1, 0, none⟩)]], .blk p2 67 [.func (.func 23) #[] #[]], .blk f2 57 [.func (.func 36) #[] #[.pointer (some ⟨p2, 0, none⟩)], .func (.func 37) #[] #[.pointer (some ⟨p2, 0, none⟩)]]]) := H
  go_wp2_with fail
  refine (number_s 24 w2).mono ?_
  rintro e v3 ⟨rfl, HN⟩
  obtain ⟨p3, hp3⟩ : ∃ p, w2.heap.size = p := ⟨_, rfl⟩
  rw [hp3] at HN ⊢
  replace H := H.also HN
  clear HN hp3
  replace H : St w [] v3 (lay [.blk p1 67 [.func (.func 22) #[] #[]], .blk f1 57 [.func (.func 36) #[] #[.pointer (some ⟨p1, 0, none⟩)], .func (.func 37) #[] #[.pointer (some ⟨p1, 0, none⟩)]], .blk p2 67 [.func (.func 23) #[] #[]], .blk f2 57 [.func (.func 36) #[] #[.pointer (some ⟨p2, 0, none⟩)], .func (.func 37) #[] #[.pointer (some ⟨p2, 0, none⟩)]], .blk p3 67 [.func (.func 24) #[] #[]]]) := H
  have HA := H.allocAt 5 rfl v3.heap.size rfl #[.func (.func 36) #[] #[.pointer (some ⟨p3, 0, none⟩)], .func (.func 37) #[] #[.pointer (some ⟨p3, 0, none⟩)]] 57 |>.push_mk rfl
  go_upto_region 4 with (fail)
  refine absorb_wp HA ?_
  clear H HA
  intro w3 H
  generalize v3.heap.size = f3 at H ⊢
  replace H : St w [] w3 (lay [.blk p1 67 [.func (.func 22) #[] #[]], .blk f1 57 [.func (.func 36) #[] #[.pointer (some ⟨p1, 0, none⟩)], .func (.func 37) #[] #[.pointer (some ⟨p1, 0, none⟩)]], .blk p2 67 [.func (.func 23) #[] #[]], .blk f2 57 [.func (.func 36) #[] #[.pointer (some ⟨p2, 0, none⟩)], .func (.func 37) #[] #[.pointer (some ⟨p2, 0, none⟩)]], .blk p3 67 [.func (.func 24) #[] #[]], .blk f3 57 [.func (.func 36) #[] #[.pointer (some ⟨p3, 0, none⟩)], .func (.func 37) #[] #[.pointer (some ⟨p3, 0, none⟩)]]]) := H
  go_wp2_with fail
  refine (list_s 26 w3).mono ?_
  rintro e v4 ⟨rfl, HN⟩
  obtain ⟨p4, hp4⟩ : ∃ p, w3.heap.size = p := ⟨_, rfl⟩
  rw [hp4] at HN ⊢
  replace H := H.also HN
  clear HN hp4
  replace H : St w [] v4 (lay [.blk p1 67 [.func (.func 22) #[] #[]], .blk f1 57 [.func (.func 36) #[] #[.pointer (some ⟨p1, 0, none⟩)], .func (.func 37) #[] #[.pointer (some ⟨p1, 0, none⟩)]], .blk p2 67 [.func (.func 23) #[] #[]], .blk f2 57 [.func (.func 36) #[] #[.pointer (some ⟨p2, 0, none⟩)], .func (.func 37) #[] #[.pointer (some ⟨p2, 0, none⟩)]], .blk p3 67 [.func (.func 24) #[] #[]], .blk f3 57 [.func (.func 36) #[] #[.pointer (some ⟨p3, 0, none⟩)], .func (.func 37) #[] #[.pointer (some ⟨p3, 0, none⟩)]], .blk p4 70 [.func (.func 26) #[] #[]]]) := H
  have HA := H.allocAt 7 rfl v4.heap.size rfl #[.func (.func 39) #[] #[.pointer (some ⟨p4, 0, none⟩)], .func (.func 41) #[] #[.pointer (some ⟨p4, 0, none⟩)]] 57 |>.push_mk rfl
  go_upto_region 5 with (fail)
  refine absorb_wp HA ?_
  clear H HA
  intro w4 H
  generalize v4.heap.size = f4 at H ⊢
  replace H : St w [] w4 (lay [.blk p1 67 [.func (.func 22) #[] #[]], .blk f1 57 [.func (.func 36) #[] #[.pointer (some ⟨p1, 0, none⟩)], .func (.func 37) #[] #[.pointer (some ⟨p1, 0, none⟩)]], .blk p2 67 [.func (.func 23) #[] #[]], .blk f2 57 [.func (.func 36) #[] #[.pointer (some ⟨p2, 0, none⟩)], .func (.func 37) #[] #[.pointer (some ⟨p2, 0, none⟩)]], .blk p3 67 [.func (.func 24) #[] #[]], .blk f3 57 [.func (.func 36) #[] #[.pointer (some ⟨p3, 0, none⟩)], .func (.func 37) #[] #[.pointer (some ⟨p3, 0, none⟩)]], .blk p4 70 [.func (.func 26) #[] #[]], .blk f4 57 [.func (.func 39) #[] #[.pointer (some ⟨p4, 0, none⟩)], .func (.func 41) #[] #[.pointer (some ⟨p4, 0, none⟩)]]]) := H
  go_wp2_with fail
  refine (list_s 27 w4).mono ?_
  rintro e v5 ⟨rfl, HN⟩
  obtain ⟨p5, hp5⟩ : ∃ p, w4.heap.size = p := ⟨_, rfl⟩
  rw [hp5] at HN ⊢
  replace H := H.also HN
  clear HN hp5
  replace H : St w [] v5 (lay [.blk p1 67 [.func (.func 22) #[] #[]], .blk f1 57 [.func (.func 36) #[] #[.pointer (some ⟨p1, 0, none⟩)], .func (.func 37) #[] #[.pointer (some ⟨p1, 0, none⟩)]], .blk p2 67 [.func (.func 23) #[] #[]], .blk f2 57 [.func (.func 36) #[] #[.pointer (some ⟨p2, 0, none⟩)], .func (.func 37) #[] #[.pointer (some ⟨p2, 0, none⟩)]], .blk p3 67 [.func (.func 24) #[] #[]], .blk f3 57 [.func (.func 36) #[] #[.pointer (some ⟨p3, 0, none⟩)], .func (.func 37) #[] #[.pointer (some ⟨p3, 0, none⟩)]], .blk p4 70 [.func (.func 26) #[] #[]], .blk f4 57 [.func (.func 39) #[] #[.pointer (some ⟨p4, 0, none⟩)], .func (.func 41) #[] #[.pointer (some ⟨p4, 0, none⟩)]], .blk p5 70 [.func (.func 27) #[] #[]]]) := H
  have HA := H.allocAt 9 rfl v5.heap.size rfl #[.func (.func 39) #[] #[.pointer (some ⟨p5, 0, none⟩)], .func (.func 41) #[] #[.pointer (some ⟨p5, 0, none⟩)]] 57 |>.push_mk rfl
  go_upto_region 6 with (fail)
  refine absorb_wp HA ?_
  clear H HA
  intro w5 H
  generalize v5.heap.size = f5 at H ⊢
  replace H : St w [] w5 (lay [.blk p1 67 [.func (.func 22) #[] #[]], .blk f1 57 [.func (.func 36) #[] #[.pointer (some ⟨p1, 0, none⟩)], .func (.func 37) #[] #[.pointer (some ⟨p1, 0, none⟩)]], .blk p2 67 [.func (.func 23) #[] #[]], .blk f2 57 [.func (.func 36) #[] #[.pointer (some ⟨p2, 0, none⟩)], .func (.func 37) #[] #[.pointer (some ⟨p2, 0, none⟩)]], .blk p3 67 [.func (.func 24) #[] #[]], .blk f3 57 [.func (.func 36) #[] #[.pointer (some ⟨p3, 0, none⟩)], .func (.func 37) #[] #[.pointer (some ⟨p3, 0, none⟩)]], .blk p4 70 [.func (.func 26) #[] #[]], .blk f4 57 [.func (.func 39) #[] #[.pointer (some ⟨p4, 0, none⟩)], .func (.func 41) #[] #[.pointer (some ⟨p4, 0, none⟩)]], .blk p5 70 [.func (.func 27) #[] #[]], .blk f5 57 [.func (.func 39) #[] #[.pointer (some ⟨p5, 0, none⟩)], .func (.func 41) #[] #[.pointer (some ⟨p5, 0, none⟩)]]]) := H
  have HA := H.allocAt 10 rfl w5.heap.size rfl #[.func (.func 28) #[] #[], .func (.func 29) #[] #[]] 57 |>.push_mk rfl
  go_upto_region 7 with (fail)
  refine absorb_wp HA ?_
  clear H HA
  intro w6 H
  generalize w5.heap.size = f6 at H ⊢
  replace H : St w [] w6 (lay [.blk p1 67 [.func (.func 22) #[] #[]], .blk f1 57 [.func (.func 36) #[] #[.pointer (some ⟨p1, 0, none⟩)], .func (.func 37) #[] #[.pointer (some ⟨p1, 0, none⟩)]], .blk p2 67 [.func (.func 23) #[] #[]], .blk f2 57 [.func (.func 36) #[] #[.pointer (some ⟨p2, 0, none⟩)], .func (.func 37) #[] #[.pointer (some ⟨p2, 0, none⟩)]], .blk p3 67 [.func (.func 24) #[] #[]], .blk f3 57 [.func (.func 36) #[] #[.pointer (some ⟨p3, 0, none⟩)], .func (.func 37) #[] #[.pointer (some ⟨p3, 0, none⟩)]], .blk p4 70 [.func (.func 26) #[] #[]], .blk f4 57 [.func (.func 39) #[] #[.pointer (some ⟨p4, 0, none⟩)], .func (.func 41) #[] #[.pointer (some ⟨p4, 0, none⟩)]], .blk p5 70 [.func (.func 27) #[] #[]], .blk f5 57 [.func (.func 39) #[] #[.pointer (some ⟨p5, 0, none⟩)], .func (.func 41) #[] #[.pointer (some ⟨p5, 0, none⟩)]], .blk f6 57 [.func (.func 28) #[] #[], .func (.func 29) #[] #[]]]) := H
  replace H := (H.mkMap 11 rfl w6.heap.size rfl).push_mk rfl
  have hf4 := H.blk 7 rfl
  go_wp2_with (first | (refine wpList_load_row rfl 57 (.tmp 4) rfl f4 rfl _ _ _ _ hf4 Tryd.underlying57 rfl fld_size ?_) | fail)
  clear hf4
  have HA := H.allocAt 12 rfl (w6.heap.size + 1) (by simp) #[.func (.func 39) #[] #[.pointer (some ⟨p4, 0, none⟩)], .func (.func 41) #[] #[.pointer (some ⟨p4, 0, none⟩)]] 57 |>.push_mk rfl
  refine upon_insert Tryd.underlying40 Tryd.underlying24 1 _ HA 11 rfl rfl ?_
  clear H
  intro x1 H
  replace H := H.upd_mk (by simp)
  clear HA
  generalize w6.heap.size + 1 = b1 at H ⊢
  generalize w6.heap.size = g at H ⊢
  replace H : St w [] x1 (lay [.blk p1 67 [.func (.func 22) #[] #[]], .blk f1 57 [.func (.func 36) #[] #[.pointer (some ⟨p1, 0, none⟩)], .func (.func 37) #[] #[.pointer (some ⟨p1, 0, none⟩)]], .blk p2 67 [.func (.func 23) #[] #[]], .blk f2 57 [.func (.func 36) #[] #[.pointer (some ⟨p2, 0, none⟩)], .func (.func 37) #[] #[.pointer (some ⟨p2, 0, none⟩)]], .blk p3 67 [.func (.func 24) #[] #[]], .blk f3 57 [.func (.func 36) #[] #[.pointer (some ⟨p3, 0, none⟩)], .func (.func 37) #[] #[.pointer (some ⟨p3, 0, none⟩)]], .blk p4 70 [.func (.func 26) #[] #[]], .blk f4 57 [.func (.func 39) #[] #[.pointer (some ⟨p4, 0, none⟩)], .func (.func 41) #[] #[.pointer (some ⟨p4, 0, none⟩)]], .blk p5 70 [.func (.func 27) #[] #[]], .blk f5 57 [.func (.func 39) #[] #[.pointer (some ⟨p5, 0, none⟩)], .func (.func 41) #[] #[.pointer (some ⟨p5, 0, none⟩)]], .blk f6 57 [.func (.func 28) #[] #[], .func (.func 29) #[] #[]], .mapO g [({ key := .int .u8 1, val := .agg #[.string { data := #[112, 117, 116] }, .slice (some ⟨b1, 0, none⟩) 1 1], born := 0 } : MapEntry)] 1, .blk b1 57 [.func (.func 39) #[] #[.pointer (some ⟨p4, 0, none⟩)], .func (.func 41) #[] #[.pointer (some ⟨p4, 0, none⟩)]]]) := H
  have hf1 := H.blk 1 rfl
  have hf3 := H.blk 5 rfl
  have hf4 := H.blk 7 rfl
  have hf6 := H.blk 10 rfl
  go_at_K
  go_wp2_with (first | (refine wpList_load_row rfl 57 (.tmp 1) rfl f1 rfl _ _ _ _ hf1 Tryd.underlying57 rfl fld_size ?_) | (refine wpList_load_row rfl 57 (.tmp 3) rfl f3 rfl _ _ _ _ hf3 Tryd.underlying57 rfl fld_size ?_) | (refine wpList_load_row rfl 57 (.tmp 4) rfl f4 rfl _ _ _ _ hf4 Tryd.underlying57 rfl fld_size ?_) | (refine wpList_load_row rfl 57 (.tmp 6) rfl f6 rfl _ _ _ _ hf6 Tryd.underlying57 rfl fld_size ?_) | fail)
  clear hf1 hf3 hf4 hf6
  have HA := H.allocAt 13 rfl x1.heap.size rfl #[.func (.func 36) #[] #[.pointer (some ⟨p1, 0, none⟩)], .func (.func 37) #[] #[.pointer (some ⟨p1, 0, none⟩)], .func (.func 28) #[] #[], .func (.func 29) #[] #[], .func (.func 36) #[] #[.pointer (some ⟨p3, 0, none⟩)], .func (.func 37) #[] #[.pointer (some ⟨p3, 0, none⟩)], .func (.func 39) #[] #[.pointer (some ⟨p4, 0, none⟩)], .func (.func 41) #[] #[.pointer (some ⟨p4, 0, none⟩)]] 57 |>.push_mk rfl
  refine upon_insert Tryd.underlying40 Tryd.underlying24 2 _ HA 11 rfl rfl ?_
  clear H
  intro x2 H
  replace H := H.upd_mk (by simp)
  clear HA
  generalize x1.heap.size = b2 at H ⊢
  replace H : St w [] x2 (lay [.blk p1 67 [.func (.func 22) #[] #[]], .blk f1 57 [.func (.func 36) #[] #[.pointer (some ⟨p1, 0, none⟩)], .func (.func 37) #[] #[.pointer (some ⟨p1, 0, none⟩)]], .blk p2 67 [.func (.func 23) #[] #[]], .blk f2 57 [.func (.func 36) #[] #[.pointer (some ⟨p2, 0, none⟩)], .func (.func 37) #[] #[.pointer (some ⟨p2, 0, none⟩)]], .blk p3 67 [.func (.func 24) #[] #[]], .blk f3 57 [.func (.func 36) #[] #[.pointer (some ⟨p3, 0, none⟩)], .func (.func 37) #[] #[.pointer (some ⟨p3, 0, none⟩)]], .blk p4 70 [.func (.func 26) #[] #[]], .blk f4 57 [.func (.func 39) #[] #[.pointer (some ⟨p4, 0, none⟩)], .func (.func 41) #[] #[.pointer (some ⟨p4, 0, none⟩)]], .blk p5 70 [.func (.func 27) #[] #[]], .blk f5 57 [.func (.func 39) #[] #[.pointer (some ⟨p5, 0, none⟩)], .func (.func 41) #[] #[.pointer (some ⟨p5, 0, none⟩)]], .blk f6 57 [.func (.func 28) #[] #[], .func (.func 29) #[] #[]], .mapO g [({ key := .int .u8 1, val := .agg #[.string { data := #[112, 117, 116] }, .slice (some ⟨b1, 0, none⟩) 1 1], born := 0 } : MapEntry), ({ key := .int .u8 2, val := .agg #[.string { data := #[98, 101, 103, 105, 110] }, .slice (some ⟨b2, 0, none⟩) 4 4], born := 1 } : MapEntry)] 2, .blk b1 57 [.func (.func 39) #[] #[.pointer (some ⟨p4, 0, none⟩)], .func (.func 41) #[] #[.pointer (some ⟨p4, 0, none⟩)]], .blk b2 57 [.func (.func 36) #[] #[.pointer (some ⟨p1, 0, none⟩)], .func (.func 37) #[] #[.pointer (some ⟨p1, 0, none⟩)], .func (.func 28) #[] #[], .func (.func 29) #[] #[], .func (.func 36) #[] #[.pointer (some ⟨p3, 0, none⟩)], .func (.func 37) #[] #[.pointer (some ⟨p3, 0, none⟩)], .func (.func 39) #[] #[.pointer (some ⟨p4, 0, none⟩)], .func (.func 41) #[] #[.pointer (some ⟨p4, 0, none⟩)]]]) := H
  have hf1 := H.blk 1 rfl
  have hf4 := H.blk 7 rfl
  go_at_K
  go_wp2_with (first | (refine wpList_load_row rfl 57 (.tmp 1) rfl f1 rfl _ _ _ _ hf1 Tryd.underlying57 rfl fld_size ?_) | (refine wpList_load_row rfl 57 (.tmp 4) rfl f4 rfl _ _ _ _ hf4 Tryd.underlying57 rfl fld_size ?_) | fail)
  clear hf1 hf4
  have HA := H.allocAt 14 rfl x2.heap.size rfl #[.func (.func 36) #[] #[.pointer (some ⟨p1, 0, none⟩)], .func (.func 37) #[] #[.pointer (some ⟨p1, 0, none⟩)], .func (.func 39) #[] #[.pointer (some ⟨p4, 0, none⟩)], .func (.func 41) #[] #[.pointer (some ⟨p4, 0, none⟩)]] 57 |>.push_mk rfl
  refine upon_insert Tryd.underlying40 Tryd.underlying24 3 _ HA 11 rfl rfl ?_
  clear H
  intro x3 H
  replace H := H.upd_mk (by simp)
  clear HA
  generalize x2.heap.size = b3 at H ⊢
  replace H : St w [] x3 (lay [.blk p1 67 [.func (.func 22) #[] #[]], .blk f1 57 [.func (.func 36) #[] #[.pointer (some ⟨p1, 0, none⟩)], .func (.func 37) #[] #[.pointer (some ⟨p1, 0, none⟩)]], .blk p2 67 [.func (.func 23) #[] #[]], .blk f2 57 [.func (.func 36) #[] #[.pointer (some ⟨p2, 0, none⟩)], .func (.func 37) #[] #[.pointer (some ⟨p2, 0, none⟩)]], .blk p3 67 [.func (.func 24) #[] #[]], .blk f3 57 [.func (.func 36) #[] #[.pointer (some ⟨p3, 0, none⟩)], .func (.func 37) #[] #[.pointer (some ⟨p3, 0, none⟩)]], .blk p4 70 [.func (.func 26) #[] #[]], .blk f4 57 [.func (.func 39) #[] #[.pointer (some ⟨p4, 0, none⟩)], .func (.func 41) #[] #[.pointer (some ⟨p4, 0, none⟩)]], .blk p5 70 [.func (.func 27) #[] #[]], .blk f5 57 [.func (.func 39) #[] #[.pointer (some ⟨p5, 0, none⟩)], .func (.func 41) #[] #[.pointer (some ⟨p5, 0, none⟩)]], .blk f6 57 [.func (.func 28) #[] #[], .func (.func 29) #[] #[]], .mapO g [({ key := .int .u8 1, val := .agg #[.string { data := #[112, 117, 116] }, .slice (some ⟨b1, 0, none⟩) 1 1], born := 0 } : MapEntry), ({ key := .int .u8 2, val := .agg #[.string { data := #[98, 101, 103, 105, 110] }, .slice (some ⟨b2, 0, none⟩) 4 4], born := 1 } : MapEntry), ({ key := .int .u8 3, val := .agg #[.string { data := #[117, 112, 100, 97, 116, 101] }, .slice (some ⟨b3, 0, none⟩) 2 2], born := 2 } : MapEntry)] 3, .blk b1 57 [.func (.func 39) #[] #[.pointer (some ⟨p4, 0, none⟩)], .func (.func 41) #[] #[.pointer (some ⟨p4, 0, none⟩)]], .blk b2 57 [.func (.func 36) #[] #[.pointer (some ⟨p1, 0, none⟩)], .func (.func 37) #[] #[.pointer (some ⟨p1, 0, none⟩)], .func (.func 28) #[] #[], .func (.func 29) #[] #[], .func (.func 36) #[] #[.pointer (some ⟨p3, 0, none⟩)], .func (.func 37) #[] #[.pointer (some ⟨p3, 0, none⟩)], .func (.func 39) #[] #[.pointer (some ⟨p4, 0, none⟩)], .func (.func 41) #[] #[.pointer (some ⟨p4, 0, none⟩)]], .blk b3 57 [.func (.func 36) #[] #[.pointer (some ⟨p1, 0, none⟩)], .func (.func 37) #[] #[.pointer (some ⟨p1, 0, none⟩)], .func (.func 39) #[] #[.pointer (some ⟨p4, 0, none⟩)], .func (.func 41) #[] #[.pointer (some ⟨p4, 0, none⟩)]]]) := H
  have hf1 := H.blk 1 rfl
  go_at_K
  go_wp2_with (first | (refine wpList_load_row rfl 57 (.tmp 1) rfl f1 rfl _ _ _ _ hf1 Tryd.underlying57 rfl fld_size ?_) | fail)
  clear hf1
  have HA := H.allocAt 15 rfl x3.heap.size rfl #[.func (.func 36) #[] #[.pointer (some ⟨p1, 0, none⟩)], .func (.func 37) #[] #[.pointer (some ⟨p1, 0, none⟩)]] 57 |>.push_mk rfl
  refine upon_insert Tryd.underlying40 Tryd.underlying24 4 _ HA 11 rfl rfl ?_
  clear H
  intro x4 H
  replace H := H.upd_mk (by simp)
  clear HA
  generalize x3.heap.size = b4 at H ⊢
  replace H : St w [] x4 (lay [.blk p1 67 [.func (.func 22) #[] #[]], .blk f1 57 [.func (.func 36) #[] #[.pointer (some ⟨p1, 0, none⟩)], .func (.func 37) #[] #[.pointer (some ⟨p1, 0, none⟩)]], .blk p2 67 [.func (.func 23) #[] #[]], .blk f2 57 [.func (.func 36) #[] #[.pointer (some ⟨p2, 0, none⟩)], .func (.func 37) #[] #[.pointer (some ⟨p2, 0, none⟩)]], .blk p3 67 [.func (.func 24) #[] #[]], .blk f3 57 [.func (.func 36) #[] #[.pointer (some ⟨p3, 0, none⟩)], .func (.func 37) #[] #[.pointer (some ⟨p3, 0, none⟩)]], .blk p4 70 [.func (.func 26) #[] #[]], .blk f4 57 [.func (.func 39) #[] #[.pointer (some ⟨p4, 0, none⟩)], .func (.func 41) #[] #[.pointer (some ⟨p4, 0, none⟩)]], .blk p5 70 [.func (.func 27) #[] #[]], .blk f5 57 [.func (.func 39) #[] #[.pointer (some ⟨p5, 0, none⟩)], .func (.func 41) #[] #[.pointer (some ⟨p5, 0, none⟩)]], .blk f6 57 [.func (.func 28) #[] #[], .func (.func 29) #[] #[]], .mapO g [({ key := .int .u8 1, val := .agg #[.string { data := #[112, 117, 116] }, .slice (some ⟨b1, 0, none⟩) 1 1], born := 0 } : MapEntry), ({ key := .int .u8 2, val := .agg #[.string { data := #[98, 101, 103, 105, 110] }, .slice (some ⟨b2, 0, none⟩) 4 4], born := 1 } : MapEntry), ({ key := .int .u8 3, val := .agg #[.string { data := #[117, 112, 100, 97, 116, 101] }, .slice (some ⟨b3, 0, none⟩) 2 2], born := 2 } : MapEntry), ({ key := .int .u8 4, val := .agg #[.string { data := #[102, 105, 110, 105, 115, 104] }, .slice (some ⟨b4, 0, none⟩) 1 1], born := 3 } : MapEntry)] 4, .blk b1 57 [.func (.func 39) #[] #[.pointer (some ⟨p4, 0, none⟩)], .func (.func 41) #[] #[.pointer (some ⟨p4, 0, none⟩)]], .blk b2 57 [.func (.func 36) #[] #[.pointer (some ⟨p1, 0, none⟩)], .func (.func 37) #[] #[.pointer (some ⟨p1, 0, none⟩)], .func (.func 28) #[] #[], .func (.func 29) #[] #[], .func (.func 36) #[] #[.pointer (some ⟨p3, 0, none⟩)], .func (.func 37) #[] #[.pointer (some ⟨p3, 0, none⟩)], .func (.func 39) #[] #[.pointer (some ⟨p4, 0, none⟩)], .func (.func 41) #[] #[.pointer (some ⟨p4, 0, none⟩)]], .blk b3 57 [.func (.func 36) #[] #[.pointer (some ⟨p1, 0, none⟩)], .func (.func 37) #[] #[.pointer (some ⟨p1, 0, none⟩)], .func (.func 39) #[] #[.pointer (some ⟨p4, 0, none⟩)], .func (.func 41) #[] #[.pointer (some ⟨p4, 0, none⟩)]], .blk b4 57 [.func (.func 36) #[] #[.pointer (some ⟨p1, 0, none⟩)], .func (.func 37) #[] #[.pointer (some ⟨p1, 0, none⟩)]]]) := H
  have hf1 := H.blk 1 rfl
  have hf4 := H.blk 7 rfl
  go_at_K
  go_wp2_with (first | (refine wpList_load_row rfl 57 (.tmp 1) rfl f1 rfl _ _ _ _ hf1 Tryd.underlying57 rfl fld_size ?_) | (refine wpList_load_row rfl 57 (.tmp 4) rfl f4 rfl _ _ _ _ hf4 Tryd.underlying57 rfl fld_size ?_) | fail)
  clear hf1 hf4
  have HA := H.allocAt 16 rfl x4.heap.size rfl #[.func (.func 36) #[] #[.pointer (some ⟨p1, 0, none⟩)], .func (.func 37) #[] #[.pointer (some ⟨p1, 0, none⟩)], .func (.func 39) #[] #[.pointer (some ⟨p4, 0, none⟩)], .func (.func 41) #[] #[.pointer (some ⟨p4, 0, none⟩)]] 57 |>.push_mk rfl
  refine upon_insert Tryd.underlying40 Tryd.underlying24 5 _ HA 11 rfl rfl ?_
  clear H
  intro x5 H
  replace H := H.upd_mk (by simp)
  clear HA
  generalize x4.heap.size = b5 at H ⊢
  replace H : St w [] x5 (lay [.blk p1 67 [.func (.func 22) #[] #[]], .blk f1 57 [.func (.func 36) #[] #[.pointer (some ⟨p1, 0, none⟩)], .func (.func 37) #[] #[.pointer (some ⟨p1, 0, none⟩)]], .blk p2 67 [.func (.func 23) #[] #[]], .blk f2 57 [.func (.func 36) #[] #[.pointer (some ⟨p2, 0, none⟩)], .func (.func 37) #[] #[.pointer (some ⟨p2, 0, none⟩)]], .blk p3 67 [.func (.func 24) #[] #[]], .blk f3 57 [.func (.func 36) #[] #[.pointer (some ⟨p3, 0, none⟩)], .func (.func 37) #[] #[.pointer (some ⟨p3, 0, none⟩)]], .blk p4 70 [.func (.func 26) #[] #[]], .blk f4 57 [.func (.func 39) #[] #[.pointer (some ⟨p4, 0, none⟩)], .func (.func 41) #[] #[.pointer (some ⟨p4, 0, none⟩)]], .blk p5 70 [.func (.func 27) #[] #[]], .blk f5 57 [.func (.func 39) #[] #[.pointer (some ⟨p5, 0, none⟩)], .func (.func 41) #[] #[.pointer (some ⟨p5, 0, none⟩)]], .blk f6 57 [.func (.func 28) #[] #[], .func (.func 29) #[] #[]], .mapO g [({ key := .int .u8 1, val := .agg #[.string { data := #[112, 117, 116] }, .slice (some ⟨b1, 0, none⟩) 1 1], born := 0 } : MapEntry), ({ key := .int .u8 2, val := .agg #[.string { data := #[98, 101, 103, 105, 110] }, .slice (some ⟨b2, 0, none⟩) 4 4], born := 1 } : MapEntry), ({ key := .int .u8 3, val := .agg #[.string { data := #[117, 112, 100, 97, 116, 101] }, .slice (some ⟨b3, 0, none⟩) 2 2], born := 2 } : MapEntry), ({ key := .int .u8 4, val := .agg #[.string { data := #[102, 105, 110, 105, 115, 104] }, .slice (some ⟨b4, 0, none⟩) 1 1], born := 3 } : MapEntry), ({ key := .int .u8 5, val := .agg #[.string { data := #[118, 101, 114, 105, 102, 121] }, .slice (some ⟨b5, 0, none⟩) 2 2], born := 4 } : MapEntry)] 5, .blk b1 57 [.func (.func 39) #[] #[.pointer (some ⟨p4, 0, none⟩)], .func (.func 41) #[] #[.pointer (some ⟨p4, 0, none⟩)]], .blk b2 57 [.func (.func 36) #[] #[.pointer (some ⟨p1, 0, none⟩)], .func (.func 37) #[] #[.pointer (some ⟨p1, 0, none⟩)], .func (.func 28) #[] #[], .func (.func 29) #[] #[], .func (.func 36) #[] #[.pointer (some ⟨p3, 0, none⟩)], .func (.func 37) #[] #[.pointer (some ⟨p3, 0, none⟩)], .func (.func 39) #[] #[.pointer (some ⟨p4, 0, none⟩)], .func (.func 41) #[] #[.pointer (some ⟨p4, 0, none⟩)]], .blk b3 57 [.func (.func 36) #[] #[.pointer (some ⟨p1, 0, none⟩)], .func (.func 37) #[] #[.pointer (some ⟨p1, 0, none⟩)], .func (.func 39) #[] #[.pointer (some ⟨p4, 0, none⟩)], .func (.func 41) #[] #[.pointer (some ⟨p4, 0, none⟩)]], .blk b4 57 [.func (.func 36) #[] #[.pointer (some ⟨p1, 0, none⟩)], .func (.func 37) #[] #[.pointer (some ⟨p1, 0, none⟩)]], .blk b5 57 [.func (.func 36) #[] #[.pointer (some ⟨p1, 0, none⟩)], .func (.func 37) #[] #[.pointer (some ⟨p1, 0, none⟩)], .func (.func 39) #[] #[.pointer (some ⟨p4, 0, none⟩)], .func (.func 41) #[] #[.pointer (some ⟨p4, 0, none⟩)]]]) := H
  have hf1 := H.blk 1 rfl
  go_at_K
  go_wp2_with (first | (refine wpList_load_row rfl 57 (.tmp 1) rfl f1 rfl _ _ _ _ hf1 Tryd.underlying57 rfl fld_size ?_) | fail)
  clear hf1
  have HA := H.allocAt 17 rfl x5.heap.size rfl #[.func (.func 36) #[] #[.pointer (some ⟨p1, 0, none⟩)], .func (.func 37) #[] #[.pointer (some ⟨p1, 0, none⟩)]] 57 |>.push_mk rfl
  refine upon_insert Tryd.underlying40 Tryd.underlying24 6 _ HA 11 rfl rfl ?_
  clear H
  intro x6 H
  replace H := H.upd_mk (by simp)
  clear HA
  generalize x5.heap.size = b6 at H ⊢
  replace H : St w [] x6 (lay [.blk p1 67 [.func (.func 22) #[] #[]], .blk f1 57 [.func (.func 36) #[] #[.pointer (some ⟨p1, 0, none⟩)], .func (.func 37) #[] #[.pointer (some ⟨p1, 0, none⟩)]], .blk p2 67 [.func (.func 23) #[] #[]], .blk f2 57 [.func (.func 36) #[] #[.pointer (some ⟨p2, 0, none⟩)], .func (.func 37) #[] #[.pointer (some ⟨p2, 0, none⟩)]], .blk p3 67 [.func (.func 24) #[] #[]], .blk f3 57 [.func (.func 36) #[] #[.pointer (some ⟨p3, 0, none⟩)], .func (.func 37) #[] #[.pointer (some ⟨p3, 0, none⟩)]], .blk p4 70 [.func (.func 26) #[] #[]], .blk f4 57 [.func (.func 39) #[] #[.pointer (some ⟨p4, 0, none⟩)], .func (.func 41) #[] #[.pointer (some ⟨p4, 0, none⟩)]], .blk p5 70 [.func (.func 27) #[] #[]], .blk f5 57 [.func (.func 39) #[] #[.pointer (some ⟨p5, 0, none⟩)], .func (.func 41) #[] #[.pointer (some ⟨p5, 0, none⟩)]], .blk f6 57 [.func (.func 28) #[] #[], .func (.func 29) #[] #[]], .mapO g [({ key := .int .u8 1, val := .agg #[.string { data := #[112, 117, 116] }, .slice (some ⟨b1, 0, none⟩) 1 1], born := 0 } : MapEntry), ({ key := .int .u8 2, val := .agg #[.string { data := #[98, 101, 103, 105, 110] }, .slice (some ⟨b2, 0, none⟩) 4 4], born := 1 } : MapEntry), ({ key := .int .u8 3, val := .agg #[.string { data := #[117, 112, 100, 97, 116, 101] }, .slice (some ⟨b3, 0, none⟩) 2 2], born := 2 } : MapEntry), ({ key := .int .u8 4, val := .agg #[.string { data := #[102, 105, 110, 105, 115, 104] }, .slice (some ⟨b4, 0, none⟩) 1 1], born := 3 } : MapEntry), ({ key := .int .u8 5, val := .agg #[.string { data := #[118, 101, 114, 105, 102, 121] }, .slice (some ⟨b5, 0, none⟩) 2 2], born := 4 } : MapEntry), ({ key := .int .u8 6, val := .agg #[.string { data := #[99, 108, 111, 110, 101] }, .slice (some ⟨b6, 0, none⟩) 1 1], born := 5 } : MapEntry)] 6, .blk b1 57 [.func (.func 39) #[] #[.pointer (some ⟨p4, 0, none⟩)], .func (.func 41) #[] #[.pointer (some ⟨p4, 0, none⟩)]], .blk b2 57 [.func (.func 36) #[] #[.pointer (some ⟨p1, 0, none⟩)], .func (.func 37) #[] #[.pointer (some ⟨p1, 0, none⟩)], .func (.func 28) #[] #[], .func (.func 29) #[] #[], .func (.func 36) #[] #[.pointer (some ⟨p3, 0, none⟩)], .func (.func 37) #[] #[.pointer (some ⟨p3, 0, none⟩)], .func (.func 39) #[] #[.pointer (some ⟨p4, 0, none⟩)], .func (.func 41) #[] #[.pointer (some ⟨p4, 0, none⟩)]], .blk b3 57 [.func (.func 36) #[] #[.pointer (some ⟨p1, 0, none⟩)], .func (.func 37) #[] #[.pointer (some ⟨p1, 0, none⟩)], .func (.func 39) #[] #[.pointer (some ⟨p4, 0, none⟩)], .func (.func 41) #[] #[.pointer (some ⟨p4, 0, none⟩)]], .blk b4 57 [.func (.func 36) #[] #[.pointer (some ⟨p1, 0, none⟩)], .func (.func 37) #[] #[.pointer (some ⟨p1, 0, none⟩)]], .blk b5 57 [.func (.func 36) #[] #[.pointer (some ⟨p1, 0, none⟩)], .func (.func 37) #[] #[.pointer (some ⟨p1, 0, none⟩)], .func (.func 39) #[] #[.pointer (some ⟨p4, 0, none⟩)], .func (.func 41) #[] #[.pointer (some ⟨p4, 0, none⟩)]], .blk b6 57 [.func (.func 36) #[] #[.pointer (some ⟨p1, 0, none⟩)], .func (.func 37) #[] #[.pointer (some ⟨p1, 0, none⟩)]]]) := H
  have hf1 := H.blk 1 rfl
  have hf3 := H.blk 5 rfl
  have hf4 := H.blk 7 rfl
  have hf5 := H.blk 9 rfl
  have hf6 := H.blk 10 rfl
  go_at_K
  go_wp2_with (first | (refine wpList_load_row rfl 57 (.tmp 1) rfl f1 rfl _ _ _ _ hf1 Tryd.underlying57 rfl fld_size ?_) | (refine wpList_load_row rfl 57 (.tmp 3) rfl f3 rfl _ _ _ _ hf3 Tryd.underlying57 rfl fld_size ?_) | (refine wpList_load_row rfl 57 (.tmp 4) rfl f4 rfl _ _ _ _ hf4 Tryd.underlying57 rfl fld_size ?_) | (refine wpList_load_row rfl 57 (.tmp 5) rfl f5 rfl _ _ _ _ hf5 Tryd.underlying57 rfl fld_size ?_) | (refine wpList_load_row rfl 57 (.tmp 6) rfl f6 rfl _ _ _ _ hf6 Tryd.underlying57 rfl fld_size ?_) | fail)
  clear hf1 hf3 hf4 hf5 hf6
  have HA := H.allocAt 18 rfl x6.heap.size rfl #[.func (.func 36) #[] #[.pointer (some ⟨p1, 0, none⟩)], .func (.func 37) #[] #[.pointer (some ⟨p1, 0, none⟩)], .func (.func 28) #[] #[], .func (.func 29) #[] #[], .func (.func 36) #[] #[.pointer (some ⟨p3, 0, none⟩)], .func (.func 37) #[] #[.pointer (some ⟨p3, 0, none⟩)], .func (.func 39) #[] #[.pointer (some ⟨p4, 0, none⟩)], .func (.func 41) #[] #[.pointer (some ⟨p4, 0, none⟩)], .func (.func 39) #[] #[.pointer (some ⟨p5, 0, none⟩)], .func (.func 41) #[] #[.pointer (some ⟨p5, 0, none⟩)]] 57 |>.push_mk rfl
  refine upon_insert Tryd.underlying40 Tryd.underlying24 7 _ HA 11 rfl rfl ?_
  clear H
  intro x7 H
  replace H := H.upd_mk (by simp)
  clear HA
  generalize x6.heap.size = b7 at H ⊢
  replace H : St w [] x7 (lay [.blk p1 67 [.func (.func 22) #[] #[]], .blk f1 57 [.func (.func 36) #[] #[.pointer (some ⟨p1, 0, none⟩)], .func (.func 37) #[] #[.pointer (some ⟨p1, 0, none⟩)]], .blk p2 67 [.func (.func 23) #[] #[]], .blk f2 57 [.func (.func 36) #[] #[.pointer (some ⟨p2, 0, none⟩)], .func (.func 37) #[] #[.pointer (some ⟨p2, 0, none⟩)]], .blk p3 67 [.func (.func 24) #[] #[]], .blk f3 57 [.func (.func 36) #[] #[.pointer (some ⟨p3, 0, none⟩)], .func (.func 37) #[] #[.pointer (some ⟨p3, 0, none⟩)]], .blk p4 70 [.func (.func 26) #[] #[]], .blk f4 57 [.func (.func 39) #[] #[.pointer (some ⟨p4, 0, none⟩)], .func (.func 41) #[] #[.pointer (some ⟨p4, 0, none⟩)]], .blk p5 70 [.func (.func 27) #[] #[]], .blk f5 57 [.func (.func 39) #[] #[.pointer (some ⟨p5, 0, none⟩)], .func (.func 41) #[] #[.pointer (some ⟨p5, 0, none⟩)]], .blk f6 57 [.func (.func 28) #[] #[], .func (.func 29) #[] #[]], .mapO g [({ key := .int .u8 1, val := .agg #[.string { data := #[112, 117, 116] }, .slice (some ⟨b1, 0, none⟩) 1 1], born := 0 } : MapEntry), ({ key := .int .u8 2, val := .agg #[.string { data := #[98, 101, 103, 105, 110] }, .slice (some ⟨b2, 0, none⟩) 4 4], born := 1 } : MapEntry), ({ key := .int .u8 3, val := .agg #[.string { data := #[117, 112, 100, 97, 116, 101] }, .slice (some ⟨b3, 0, none⟩) 2 2], born := 2 } : MapEntry), ({ key := .int .u8 4, val := .agg #[.string { data := #[102, 105, 110, 105, 115, 104] }, .slice (some ⟨b4, 0, none⟩) 1 1], born := 3 } : MapEntry), ({ key := .int .u8 5, val := .agg #[.string { data := #[118, 101, 114, 105, 102, 121] }, .slice (some ⟨b5, 0, none⟩) 2 2], born := 4 } : MapEntry), ({ key := .int .u8 6, val := .agg #[.string { data := #[99, 108, 111, 110, 101] }, .slice (some ⟨b6, 0, none⟩) 1 1], born := 5 } : MapEntry), ({ key := .int .u8 7, val := .agg #[.string { data := #[104, 107, 100, 102] }, .slice (some ⟨b7, 0, none⟩) 5 5], born := 6 } : MapEntry)] 7, .blk b1 57 [.func (.func 39) #[] #[.pointer (some ⟨p4, 0, none⟩)], .func (.func 41) #[] #[.pointer (some ⟨p4, 0, none⟩)]], .blk b2 57 [.func (.func 36) #[] #[.pointer (some ⟨p1, 0, none⟩)], .func (.func 37) #[] #[.pointer (some ⟨p1, 0, none⟩)], .func (.func 28) #[] #[], .func (.func 29) #[] #[], .func (.func 36) #[] #[.pointer (some ⟨p3, 0, none⟩)], .func (.func 37) #[] #[.pointer (some ⟨p3, 0, none⟩)], .func (.func 39) #[] #[.pointer (some ⟨p4, 0, none⟩)], .func (.func 41) #[] #[.pointer (some ⟨p4, 0, none⟩)]], .blk b3 57 [.func (.func 36) #[] #[.pointer (some ⟨p1, 0, none⟩)], .func (.func 37) #[] #[.pointer (some ⟨p1, 0, none⟩)], .func (.func 39) #[] #[.pointer (some ⟨p4, 0, none⟩)], .func (.func 41) #[] #[.pointer (some ⟨p4, 0, none⟩)]], .blk b4 57 [.func (.func 36) #[] #[.pointer (some ⟨p1, 0, none⟩)], .func (.func 37) #[] #[.pointer (some ⟨p1, 0, none⟩)]], .blk b5 57 [.func (.func 36) #[] #[.pointer (some ⟨p1, 0, none⟩)], .func (.func 37) #[] #[.pointer (some ⟨p1, 0, none⟩)], .func (.func 39) #[] #[.pointer (some ⟨p4, 0, none⟩)], .func (.func 41) #[] #[.pointer (some ⟨p4, 0, none⟩)]], .blk b6 57 [.func (.func 36) #[] #[.pointer (some ⟨p1, 0, none⟩)], .func (.func 37) #[] #[.pointer (some ⟨p1, 0, none⟩)]], .blk b7 57 [.func (.func 36) #[] #[.pointer (some ⟨p1, 0, none⟩)], .func (.func 37) #[] #[.pointer (some ⟨p1, 0, none⟩)], .func (.func 28) #[] #[], .func (.func 29) #[] #[], .func (.func 36) #[] #[.pointer (some ⟨p3, 0, none⟩)], .func (.func 37) #[] #[.pointer (some ⟨p3, 0, none⟩)], .func (.func 39) #[] #[.pointer (some ⟨p4, 0, none⟩)], .func (.func 41) #[] #[.pointer (some ⟨p4, 0, none⟩)], .func (.func 39) #[] #[.pointer (some ⟨p5, 0, none⟩)], .func (.func 41) #[] #[.pointer (some ⟨p5, 0, none⟩)]]]) := H
  have hf1 := H.blk 1 rfl
  have hf2 := H.blk 3 rfl
  have hf3 := H.blk 5 rfl
  have hf4 := H.blk 7 rfl
  have hf6 := H.blk 10 rfl
  go_at_K
  go_wp2_with (first | (refine wpList_load_row rfl 57 (.tmp 1) rfl f1 rfl _ _ _ _ hf1 Tryd.underlying57 rfl fld_size ?_) | (refine wpList_load_row rfl 57 (.tmp 2) rfl f2 rfl _ _ _ _ hf2 Tryd.underlying57 rfl fld_size ?_) | (refine wpList_load_row rfl 57 (.tmp 3) rfl f3 rfl _ _ _ _ hf3 Tryd.underlying57 rfl fld_size ?_) | (refine wpList_load_row rfl 57 (.tmp 4) rfl f4 rfl _ _ _ _ hf4 Tryd.underlying57 rfl fld_size ?_) | (refine wpList_load_row rfl 57 (.tmp 6) rfl f6 rfl _ _ _ _ hf6 Tryd.underlying57 rfl fld_size ?_) | fail)
  clear hf1 hf2 hf3 hf4 hf6
  have HA := H.allocAt 19 rfl x7.heap.size rfl #[.func (.func 36) #[] #[.pointer (some ⟨p1, 0, none⟩)], .func (.func 37) #[] #[.pointer (some ⟨p1, 0, none⟩)], .func (.func 28) #[] #[], .func (.func 29) #[] #[], .func (.func 36) #[] #[.pointer (some ⟨p2, 0, none⟩)], .func (.func 37) #[] #[.pointer (some ⟨p2, 0, none⟩)], .func (.func 36) #[] #[.pointer (some ⟨p3, 0, none⟩)], .func (.func 37) #[] #[.pointer (some ⟨p3, 0, none⟩)], .func (.func 39) #[] #[.pointer (some ⟨p4, 0, none⟩)], .func (.func 41) #[] #[.pointer (some ⟨p4, 0, none⟩)]] 57 |>.push_mk rfl
  refine upon_insert Tryd.underlying40 Tryd.underlying24 8 _ HA 11 rfl rfl ?_
  clear H
  intro x8 H
  replace H := H.upd_mk (by simp)
  clear HA
  generalize x7.heap.size = b8 at H ⊢
  replace H : St w [] x8 (lay [.blk p1 67 [.func (.func 22) #[] #[]], .blk f1 57 [.func (.func 36) #[] #[.pointer (some ⟨p1, 0, none⟩)], .func (.func 37) #[] #[.pointer (some ⟨p1, 0, none⟩)]], .blk p2 67 [.func (.func 23) #[] #[]], .blk f2 57 [.func (.func 36) #[] #[.pointer (some ⟨p2, 0, none⟩)], .func (.func 37) #[] #[.pointer (some ⟨p2, 0, none⟩)]], .blk p3 67 [.func (.func 24) #[] #[]], .blk f3 57 [.func (.func 36) #[] #[.pointer (some ⟨p3, 0, none⟩)], .func (.func 37) #[] #[.pointer (some ⟨p3, 0, none⟩)]], .blk p4 70 [.func (.func 26) #[] #[]], .blk f4 57 [.func (.func 39) #[] #[.pointer (some ⟨p4, 0, none⟩)], .func (.func 41) #[] #[.pointer (some ⟨p4, 0, none⟩)]], .blk p5 70 [.func (.func 27) #[] #[]], .blk f5 57 [.func (.func 39) #[] #[.pointer (some ⟨p5, 0, none⟩)], .func (.func 41) #[] #[.pointer (some ⟨p5, 0, none⟩)]], .blk f6 57 [.func (.func 28) #[] #[], .func (.func 29) #[] #[]], .mapO g [({ key := .int .u8 1, val := .agg #[.string { data := #[112, 117, 116] }, .slice (some ⟨b1, 0, none⟩) 1 1], born := 0 } : MapEntry), ({ key := .int .u8 2, val := .agg #[.string { data := #[98, 101, 103, 105, 110] }, .slice (some ⟨b2, 0, none⟩) 4 4], born := 1 } : MapEntry), ({ key := .int .u8 3, val := .agg #[.string { data := #[117, 112, 100, 97, 116, 101] }, .slice (some ⟨b3, 0, none⟩) 2 2], born := 2 } : MapEntry), ({ key := .int .u8 4, val := .agg #[.string { data := #[102, 105, 110, 105, 115, 104] }, .slice (some ⟨b4, 0, none⟩) 1 1], born := 3 } : MapEntry), ({ key := .int .u8 5, val := .agg #[.string { data := #[118, 101, 114, 105, 102, 121] }, .slice (some ⟨b5, 0, none⟩) 2 2], born := 4 } : MapEntry), ({ key := .int .u8 6, val := .agg #[.string { data := #[99, 108, 111, 110, 101] }, .slice (some ⟨b6, 0, none⟩) 1 1], born := 5 } : MapEntry), ({ key := .int .u8 7, val := .agg #[.string { data := #[104, 107, 100, 102] }, .slice (some ⟨b7, 0, none⟩) 5 5], born := 6 } : MapEntry), ({ key := .int .u8 8, val := .agg #[.string { data := #[112, 98, 107, 100, 102] }, .slice (some ⟨b8, 0, none⟩) 5 5], born := 7 } : MapEntry)] 8, .blk b1 57 [.func (.func 39) #[] #[.pointer (some ⟨p4, 0, none⟩)], .func (.func 41) #[] #[.pointer (some ⟨p4, 0, none⟩)]], .blk b2 57 [.func (.func 36) #[] #[.pointer (some ⟨p1, 0, none⟩)], .func (.func 37) #[] #[.pointer (some ⟨p1, 0, none⟩)], .func (.func 28) #[] #[], .func (.func 29) #[] #[], .func (.func 36) #[] #[.pointer (some ⟨p3, 0, none⟩)], .func (.func 37) #[] #[.pointer (some ⟨p3, 0, none⟩)], .func (.func 39) #[] #[.pointer (some ⟨p4, 0, none⟩)], .func (.func 41) #[] #[.pointer (some ⟨p4, 0, none⟩)]], .blk b3 57 [.func (.func 36) #[] #[.pointer (some ⟨p1, 0, none⟩)], .func (.func 37) #[] #[.pointer (some ⟨p1, 0, none⟩)], .func (.func 39) #[] #[.pointer (some ⟨p4, 0, none⟩)], .func (.func 41) #[] #[.pointer (some ⟨p4, 0, none⟩)]], .blk b4 57 [.func (.func 36) #[] #[.pointer (some ⟨p1, 0, none⟩)], .func (.func 37) #[] #[.pointer (some ⟨p1, 0, none⟩)]], .blk b5 57 [.func (.func 36) #[] #[.pointer (some ⟨p1, 0, none⟩)], .func (.func 37) #[] #[.pointer (some ⟨p1, 0, none⟩)], .func (.func 39) #[] #[.pointer (some ⟨p4, 0, none⟩)], .func (.func 41) #[] #[.pointer (some ⟨p4, 0, none⟩)]], .blk b6 57 [.func (.func 36) #[] #[.pointer (some ⟨p1, 0, none⟩)], .func (.func 37) #[] #[.pointer (some ⟨p1, 0, none⟩)]], .blk b7 57 [.func (.func 36) #[] #[.pointer (some ⟨p1, 0, none⟩)], .func (.func 37) #[] #[.pointer (some ⟨p1, 0, none⟩)], .func (.func 28) #[] #[], .func (.func 29) #[] #[], .func (.func 36) #[] #[.pointer (some ⟨p3, 0, none⟩)], .func (.func 37) #[] #[.pointer (some ⟨p3, 0, none⟩)], .func (.func 39) #[] #[.pointer (some ⟨p4, 0, none⟩)], .func (.func 41) #[] #[.pointer (some ⟨p4, 0, none⟩)], .func (.func 39) #[] #[.pointer (some ⟨p5, 0, none⟩)], .func (.func 41) #[] #[.pointer (some ⟨p5, 0, none⟩)]], .blk b8 57 [.func (.func 36) #[] #[.pointer (some ⟨p1, 0, none⟩)], .func (.func 37) #[] #[.pointer (some ⟨p1, 0, none⟩)], .func (.func 28) #[] #[], .func (.func 29) #[] #[], .func (.func 36) #[] #[.pointer (some ⟨p2, 0, none⟩)], .func (.func 37) #[] #[.pointer (some ⟨p2, 0, none⟩)], .func (.func 36) #[] #[.pointer (some ⟨p3, 0, none⟩)], .func (.func 37) #[] #[.pointer (some ⟨p3, 0, none⟩)], .func (.func 39) #[] #[.pointer (some ⟨p4, 0, none⟩)], .func (.func 41) #[] #[.pointer (some ⟨p4, 0, none⟩)]]]) := H
  have hf1 := H.blk 1 rfl
  go_at_K
  go_wp2_with (first | (refine wpList_load_row rfl 57 (.tmp 1) rfl f1 rfl _ _ _ _ hf1 Tryd.underlying57 rfl fld_size ?_) | fail)
  clear hf1
  have HA := H.allocAt 20 rfl x8.heap.size rfl #[.func (.func 36) #[] #[.pointer (some ⟨p1, 0, none⟩)], .func (.func 37) #[] #[.pointer (some ⟨p1, 0, none⟩)]] 57 |>.push_mk rfl
  refine upon_insert Tryd.underlying40 Tryd.underlying24 9 _ HA 11 rfl rfl ?_
  clear H
  intro x9 H
  replace H := H.upd_mk (by simp)
  clear HA
  generalize x8.heap.size = b9 at H ⊢
  replace H : St w [] x9 (lay [.blk p1 67 [.func (.func 22) #[] #[]], .blk f1 57 [.func (.func 36) #[] #[.pointer (some ⟨p1, 0, none⟩)], .func (.func 37) #[] #[.pointer (some ⟨p1, 0, none⟩)]], .blk p2 67 [.func (.func 23) #[] #[]], .blk f2 57 [.func (.func 36) #[] #[.pointer (some ⟨p2, 0, none⟩)], .func (.func 37) #[] #[.pointer (some ⟨p2, 0, none⟩)]], .blk p3 67 [.func (.func 24) #[] #[]], .blk f3 57 [.func (.func 36) #[] #[.pointer (some ⟨p3, 0, none⟩)], .func (.func 37) #[] #[.pointer (some ⟨p3, 0, none⟩)]], .blk p4 70 [.func (.func 26) #[] #[]], .blk f4 57 [.func (.func 39) #[] #[.pointer (some ⟨p4, 0, none⟩)], .func (.func 41) #[] #[.pointer (some ⟨p4, 0, none⟩)]], .blk p5 70 [.func (.func 27) #[] #[]], .blk f5 57 [.func (.func 39) #[] #[.pointer (some ⟨p5, 0, none⟩)], .func (.func 41) #[] #[.pointer (some ⟨p5, 0, none⟩)]], .blk f6 57 [.func (.func 28) #[] #[], .func (.func 29) #[] #[]], .mapO g [({ key := .int .u8 1, val := .agg #[.string { data := #[112, 117, 116] }, .slice (some ⟨b1, 0, none⟩) 1 1], born := 0 } : MapEntry), ({ key := .int .u8 2, val := .agg #[.string { data := #[98, 101, 103, 105, 110] }, .slice (some ⟨b2, 0, none⟩) 4 4], born := 1 } : MapEntry), ({ key := .int .u8 3, val := .agg #[.string { data := #[117, 112, 100, 97, 116, 101] }, .slice (some ⟨b3, 0, none⟩) 2 2], born := 2 } : MapEntry), ({ key := .int .u8 4, val := .agg #[.string { data := #[102, 105, 110, 105, 115, 104] }, .slice (some ⟨b4, 0, none⟩) 1 1], born := 3 } : MapEntry), ({ key := .int .u8 5, val := .agg #[.string { data := #[118, 101, 114, 105, 102, 121] }, .slice (some ⟨b5, 0, none⟩) 2 2], born := 4 } : MapEntry), ({ key := .int .u8 6, val := .agg #[.string { data := #[99, 108, 111, 110, 101] }, .slice (some ⟨b6, 0, none⟩) 1 1], born := 5 } : MapEntry), ({ key := .int .u8 7, val := .agg #[.string { data := #[104, 107, 100, 102] }, .slice (some ⟨b7, 0, none⟩) 5 5], born := 6 } : MapEntry), ({ key := .int .u8 8, val := .agg #[.string { data := #[112, 98, 107, 100, 102] }, .slice (some ⟨b8, 0, none⟩) 5 5], born := 7 } : MapEntry), ({ key := .int .u8 9, val := .agg #[.string { data := #[114, 101, 118, 101, 97, 108] }, .slice (some ⟨b9, 0, none⟩) 1 1], born := 8 } : MapEntry)] 9, .blk b1 57 [.func (.func 39) #[] #[.pointer (some ⟨p4, 0, none⟩)], .func (.func 41) #[] #[.pointer (some ⟨p4, 0, none⟩)]], .blk b2 57 [.func (.func 36) #[] #[.pointer (some ⟨p1, 0, none⟩)], .func (.func 37) #[] #[.pointer (some ⟨p1, 0, none⟩)], .func (.func 28) #[] #[], .func (.func 29) #[] #[], .func (.func 36) #[] #[.pointer (some ⟨p3, 0, none⟩)], .func (.func 37) #[] #[.pointer (some ⟨p3, 0, none⟩)], .func (.func 39) #[] #[.pointer (some ⟨p4, 0, none⟩)], .func (.func 41) #[] #[.pointer (some ⟨p4, 0, none⟩)]], .blk b3 57 [.func (.func 36) #[] #[.pointer (some ⟨p1, 0, none⟩)], .func (.func 37) #[] #[.pointer (some ⟨p1, 0, none⟩)], .func (.func 39) #[] #[.pointer (some ⟨p4, 0, none⟩)], .func (.func 41) #[] #[.pointer (some ⟨p4, 0, none⟩)]], .blk b4 57 [.func (.func 36) #[] #[.pointer (some ⟨p1, 0, none⟩)], .func (.func 37) #[] #[.pointer (some ⟨p1, 0, none⟩)]], .blk b5 57 [.func (.func 36) #[] #[.pointer (some ⟨p1, 0, none⟩)], .func (.func 37) #[] #[.pointer (some ⟨p1, 0, none⟩)], .func (.func 39) #[] #[.pointer (some ⟨p4, 0, none⟩)], .func (.func 41) #[] #[.pointer (some ⟨p4, 0, none⟩)]], .blk b6 57 [.func (.func 36) #[] #[.pointer (some ⟨p1, 0, none⟩)], .func (.func 37) #[] #[.pointer (some ⟨p1, 0, none⟩)]], .blk b7 57 [.func (.func 36) #[] #[.pointer (some ⟨p1, 0, none⟩)], .func (.func 37) #[] #[.pointer (some ⟨p1, 0, none⟩)], .func (.func 28) #[] #[], .func (.func 29) #[] #[], .func (.func 36) #[] #[.pointer (some ⟨p3, 0, none⟩)], .func (.func 37) #[] #[.pointer (some ⟨p3, 0, none⟩)], .func (.func 39) #[] #[.pointer (some ⟨p4, 0, none⟩)], .func (.func 41) #[] #[.pointer (some ⟨p4, 0, none⟩)], .func (.func 39) #[] #[.pointer (some ⟨p5, 0, none⟩)], .func (.func 41) #[] #[.pointer (some ⟨p5, 0, none⟩)]], .blk b8 57 [.func (.func 36) #[] #[.pointer (some ⟨p1, 0, none⟩)], .func (.func 37) #[] #[.pointer (some ⟨p1, 0, none⟩)], .func (.func 28) #[] #[], .func (.func 29) #[] #[], .func (.func 36) #[] #[.pointer (some ⟨p2, 0, none⟩)], .func (.func 37) #[] #[.pointer (some ⟨p2, 0, none⟩)], .func (.func 36) #[] #[.pointer (some ⟨p3, 0, none⟩)], .func (.func 37) #[] #[.pointer (some ⟨p3, 0, none⟩)], .func (.func 39) #[] #[.pointer (some ⟨p4, 0, none⟩)], .func (.func 41) #[] #[.pointer (some ⟨p4, 0, none⟩)]], .blk b9 57 [.func (.func 36) #[] #[.pointer (some ⟨p1, 0, none⟩)], .func (.func 37) #[] #[.pointer (some ⟨p1, 0, none⟩)]]]) := H
  have hf1 := H.blk 1 rfl
  go_at_K
  go_wp2_with (first | (refine wpList_load_row rfl 57 (.tmp 1) rfl f1 rfl _ _ _ _ hf1 Tryd.underlying57 rfl fld_size ?_) | fail)
  clear hf1
  have HA := H.allocAt 21 rfl x9.heap.size rfl #[.func (.func 36) #[] #[.pointer (some ⟨p1, 0, none⟩)], .func (.func 37) #[] #[.pointer (some ⟨p1, 0, none⟩)]] 57 |>.push_mk rfl
  refine upon_insert Tryd.underlying40 Tryd.underlying24 10 _ HA 11 rfl rfl ?_
  clear H
  intro x10 H
  replace H := H.upd_mk (by simp)
  clear HA
  generalize x9.heap.size = b10 at H ⊢
  replace H : St w [] x10 (lay [.blk p1 67 [.func (.func 22) #[] #[]], .blk f1 57 [.func (.func 36) #[] #[.pointer (some ⟨p1, 0, none⟩)], .func (.func 37) #[] #[.pointer (some ⟨p1, 0, none⟩)]], .blk p2 67 [.func (.func 23) #[] #[]], .blk f2 57 [.func (.func 36) #[] #[.pointer (some ⟨p2, 0, none⟩)], .func (.func 37) #[] #[.pointer (some ⟨p2, 0, none⟩)]], .blk p3 67 [.func (.func 24) #[] #[]], .blk f3 57 [.func (.func 36) #[] #[.pointer (some ⟨p3, 0, none⟩)], .func (.func 37) #[] #[.pointer (some ⟨p3, 0, none⟩)]], .blk p4 70 [.func (.func 26) #[] #[]], .blk f4 57 [.func (.func 39) #[] #[.pointer (some ⟨p4, 0, none⟩)], .func (.func 41) #[] #[.pointer (some ⟨p4, 0, none⟩)]], .blk p5 70 [.func (.func 27) #[] #[]], .blk f5 57 [.func (.func 39) #[] #[.pointer (some ⟨p5, 0, none⟩)], .func (.func 41) #[] #[.pointer (some ⟨p5, 0, none⟩)]], .blk f6 57 [.func (.func 28) #[] #[], .func (.func 29) #[] #[]], .mapO g [({ key := .int .u8 1, val := .agg #[.string { data := #[112, 117, 116] }, .slice (some ⟨b1, 0, none⟩) 1 1], born := 0 } : MapEntry), ({ key := .int .u8 2, val := .agg #[.string { data := #[98, 101, 103, 105, 110] }, .slice (some ⟨b2, 0, none⟩) 4 4], born := 1 } : MapEntry), ({ key := .int .u8 3, val := .agg #[.string { data := #[117, 112, 100, 97, 116, 101] }, .slice (some ⟨b3, 0, none⟩) 2 2], born := 2 } : MapEntry), ({ key := .int .u8 4, val := .agg #[.string { data := #[102, 105, 110, 105, 115, 104] }, .slice (some ⟨b4, 0, none⟩) 1 1], born := 3 } : MapEntry), ({ key := .int .u8 5, val := .agg #[.string { data := #[118, 101, 114, 105, 102, 121] }, .slice (some ⟨b5, 0, none⟩) 2 2], born := 4 } : MapEntry), ({ key := .int .u8 6, val := .agg #[.string { data := #[99, 108, 111, 110, 101] }, .slice (some ⟨b6, 0, none⟩) 1 1], born := 5 } : MapEntry), ({ key := .int .u8 7, val := .agg #[.string { data := #[104, 107, 100, 102] }, .slice (some ⟨b7, 0, none⟩) 5 5], born := 6 } : MapEntry), ({ key := .int .u8 8, val := .agg #[.string { data := #[112, 98, 107, 100, 102] }, .slice (some ⟨b8, 0, none⟩) 5 5], born := 7 } : MapEntry), ({ key := .int .u8 9, val := .agg #[.string { data := #[114, 101, 118, 101, 97, 108] }, .slice (some ⟨b9, 0, none⟩) 1 1], born := 8 } : MapEntry), ({ key := .int .u8 10, val := .agg #[.string { data := #[100, 114, 111, 112] }, .slice (some ⟨b10, 0, none⟩) 1 1], born := 9 } : MapEntry)] 10, .blk b1 57 [.func (.func 39) #[] #[.pointer (some ⟨p4, 0, none⟩)], .func (.func 41) #[] #[.pointer (some ⟨p4, 0, none⟩)]], .blk b2 57 [.func (.func 36) #[] #[.pointer (some ⟨p1, 0, none⟩)], .func (.func 37) #[] #[.pointer (some ⟨p1, 0, none⟩)], .func (.func 28) #[] #[], .func (.func 29) #[] #[], .func (.func 36) #[] #[.pointer (some ⟨p3, 0, none⟩)], .func (.func 37) #[] #[.pointer (some ⟨p3, 0, none⟩)], .func (.func 39) #[] #[.pointer (some ⟨p4, 0, none⟩)], .func (.func 41) #[] #[.pointer (some ⟨p4, 0, none⟩)]], .blk b3 57 [.func (.func 36) #[] #[.pointer (some ⟨p1, 0, none⟩)], .func (.func 37) #[] #[.pointer (some ⟨p1, 0, none⟩)], .func (.func 39) #[] #[.pointer (some ⟨p4, 0, none⟩)], .func (.func 41) #[] #[.pointer (some ⟨p4, 0, none⟩)]], .blk b4 57 [.func (.func 36) #[] #[.pointer (some ⟨p1, 0, none⟩)], .func (.func 37) #[] #[.pointer (some ⟨p1, 0, none⟩)]], .blk b5 57 [.func (.func 36) #[] #[.pointer (some ⟨p1, 0, none⟩)], .func (.func 37) #[] #[.pointer (some ⟨p1, 0, none⟩)], .func (.func 39) #[] #[.pointer (some ⟨p4, 0, none⟩)], .func (.func 41) #[] #[.pointer (some ⟨p4, 0, none⟩)]], .blk b6 57 [.func (.func 36) #[] #[.pointer (some ⟨p1, 0, none⟩)], .func (.func 37) #[] #[.pointer (some ⟨p1, 0, none⟩)]], .blk b7 57 [.func (.func 36) #[] #[.pointer (some ⟨p1, 0, none⟩)], .func (.func 37) #[] #[.pointer (some ⟨p1, 0, none⟩)], .func (.func 28) #[] #[], .func (.func 29) #[] #[], .func (.func 36) #[] #[.pointer (some ⟨p3, 0, none⟩)], .func (.func 37) #[] #[.pointer (some ⟨p3, 0, none⟩)], .func (.func 39) #[] #[.pointer (some ⟨p4, 0, none⟩)], .func (.func 41) #[] #[.pointer (some ⟨p4, 0, none⟩)], .func (.func 39) #[] #[.pointer (some ⟨p5, 0, none⟩)], .func (.func 41) #[] #[.pointer (some ⟨p5, 0, none⟩)]], .blk b8 57 [.func (.func 36) #[] #[.pointer (some ⟨p1, 0, none⟩)], .func (.func 37) #[] #[.pointer (some ⟨p1, 0, none⟩)], .func (.func 28) #[] #[], .func (.func 29) #[] #[], .func (.func 36) #[] #[.pointer (some ⟨p2, 0, none⟩)], .func (.func 37) #[] #[.pointer (some ⟨p2, 0, none⟩)], .func (.func 36) #[] #[.pointer (some ⟨p3, 0, none⟩)], .func (.func 37) #[] #[.pointer (some ⟨p3, 0, none⟩)], .func (.func 39) #[] #[.pointer (some ⟨p4, 0, none⟩)], .func (.func 41) #[] #[.pointer (some ⟨p4, 0, none⟩)]], .blk b9 57 [.func (.func 36) #[] #[.pointer (some ⟨p1, 0, none⟩)], .func (.func 37) #[] #[.pointer (some ⟨p1, 0, none⟩)]], .blk b10 57 [.func (.func 36) #[] #[.pointer (some ⟨p1, 0, none⟩)], .func (.func 37) #[] #[.pointer (some ⟨p1, 0, none⟩)]]]) := H
  go_at_K
  go_wp2
  go_ret
  refine ⟨g, p1, p2, p3, p4, p5, b1, b2, b3, b4, b5, b6, b7, b8, b9, b10, rfl, ?_⟩
  exact H.perm [11, 0, 2, 4, 6, 8, 12, 13, 14, 15, 16, 17, 18, 19, 20, 21] 16 rfl (by decide) (by intro i hi; match i with | 0 => rfl | 1 => rfl | 2 => rfl | 3 => rfl | 4 => rfl | 5 => rfl | 6 => rfl | 7 => rfl | 8 => rfl | 9 => rfl | 10 => rfl | 11 => rfl | 12 => rfl | 13 => rfl | 14 => rfl | 15 => rfl | i + 16 => omega)

end Go.Proofs.YtenmlkgamlafpaaDoor
