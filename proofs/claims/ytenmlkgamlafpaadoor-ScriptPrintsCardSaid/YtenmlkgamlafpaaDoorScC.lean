/- The functions that print a field of an operation. -/
import Derived.Test.YtenmlkgamlafpaaDoorScH
import Derived.Test.YtenmlkgamlafpaaDoorScB

namespace Go.Proofs.YtenmlkgamlafpaaDoor
open Go.RowKit
set_option linter.unusedVariables false
set_option maxRecDepth 100000

theorem old_cell {w w2 : World} {E : Env} {g q : Nat} {u : Value} (H : St w [] w2 E) (h : w.cell? ⟨g, q, none⟩ = some u) : w2.cell? ⟨g, q, none⟩ = some u :=
  (H.below.cell (p := ⟨g, q, none⟩) (World.block_lt_of_cell? w _ h)).trans h

set_option maxHeartbeats 1000000 in
theorem num_h (k : UInt8) (h : Int) (a : UInt8) (c o : Int) (A B : Option Addr) (n cA m cB : Nat) (p : Nat) (w : World) (hp : w.cell? ⟨p, 0, none⟩ = some (.func (.func 22) #[] #[])) (h0 : -9223372036854775808 ≤ h) (h1 : h ≤ 9223372036854775807) (ht : Tab w) :
    Calls Tryd.prog 36 #[opV k h a c o (.slice A n cA) (.slice B m cB), .pointer (some ⟨p, 0, none⟩)] w fun e w' => e = .returned (tv (Lib.itoa h)) ∧ Below w.heap.size w w' := by
  have HA := (St.start_lay w []).allocAt 0 rfl w.heap.size rfl #[.int .u8 (k.toNat : Int), .int .i64 h, .int .u8 (a.toNat : Int), .int .i64 c, .int .i64 o, .slice A n cA, .slice B m cB] 28 |>.push_mk rfl
  go_enter Tryd.func36, Tryd.ntmps36
  go_upto_region 1 with (fail)
  refine absorb_wp HA ?_
  clear HA
  intro w2 H
  generalize w.heap.size = g at H ⊢
  replace H : St w [] w2 (lay [.blk g 28 [.int .u8 (k.toNat : Int), .int .i64 h, .int .u8 (a.toNat : Int), .int .i64 c, .int .i64 o, .slice A n cA, .slice B m cB]]) := H
  have cp := old_cell H hp
  have cc := H.cell 0 rfl (o := 1) (u := .int .i64 h) rfl
  have tt := ht.st H
  go_wp2_with (first | (go_at_call 13; refine (itoa_s h _ h0 h1 tt).mono ?_; rintro e w3 ⟨rfl, hb⟩; refine Hid.out ?_) | go_in)
  refine Lib.hid ?_
  replace H := H.call hb
  clear hb cp cc
  go_wp2
  go_ret
  exact ⟨rfl, H.below⟩

set_option maxHeartbeats 1000000 in
theorem num_c (k : UInt8) (h : Int) (a : UInt8) (c o : Int) (A B : Option Addr) (n cA m cB : Nat) (p : Nat) (w : World) (hp : w.cell? ⟨p, 0, none⟩ = some (.func (.func 23) #[] #[])) (h0 : -9223372036854775808 ≤ c) (h1 : c ≤ 9223372036854775807) (ht : Tab w) :
    Calls Tryd.prog 36 #[opV k h a c o (.slice A n cA) (.slice B m cB), .pointer (some ⟨p, 0, none⟩)] w fun e w' => e = .returned (tv (Lib.itoa c)) ∧ Below w.heap.size w w' := by
  have HA := (St.start_lay w []).allocAt 0 rfl w.heap.size rfl #[.int .u8 (k.toNat : Int), .int .i64 h, .int .u8 (a.toNat : Int), .int .i64 c, .int .i64 o, .slice A n cA, .slice B m cB] 28 |>.push_mk rfl
  go_enter Tryd.func36, Tryd.ntmps36
  go_upto_region 1 with (fail)
  refine absorb_wp HA ?_
  clear HA
  intro w2 H
  generalize w.heap.size = g at H ⊢
  replace H : St w [] w2 (lay [.blk g 28 [.int .u8 (k.toNat : Int), .int .i64 h, .int .u8 (a.toNat : Int), .int .i64 c, .int .i64 o, .slice A n cA, .slice B m cB]]) := H
  have cp := old_cell H hp
  have cc := H.cell 0 rfl (o := 3) (u := .int .i64 c) rfl
  have tt := ht.st H
  go_wp2_with (first | (go_at_call 13; refine (itoa_s c _ h0 h1 tt).mono ?_; rintro e w3 ⟨rfl, hb⟩; refine Hid.out ?_) | go_in)
  refine Lib.hid ?_
  replace H := H.call hb
  clear hb cp cc
  go_wp2
  go_ret
  exact ⟨rfl, H.below⟩

set_option maxHeartbeats 1000000 in
theorem num_o (k : UInt8) (h : Int) (a : UInt8) (c o : Int) (A B : Option Addr) (n cA m cB : Nat) (p : Nat) (w : World) (hp : w.cell? ⟨p, 0, none⟩ = some (.func (.func 24) #[] #[])) (h0 : -9223372036854775808 ≤ o) (h1 : o ≤ 9223372036854775807) (ht : Tab w) :
    Calls Tryd.prog 36 #[opV k h a c o (.slice A n cA) (.slice B m cB), .pointer (some ⟨p, 0, none⟩)] w fun e w' => e = .returned (tv (Lib.itoa o)) ∧ Below w.heap.size w w' := by
  have HA := (St.start_lay w []).allocAt 0 rfl w.heap.size rfl #[.int .u8 (k.toNat : Int), .int .i64 h, .int .u8 (a.toNat : Int), .int .i64 c, .int .i64 o, .slice A n cA, .slice B m cB] 28 |>.push_mk rfl
  go_enter Tryd.func36, Tryd.ntmps36
  go_upto_region 1 with (fail)
  refine absorb_wp HA ?_
  clear HA
  intro w2 H
  generalize w.heap.size = g at H ⊢
  replace H : St w [] w2 (lay [.blk g 28 [.int .u8 (k.toNat : Int), .int .i64 h, .int .u8 (a.toNat : Int), .int .i64 c, .int .i64 o, .slice A n cA, .slice B m cB]]) := H
  have cp := old_cell H hp
  have cc := H.cell 0 rfl (o := 4) (u := .int .i64 o) rfl
  have tt := ht.st H
  go_wp2_with (first | (go_at_call 13; refine (itoa_s o _ h0 h1 tt).mono ?_; rintro e w3 ⟨rfl, hb⟩; refine Hid.out ?_) | go_in)
  refine Lib.hid ?_
  replace H := H.call hb
  clear hb cp cc
  go_wp2
  go_ret
  exact ⟨rfl, H.below⟩

set_option maxHeartbeats 1000000 in
theorem lst_d (k : UInt8) (h : Int) (a : UInt8) (c o : Int) (A B : Option Addr) (n cA m cB : Nat) (xs : List UInt8) (p : Nat) (w : World) (hp : w.cell? ⟨p, 0, none⟩ = some (.func (.func 26) #[] #[])) (hR : Rd w 1 A n (xs.map vb)) (hn : n ≤ 1048576) :
    Calls Tryd.prog 39 #[opV k h a c o (.slice A n cA) (.slice B m cB), .pointer (some ⟨p, 0, none⟩)] w fun e w' => e = .returned (tv (hexB xs)) ∧ Below w.heap.size w w' := by
  have HA := (St.start_lay w []).allocAt 0 rfl w.heap.size rfl #[.int .u8 (k.toNat : Int), .int .i64 h, .int .u8 (a.toNat : Int), .int .i64 c, .int .i64 o, .slice A n cA, .slice B m cB] 28 |>.push_mk rfl
  go_enter Tryd.func39, Tryd.ntmps39
  go_upto_region 1 with (fail)
  refine absorb_wp HA ?_
  clear HA
  intro w2 H
  generalize w.heap.size = g at H ⊢
  replace H : St w [] w2 (lay [.blk g 28 [.int .u8 (k.toNat : Int), .int .i64 h, .int .u8 (a.toNat : Int), .int .i64 c, .int .i64 o, .slice A n cA, .slice B m cB]]) := H
  have cp := old_cell H hp
  have cc := H.cell 0 rfl (o := 5) (u := .slice A n cA) rfl
  have tt := H.arg0 hR
  go_wp2_with (first | (go_at_call 40; refine (hex_s A n cA xs _ tt hn).mono ?_; rintro e w3 ⟨rfl, hb⟩; refine Hid.out ?_) | go_in)
  refine Lib.hid ?_
  replace H := H.call hb
  clear hb cp cc
  go_wp2
  go_ret
  exact ⟨rfl, H.below⟩

set_option maxHeartbeats 1000000 in
theorem lst_m (k : UInt8) (h : Int) (a : UInt8) (c o : Int) (A B : Option Addr) (n cA m cB : Nat) (ys : List UInt8) (p : Nat) (w : World) (hp : w.cell? ⟨p, 0, none⟩ = some (.func (.func 27) #[] #[])) (hR : Rd w 1 B m (ys.map vb)) (hn : m ≤ 1048576) :
    Calls Tryd.prog 39 #[opV k h a c o (.slice A n cA) (.slice B m cB), .pointer (some ⟨p, 0, none⟩)] w fun e w' => e = .returned (tv (hexB ys)) ∧ Below w.heap.size w w' := by
  have HA := (St.start_lay w []).allocAt 0 rfl w.heap.size rfl #[.int .u8 (k.toNat : Int), .int .i64 h, .int .u8 (a.toNat : Int), .int .i64 c, .int .i64 o, .slice A n cA, .slice B m cB] 28 |>.push_mk rfl
  go_enter Tryd.func39, Tryd.ntmps39
  go_upto_region 1 with (fail)
  refine absorb_wp HA ?_
  clear HA
  intro w2 H
  generalize w.heap.size = g at H ⊢
  replace H : St w [] w2 (lay [.blk g 28 [.int .u8 (k.toNat : Int), .int .i64 h, .int .u8 (a.toNat : Int), .int .i64 c, .int .i64 o, .slice A n cA, .slice B m cB]]) := H
  have cp := old_cell H hp
  have cc := H.cell 0 rfl (o := 6) (u := .slice B m cB) rfl
  have tt := H.arg0 hR
  go_wp2_with (first | (go_at_call 40; refine (hex_s B m cB ys _ tt hn).mono ?_; rintro e w3 ⟨rfl, hb⟩; refine Hid.out ?_) | go_in)
  refine Lib.hid ?_
  replace H := H.call hb
  clear hb cp cc
  go_wp2
  go_ret
  exact ⟨rfl, H.below⟩

set_option maxHeartbeats 1000000 in
theorem alg_s (k : UInt8) (h : Int) (a : UInt8) (c o : Int) (A B : Option Addr) (n cA m cB : Nat) (w : World) (ht : Tab w) :
    Calls Tryd.prog 28 #[opV k h a c o (.slice A n cA) (.slice B m cB)] w fun e w' => e = .returned (tv (Lib.itoa (a.toNat : Int))) ∧ Below w.heap.size w w' := by
  have hb1 : (a.toNat : Int) ≤ 255 := by have := a.toNat_lt; omega
  have wa : IntKind.i64.wrap (a.toNat : Int) = (a.toNat : Int) := IntWalk.i64_in _ (by omega)
  have HA := (St.start_lay w []).allocAt 0 rfl w.heap.size rfl #[.int .u8 (k.toNat : Int), .int .i64 h, .int .u8 (a.toNat : Int), .int .i64 c, .int .i64 o, .slice A n cA, .slice B m cB] 28 |>.push_mk rfl
  go_enter Tryd.func28, Tryd.ntmps28
  go_upto_region 1 with (fail)
  refine absorb_wp HA ?_
  clear HA
  intro w2 H
  generalize w.heap.size = g at H ⊢
  replace H : St w [] w2 (lay [.blk g 28 [.int .u8 (k.toNat : Int), .int .i64 h, .int .u8 (a.toNat : Int), .int .i64 c, .int .i64 o, .slice A n cA, .slice B m cB]]) := H
  have cc := H.cell 0 rfl (o := 2) (u := .int .u8 (a.toNat : Int)) rfl
  have tt := ht.st H
  go_wp2_with fail
  refine (itoa_s (a.toNat : Int) _ (by omega) (by omega) tt).mono ?_
  rintro e w3 ⟨rfl, hb⟩
  replace H := H.call hb
  clear hb cc
  go_wp2
  go_ret
  exact ⟨rfl, H.below⟩

end Go.Proofs.YtenmlkgamlafpaaDoor
