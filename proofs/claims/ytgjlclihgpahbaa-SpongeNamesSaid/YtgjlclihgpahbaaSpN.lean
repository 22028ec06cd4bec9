/- The program's sponge: New, Clone, Wipe, Form, Rate, Shut. -/
import Derived.Test.YtgjlclihgpahbaaSpR
import Derived.Test.YtgjlclihgpahbaaKitO

namespace Go.Proofs.Ytgjlclihgpahbaa
open Go.RowKit
set_option linter.unusedVariables false
set_option maxRecDepth 100000

attribute [local irreducible] permB kBytes kPerm kFrom

theorem zb_map : zb 200 = (List.replicate 200 (0 : UInt8)).map vb := by unfold zb; rw [List.map_replicate]; rfl

theorem zb200 : (List.replicate 200 (0 : UInt8)).length = 200 := List.length_replicate ..

theorem zbmap_len : ((List.replicate 200 (0 : UInt8)).map vb).length = 200 := by rw [List.length_map, zb200]

theorem step_append_grows {P : Program} (w : World) {ops : Array Oper} {o : Oper} {a : Act} {K : Act → World → Prop} {Q : Exit → Act → World → Prop} {X : Prop} (hg : o.guard = none) (s x : Operand) (t : TypeId) (hop : o.op = Op.call { callee := Callee.builtin Builtin.append, args := #[s, x], argTypes := #[t, t] })
    (e : TypeId) (i : TypeInfo) (z : Value) (size bytes : Nat) (h1 : P.underlying t = some (.slice e)) (h2 : P.info? e = some i) (h3 : i.zero = some z) (h4 : i.size = size) (h5 : i.bytes = bytes) (h6 : z.cells.size = size) (h7 : 0 < size)
    (b : Addr) (n cap : Nat) (olds : List Value) (hs : a.eval s = .slice (some b) n cap) (hlo : olds.length = n * size) (holds : ∀ j u, olds[j]? = some u → w.cell? (b.add j) = some u)
    (ad : Addr) (m c : Nat) (news : List Value) (hx : a.eval x = .slice (some ad) m c) (hn : news.length = m * size) (hc : ∀ j u, news[j]? = some u → w.cell? (ad.add j) = some u)
    (hfull : cap < n + m) (b1 : n + m ≤ maxLen) (b2 : (n + m) * bytes ≤ 140737488355328)
    (hK : ∀ v' w', w'.ownsRow w.heap.size e size v' (n + m) (olds ++ news) → w.grownBy w' none → K (a.put o.dst v') w') : if Region.wanted o (yielded ops a.tmps) = true then Oper.wp P o a w K Q else X := by
  rw [if_pos (by simp [Region.wanted, hg])]
  obtain ⟨v', w', hrun, r1, r2⟩ := run_append_arg_grows (P := P) w t o.type e i z size bytes h1 h2 h3 h4 h5 h6 h7 b n cap olds hlo holds ad m c news hn hc hfull b1 b2
  unfold Oper.wp
  simp [execOp, hop, resolve, invoke, builtin, hs, hx, hrun, Result.andThen]
  exact hK v' w' r1 r2

/-- a sponge's form -/
def Sp.form (x : Sp) : List UInt8 := x.b ++ [0, UInt8.ofNat x.p, if x.s = true then 1 else 0]

theorem Sp.form_length {x : Sp} (h : x.b.length = 200) : x.form.length = 203 := by unfold Sp.form; rw [List.length_append, h]; rfl

def spZero : List Value := (List.replicate 200 (0 : UInt8)).map vb ++ [.int .i64 0, .int .u8 0, .int .i64 0, .bool false]

def spZeroR : List Value := (List.replicate 200 (0 : UInt8)).map vb ++ [.int .i64 0, .int .u8 0, .int .i64 0, .bool false, .bool true]

theorem vs_one (x : Sp) : ∀ u ∈ x.vs, u.oneCell' = true := by
  intro u hu
  unfold Sp.vs at hu
  rcases List.mem_append.1 hu with h | h
  · exact vb_one _ u h
  · simp at h; rcases h with rfl | rfl | rfl | rfl <;> rfl

theorem vsR_one (x : Sp) : ∀ u ∈ x.vsR, u.oneCell' = true := by
  intro u hu
  unfold Sp.vsR at hu
  rcases List.mem_append.1 hu with h | h
  · exact vb_one _ u h
  · simp at h; rcases h with rfl | rfl | rfl | rfl | rfl <;> rfl

theorem below_front {xs : List Value} {n : Nat} (j : Nat) (v : Value) (h : (xs.take n)[j]? = some v) : xs[j]? = some v := by
  rw [List.getElem?_take] at h
  split at h
  · exact h
  · cases h

theorem zero_sp (w : World) : (zeroValue 71).run Try.prog w = .ok (.agg (zb 200 ++ [Value.int .i64 0, Value.int .u8 0, Value.int .i64 0, Value.bool false]).toArray) w := by kernel_rfl

theorem spZero_eq : (zb 200 ++ [Value.int .i64 0, Value.int .u8 0, Value.int .i64 0, Value.bool false]) = spZero := by rw [zb_map]; rfl

theorem spZero_one : ∀ u ∈ (zb 200 ++ [Value.int .i64 0, Value.int .u8 0, Value.int .i64 0, Value.bool false]), u.oneCell' = true := by
  rw [spZero_eq]
  intro u hu
  unfold spZero at hu
  rcases List.mem_append.1 hu with h | h
  · exact vb_one _ u h
  · simp at h; rcases h with rfl | rfl | rfl | rfl <;> rfl

theorem sp_size : (Try.prog.info? 71).map (·.size) = some 204 := by kernel_rfl

section
variable {w0 w : World} {F0 : List Nat} {E : Env}

theorem spNew_s (r : Int) (f : UInt8) (H : St w0 F0 w E) (k : Nat) (hk : E k = none) (h1 : 8 ≤ r) (h2 : r ≤ 192) (h3 : r % 8 = 0) :
    Calls Try.prog 7 #[.int .i64 r, .int .u8 (f.toNat : Int)] w fun e w' => ∃ g, e = .returned (.tuple #[lptr g, .int .i64 0]) ∧ St w0 F0 w' (upd E k (.blk g 71 (Sp.new r.toNat f).vs)) := by
  have hz0 := zero_sp
  have d1 : decide (r < 8) = false := by simp; omega
  have d2 : decide (r > 192) = false := by simp; omega
  have d3 : (r % 8 != 0) = false := by simp; omega
  have hr0 : 0 ≤ r := by omega
  have HR : Hid (((r.toNat : Nat) : Int) = r) := by unfold Hid; omega
  go_enter Try.func7, Try.ntmps7
  go_wp2
  go_ret2
  have e : ((zb 200 ++ [Value.int .i64 0, Value.int .u8 0, Value.int .i64 0, Value.bool false]).set 200 (Value.int .i64 r)).set 201 (Value.int .u8 (f.toNat : Int)) = (Sp.new r.toNat f).vs := by
    rw [zb_map, sp_put _ _ 0 _ zb200 rfl, sp_put _ _ 1 _ zb200 rfl]
    unfold Sp.new Sp.vs
    simp only [HR.out]
    rfl
  refine ⟨_, rfl, ?_⟩
  have H2 := H.alloc k hk (((zb 200 ++ [Value.int .i64 0, Value.int .u8 0, Value.int .i64 0, Value.bool false]).set 200 (Value.int .i64 r)).set 201 (Value.int .u8 (f.toNat : Int))).toArray 71
  rw [List.toList_toArray, e] at H2
  rw [← e]
  rw [← e] at H2
  exact H2

theorem spNew_no (r : Int) (f : UInt8) (h : r < 8 ∨ 192 < r ∨ r % 8 ≠ 0) :
    Calls Try.prog 7 #[.int .i64 r, .int .u8 (f.toNat : Int)] w fun e w' => e = .returned (.tuple #[.pointer none, .int .i64 2]) ∧ w = w' := by
  by_cases h1 : r < 8
  · have d1 : decide (r < 8) = true := by simp; omega
    clear h h1
    go_enter Try.func7, Try.ntmps7
    go_wp2
    go_ret2
    exact ⟨rfl, rfl⟩
  · by_cases h2 : 192 < r
    · have d1 : decide (r < 8) = false := by simp; omega
      have d2 : decide (r > 192) = true := by simp; omega
      clear h h1 h2
      go_enter Try.func7, Try.ntmps7
      go_wp2
      go_ret2
      exact ⟨rfl, rfl⟩
    · have d1 : decide (r < 8) = false := by simp; omega
      have d2 : decide (r > 192) = false := by simp; omega
      have d3 : (r % 8 != 0) = true := by simp; omega
      have hr0 : 0 ≤ r := by omega
      clear h h1 h2
      go_enter Try.func7, Try.ntmps7
      go_wp2
      go_ret2
      exact ⟨rfl, rfl⟩

set_option maxHeartbeats 1000000 in
theorem spClone_s (g : Nat) (x : Sp) (H : St w0 F0 w E) (j k : Nat) (hj : E j = some (.blk g 71 x.vs)) (hk : E k = none) (hx : x.Ok) :
    Calls Try.prog 43 #[lptr g] w fun e w' => ∃ g', e = .returned (.tuple #[lptr g', .int .i64 0]) ∧ St w0 F0 w' (upd E k (.blk g' 71 x.vs)) := by
  obtain ⟨k1, k2, k3, k4⟩ := Sp.cells hx.hb
  have h8 := hx.r8
  have c0 := H.cell j hj k1
  have HL := Lib.hid (Sp.vs_length hx.hb)
  clear k1 k2 k3 k4
  have hz0 := zero_sp
  have HH := Lib.hid H
  have HJ := Lib.hid hj
  have HK := Lib.hid hk
  clear hj hk hx
  go_enter Try.func43, Try.ntmps43
  go_wp2_with fail
  refine (spNone_no g x.r w c0 (by omega)).mono ?_
  rintro e w1 ⟨rfl, rfl⟩
  unfold lptr
  go_wp2_with (first | (refine wpList_load_row rfl 71 (.tmp 8) rfl g rfl _ _ _ _ (HH.out.blk j HJ.out) Try.underlying71 rfl (by rw [sp_size]; simp [HL.out]) ?_) | (refine wpList_store_mid rfl 71 (.tmp 4) (.tmp 9) rfl w.heap.size 0 x.vs.toArray rfl rfl (there_new _ _ _ _ (by simp [HL.out, zb_length])) (by rw [sp_size]; simp [HL.out]) (all_oneCell_toArray (vs_one x)) ?_; refine absorb_list (HH.out.alloc k HK.out (zb 200 ++ [Value.int .i64 0, Value.int .u8 0, Value.int .i64 0, Value.bool false]).toArray 71 |>.storeAll k upd_same (vs := x.vs) (by simp [HL.out, zb_length])) ?_; rw [upd_upd]; intro w4 H4))
  go_ret2
  exact ⟨_, rfl, H4⟩

set_option maxHeartbeats 1000000 in
theorem spWipe_s (l : Value) (r : Option (List RunT)) (m : Nat) (b : Int) (g : Nat) (x : Sp) (H : St w0 F0 w E) (i j : Nat) (hij : i ≠ j) (hi : E i = some (led l r)) (hj : E j = some (.blk g 71 x.vs)) (hg : LW r m b) (hm : m ≤ 999999999999) (hb : b ≤ 4000000000000000000) (hx : x.Ok) :
    Calls Try.prog 30 #[lptr g, l] w fun e w' => e = .returned (.int .i64 0) ∧ St w0 F0 w' (upd (upd E i (led l (noteN r 8 203 1))) j (.blk g 71 spZero)) := by
  obtain ⟨k1, k2, k3, k4⟩ := Sp.cells hx.hb
  have h8 := hx.r8
  have c0 := H.cell j hj k1
  have HL := Lib.hid (Sp.vs_length hx.hb)
  clear k1 k2 k3 k4
  have hz0 := zero_sp
  have HI := Lib.hid hi
  have HJ := Lib.hid hj
  have HG := Lib.hid hg
  have HIJ := Lib.hid hij
  clear hi hj hg hij hx
  go_enter Try.func30, Try.ntmps30
  go_wp2_with fail
  refine (spNone_no g x.r w c0 (by omega)).mono ?_
  rintro e w1 ⟨rfl, rfl⟩
  unfold lptr
  go_wp2_with fail
  refine (ledger_note_w m b 8 203 H i HI.out HG.out (by omega) (by omega)).mono ?_
  rintro e w3 ⟨rfl, H3⟩
  have HJ2 : Hid (upd E i (led l (noteN r 8 203 1)) j = some (.blk g 71 x.vs)) := by unfold Hid; rw [show upd E i (led l (noteN r 8 203 1)) j = E j from if_neg (Ne.symm HIJ.out)]; exact HJ.out
  go_wp2_with (refine wpList_store_mid rfl 71 (.tmp 12) (.tmp 11) rfl g 0 ((zb 200 ++ [Value.int .i64 0, Value.int .u8 0, Value.int .i64 0, Value.bool false])).toArray rfl rfl (by have h := H3.there j HJ2.out; rw [HL.out] at h; simpa [zb_length] using h) (by rw [sp_size]; simp [zb_length]) (all_oneCell_toArray spZero_one) ?_; refine absorb_list (H3.storeAll j HJ2.out (vs := (zb 200 ++ [Value.int .i64 0, Value.int .u8 0, Value.int .i64 0, Value.bool false])) (by simp [HL.out, zb_length])) ?_; rw [spZero_eq]; intro w4 H4)
  go_ret
  exact ⟨rfl, H4⟩

set_option maxHeartbeats 1000000 in
theorem spRate_s (g : Nat) (x : Sp) (H : St w0 F0 w E) (j : Nat) (hj : E j = some (.blk g 71 x.vs)) (hx : x.Ok) :
    Calls Try.prog 15 #[lptr g] w fun e w' => e = .returned (.int .i64 x.r) ∧ w = w' := by
  obtain ⟨k1, k2, k3, k4⟩ := Sp.cells hx.hb
  have h8 := hx.r8
  have c0 := H.cell j hj k1
  clear k1 k2 k3 k4 hx hj H
  go_enter Try.func15, Try.ntmps15
  unfold lptr
  go_wp2
  go_ret
  exact ⟨rfl, rfl⟩

theorem spShut_s (g : Nat) (x : Sp) (H : St w0 F0 w E) (j : Nat) (hj : E j = some (.blk g 71 x.vs)) (hx : x.Ok) :
    Calls Try.prog 12 #[lptr g] w fun e w' => e = .returned (.bool x.s) ∧ w = w' := by
  obtain ⟨k1, k2, k3, k4⟩ := Sp.cells hx.hb
  have h8 := hx.r8
  have c0 := H.cell j hj k1
  have c3 := H.cell j hj k4
  clear k1 k2 k3 k4 hx hj H
  go_enter Try.func12, Try.ntmps12
  unfold lptr
  go_wp2
  go_ret
  exact ⟨rfl, rfl⟩

end

end Go.Proofs.Ytgjlclihgpahbaa
