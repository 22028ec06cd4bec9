/- SHA-512: a state, its cells; what it has taken, walked. -/
import Derived.Test.YthieegmmbjjcbaaSh5C
import Derived.Test.YthieegmmbjjcbaaCut
namespace Go.Proofs.Ythieegmmbjjcbaa
open Go.RowKit
set_option linter.unusedVariables false
set_option maxRecDepth 100000

/-- a state's cells -/
def s5Vs (h : List UInt64) (n : Nat) (b : List UInt8) : List Value := .bool true :: (h.map u64v ++ (.int .u64 n :: b.map vb))
def h5 (m : List UInt8) : List UInt64 := hAll 128 comp5 hBeg5 m
def w5' (m : List UInt8) : List UInt8 := waitOf 128 m
def s5S (m : List UInt8) : List Value := s5Vs (h5 m) m.length (w5' m)
def s5Z : List Value := .bool false :: (List.replicate 8 (.int .u64 0) ++ (.int .u64 0 :: List.replicate 128 (.int .u8 0)))

section
variable {h : List UInt64} {n : Nat} {b : List UInt8}
theorem s5Vs_length (hh : h.length = 8) (hb : b.length = 128) : (s5Vs h n b).length = 138 := by
  unfold s5Vs; rw [List.length_cons, List.length_append, List.length_map, hh, List.length_cons, List.length_map, hb]
theorem s5Vs_made : (s5Vs h n b)[0]? = some (.bool true) := rfl
theorem s5Vs_h {k : Nat} (hh : h.length = 8) (hk : k < 8) : (s5Vs h n b)[1 + k]? = some (.int .u64 ((at64 h k).toNat : Int)) := by
  unfold s5Vs; rw [show 1 + k = k + 1 by omega, List.getElem?_cons_succ, List.getElem?_append_left (by rw [List.length_map, hh]; exact hk)]; exact u64_get (by omega)
theorem s5Vs_n (hh : h.length = 8) : (s5Vs h n b)[9]? = some (.int .u64 n) := by
  unfold s5Vs; rw [List.getElem?_cons_succ, List.getElem?_append_right (by rw [List.length_map, hh]; omega), List.length_map, hh]; rfl
theorem s5Vs_b {k : Nat} (hh : h.length = 8) (hb : b.length = 128) (hk : k < 128) : (s5Vs h n b)[10 + k]? = some (vb (b.getD k 0)) := by
  unfold s5Vs
  rw [show 10 + k = (9 + k) + 1 by omega, List.getElem?_cons_succ, List.getElem?_append_right (by rw [List.length_map, hh]; omega), List.length_map, hh, show 9 + k - 8 = k + 1 by omega, List.getElem?_cons_succ, List.getElem?_map, List.getElem?_eq_getElem (by omega)]
  simp [List.getD_eq_getElem?_getD, List.getElem?_eq_getElem (show k < b.length by omega)]
theorem s5Vs_setn (hh : h.length = 8) (m : Nat) : (s5Vs h n b).set 9 (.int .u64 m) = s5Vs h m b := by
  unfold s5Vs; rw [List.set_cons_succ, List.set_append_right _ _ (by rw [List.length_map, hh]; omega), List.length_map, hh]; rfl
theorem s5Vs_setb (hh : h.length = 8) (hb : b.length = 128) (c : List UInt8) (o : Nat) (ho : o + c.length ≤ 128) : (s5Vs h n b).take (10 + o) ++ c.map vb ++ (s5Vs h n b).drop (10 + o + (c.map vb).length) = s5Vs h n (putAt b o c) := by
  unfold s5Vs putAt
  have e1 : (Value.bool true :: (h.map u64v ++ (Value.int .u64 n :: b.map vb))).take (10 + o) = Value.bool true :: (h.map u64v ++ (Value.int .u64 n :: (b.take o).map vb)) := by
    rw [show 10 + o = (9 + o) + 1 by omega, List.take_succ_cons, List.take_append, List.take_of_length_le (by rw [List.length_map, hh]; omega), List.length_map, hh, show 9 + o - 8 = o + 1 by omega, List.take_succ_cons, List.map_take]
  have e2 : (Value.bool true :: (h.map u64v ++ (Value.int .u64 n :: b.map vb))).drop (10 + o + (c.map vb).length) = (b.drop (o + c.length)).map vb := by
    rw [List.length_map, show 10 + o + c.length = (9 + o + c.length) + 1 by omega, List.drop_succ_cons, List.drop_append, List.drop_eq_nil_of_le (by rw [List.length_map, hh]; omega), List.length_map, hh, show 9 + o + c.length - 8 = (o + c.length) + 1 by omega, List.drop_succ_cons, List.map_drop, List.nil_append]
  rw [e1, e2]
  simp
theorem s5Vs_seth (hh : h.length = 8) (h' : List UInt64) (hh' : h'.length = 8) : (s5Vs h n b).take 1 ++ h'.map u64v ++ (s5Vs h n b).drop (1 + (h'.map u64v).length) = s5Vs h' n b := by
  unfold s5Vs
  rw [List.length_map, hh', show 1 + 8 = 8 + 1 from rfl, List.drop_succ_cons, List.drop_left' (by rw [List.length_map, hh]), List.take_succ_cons, List.take_zero]
  simp
theorem s5Vs_one : ∀ u ∈ s5Vs h n b, u.oneCell' = true := by
  intro u hu
  unfold s5Vs at hu
  rcases List.mem_cons.1 hu with rfl | hu
  · rfl
  · rcases List.mem_append.1 hu with hu | hu
    · exact u64_one _ u hu
    · rcases List.mem_cons.1 hu with rfl | hu
      · rfl
      · exact vb_one _ u hu
theorem s5Vs_front (hh : h.length = 8) {k : Nat} {v : Value} (hv : (h.map u64v)[k]? = some v) : (s5Vs h n b)[1 + k]? = some v := by
  unfold s5Vs
  have hk := (List.getElem?_eq_some_iff.1 hv).1
  rw [show 1 + k = k + 1 by omega, List.getElem?_cons_succ, List.getElem?_append_left hk]; exact hv
theorem s5Vs_back (hh : h.length = 8) {k : Nat} {v : Value} (hv : (b.map vb)[k]? = some v) : (s5Vs h n b)[10 + k]? = some v := by
  unfold s5Vs
  rw [show 10 + k = (9 + k) + 1 by omega, List.getElem?_cons_succ, List.getElem?_append_right (by rw [List.length_map, hh]; omega), List.length_map, hh, show 9 + k - 8 = k + 1 by omega, List.getElem?_cons_succ]; exact hv
end

theorem h5_length (m : List UInt8) : (h5 m).length = 8 := by
  unfold h5
  cases hm : m.length / 128 with
  | zero => unfold hAll; rw [hm]; rfl
  | succ k => unfold hAll; rw [hm]; exact comp5_length _ _
theorem w5_length (m : List UInt8) : (w5' m).length = 128 := wait_length (by omega) m
theorem h5_stay {m x : List UInt8} (h : m.length % 128 + x.length < 128) : h5 (m ++ x) = h5 m := hAll_stay h
theorem w5_stay {m x : List UInt8} (h : m.length % 128 + x.length < 128) : putAt (w5' m) (m.length % 128) x = w5' (m ++ x) := wait_stay h
theorem h5_next {m x : List UInt8} (h : m.length % 128 + x.length = 128) : h5 (m ++ x) = comp5 (h5 m) (putAt (w5' m) (m.length % 128) x) := by
  unfold h5 w5'
  rw [hAll_next (by omega) h, wait_full (by omega) h]
theorem w5_next {m x : List UInt8} (h : m.length % 128 + x.length = 128) : w5' (m ++ x) = List.replicate 128 0 := wait_next (by omega) h
theorem put_length {b x : List UInt8} {k : Nat} (h : k + x.length ≤ b.length) : (putAt b k x).length = b.length := by
  unfold putAt
  rw [List.length_append, List.length_append, List.length_take, List.length_drop]
  omega
theorem s5S_length (m : List UInt8) : (s5S m).length = 138 := s5Vs_length (h5_length m) (w5_length m)
theorem s5S_one (m : List UInt8) : ∀ u ∈ s5S m, u.oneCell' = true := s5Vs_one
theorem s5Z_one : ∀ u ∈ s5Z, u.oneCell' = true := by
  intro u hu
  unfold s5Z at hu
  rcases List.mem_cons.1 hu with rfl | hu
  · rfl
  · rcases List.mem_append.1 hu with hu | hu
    · rw [(List.mem_replicate.1 hu).2]; rfl
    · rcases List.mem_cons.1 hu with rfl | hu
      · rfl
      · rw [(List.mem_replicate.1 hu).2]; rfl
theorem s5S_nil : s5S [] = .bool true :: (hBegV ++ (.int .u64 0 :: List.replicate 128 (.int .u8 0))) := by
  unfold s5S h5 w5' s5Vs
  rw [hAll_nil, hBegV_eq, wait_nil, List.map_replicate]; rfl
theorem u8_size' : (Try.prog.info? 5).map (·.size) = some 1 := by kernel_rfl
theorem s5_size : (Try.prog.info? 73).map (·.size) = some 138 := by kernel_rfl
theorem zero_s5 (w : World) : (zeroValue 73).run Try.prog w = .ok (.agg s5Z.toArray) w := by kernel_rfl
theorem take_more {α : Type} (p : List α) (t q : Nat) : p.take (t + q) = p.take t ++ (p.drop t).take q := List.take_add
theorem below_take {α : Type} {l : List α} {n j : Nat} {v : α} (h : (l.take n)[j]? = some v) : l[j]? = some v := by
  rw [List.getElem?_take] at h
  split at h
  · exact h
  · cases h

/-- a whole row stored, one step of a region -/
theorem step_store_mid {ops : Array Oper} {op : Oper} {a : Act} {w : World} {K : Act → World → Prop} {Q : Exit → Act → World → Prop} {X : Prop} (hgd : op.guard = none) (ty : TypeId) (x y : Operand) (ho : op.op = .store ty x y)
    (b o : Nat) (cells : Array Value) (hx : a.eval x = .pointer (some ⟨b, o, none⟩)) (hy : a.eval y = .agg cells)
    (ht : w.there b o cells.size) (hi : (Try.prog.info? ty).map (·.size) = some cells.size) (h1 : cells.all (·.oneCell') = true)
    (h : K (a.put op.dst undef) (w.setCells b o cells.toList)) : if Region.wanted op (yielded ops a.tmps) = true then Oper.wp Try.prog op a w K Q else X := by
  rw [if_pos (by simp [Region.wanted, hgd])]
  exact wp_store_mid ty x y ho b o cells hx hy ht hi h1 h

section
variable {w0 w : World} {F0 : List Nat} {E : Env}

theorem St.thereMid {g : Nat} {T : TypeId} {cs : List Value} (H : St w0 F0 w E) (k : Nat) (hk : E k = some (.blk g T cs)) (o n : Nat) (hl : o + n ≤ cs.length) : w.there g o n := fun j hj => by
  have h := H.there k hk (o + j) (by omega)
  rw [Nat.zero_add] at h
  exact h
theorem St.storeMid5 {g : Nat} {T : TypeId} {cs vs : List Value} (H : St w0 F0 w E) (k : Nat) (hk : E k = some (.blk g T cs)) (o : Nat) (hl : o + vs.length ≤ cs.length) : St w0 F0 (w.setCells g o vs) (upd E k (.blk g T (cs.take o ++ vs ++ cs.drop (o + vs.length)))) := by
  obtain ⟨F, ⟨h, e⟩, -, -, hc⟩ := H.change k hk
  subst e
  exact hc _ _ [g] ⟨setCells_heap vs w g o T cs h hl, rfl⟩ (setCells_low vs w g o) (by simp)

theorem s5Is_yes (g : Nat) (w : World) (hc : w.cell? ⟨g, 0, none⟩ = some (.bool true)) :
    Calls Try.prog 37 #[lptr g] w fun e w' => e = .returned (.bool true) ∧ w = w' := by
  unfold lptr
  go_enter Try.func37, Try.ntmps37
  go_wp2
  go_ret
  exact ⟨rfl, rfl⟩
theorem s5Is_off (g : Nat) (w : World) (hc : w.cell? ⟨g, 0, none⟩ = some (.bool false)) :
    Calls Try.prog 37 #[lptr g] w fun e w' => e = .returned (.bool false) ∧ w = w' := by
  unfold lptr
  go_enter Try.func37, Try.ntmps37
  go_wp2
  go_ret
  exact ⟨rfl, rfl⟩
theorem s5Is_nil (w : World) : Calls Try.prog 37 #[.pointer none] w fun e w' => e = .returned (.bool false) ∧ w = w' := by
  go_enter Try.func37, Try.ntmps37
  go_wp2
  go_ret
  exact ⟨rfl, rfl⟩

set_option maxHeartbeats 1000000 in
theorem s5New_s (H : St w0 F0 w E) (k : Nat) (hk : E k = none) :
    Calls Try.prog 19 #[] w fun e w' => ∃ g, e = .returned (lptr g) ∧ St w0 F0 w' (upd E k (.blk g 73 (s5S []))) := by
  go_enter Try.func19, Try.ntmps19
  go_wp2_with fail
  refine (first_s w).mono ?_
  rintro e w1 ⟨rfl, hb⟩
  have H1 := H.call hb
  rw [hBegV_eq]
  go_wp2_with (refine wpList_build rfl (.agg (s5S []).toArray) rfl (by rw [s5S_nil]; kernel_rfl) ?_)
  go_wp2
  go_ret
  exact ⟨w1.heap.size, rfl, H1.alloc k hk (s5S []).toArray 73⟩
end
end Go.Proofs.Ythieegmmbjjcbaa
