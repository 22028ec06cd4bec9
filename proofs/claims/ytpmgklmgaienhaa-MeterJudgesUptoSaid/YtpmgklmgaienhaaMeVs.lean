/- Two verdicts of the same heaps, or of the heaps the other way round. turnkeylaw29.same. -/
import Derived.Test.YtpmgklmgaienhaaMeOp
import Derived.Test.YtpmgklmgaienhaaMeJr
import Derived.Test.YtpmgklmgaienhaaMeLn

namespace Go.Proofs.Ytpmgklmgaienhaa
open Go.RowKit
set_option linter.unusedVariables false
set_option maxRecDepth 100000

def v6 (a : Bool) (k : Int) (s : Bool) (T : Nat) (b : Int) (P : Nat) : List Value := [.bool a, .int .u8 k, .bool s, .float .f64 T, .int .i64 b, .float .f64 P]

def zJ (as_ bs : List RowM) : VS := if judgeE as_ bs = 0 ∧ (stJ as_ bs 24).1 ≠ 0 then stJ as_ bs 24 else (0, false, 0)

def bJ (as_ bs : List RowM) : Int := if judgeE as_ bs = 0 ∧ (stJ as_ bs 24).1 ≠ 0 then ((bestA (beatP as_ bs (stJ as_ bs 24).1 (stJ as_ bs 24).2.1) 5 : Nat) : Int) else 0

def pJ (as_ bs : List RowM) : Option Nat := if judgeE as_ bs = 0 ∧ (stJ as_ bs 24).1 ≠ 0 then beatP as_ bs (stJ as_ bs 24).1 (stJ as_ bs 24).2.1 (bestA (beatP as_ bs (stJ as_ bs 24).1 (stJ as_ bs 24).2.1) 5) else some 0

theorem ver_form {as_ bs : List RowM} {V : List Value} (h : VerIs as_ bs V) : ∃ P, V = v6 (apartJ (zJ as_ bs).2.2) (zJ as_ bs).1 (zJ as_ bs).2.1 (zJ as_ bs).2.2 (bJ as_ bs) P ∧ absF P = pJ as_ bs := by
  unfold VerIs at h
  unfold zJ bJ pJ
  split at h
  · rename_i hc
    rw [if_pos hc, if_pos hc, if_pos hc]
    obtain ⟨P, hV, hP⟩ := h
    exact ⟨P, hV, hP⟩
  · rename_i hc
    rw [if_neg hc, if_neg hc, if_neg hc]
    refine ⟨0, ?_, absF_zero9⟩
    have : apartJ 0 = false := by decide +kernel
    rw [h]
    unfold v6 zeroV
    rw [this]

theorem beatP_core {as_ bs as' bs' : List RowM} (h : as_.map core = as'.map core) (h' : bs.map core = bs'.map core) (kk : Int) (s : Bool) : beatP as_ bs kk s = beatP as' bs' kk s := by
  unfold beatP; rw [colW_core h, colW_core h', core_length h, core_length h']

theorem ver_core {as_ bs as' bs' : List RowM} (h : as_.map core = as'.map core) (h' : bs.map core = bs'.map core) : zJ as_ bs = zJ as' bs' ∧ bJ as_ bs = bJ as' bs' ∧ pJ as_ bs = pJ as' bs' := by
  unfold zJ bJ pJ
  rw [judgeE_core h h', stJ_core h h', beatP_core h h']
  exact ⟨rfl, rfl, rfl⟩

theorem judgeE_comm (as_ bs : List RowM) : judgeE as_ bs = judgeE bs as_ := by
  unfold judgeE
  by_cases h : as_.length < 2 ∨ bs.length < 2
  · rw [if_pos h, if_pos (Or.comm.1 h)]
  · rw [if_neg h, if_neg (fun e => h (Or.comm.1 e))]
    by_cases h2 : goodRows as_ as_.length = true ∧ goodRows bs bs.length = true
    · rw [if_pos h2, if_pos (And.comm.1 h2)]
    · rw [if_neg h2, if_neg (fun e => h2 (And.comm.1 e))]

theorem zJ_op (as_ bs : List RowM) : VOp (zJ as_ bs) (zJ bs as_) := by
  unfold zJ
  rw [judgeE_comm as_ bs, (stJ_op as_ bs 24).1]
  split
  · exact stJ_op as_ bs 24
  · exact ⟨rfl, rfl, zero_op⟩

set_option maxHeartbeats 1000000 in
theorem same_s (a : Bool) (k : Int) (s : Bool) (T : Nat) (b : Int) (P P' : Nat) (w : World) (h : absF P = absF P') :
    Calls Try.prog 29 #[.agg #[.bool a, .int .u8 k, .bool s, .float .f64 T, .int .i64 b, .float .f64 P], .agg #[.bool a, .int .u8 k, .bool s, .float .f64 T, .int .i64 b, .float .f64 P']] w fun e w' => e = .returned (.bool true) ∧ Below w.heap.size w w' := by
  have H0 := St.start_lay w []
  have HA := H0.allocAt 0 rfl w.heap.size rfl #[.bool a, .int .u8 k, .bool s, .float .f64 T, .int .i64 b, .float .f64 P] 45 |>.push_mk rfl |>.allocAt 1 rfl (w.heap.size + 1) (by simp) #[.bool a, .int .u8 k, .bool s, .float .f64 T, .int .i64 b, .float .f64 P'] 45 |>.push_mk rfl
  have ea : (a == a) = true := by simp
  have es : (s == s) = true := by simp
  have ek : (k == k) = true := by simp
  have eb : (b == b) = true := by simp
  go_enter Try.func29, Try.ntmps29
  go_upto_region 1 with (fail)
  refine absorb_wp HA ?_
  clear HA H0
  intro w2 H
  generalize w.heap.size + 1 = g3 at H ⊢
  generalize w.heap.size = g2 at H ⊢
  replace H : St w [] w2 (lay [.blk g2 45 [.bool a, .int .u8 k, .bool s, .float .f64 T, .int .i64 b, .float .f64 P], .blk g3 45 [.bool a, .int .u8 k, .bool s, .float .f64 T, .int .i64 b, .float .f64 P']]) := H
  have a0 := H.cell 0 rfl (o := 0) (u := .bool a) rfl
  have a1 := H.cell 0 rfl (o := 1) (u := .int .u8 k) rfl
  have a2 := H.cell 0 rfl (o := 2) (u := .bool s) rfl
  have a3 := H.cell 0 rfl (o := 3) (u := .float .f64 T) rfl
  have a4 := H.cell 0 rfl (o := 4) (u := .int .i64 b) rfl
  have a5 := H.cell 0 rfl (o := 5) (u := .float .f64 P) rfl
  have b0 := H.cell 1 rfl (o := 0) (u := .bool a) rfl
  have b1 := H.cell 1 rfl (o := 1) (u := .int .u8 k) rfl
  have b2 := H.cell 1 rfl (o := 2) (u := .bool s) rfl
  have b3 := H.cell 1 rfl (o := 3) (u := .float .f64 T) rfl
  have b4 := H.cell 1 rfl (o := 4) (u := .int .i64 b) rfl
  have b5 := H.cell 1 rfl (o := 5) (u := .float .f64 P') rfl
  go_wp2_with fail
  refine (alikeF T T w2 rfl).mono ?_
  rintro e w3 ⟨rfl, rfl⟩
  go_wp2_with fail
  refine (alikeF P P' _ h).mono ?_
  rintro e w3 ⟨rfl, rfl⟩
  go_wp2
  go_ret
  exact ⟨rfl, H.below⟩

theorem RowM.Ok.st {w w' : World} {E : Env} {r : RowM} (h : r.Ok w) (H : St w [] w' E) : r.Ok w' := ⟨H.arg0 h.1, h.2⟩

end Go.Proofs.Ytpmgklmgaienhaa
