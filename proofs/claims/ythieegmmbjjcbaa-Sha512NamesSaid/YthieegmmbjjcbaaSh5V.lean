/- SHA-512: the statements' own digest of abc; two of the examples; so many events of a block. -/
import Derived.Test.YthieegmmbjjcbaaSh5F
import Derived.Test.YthieegmmbjjcbaaLedR
import Derived.Test.YthieegmmbjjcbaaLit
namespace Go.Proofs.Ythieegmmbjjcbaa
open Go.RowKit
set_option linter.unusedVariables false
set_option maxRecDepth 100000

def abcB : List UInt8 := [97, 98, 99]
def abcS : List UInt8 := [221, 175, 53, 161, 147, 97, 122, 186, 204, 65, 115, 73, 174, 32, 65, 49, 18, 230, 250, 78, 137, 169, 126, 162, 10, 158, 238, 230, 75, 85, 211, 154, 33, 146, 153, 42, 39, 79, 193, 168, 54, 186, 60, 35, 163, 254, 235, 189, 69, 77, 68, 35, 100, 60, 232, 14, 42, 154, 201, 79, 165, 76, 164, 159]
theorem abc_val : dig5 abcB = abcS := by decide +kernel
theorem abcS_len : abcS.length = 64 := rfl
def abcV : List Value := [.int .u8 221, .int .u8 175, .int .u8 53, .int .u8 161, .int .u8 147, .int .u8 97, .int .u8 122, .int .u8 186, .int .u8 204, .int .u8 65, .int .u8 115, .int .u8 73, .int .u8 174, .int .u8 32, .int .u8 65, .int .u8 49, .int .u8 18, .int .u8 230, .int .u8 250, .int .u8 78, .int .u8 137, .int .u8 169, .int .u8 126, .int .u8 162, .int .u8 10, .int .u8 158, .int .u8 238, .int .u8 230, .int .u8 75, .int .u8 85, .int .u8 211, .int .u8 154, .int .u8 33, .int .u8 146, .int .u8 153, .int .u8 42, .int .u8 39, .int .u8 79, .int .u8 193, .int .u8 168, .int .u8 54, .int .u8 186, .int .u8 60, .int .u8 35, .int .u8 163, .int .u8 254, .int .u8 235, .int .u8 189, .int .u8 69, .int .u8 77, .int .u8 68, .int .u8 35, .int .u8 100, .int .u8 60, .int .u8 232, .int .u8 14, .int .u8 42, .int .u8 154, .int .u8 201, .int .u8 79, .int .u8 165, .int .u8 76, .int .u8 164, .int .u8 159]
theorem abcS_map : abcS.map vb = abcV := by kernel_rfl
/-- so many blocks, recorded -/
def runsOf5 (q : Nat) : List RunT := if q = 0 then [] else [(2, 128, q)]
theorem noteN_runs5 (q : Nat) : noteN (some []) 2 128 q = some (runsOf5 q) := by
  unfold noteN runsOf5
  split
  · rfl
  · simp [noted]
theorem runsOf5_lw (q : Nat) : LW (some (runsOf5 q)) 1 q := by rw [← noteN_runs5]; exact (LW.nil.noteN 2 128 q).more (by omega) (by omega)
theorem runsOf5_len (q : Nat) : (runsOf5 q).length ≤ 1 := by unfold runsOf5; split <;> simp
theorem noteN_none' (k s : Int) (n : Nat) : noteN none k s n = none := by unfold noteN; split <;> rfl

attribute [local irreducible] comp5 hTo dig5 laid8 abcS

section
variable {w0 w : World} {F0 : List Nat} {E : Env}

theorem St.blkRowS {g n size : Nat} {e : TypeId} {xs : List Value} (H : St w0 F0 w E) (k : Nat) (hk : E k = some (.blk g e xs)) (hx : xs.length = n * size) (hn : n ≤ maxLen) : St w0 F0 w (upd E k (.row e size (.slice (some ⟨g, 0, none⟩) n n) n xs)) := by
  obtain ⟨F, ⟨h, hF⟩, -, -, hc⟩ := H.change k hk
  subst hF
  refine hc w _ [g] ⟨⟨hx, .inr ⟨g, n, xs.toArray, rfl, Nat.zero_le _, h, Nat.le_refl _, hn, by rw [List.size_toArray]; exact hx, by rw [← hx]; exact List.take_length⟩⟩, by simp [Value.ownBlock]⟩ (Low.refl _ _) (by simp)

theorem abc_s (H : St w0 F0 w E) (k : Nat) (hk : E k = none) :
    Calls Try.prog 36 #[] w fun e w' => ∃ v, e = .returned v ∧ St w0 F0 w' (upd E k (.row 5 1 v 64 (abcS.map vb))) := by
  go_enter Try.func36, Try.ntmps36
  go_wp2
  go_ret
  have H1 := H.allocAt k hk w.heap.size rfl abcV.toArray 5
  have H2 := H1.blkRow2 k upd_same (n := 64) rfl (by simp only [maxLen]; omega)
  rw [upd_upd] at H2
  exact ⟨_, rfl, by rw [abcS_map]; exact H2⟩

theorem blocks_s (n : Nat) (hn : n ≤ 1000000000000) (H : St w0 F0 w E) (k : Nat) (hk : E k = none) :
    Calls Try.prog 25 #[.int .i64 (n : Int)] w fun e w' => ∃ v, e = .returned v ∧ St w0 F0 w' (upd E k (runsO v (runsOf5 n))) := by
  rcases Nat.eq_zero_or_pos n with rfl | hp
  · go_enter Try.func25, Try.ntmps25
    go_wp2
    go_ret
    exact ⟨_, rfl, H.nilRow k hk 56 3⟩
  · have h1 : ¬ (n : Int) < 1 := by omega
    go_enter Try.func25, Try.ntmps25
    go_wp2
    go_ret
    have hr : runsOf5 n = [(2, 128, (n : Int))] := by unfold runsOf5; rw [if_neg (by omega)]
    have H1 := H.allocAt k hk w.heap.size rfl #[.int .u8 2, .int .i64 128, .int .i64 (n : Int)] 56
    have H2 := H1.blkRowS k upd_same (n := 1) (size := 3) rfl (by simp only [maxLen]; omega)
    rw [upd_upd] at H2
    exact ⟨_, rfl, by rw [hr]; exact H2⟩
end

set_option maxHeartbeats 4000000 in
theorem awake5_s (w : World) : Calls Try.prog 20 #[] w fun e w' => e = .returned (.bool true) ∧ Below w.heap.size w w' := by
  have H := (St.start_lay w []).ledNil 0 rfl |>.push_mk rfl
  have hcv := fun (w : World) (C : Array Value) (n c : Nat) => Lib.run_convert_bytes_const (P := Try.prog) w 22 5 C n c Try.underlying22 Try.underlying5
  go_enter Try.func20, Try.ntmps20
  go_wp2_with fail
  refine (s5New_s H 1 rfl).mono ?_
  rintro e w1 ⟨g, rfl, H1⟩
  replace H := H1.push_mk rfl
  clear H1
  unfold lptr
  go_wp2_with fail
  refine absorb_calls (H.litAt 2 rfl w1.heap.size rfl _ _ _ |>.push_mk rfl) ?_
  clear H
  intro w2 H
  generalize w1.heap.size = g2 at H ⊢
  replace H : St w [] w2 (lay [led (.pointer none) none, .blk g 73 (s5S []), .lit g2 5 (abcB.map vb) (3, 4)]) := H
  refine (s5Write_s (.pointer none) none 0 0 g [] (some ⟨g2, 0, none⟩) 3 3 abcB H 0 1 (by omega) rfl rfl (LW.none _ _) (by omega) (by omega) (fun w' X Y h => h.rdLit 2 rfl 1 3 rfl) (by omega) (by rw [List.length_nil]; omega)).mono ?_
  rintro e w3 ⟨rfl, H1⟩
  rw [noteN_none', upd_laid5 (by simp), upd_laid5 (by simp), List.nil_append] at H1
  replace H : St w [] w3 (lay [led (.pointer none) none, .blk g 73 (s5S abcB)]) := H1.front 2
  clear H1
  go_wp2_with fail
  refine (s5Sum_s (.pointer none) none 0 0 g abcB H 0 1 2 (by omega) rfl rfl rfl (LW.none _ _) (by omega) (by omega) (by decide)).mono ?_
  rintro e w4 ⟨v4, rfl, H1⟩
  rw [noteN_none', upd_laid5 (by simp), upd_laid5 (by simp), abc_val] at H1
  replace H : St w [] w4 (lay [led (.pointer none) none, .blk g 73 (s5S abcB), .row 5 1 v4 64 (abcS.map vb)]) := H1.push_mk rfl
  clear H1
  obtain ⟨A4, c4, rfl, -, -⟩ := row_form (H.row 2 rfl)
  go_wp2_with fail
  refine (abc_s H 3 rfl).mono ?_
  rintro e w5 ⟨v5, rfl, H1⟩
  replace H := H1.push_mk rfl
  clear H1
  obtain ⟨A5, c5, rfl, -, -⟩ := row_form (H.row 3 rfl)
  go_wp2_with fail
  refine (sameBytes_yes A4 A5 64 64 c4 c5 abcS abcS _ (H.rd 2 rfl) (H.rd 3 rfl) (by omega) (by omega) rfl).mono ?_
  rintro e w6 ⟨rfl, hb⟩
  replace H := (H.call hb).front 3
  clear hb
  replace H : St w [] w6 (lay [led (.pointer none) none, .blk g 73 (s5S abcB), .row 5 1 (.slice A4 64 c4) 64 (abcS.map vb)]) := H
  go_wp2_with fail
  refine absorb_calls (H.litAt 3 rfl w6.heap.size rfl _ _ _ |>.push_mk rfl) ?_
  clear H
  intro w7 H
  generalize w6.heap.size = g3 at H ⊢
  replace H : St w [] w7 (lay [led (.pointer none) none, .blk g 73 (s5S abcB), .row 5 1 (.slice A4 64 c4) 64 (abcS.map vb), .lit g3 5 (abcB.map vb) (3, 4)]) := H
  refine (s5Fn_s (.pointer none) none 0 0 (some ⟨g3, 0, none⟩) 3 3 abcB H 0 4 rfl rfl (LW.none _ _) (by omega) (by omega) (fun w' X h => h.rdLit 3 rfl 1 3 rfl) (by omega) (by omega)).mono ?_
  rintro e w8 ⟨v8, rfl, H1⟩
  rw [noteN_none', upd_laid5 (by simp), abc_val] at H1
  replace H := H1.push_mk rfl
  clear H1
  obtain ⟨A8, c8, rfl, -, -⟩ := row_form (H.row 4 rfl)
  go_wp2_with fail
  refine (sameBytes_yes A8 A4 64 64 c8 c4 abcS abcS _ (H.rd 4 rfl) (H.rd 2 rfl) (by omega) (by omega) rfl).mono ?_
  rintro e w9 ⟨rfl, hb⟩
  replace H := H.call hb
  go_wp2
  go_ret
  exact ⟨rfl, H.below⟩
end Go.Proofs.Ythieegmmbjjcbaa
