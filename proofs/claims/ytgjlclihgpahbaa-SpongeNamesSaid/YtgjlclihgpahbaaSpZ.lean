/- What is no sponge: every call is refused. -/
import Derived.Test.YtgjlclihgpahbaaSpN

namespace Go.Proofs.Ytgjlclihgpahbaa
open Go.RowKit
set_option linter.unusedVariables false
set_option maxRecDepth 100000

/-- no sponge: nil, or one whose memory is noughts -/
def SpNo (w : World) (s : Value) : Prop := s = .pointer none ∨ ∃ g, s = lptr g ∧ w.cell? ⟨g, 200, none⟩ = some (.int .i64 0) ∧ w.cell? ⟨g, 203, none⟩ = some (.bool false)

section
variable {w : World}

theorem spRead_none (l : Value) (n : Int) (s : Value) (h : SpNo w s) : Calls Try.prog 9 #[s, l, .int .i64 n] w fun e w' => e = .returned (.tuple #[.slice none 0 0, .int .i64 1]) ∧ w = w' := by
  rcases h with rfl | ⟨g, rfl, c0, c3⟩
  · go_enter Try.func9, Try.ntmps9
    go_wp2_with fail
    refine (spNone_nil w).mono ?_
    rintro e w1 ⟨rfl, rfl⟩
    go_wp2
    go_ret2
    exact ⟨rfl, rfl⟩
  · unfold lptr
    go_enter Try.func9, Try.ntmps9
    go_wp2_with fail
    refine (spNone_yes g w c0).mono ?_
    rintro e w1 ⟨rfl, rfl⟩
    go_wp2
    go_ret2
    exact ⟨rfl, rfl⟩

theorem spClone_none  (s : Value) (h : SpNo w s) : Calls Try.prog 43 #[s] w fun e w' => e = .returned (.tuple #[.pointer none, .int .i64 1]) ∧ w = w' := by
  rcases h with rfl | ⟨g, rfl, c0, c3⟩
  · go_enter Try.func43, Try.ntmps43
    go_wp2_with fail
    refine (spNone_nil w).mono ?_
    rintro e w1 ⟨rfl, rfl⟩
    go_wp2
    go_ret2
    exact ⟨rfl, rfl⟩
  · unfold lptr
    go_enter Try.func43, Try.ntmps43
    go_wp2_with fail
    refine (spNone_yes g w c0).mono ?_
    rintro e w1 ⟨rfl, rfl⟩
    go_wp2
    go_ret2
    exact ⟨rfl, rfl⟩

theorem spWrite_none (l v : Value) (s : Value) (h : SpNo w s) : Calls Try.prog 14 #[s, l, v] w fun e w' => e = .returned (.int .i64 1) ∧ w = w' := by
  rcases h with rfl | ⟨g, rfl, c0, c3⟩
  · go_enter Try.func14, Try.ntmps14
    go_wp2_with fail
    refine (spNone_nil w).mono ?_
    rintro e w1 ⟨rfl, rfl⟩
    go_wp2
    go_ret
    exact ⟨rfl, rfl⟩
  · unfold lptr
    go_enter Try.func14, Try.ntmps14
    go_wp2_with fail
    refine (spNone_yes g w c0).mono ?_
    rintro e w1 ⟨rfl, rfl⟩
    go_wp2
    go_ret
    exact ⟨rfl, rfl⟩

theorem spClose_none (l : Value) (s : Value) (h : SpNo w s) : Calls Try.prog 8 #[s, l] w fun e w' => e = .returned (.int .i64 1) ∧ w = w' := by
  rcases h with rfl | ⟨g, rfl, c0, c3⟩
  · go_enter Try.func8, Try.ntmps8
    go_wp2_with fail
    refine (spNone_nil w).mono ?_
    rintro e w1 ⟨rfl, rfl⟩
    go_wp2
    go_ret
    exact ⟨rfl, rfl⟩
  · unfold lptr
    go_enter Try.func8, Try.ntmps8
    go_wp2_with fail
    refine (spNone_yes g w c0).mono ?_
    rintro e w1 ⟨rfl, rfl⟩
    go_wp2
    go_ret
    exact ⟨rfl, rfl⟩

theorem spWipe_none (l : Value) (s : Value) (h : SpNo w s) : Calls Try.prog 30 #[s, l] w fun e w' => e = .returned (.int .i64 1) ∧ w = w' := by
  rcases h with rfl | ⟨g, rfl, c0, c3⟩
  · go_enter Try.func30, Try.ntmps30
    go_wp2_with fail
    refine (spNone_nil w).mono ?_
    rintro e w1 ⟨rfl, rfl⟩
    go_wp2
    go_ret
    exact ⟨rfl, rfl⟩
  · unfold lptr
    go_enter Try.func30, Try.ntmps30
    go_wp2_with fail
    refine (spNone_yes g w c0).mono ?_
    rintro e w1 ⟨rfl, rfl⟩
    go_wp2
    go_ret
    exact ⟨rfl, rfl⟩

theorem spForm_none  (s : Value) (h : SpNo w s) : Calls Try.prog 22 #[s] w fun e w' => e = .returned (.slice none 0 0) ∧ w = w' := by
  rcases h with rfl | ⟨g, rfl, c0, c3⟩
  · go_enter Try.func22, Try.ntmps22
    go_wp2_with fail
    refine (spNone_nil w).mono ?_
    rintro e w1 ⟨rfl, rfl⟩
    go_wp2
    go_ret
    exact ⟨rfl, rfl⟩
  · unfold lptr
    go_enter Try.func22, Try.ntmps22
    go_wp2_with fail
    refine (spNone_yes g w c0).mono ?_
    rintro e w1 ⟨rfl, rfl⟩
    go_wp2
    go_ret
    exact ⟨rfl, rfl⟩

theorem spRate_none  (s : Value) (h : SpNo w s) : Calls Try.prog 15 #[s] w fun e w' => e = .returned (.int .i64 0) ∧ w = w' := by
  rcases h with rfl | ⟨g, rfl, c0, c3⟩
  · go_enter Try.func15, Try.ntmps15
    go_wp2
    go_ret
    exact ⟨rfl, rfl⟩
  · unfold lptr
    go_enter Try.func15, Try.ntmps15
    go_wp2
    go_ret
    exact ⟨rfl, rfl⟩

theorem spShut_none  (s : Value) (h : SpNo w s) : Calls Try.prog 12 #[s] w fun e w' => e = .returned (.bool false) ∧ w = w' := by
  rcases h with rfl | ⟨g, rfl, c0, c3⟩
  · go_enter Try.func12, Try.ntmps12
    go_wp2
    go_ret
    exact ⟨rfl, rfl⟩
  · unfold lptr
    go_enter Try.func12, Try.ntmps12
    go_wp2
    go_ret
    exact ⟨rfl, rfl⟩

end

end Go.Proofs.Ytgjlclihgpahbaa
