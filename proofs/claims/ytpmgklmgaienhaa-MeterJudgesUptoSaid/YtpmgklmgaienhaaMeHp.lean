/- turnkeylaw29.heap: so many rows, all alike. -/
import Derived.Test.YtpmgklmgaienhaaMeFit
namespace Go.Proofs.Ytpmgklmgaienhaa
open Go.RowKit
set_option linter.unusedVariables false
set_option maxRecDepth 100000

theorem rows_info : (Try.prog.info? 35).map (fun i => (i.zero, i.size, i.bytes)) = some (some (.slice none 0 0), 1, 24) := by kernel_rfl
theorem rep_one (k : Nat) (r : RowM) : ∀ u ∈ (List.replicate k r).map rowMV, u.oneCell' = true := by
  intro u hu
  obtain ⟨x, -, rfl⟩ := List.mem_map.1 hu
  rfl
set_option maxHeartbeats 1000000 in
theorem heap_s (r : RowM) (N : Nat) (w : World) (hN : N ≤ 1000) {a : Int} (ha : a = (N : Int)) :
    Calls Try.prog 33 #[.slice r.A r.n r.c, .int .i64 a] w fun e w' => ∃ v, e = .returned v ∧ w'.ownsRow w.heap.size 35 1 v N ((List.replicate N r).map rowMV) ∧ Below w.heap.size w w' := by
  subst ha
  obtain ⟨i0, hi0, hz0, hz1, hz2⟩ := info_parts rows_info
  have H0 := St.start_lay w []
  obtain ⟨A, n, c, l⟩ := r
  go_enter Try.func33, Try.ntmps33
  go_wp2
  have H := (H0.nilRow 0 rfl 35 1).push_mk rfl
  clear H0
  replace H : St w [] w (lay [.row 35 1 (.slice none 0 0) 0 ((List.replicate 0 (⟨A, n, c, l⟩ : RowM)).map rowMV)]) := H
  go_loopw [5, 6] (fun v i wr => ∃ j : Nat, j ≤ N ∧ i = .int .i64 (j : Int) ∧ St w [] wr (lay [.row 35 1 v j ((List.replicate j (⟨A, n, c, l⟩ : RowM)).map rowMV)])) (fun _ i _ => N - (intOf i).toNat)
  case atStart => exact ⟨0, Nat.zero_le _, rfl, H⟩
  case round =>
    clear H
    obtain ⟨j, hj, rfl, H⟩ := hrel
    by_cases hlt : j < N
    · have hji : (j : Int) < N := by omega
      have HS := Lib.hid (show (List.replicate j (⟨A, n, c, l⟩ : RowM)).map rowMV ++ [.slice A n c] = (List.replicate (j + 1) (⟨A, n, c, l⟩ : RowM)).map rowMV by rw [List.replicate_succ', List.map_append]; rfl)
      have hr := H.row 0 rfl
      have HA := H.alloc 1 rfl #[.slice A n c] 35
      go_wp2_with (at_builtin; refine wpList_append_any _ rfl (.tmp 12) (.tmp 14) _ rfl 0 35 i0 _ 1 24 Try.underlying41 hi0 hz0 hz1 hz2 rfl (by omega) u5 j ((List.replicate j (⟨A, n, c, l⟩ : RowM)).map rowMV) rfl (hr.alloc _) (some ⟨wr.heap.size, 0, none⟩) 1 1 [.slice A n c] rfl (rd_new0 wr [.slice A n c] _ 1 rfl) (by intro u hu; simp at hu; subst hu; rfl) (by simp only [maxLen]; omega) (by omega) (by omega) ?_; intro v3 w3 hown3 hg3 hat3)
      have H3 := ((HA.grow 0 rfl hown3 hg3 hat3)).sub (E' := lay [.row 35 1 v3 (j + 1) ((List.replicate j (⟨A, n, c, l⟩ : RowM)).map rowMV ++ [.slice A n c])]) (fun i A hA => by cases i with | zero => exact hA | succ i => simp [lay] at hA)
      rw [HS.out] at H3
      go_roundw
      case rel => exact ⟨j + 1, by omega, by go_num, H3⟩
      case measure => simp [intOf]; omega
    · obtain rfl : j = N := by omega
      have hji : ¬ (j : Int) < j := by omega
      go_wp2
      go_ret
      have ho := H.ownRow 0 rfl
      rw [List.map_replicate] at ho
      exact ⟨_, rfl, ho, H.below⟩
end Go.Proofs.Ytpmgklmgaienhaa
