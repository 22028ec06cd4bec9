/- The law EighthTurns, walked. -/
import Derived.Test.YtgaghggnjemgoaaEiAwake
import Derived.Test.YtgaghggnjemgoaaPick
namespace Go.Proofs.Ytgaghggnjemgoaa
open Go.RowKit
set_option linter.unusedVariables false

abbrev ngF (x : Nat) : Nat := Op.negFloat .f64 x
def eqF (x y : Nat) : Prop := FloatKind.f64.format.order x y = some Ordering.eq
instance (x y : Nat) : Decidable (eqF x y) := inferInstanceAs (Decidable (_ = _))
theorem turns_ok : ∀ c, c < 8 → (eqF (rootRe c) (rootRe c) ∧ eqF (rootIm c) (rootIm c)) ∧ (eqF (rootRe ((c + 4) % 8)) (ngF (rootRe c)) ∧ eqF (rootIm ((c + 4) % 8)) (ngF (rootIm c))) ∧
    (eqF (rootRe ((c + 2) % 8)) (ngF (rootIm c)) ∧ eqF (rootIm ((c + 2) % 8)) (rootRe c)) ∧ (eqF (rootRe ((8 - c) % 8)) (rootRe c) ∧ eqF (rootIm ((8 - c) % 8)) (ngF (rootIm c))) := by
  have h : ∀ c ∈ List.range 8, (eqF (rootRe c) (rootRe c) ∧ eqF (rootIm c) (rootIm c)) ∧ (eqF (rootRe ((c + 4) % 8)) (ngF (rootRe c)) ∧ eqF (rootIm ((c + 4) % 8)) (ngF (rootIm c))) ∧
    (eqF (rootRe ((c + 2) % 8)) (ngF (rootIm c)) ∧ eqF (rootIm ((c + 2) % 8)) (rootRe c)) ∧ (eqF (rootRe ((8 - c) % 8)) (rootRe c) ∧ eqF (rootIm ((8 - c) % 8)) (ngF (rootIm c))) := by decide +kernel
  exact fun c hc => h c (List.mem_range.2 hc)
theorem root_at (k : Int) (c : Nat) (hc : (k % 8).toNat = c) (w : World) : Calls Try.prog 12 #[.int .i64 k] w fun e w' => e = .returned (.complex .f64 (rootRe c) (rootIm c)) ∧ w' = w := by
  rw [← hc]
  exact root_s k w

set_option maxRecDepth 100000 in
set_option maxHeartbeats 4000000 in
theorem eighthTurns_walk (k : Int) (w : World) (h1 : -9223372036854775808 ≤ k) (h2 : k ≤ 9223372036854775807) :
    Calls Try.prog 7 #[.int .i64 k] w fun e w' => e = .returned (.bool true) ∧ Below w.heap.size w w' := by
  go_enter Try.func7, Try.ntmps7
  go_wp2_with fail
  refine (eiAwake_s w).mono ?_
  rintro e w2 ⟨rfl, hb⟩
  go_wp2_with fail
  refine (pick_any k 1099511627776 w2 h1 h2 (by omega) (by omega) rfl).mono ?_
  rintro e w3 ⟨⟨n, hn, -, rfl⟩, rfl⟩
  clear h1 h2
  obtain ⟨c, hc⟩ : ∃ c, n % 8 = c := ⟨_, rfl⟩
  have hlt : c < 8 := by omega
  obtain ⟨⟨a1, a2⟩, ⟨b1, b2⟩, ⟨d1, d2⟩, ⟨f1, f2⟩⟩ := turns_ok c hlt
  have r0 := root_at (n : Int) c (by omega)
  have r1 := root_at ((n : Int) + 8) c (by omega)
  have r2 := root_at ((n : Int) - 8) c (by omega)
  have r3 := root_at ((n : Int) + 4) ((c + 4) % 8) (by omega)
  have r4 := root_at ((n : Int) + 2) ((c + 2) % 8) (by omega)
  have r5 := root_at (-(n : Int)) ((8 - c) % 8) (by omega)
  have R0 := Lib.hid r0
  have R1 := Lib.hid r1
  have R2 := Lib.hid r2
  have R3 := Lib.hid r3
  have R4 := Lib.hid r4
  have R5 := Lib.hid r5
  clear r0 r1 r2 r3 r4 r5 hc
  generalize rootRe c = x at *
  generalize rootIm c = y at *
  generalize rootRe ((c + 4) % 8) = x4 at *
  generalize rootIm ((c + 4) % 8) = y4 at *
  generalize rootRe ((c + 2) % 8) = x2 at *
  generalize rootIm ((c + 2) % 8) = y2 at *
  generalize rootRe ((8 - c) % 8) = x6 at *
  generalize rootIm ((8 - c) % 8) = y6 at *
  unfold eqF at a1 a2 b1 b2 d1 d2 f1 f2
  have n1 : ∀ (a b : Nat) (w : World), (Op.unary UnOp.neg (.complex .f64 a b)).run Try.prog w = .ok (.complex .f64 (ngF a) (ngF b)) w := fun _ _ _ => rfl
  have n2 : ∀ (a : Nat) (w : World), (Op.unary UnOp.neg (.float .f64 a)).run Try.prog w = .ok (.float .f64 (ngF a)) w := fun _ _ => rfl
  go_wp2_with fail
  refine (R0.out w2).mono ?_
  rintro e w4 ⟨rfl, rfl⟩
  go_wp2_with fail
  refine (R1.out _).mono ?_
  rintro e w5 ⟨rfl, rfl⟩
  go_wp2_with fail
  refine (R2.out _).mono ?_
  rintro e w6 ⟨rfl, rfl⟩
  go_wp2_with fail
  refine (R3.out _).mono ?_
  rintro e w7 ⟨rfl, rfl⟩
  go_wp2_with fail
  refine (R4.out _).mono ?_
  rintro e w8 ⟨rfl, rfl⟩
  go_wp2_with fail
  refine (R5.out _).mono ?_
  rintro e w9 ⟨rfl, rfl⟩
  go_wp2_with fail
  go_ret
  exact ⟨rfl, hb⟩
end Go.Proofs.Ytgaghggnjemgoaa
