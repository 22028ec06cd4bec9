/- The law EighthKnown, walked. -/
import Derived.Test.YtgaghggnjemgoaaEiPeakN
namespace Go.Proofs.Ytgaghggnjemgoaa
open Go.RowKit
set_option linter.unusedVariables false

theorem bits_call (n : Nat) (w : World) : (callFunc 30 #[.int .u64 (n : Int)]).run Try.prog w = .ok (.value (.float .f64 n)) w := by
  rw [run_callFunc_extern (P := Try.prog) (f := 30) (fn := Try.f30) (e := Extern.MathFloatBits.float64frombits) Try.func30 (by kernel_rfl) (by kernel_rfl) (by kernel_rfl) (by kernel_rfl)]
  rfl
theorem nan_s (w : World) : Calls Try.prog 28 #[] w fun e w' => e = .returned (.float .f64 9221120237041090561) ∧ w' = w := by
  have hs : ∀ w, (callFunc 30 #[.int .u64 9221120237041090561]).run Try.prog w = .ok (.value (.float .f64 9221120237041090561)) w := bits_call 9221120237041090561
  go_enter Try.func28, Try.ntmps28
  go_wp2
  go_ret
  exact ⟨rfl, rfl⟩
theorem root_k (k : Int) (c : Nat) (hc : (k % 8).toNat = c) (w : World) : Calls Try.prog 12 #[.int .i64 k] w fun e w' => e = .returned (.complex .f64 (rootRe c) (rootIm c)) ∧ w' = w := by
  rw [← hc]
  exact root_s k w
theorem nan_is : isN 9221120237041090561 = true := by decide +kernel
def xE : List Nat := [4607182418800017408, 13830554455654793216, 4607182418800017408, 13830554455654793216, 4607182418800017408, 13830554455654793216, 4607182418800017408, 13830554455654793216]
def SE (k : Nat) : Nat × Nat := [(0, 0), (0, 0), (0, 0), (13591863675404156928, 13591863675404156928), (4620693217682128896, 0), (13591863675404156928, 4368491638549381120), (0, 0), (0, 0)].getD k (0, 0)
theorem SE_ok : ∀ k, k < 8 → sumTo k xE 8 = some (SE k) := by
  have h : ∀ k ∈ List.range 8, sumTo k xE 8 = some (SE k) := by decide +kernel
  exact fun k hk => h k (List.mem_range.2 hk)
def PE (k : Nat) : Nat := [0, 0, 0, 4134304457926115328, 4634204016564240384, 4134304457926115328, 0, 0].getD k 0
theorem PE_ok : ∀ k, k < 8 → powO (SE k) = some (PE k) := by
  have h : ∀ k ∈ List.range 8, powO (SE k) = some (PE k) := by decide +kernel
  exact fun k hk => h k (List.mem_range.2 hk)
theorem PE_best : bestTo PE 5 = 4 ∧ PE 4 = 4634204016564240384 := by decide +kernel
def S0 (k : Nat) : Nat × Nat := (0, 0)
def P0 (k : Nat) : Nat := 0
theorem S0_ok : ∀ k, k < 8 → sumTo k [] 0 = some (S0 k) := fun k hk => rfl
theorem P0_ok : ∀ k, k < 8 → powO (S0 k) = some (P0 k) := by
  have h : powO (0, 0) = some 0 := by decide +kernel
  exact fun k hk => h
theorem P0_best : bestTo P0 5 = 1 := by decide +kernel
theorem S0_8 : cellsTo 8 S0 = [.complex .f64 0 0, .complex .f64 0 0, .complex .f64 0 0, .complex .f64 0 0, .complex .f64 0 0, .complex .f64 0 0, .complex .f64 0 0, .complex .f64 0 0] := rfl
theorem order_ne {r : Nat} (h : isN r = true) : (FloatKind.f64.format.order r r != some Ordering.eq) = true := by rw [order_nan r h]; rfl

theorem eq_zeros (w : World) : (Op.equalIn 10000 32 (.agg #[.complex .f64 0 0, .complex .f64 0 0, .complex .f64 0 0, .complex .f64 0 0, .complex .f64 0 0, .complex .f64 0 0, .complex .f64 0 0, .complex .f64 0 0]) (.agg #[.complex .f64 0 0, .complex .f64 0 0, .complex .f64 0 0, .complex .f64 0 0, .complex .f64 0 0, .complex .f64 0 0, .complex .f64 0 0, .complex .f64 0 0])).run Try.prog w = .ok true w := by kernel_rfl

set_option maxRecDepth 100000 in
set_option maxHeartbeats 4000000 in
theorem eighthKnown_walk (w : World) : Calls Try.prog 8 #[] w fun e w' => e = .returned (.bool true) ∧ Below w.heap.size w w' := by
  have hst := fun (a : Addr) (re im : Nat) (m : Mode) (w : World) => run_store Try.prog w a (.complex .f64 re im) m rfl
  have q0 : FloatKind.f64.format.order 0 0 = some Ordering.eq := by decide +kernel
  have q1 : FloatKind.f64.format.order 4604544271217802189 4604544271217802189 = some Ordering.eq := by decide +kernel
  have q2 : FloatKind.f64.format.order 4607182418800017408 4607182418800017408 = some Ordering.eq := by decide +kernel
  have q3 : FloatKind.f64.format.order 4634204016564240384 4634204016564240384 = some Ordering.eq := by decide +kernel
  have q4 : FloatKind.f64.format.order 13827916308072577997 13827916308072577997 = some Ordering.eq := by decide +kernel
  have q5 : FloatKind.f64.format.order 13830554455654793216 13830554455654793216 = some Ordering.eq := by decide +kernel
  have q6 : FloatKind.f64.format.order 13835058055282163712 13835058055282163712 = some Ordering.eq := by decide +kernel
  go_enter Try.func8, Try.ntmps8
  go_wp2_with fail
  refine (sums_s _ 8 8 xB SB _ (rd_lit w [.float .f64 4607182418800017408, .float .f64 0, .float .f64 4611686018427387904, .float .f64 0, .float .f64 4613937818241073152, .float .f64 0, .float .f64 4616189618054758400, .float .f64 0] _ 8 _ rfl rfl) (by omega) SB_ok).mono ?_
  rintro e w2 ⟨he, hb⟩
  rw [SB_8] at he
  subst he
  have H := ((St.start_lay w []).call ((Below.refl _ _).alloc (Nat.le_refl _) _)).call hb
  have HA := (H.allocAt 0 rfl w2.heap.size rfl #[.complex .f64 4621819117588971520 0, .complex .f64 13835058055282163712 4611686018427387904, .complex .f64 13835058055282163712 0, .complex .f64 13835058055282163712 13835058055282163712, .complex .f64 4621819117588971520 0, .complex .f64 13835058055282163712 4611686018427387904, .complex .f64 13835058055282163712 0, .complex .f64 13835058055282163712 13835058055282163712] 32).push_mk rfl
  go_wp2_with fail
  refine absorb_calls HA ?_
  clear HA H hb
  intro w2' H
  generalize w2.heap.size = g1 at H ⊢
  refine (sums_s none 0 0 [] S0 w2' Rd.none_ (by omega) S0_ok).mono ?_
  rintro e w3 ⟨he, hb⟩
  rw [S0_8] at he
  subst he
  replace H := H.call hb
  have HA := (H.allocAt 1 rfl w3.heap.size rfl #[.complex .f64 0 0, .complex .f64 0 0, .complex .f64 0 0, .complex .f64 0 0, .complex .f64 0 0, .complex .f64 0 0, .complex .f64 0 0, .complex .f64 0 0] 32).push_mk rfl
  have l0 := H.lt 0 rfl
  go_wp2_with fail
  refine (peak_s _ 8 8 xE SE PE _ (rd_lit _ [.float .f64 4607182418800017408, .float .f64 13830554455654793216, .float .f64 4607182418800017408, .float .f64 13830554455654793216, .float .f64 4607182418800017408, .float .f64 13830554455654793216, .float .f64 4607182418800017408, .float .f64 13830554455654793216] _ 8 _ (by simp) rfl) (by omega) SE_ok PE_ok).mono ?_
  rintro e w4 ⟨he, hb4⟩
  rw [PE_best.1, PE_best.2] at he
  subst he
  replace H := (HA.call ((Below.refl _ _).alloc (Nat.le_refl _) _)).call hb4
  clear HA hb hb4 l0
  generalize w3.heap.size = g2 at H ⊢
  go_wp2_with fail
  refine (peak_s none 0 0 [] S0 P0 w4 Rd.none_ (by omega) S0_ok P0_ok).mono ?_
  rintro e w5 ⟨he, hb5⟩
  rw [P0_best, show P0 1 = 0 from rfl] at he
  subst he
  replace H := H.call hb5
  clear hb5
  go_wp2_with fail
  refine (root_k (0) 0 (by decide) _).mono ?_
  rintro e w6 ⟨he, rfl⟩
  rw [show rootRe 0 = 4607182418800017408 from rfl, show rootIm 0 = 0 from rfl] at he
  subst he
  go_wp2_with fail
  refine (root_k (4) 4 (by decide) _).mono ?_
  rintro e w6 ⟨he, rfl⟩
  rw [show rootRe 4 = 13830554455654793216 from rfl, show rootIm 4 = 0 from rfl] at he
  subst he
  go_wp2_with fail
  refine (root_k (6) 6 (by decide) _).mono ?_
  rintro e w6 ⟨he, rfl⟩
  rw [show rootRe 6 = 0 from rfl, show rootIm 6 = 13830554455654793216 from rfl] at he
  subst he
  go_wp2_with fail
  refine (root_k (-2) 6 (by decide) _).mono ?_
  rintro e w6 ⟨he, rfl⟩
  rw [show rootRe 6 = 0 from rfl, show rootIm 6 = 13830554455654793216 from rfl] at he
  subst he
  go_wp2_with fail
  refine (root_k (-9223372036854775808) 0 (by decide) _).mono ?_
  rintro e w6 ⟨he, rfl⟩
  rw [show rootRe 0 = 4607182418800017408 from rfl, show rootIm 0 = 0 from rfl] at he
  subst he
  go_wp2_with fail
  refine (root_k (9223372036854775807) 7 (by decide) _).mono ?_
  rintro e w6 ⟨he, rfl⟩
  rw [show rootRe 7 = 4604544271217802189 from rfl, show rootIm 7 = 13827916308072577997 from rfl] at he
  subst he
  go_wp2_with fail
  refine (root_k (7) 7 (by decide) _).mono ?_
  rintro e w6 ⟨he, rfl⟩
  rw [show rootRe 7 = 4604544271217802189 from rfl, show rootIm 7 = 13827916308072577997 from rfl] at he
  subst he
  go_wp2_with fail
  refine (nan_s _).mono ?_
  rintro e w7 ⟨rfl, rfl⟩
  go_wp2_with fail
  refine (peak_n _ 1 9221120237041090561 _ (rd_lit _ [.float .f64 9221120237041090561] _ 1 _ rfl rfl) nan_is).mono ?_
  rintro e w8 ⟨r, rfl, hr, hb8⟩
  replace H := (H.call ((Below.refl _ _).alloc (Nat.le_refl _) _)).call hb8
  clear hb8
  go_wp2_with fail
  refine (eiAwake_s w8).mono ?_
  rintro e w9 ⟨rfl, hb9⟩
  replace H := H.call hb9
  have c2 := H.cell 0 rfl (o := 2) rfl
  have c7 := H.cell 0 rfl (o := 7) rfl
  have d0 := H.cell 1 rfl (o := 0) rfl
  have d1 := H.cell 1 rfl (o := 1) rfl
  have d2 := H.cell 1 rfl (o := 2) rfl
  have d3 := H.cell 1 rfl (o := 3) rfl
  have d4 := H.cell 1 rfl (o := 4) rfl
  have d5 := H.cell 1 rfl (o := 5) rfl
  have d6 := H.cell 1 rfl (o := 6) rfl
  have d7 := H.cell 1 rfl (o := 7) rfl
  have hne := order_ne hr.out
  have heq := eq_zeros w9
  go_wp2_with fail
  go_ret
  exact ⟨rfl, H.below⟩
end Go.Proofs.Ytgaghggnjemgoaa
