/- T of two lists; the examples of layer 29. -/
import Derived.Test.YtpmgklmgaienhaaMeA
import Derived.Laws.Externs
namespace Go.Proofs.Ytpmgklmgaienhaa
open Go.RowKit
set_option linter.unusedVariables false
set_option maxRecDepth 100000

theorem bits_callM (n : Nat) (w : World) : (callFunc 40 #[.int .u64 (n : Int)]).run Try.prog w = .ok (.value (.float .f64 n)) w := by
  rw [run_callFunc_extern (P := Try.prog) (f := 40) (fn := Try.f40) (e := Extern.MathFloatBits.float64frombits) Try.func40 (by kernel_rfl) (by kernel_rfl) (by kernel_rfl) (by kernel_rfl)]
  rfl
theorem inf_neg (w : World) : Calls Try.prog 19 #[.int .i64 (-1)] w fun e w' => e = .returned (.float .f64 18442240474082181120) ∧ w' = w := by
  have hs : ∀ w, (callFunc 40 #[.int .u64 18442240474082181120]).run Try.prog w = .ok (.value (.float .f64 18442240474082181120)) w := bits_callM 18442240474082181120
  go_enter Try.func19, Try.ntmps19
  go_wp2
  go_ret
  exact ⟨rfl, rfl⟩

theorem t_known (A B : Option Addr) (c d : Nat) (w : World) (hA : Rd w 1 A 2 ([4611686018427387904, 4611686018427387904].map flV)) (hB : Rd w 1 B 2 ([4613937818241073152, 4613937818241073152].map flV)) :
    Calls Try.prog 11 #[.slice A 2 c, .slice B 2 d] w fun e w' => e = .returned (.tuple #[.float .f64 18442240474082181120, .int .i64 0]) ∧ Below w.heap.size w w' := by
  have H := St.start_lay w []
  have m1 := fun (t : TypeId) (w : World) => run_float_arith (P := Try.prog) w .sub t .f64 4611686018427387904 4613937818241073152 13830554455654793216 (by decide +kernel)
  have m2 := fun (t : TypeId) (w : World) => run_float_arith (P := Try.prog) w .quo t .f64 0 (floatOfInt .f64 2) 0 (by decide +kernel)
  have m3 := fun (t : TypeId) (w : World) => run_float_arith (P := Try.prog) w .add t .f64 0 0 0 (by decide +kernel)
  have q0 : FloatKind.f64.format.order 0 0 = some Ordering.eq := by decide +kernel
  have q1 : FloatKind.f64.format.order 13830554455654793216 0 = some Ordering.lt := by decide +kernel
  go_enter Try.func11, Try.ntmps11
  go_wp2_with fail
  refine (mean_s A 2 c _ 4616189618054758400 4611686018427387904 w hA (by omega) (by omega) (by decide +kernel) (by decide +kernel)).mono ?_
  rintro e w1 ⟨rfl, hb⟩
  replace H := H.call hb
  clear hb
  go_wp2_with fail
  refine (mean_s B 2 d _ 4618441417868443648 4613937818241073152 w1 (H.arg0 hB) (by omega) (by omega) (by decide +kernel) (by decide +kernel)).mono ?_
  rintro e w2 ⟨rfl, hb⟩
  replace H := H.call hb
  clear hb
  go_wp2_with fail
  refine (spread_s A 2 c _ 4616189618054758400 4611686018427387904 0 0 w2 (H.arg0 hA) (by omega) (by omega) (by decide +kernel) (by decide +kernel) (by decide +kernel) (by decide +kernel)).mono ?_
  rintro e w3 ⟨rfl, hb⟩
  replace H := H.call hb
  clear hb
  go_wp2_with fail
  refine (spread_s B 2 d _ 4618441417868443648 4613937818241073152 0 0 w3 (H.arg0 hB) (by omega) (by omega) (by decide +kernel) (by decide +kernel) (by decide +kernel) (by decide +kernel)).mono ?_
  rintro e w4 ⟨rfl, hb⟩
  replace H := H.call hb
  clear hb
  go_wp2_with fail
  refine (inf_neg w4).mono ?_
  rintro e w5 ⟨rfl, rfl⟩
  go_wp2
  go_ret2
  exact ⟨rfl, H.below⟩

theorem St.rdBlkM {w0 w : World} {F0 : List Nat} {E : Env} {g : Nat} {T : TypeId} {cs : List Value} (H : St w0 F0 w E) (k : Nat) (hk : E k = some (.blk g T cs)) (size n : Nat) (hl : cs.length = n * size) : Rd w size (some ⟨g, 0, none⟩) n cs :=
  ⟨hl, fun _ => ⟨_, rfl, H.lt k hk, fun j u hu => by rw [Addr.add_mid, Nat.zero_add]; exact H.cell k hk hu⟩⟩
theorem lives29_s (w : World) : Calls Try.prog 9 #[] w fun e w' => e = .returned (.bool true) ∧ Below w.heap.size w w' := by
  have H := St.start_lay w []
  have q0 : FloatKind.f64.format.order 4613937818241073152 4613937818241073152 = some Ordering.eq := by decide +kernel
  have q1 : FloatKind.f64.format.order 4614688418178968235 4614688418178968235 = some Ordering.eq := by decide +kernel
  have q2 : FloatKind.f64.format.order 18442240474082181120 18442240474082181120 = some Ordering.eq := by decide +kernel
  go_enter Try.func9, Try.ntmps9
  go_wp2_with fail
  refine absorb_calls (H.allocAt 0 rfl w.heap.size rfl #[.float .f64 4611686018427387904, .float .f64 4611686018427387904] 25 |>.push_mk rfl |>.allocAt 1 rfl (w.heap.size + 1) (by simp) #[.float .f64 4613937818241073152, .float .f64 4613937818241073152] 25 |>.push_mk rfl) ?_
  clear H
  intro w1 H
  generalize w.heap.size + 1 = g1 at H ⊢
  generalize w.heap.size = g0 at H ⊢
  refine (t_known (some ⟨g0, 0, none⟩) (some ⟨g1, 0, none⟩) 2 2 w1 (H.rdBlkM 0 rfl 1 2 rfl) (H.rdBlkM 1 rfl 1 2 rfl)).mono ?_
  rintro e w2 ⟨rfl, hb⟩
  replace H := (H.call hb).front 0
  replace H : St w [] w2 (lay []) := H
  clear hb
  go_wp2_with fail
  refine absorb_calls (H.allocAt 0 rfl w2.heap.size rfl #[.float .f64 4607182418800017408, .float .f64 4611686018427387904, .float .f64 4616189618054758400, .float .f64 4617315517961601024] 25 |>.push_mk rfl) ?_
  clear H
  intro w3 H
  generalize w2.heap.size = g2 at H ⊢
  refine (mean_s (some ⟨g2, 0, none⟩) 4 4 [4607182418800017408, 4611686018427387904, 4616189618054758400, 4617315517961601024] 4622945017495814144 4613937818241073152 w3 (H.rdBlkM 0 rfl 1 4 rfl) (by omega) (by omega) (by decide +kernel) (by decide +kernel)).mono ?_
  rintro e w4 ⟨rfl, hb⟩
  replace H := (H.call hb).front 0
  replace H : St w [] w4 (lay []) := H
  clear hb
  go_wp2_with fail
  refine absorb_calls (H.allocAt 0 rfl w4.heap.size rfl #[.float .f64 4607182418800017408, .float .f64 4611686018427387904, .float .f64 4616189618054758400, .float .f64 4617315517961601024] 25 |>.push_mk rfl) ?_
  clear H
  intro w5 H
  generalize w4.heap.size = g2 at H ⊢
  refine (spread_s (some ⟨g2, 0, none⟩) 4 4 [4607182418800017408, 4611686018427387904, 4616189618054758400, 4617315517961601024] 4622945017495814144 4613937818241073152 4621819117588971520 4614688418178968235 w5 (H.rdBlkM 0 rfl 1 4 rfl) (by omega) (by omega) (by decide +kernel) (by decide +kernel) (by decide +kernel) (by decide +kernel)).mono ?_
  rintro e w6 ⟨rfl, hb⟩
  replace H := (H.call hb).front 0
  replace H : St w [] w6 (lay []) := H
  clear hb
  go_wp2_with fail
  refine (inf_neg w6).mono ?_
  rintro e w7 ⟨rfl, rfl⟩
  go_wp2
  go_ret
  exact ⟨rfl, H.below⟩
end Go.Proofs.Ytpmgklmgaienhaa
