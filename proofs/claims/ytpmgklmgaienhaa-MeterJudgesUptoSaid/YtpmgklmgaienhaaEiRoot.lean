/- Eighths of a turn: Root, in eighth and in the document; the law EighthRoots, walked. -/
import Derived.Test.YtpmgklmgaienhaaRows
import Derived.Test.YtpmgklmgaienhaaSep
import Derived.WalkLawsBesides
import Derived.Laws.Externs
import Derived.Laws.BitsLemmas
namespace Go.Proofs.Ytpmgklmgaienhaa
open Go.RowKit
set_option linter.unusedVariables false

theorem sqrt_call (w : World) : (callFunc 55 #[.float .f64 4602678819172646912]).run Try.prog w = .ok (.value (.float .f64 4604544271217802189)) w := by
  rw [run_callFunc_extern (P := Try.prog) (f := 55) (fn := Try.f55) (e := Extern.MathSqrt.sqrt) Try.func55 (by kernel_rfl) (by kernel_rfl) (by kernel_rfl) (by kernel_rfl)]
  have h : FloatKind.f64.format.sqrt 4602678819172646912 = some 4604544271217802189 := by decide +kernel
  have e : Extern.MathSqrt.sqrt #[.float .f64 4602678819172646912] = pure (.float .f64 4604544271217802189) := by
    change (match FloatKind.f64.format.sqrt 4602678819172646912 with | some r => pure (Value.float .f64 r) | none => do pure (Value.float .f64 (← choose (.nanBits .f64 4602678819172646912 4602678819172646912)))) = _
    rw [h]
  rw [e]
  rfl
theorem sqrt_s (w : World) : Calls Try.prog 35 #[.float .f64 4602678819172646912] w fun e w' => e = .returned (.float .f64 4604544271217802189) ∧ w' = w := by
  have hs := sqrt_call
  go_enter Try.func35, Try.ntmps35
  go_wp2
  go_ret
  exact ⟨rfl, rfl⟩
theorem i64_and7 (n : Int) : bits .and .i64 n 7 = n % 8 := by
  have h7 : (BitVec.ofInt 64 7).toNat = 2 ^ 3 - 1 := by decide
  have key : (BitVec.ofInt 64 n &&& BitVec.ofInt 64 7).toNat = (n % ((2 ^ 64 : Nat) : Int)).toNat % 2 ^ 3 := by
    rw [BitVec.toNat_and, BitVec.toNat_ofInt, h7, Nat.and_two_pow_sub_one_eq_mod]
  show IntKind.i64.wrap ((BitVec.ofInt 64 n &&& BitVec.ofInt 64 7).toNat : Nat) = n % 8
  rw [key, IntKind.wrap_i64]
  omega
theorem neg_h (w : World) : (Op.unary UnOp.neg (.float .f64 4604544271217802189)).run Try.prog w = .ok (.float .f64 13827916308072577997) w := by
  have h : Op.negFloat .f64 4604544271217802189 = 13827916308072577997 := by decide +kernel
  simp only [Op.unary, h]
  rfl
theorem f8_size : (Try.prog.info? 79).map (·.size) = some 8 := by kernel_rfl
theorem setCells_size (vs : List Value) : ∀ (w : World) (g o : Nat), (w.setCells g o vs).heap.size = w.heap.size := by
  induction vs with
  | nil => intro w g o; rfl
  | cons v vs ih => intro w g o; show ((w.setCell ⟨g, o, none⟩ v).setCells g (o + 1) vs).heap.size = _; rw [ih]; simp [World.setCell]
/-- the parts of an eighth of a turn, c times, as bits -/
def rootRe (c : Nat) : Nat := [4607182418800017408, 4604544271217802189, 0, 13827916308072577997, 13830554455654793216, 13827916308072577997, 0, 4604544271217802189].getD c 0
def rootIm (c : Nat) : Nat := [0, 4604544271217802189, 4607182418800017408, 4604544271217802189, 0, 13827916308072577997, 13830554455654793216, 13827916308072577997].getD c 0
theorem root_0 (k : Int) (w : World) (h : bits BinOp.and IntKind.i64 k 7 = 0) : Calls Try.prog 64 #[.int .i64 k] w fun e w' => e = .returned (.complex .f64 4607182418800017408 0) ∧ w' = w := by
  have hn := neg_h w
  go_enter Try.func64, Try.ntmps64
  go_wp2_with fail
  refine (sqrt_s w).mono ?_
  rintro e w2 ⟨rfl, rfl⟩
  go_wp2
  go_ret
  exact ⟨rfl, rfl⟩
theorem root_1 (k : Int) (w : World) (h : bits BinOp.and IntKind.i64 k 7 = 1) : Calls Try.prog 64 #[.int .i64 k] w fun e w' => e = .returned (.complex .f64 4604544271217802189 4604544271217802189) ∧ w' = w := by
  have hn := neg_h w
  go_enter Try.func64, Try.ntmps64
  go_wp2_with fail
  refine (sqrt_s w).mono ?_
  rintro e w2 ⟨rfl, rfl⟩
  go_wp2
  go_ret
  exact ⟨rfl, rfl⟩
theorem root_2 (k : Int) (w : World) (h : bits BinOp.and IntKind.i64 k 7 = 2) : Calls Try.prog 64 #[.int .i64 k] w fun e w' => e = .returned (.complex .f64 0 4607182418800017408) ∧ w' = w := by
  have hn := neg_h w
  go_enter Try.func64, Try.ntmps64
  go_wp2_with fail
  refine (sqrt_s w).mono ?_
  rintro e w2 ⟨rfl, rfl⟩
  go_wp2
  go_ret
  exact ⟨rfl, rfl⟩
theorem root_3 (k : Int) (w : World) (h : bits BinOp.and IntKind.i64 k 7 = 3) : Calls Try.prog 64 #[.int .i64 k] w fun e w' => e = .returned (.complex .f64 13827916308072577997 4604544271217802189) ∧ w' = w := by
  have hn := neg_h w
  go_enter Try.func64, Try.ntmps64
  go_wp2_with fail
  refine (sqrt_s w).mono ?_
  rintro e w2 ⟨rfl, rfl⟩
  go_wp2
  go_ret
  exact ⟨rfl, rfl⟩
theorem root_4 (k : Int) (w : World) (h : bits BinOp.and IntKind.i64 k 7 = 4) : Calls Try.prog 64 #[.int .i64 k] w fun e w' => e = .returned (.complex .f64 13830554455654793216 0) ∧ w' = w := by
  have hn := neg_h w
  go_enter Try.func64, Try.ntmps64
  go_wp2_with fail
  refine (sqrt_s w).mono ?_
  rintro e w2 ⟨rfl, rfl⟩
  go_wp2
  go_ret
  exact ⟨rfl, rfl⟩
theorem root_5 (k : Int) (w : World) (h : bits BinOp.and IntKind.i64 k 7 = 5) : Calls Try.prog 64 #[.int .i64 k] w fun e w' => e = .returned (.complex .f64 13827916308072577997 13827916308072577997) ∧ w' = w := by
  have hn := neg_h w
  go_enter Try.func64, Try.ntmps64
  go_wp2_with fail
  refine (sqrt_s w).mono ?_
  rintro e w2 ⟨rfl, rfl⟩
  go_wp2
  go_ret
  exact ⟨rfl, rfl⟩
theorem root_6 (k : Int) (w : World) (h : bits BinOp.and IntKind.i64 k 7 = 6) : Calls Try.prog 64 #[.int .i64 k] w fun e w' => e = .returned (.complex .f64 0 13830554455654793216) ∧ w' = w := by
  have hn := neg_h w
  go_enter Try.func64, Try.ntmps64
  go_wp2_with fail
  refine (sqrt_s w).mono ?_
  rintro e w2 ⟨rfl, rfl⟩
  go_wp2
  go_ret
  exact ⟨rfl, rfl⟩
theorem root_7 (k : Int) (w : World) (h : bits BinOp.and IntKind.i64 k 7 = 7) : Calls Try.prog 64 #[.int .i64 k] w fun e w' => e = .returned (.complex .f64 4604544271217802189 13827916308072577997) ∧ w' = w := by
  have hn := neg_h w
  go_enter Try.func64, Try.ntmps64
  go_wp2_with fail
  refine (sqrt_s w).mono ?_
  rintro e w2 ⟨rfl, rfl⟩
  go_wp2
  go_ret
  exact ⟨rfl, rfl⟩
theorem root_s (k : Int) (w : World) : Calls Try.prog 64 #[.int .i64 k] w fun e w' => e = .returned (.complex .f64 (rootRe (k % 8).toNat) (rootIm (k % 8).toNat)) ∧ w' = w := by
  have h := i64_and7 k
  have hc : k % 8 = 0 ∨ k % 8 = 1 ∨ k % 8 = 2 ∨ k % 8 = 3 ∨ k % 8 = 4 ∨ k % 8 = 5 ∨ k % 8 = 6 ∨ k % 8 = 7 := by omega
  rcases hc with h1 | h1 | h1 | h1 | h1 | h1 | h1 | h1 <;> rw [h1] at h ⊢
  · exact root_0 k w h
  · exact root_1 k w h
  · exact root_2 k w h
  · exact root_3 k w h
  · exact root_4 k w h
  · exact root_5 k w h
  · exact root_6 k w h
  · exact root_7 k w h

theorem rootRe_get {c : Nat} (h : c < 8) : ([.float .f64 4607182418800017408, .float .f64 4604544271217802189, .float .f64 0, .float .f64 13827916308072577997, .float .f64 13830554455654793216, .float .f64 13827916308072577997, .float .f64 0, .float .f64 4604544271217802189] : List Value)[c]? = some (.float .f64 (rootRe c)) := by
  have hc : c = 0 ∨ c = 1 ∨ c = 2 ∨ c = 3 ∨ c = 4 ∨ c = 5 ∨ c = 6 ∨ c = 7 := by omega
  rcases hc with rfl | rfl | rfl | rfl | rfl | rfl | rfl | rfl <;> rfl
theorem rootIm_get {c : Nat} (h : c < 8) : ([.float .f64 0, .float .f64 4604544271217802189, .float .f64 4607182418800017408, .float .f64 4604544271217802189, .float .f64 0, .float .f64 13827916308072577997, .float .f64 13830554455654793216, .float .f64 13827916308072577997] : List Value)[c]? = some (.float .f64 (rootIm c)) := by
  have hc : c = 0 ∨ c = 1 ∨ c = 2 ∨ c = 3 ∨ c = 4 ∨ c = 5 ∨ c = 6 ∨ c = 7 := by omega
  rcases hc with rfl | rfl | rfl | rfl | rfl | rfl | rfl | rfl <;> rfl

set_option maxHeartbeats 4000000 in
theorem refRoot_s (k : Int) (w : World) (h1 : -9223372036854775808 ≤ k) (h2 : k ≤ 9223372036854775807) : Calls Try.prog 65 #[.int .i64 k] w fun e w' => e = .returned (.tuple #[.float .f64 (rootRe (k % 8).toNat), .float .f64 (rootIm (k % 8).toNat)]) ∧ Below w.heap.size w w' := by
  have hn := neg_h
  obtain ⟨c, hc⟩ : ∃ c, (k % 8).toNat = c := ⟨_, rfl⟩
  rw [hc]
  have hlt : c < 8 := by omega
  have hr : (k.tmod 8 = c ∧ 0 ≤ k.tmod 8) ∨ (k.tmod 8 = c - 8 ∧ k.tmod 8 < 0) := by
    rw [Int.tmod_eq_emod (a := k) (b := 8)]
    split <;> omega
  obtain ⟨r, hr'⟩ : ∃ r, k.tmod 8 = r := ⟨_, rfl⟩
  rw [hr'] at hr
  have hw : wrap64 r = r := IntWalk.wrap64_in _ (by omega)
  have H0 := St.start_lay w []
  have f1 := rootRe_get hlt
  have f2 := rootIm_get hlt
  have HF1 := Lib.hid f1
  have HF2 := Lib.hid f2
  clear f1 f2
  have hc8 : (c : Int) < 8 := by omega
  have HC := Lib.hid hc
  clear hc h1 h2
  go_enter Try.func65, Try.ntmps65
  rcases hr with ⟨e1, e2⟩ | ⟨e1, e2⟩
  · have hneg : ¬ (r < 0) := by omega
    subst e1
    clear e2
    go_wp2_with fail
    refine (sqrt_s w).mono ?_
    rintro e w2 ⟨rfl, rfl⟩
    have hn2 := hn w2
    have HA := H0.allocAt 0 rfl w2.heap.size rfl #[.float .f64 4607182418800017408, .float .f64 4604544271217802189, .float .f64 0, .float .f64 13827916308072577997, .float .f64 13830554455654793216, .float .f64 13827916308072577997, .float .f64 0, .float .f64 4604544271217802189] 79 |>.push_mk rfl |>.allocAt 1 rfl (w2.heap.size + 1) (by simp) #[.float .f64 0, .float .f64 4604544271217802189, .float .f64 4607182418800017408, .float .f64 4604544271217802189, .float .f64 0, .float .f64 13827916308072577997, .float .f64 13830554455654793216, .float .f64 13827916308072577997] 79 |>.push_mk rfl
    have hst := fun (a : Addr) (b : Nat) (m : Mode) (w : World) => run_store Try.prog w a (.float .f64 b) m rfl
    go_wp2

    refine absorb_wp HA ?_
    clear hst
    clear HA H0 hn2
    intro w3 H
    generalize w2.heap.size + 1 = g2 at H ⊢
    generalize w2.heap.size = g1 at H ⊢
    have a1 := H.cell 0 rfl HF1.out
    have a2 := H.cell 1 rfl HF2.out
    go_quiet (fail)
    go_wp2
    go_ret2
    exact ⟨rfl, bdrewN H.below _⟩
  · have hneg : (r < 0) := by omega
    have hadd : wrap64 (r + 8) = (c : Int) := by rw [IntWalk.wrap64_in _ (by omega)]; omega
    have hadd2 : IntKind.i64.wrap (r + 8) = (c : Int) := by rw [IntWalk.i64_in _ (by omega)]; omega
    clear e1 e2
    go_wp2_with fail
    refine (sqrt_s w).mono ?_
    rintro e w2 ⟨rfl, rfl⟩
    have hn2 := hn w2
    have HA := H0.allocAt 0 rfl w2.heap.size rfl #[.float .f64 4607182418800017408, .float .f64 4604544271217802189, .float .f64 0, .float .f64 13827916308072577997, .float .f64 13830554455654793216, .float .f64 13827916308072577997, .float .f64 0, .float .f64 4604544271217802189] 79 |>.push_mk rfl |>.allocAt 1 rfl (w2.heap.size + 1) (by simp) #[.float .f64 0, .float .f64 4604544271217802189, .float .f64 4607182418800017408, .float .f64 4604544271217802189, .float .f64 0, .float .f64 13827916308072577997, .float .f64 13830554455654793216, .float .f64 13827916308072577997] 79 |>.push_mk rfl
    have hst := fun (a : Addr) (b : Nat) (m : Mode) (w : World) => run_store Try.prog w a (.float .f64 b) m rfl
    go_wp2

    refine absorb_wp HA ?_
    clear hst
    clear HA H0 hn2
    intro w3 H
    generalize w2.heap.size + 1 = g2 at H ⊢
    generalize w2.heap.size = g1 at H ⊢
    have a1 := H.cell 0 rfl HF1.out
    have a2 := H.cell 1 rfl HF2.out
    go_quiet (fail)
    go_wp2
    go_ret2
    exact ⟨rfl, bdrewN H.below _⟩

end Go.Proofs.Ytpmgklmgaienhaa
