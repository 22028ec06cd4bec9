/- SHA-512: turned words, the tables, walked. -/
import Derived.Test.YthieegmmbjjcbaaSh5P
import Derived.Test.YthieegmmbjjcbaaTurn
import Derived.Test.YthieegmmbjjcbaaSep
import Derived.Test.YthieegmmbjjcbaaQTail
import Derived.Test.YthieegmmbjjcbaaHeld2
import Derived.Test.YthieegmmbjjcbaaKitO
namespace Go.Proofs.Ythieegmmbjjcbaa
open Go.RowKit
set_option linter.unusedVariables false
set_option maxRecDepth 100000

theorem hold_store {P : Program} {ops : Array Oper} {rest : List Oper} {o : Oper} {a : Act} {Q : Exit → Act → World → Prop} {w : World} (ty : TypeId) (x y : Operand) (ho : o.op = .store ty x y) (h : Hid (wpList P ops Q (o :: rest) a w)) : wpList P ops Q (o :: rest) a w := h

/-- an operation whose value is known -/
theorem wpList_build {P : Program} {ops : Array Oper} {rest : List Oper} {o : Oper} {a : Act} {Q : Exit → Act → World → Prop} {w : World} {t : TypeId} {xs : Array (Nat × Operand)} (ho : o.op = .build t xs) (v : Value) (hg : o.guard = none) (hv : (execOp a.eval o).run P w = .ok (.value v) w) (h : wpList P ops Q rest (a.put o.dst v) w) : wpList P ops Q (o :: rest) a w :=
  wpList_plain hg fun K hK => by
    unfold Oper.wp
    rw [hv]
    exact hK _ _ h

theorem right_any (x : UInt64) (n : Nat) (h1 : 1 ≤ n) (h2 : n < 64) (N : Int) (hN : N = n) (w : World) :
    Calls Try.prog 46 #[.int .u64 (x.toNat : Int), .int .i64 N] w fun e w' => e = .returned (.int .u64 ((ror64 x n).toNat : Int)) ∧ ∃ q, w' = w.drewN q := by
  subst hN
  have hc := turn_u64 x.toNat (-(n : Int)) w x.toNat_lt
  rw [show ((-(n : Int)) % 64).toNat = 64 - n by omega, ← ror64_toNat x n h2 h1] at hc
  have HC := Lib.hid hc
  clear hc
  go_enter Try.func46, Try.ntmps46
  go_wp2_with fail
  refine HC.out.mono ?_
  rintro e w1 ⟨rfl, q, rfl⟩
  go_wp2
  go_ret
  exact ⟨rfl, q, rfl⟩

theorem right_q (x : UInt64) (n : Nat) (h1 : 1 ≤ n) (h2 : n < 64) (N : Int) (hN : N = n) (w : World) (q : Nat) :
    Calls Try.prog 46 #[.int .u64 (x.toNat : Int), .int .i64 N] (w.drewN q) fun e w' => e = .returned (.int .u64 ((ror64 x n).toNat : Int)) ∧ ∃ m, w' = w.drewN m :=
  (right_any x n h1 h2 N hN (w.drewN q)).mono fun e w' h => ⟨h.1, by obtain ⟨m, rfl⟩ := h.2; exact ⟨q + m, by rw [World.drewN_drewN]⟩⟩
theorem rq_1 (x : UInt64) (w : World) (q : Nat) : Calls Try.prog 46 #[.int .u64 (x.toNat : Int), .int .i64 1] (w.drewN q) fun e w' => e = .returned (.int .u64 ((ror64 x 1).toNat : Int)) ∧ ∃ m, w' = w.drewN m :=
  right_q x 1 (by omega) (by omega) 1 rfl w q
theorem rq_8 (x : UInt64) (w : World) (q : Nat) : Calls Try.prog 46 #[.int .u64 (x.toNat : Int), .int .i64 8] (w.drewN q) fun e w' => e = .returned (.int .u64 ((ror64 x 8).toNat : Int)) ∧ ∃ m, w' = w.drewN m :=
  right_q x 8 (by omega) (by omega) 8 rfl w q
theorem rq_14 (x : UInt64) (w : World) (q : Nat) : Calls Try.prog 46 #[.int .u64 (x.toNat : Int), .int .i64 14] (w.drewN q) fun e w' => e = .returned (.int .u64 ((ror64 x 14).toNat : Int)) ∧ ∃ m, w' = w.drewN m :=
  right_q x 14 (by omega) (by omega) 14 rfl w q
theorem rq_18 (x : UInt64) (w : World) (q : Nat) : Calls Try.prog 46 #[.int .u64 (x.toNat : Int), .int .i64 18] (w.drewN q) fun e w' => e = .returned (.int .u64 ((ror64 x 18).toNat : Int)) ∧ ∃ m, w' = w.drewN m :=
  right_q x 18 (by omega) (by omega) 18 rfl w q
theorem rq_19 (x : UInt64) (w : World) (q : Nat) : Calls Try.prog 46 #[.int .u64 (x.toNat : Int), .int .i64 19] (w.drewN q) fun e w' => e = .returned (.int .u64 ((ror64 x 19).toNat : Int)) ∧ ∃ m, w' = w.drewN m :=
  right_q x 19 (by omega) (by omega) 19 rfl w q
theorem rq_28 (x : UInt64) (w : World) (q : Nat) : Calls Try.prog 46 #[.int .u64 (x.toNat : Int), .int .i64 28] (w.drewN q) fun e w' => e = .returned (.int .u64 ((ror64 x 28).toNat : Int)) ∧ ∃ m, w' = w.drewN m :=
  right_q x 28 (by omega) (by omega) 28 rfl w q
theorem rq_34 (x : UInt64) (w : World) (q : Nat) : Calls Try.prog 46 #[.int .u64 (x.toNat : Int), .int .i64 34] (w.drewN q) fun e w' => e = .returned (.int .u64 ((ror64 x 34).toNat : Int)) ∧ ∃ m, w' = w.drewN m :=
  right_q x 34 (by omega) (by omega) 34 rfl w q
theorem rq_39 (x : UInt64) (w : World) (q : Nat) : Calls Try.prog 46 #[.int .u64 (x.toNat : Int), .int .i64 39] (w.drewN q) fun e w' => e = .returned (.int .u64 ((ror64 x 39).toNat : Int)) ∧ ∃ m, w' = w.drewN m :=
  right_q x 39 (by omega) (by omega) 39 rfl w q
theorem rq_41 (x : UInt64) (w : World) (q : Nat) : Calls Try.prog 46 #[.int .u64 (x.toNat : Int), .int .i64 41] (w.drewN q) fun e w' => e = .returned (.int .u64 ((ror64 x 41).toNat : Int)) ∧ ∃ m, w' = w.drewN m :=
  right_q x 41 (by omega) (by omega) 41 rfl w q
theorem rq_61 (x : UInt64) (w : World) (q : Nat) : Calls Try.prog 46 #[.int .u64 (x.toNat : Int), .int .i64 61] (w.drewN q) fun e w' => e = .returned (.int .u64 ((ror64 x 61).toNat : Int)) ∧ ∃ m, w' = w.drewN m :=
  right_q x 61 (by omega) (by omega) 61 rfl w q

theorem zero80 : ∀ w, (zeroValue 80).run Try.prog w = .ok (.agg (List.replicate 80 (.int .u64 0)).toArray) w := by intro w; kernel_rfl
theorem tab_size : (Try.prog.info? 80).map (·.size) = some 80 := by kernel_rfl
theorem a8_size : (Try.prog.info? 69).map (·.size) = some 8 := by kernel_rfl
def kTabV : List Value := [.int .u64 4794697086780616226, .int .u64 8158064640168781261, .int .u64 13096744586834688815, .int .u64 16840607885511220156, .int .u64 4131703408338449720, .int .u64 6480981068601479193, .int .u64 10538285296894168987, .int .u64 12329834152419229976, .int .u64 15566598209576043074, .int .u64 1334009975649890238, .int .u64 2608012711638119052, .int .u64 6128411473006802146, .int .u64 8268148722764581231, .int .u64 9286055187155687089, .int .u64 11230858885718282805, .int .u64 13951009754708518548, .int .u64 16472876342353939154, .int .u64 17275323862435702243, .int .u64 1135362057144423861, .int .u64 2597628984639134821, .int .u64 3308224258029322869, .int .u64 5365058923640841347, .int .u64 6679025012923562964, .int .u64 8573033837759648693, .int .u64 10970295158949994411, .int .u64 12119686244451234320, .int .u64 12683024718118986047, .int .u64 13788192230050041572, .int .u64 14330467153632333762, .int .u64 15395433587784984357, .int .u64 489312712824947311, .int .u64 1452737877330783856, .int .u64 2861767655752347644, .int .u64 3322285676063803686, .int .u64 5560940570517711597, .int .u64 5996557281743188959, .int .u64 7280758554555802590, .int .u64 8532644243296465576, .int .u64 9350256976987008742, .int .u64 10552545826968843579, .int .u64 11727347734174303076, .int .u64 12113106623233404929, .int .u64 14000437183269869457, .int .u64 14369950271660146224, .int .u64 15101387698204529176, .int .u64 15463397548674623760, .int .u64 17586052441742319658, .int .u64 1182934255886127544, .int .u64 1847814050463011016, .int .u64 2177327727835720531, .int .u64 2830643537854262169, .int .u64 3796741975233480872, .int .u64 4115178125766777443, .int .u64 5681478168544905931, .int .u64 6601373596472566643, .int .u64 7507060721942968483, .int .u64 8399075790359081724, .int .u64 8693463985226723168, .int .u64 9568029438360202098, .int .u64 10144078919501101548, .int .u64 10430055236837252648, .int .u64 11840083180663258601, .int .u64 13761210420658862357, .int .u64 14299343276471374635, .int .u64 14566680578165727644, .int .u64 15097957966210449927, .int .u64 16922976911328602910, .int .u64 17689382322260857208, .int .u64 500013540394364858, .int .u64 748580250866718886, .int .u64 1242879168328830382, .int .u64 1977374033974150939, .int .u64 2944078676154940804, .int .u64 3659926193048069267, .int .u64 4368137639120453308, .int .u64 4836135668995329356, .int .u64 5532061633213252278, .int .u64 6448918945643986474, .int .u64 6902733635092675308, .int .u64 7801388544844847127]
theorem kTabV_eq : kTab5.map u64v = kTabV := by kernel_rfl
def hBegV : List Value := [.int .u64 7640891576956012808, .int .u64 13503953896175478587, .int .u64 4354685564936845355, .int .u64 11912009170470909681, .int .u64 5840696475078001361, .int .u64 11170449401992604703, .int .u64 2270897969802886507, .int .u64 6620516959819538809]
theorem hBegV_eq : hBeg5.map u64v = hBegV := by kernel_rfl

set_option maxHeartbeats 1000000 in
theorem table_s (w : World) : Calls Try.prog 47 #[] w fun e w' => e = .returned (.agg (kTab5.map u64v).toArray) ∧ Below w.heap.size w w' := by
  have hz0 := zero80
  go_enter Try.func47, Try.ntmps47
  go_upto_region 1 with fail
  refine absorb_wp (St.start_lay w [] |>.allocAt 0 rfl w.heap.size rfl _ _ |>.push_mk rfl) ?_
  intro w3 H3
  generalize w.heap.size = g1 at H3 ⊢
  replace H3 : St w [] w3 (lay [.blk g1 80 (List.replicate 80 (.int .u64 0))]) := H3
  have ht : w3.there g1 0 kTabV.toArray.size := by have := H3.there 0 rfl; rw [List.length_replicate] at this; exact this
  have h1 : kTabV.toArray.all (·.oneCell') = true := all_oneCell_toArray (by rw [← kTabV_eq]; exact u64_one _)
  go_wp2_with (first | (refine wpList_build rfl (.agg kTabV.toArray) rfl (by kernel_rfl) ?_) | (with_reducible refine hold_store 80 (.tmp 0) (.tmp 1) (by rfl) ?_))
  refine Lib.hid ?_
  refine wpList_store_mid rfl 80 (.tmp 0) (.tmp 1) rfl g1 0 kTabV.toArray (by rfl) (by rfl) ht (by rw [tab_size]; rfl) h1 ?_
  have H4 := (H3.storeAll 0 rfl (vs := kTabV) rfl).upd_mk (by simp)
  show wpList Try.prog _ _ [] _ (w3.setCells g1 0 kTabV)
  go_wp2
  exact bodyPost_ret (results_cell_row rfl _ _ g1 80 kTabV.toArray _ _ rfl (H4.blk 0 rfl) Try.underlying80 rfl (by rw [tab_size]; rfl)) rfl ⟨by rw [kTabV_eq], H4.below⟩

set_option maxHeartbeats 1000000 in
theorem first_s (w : World) : Calls Try.prog 35 #[] w fun e w' => e = .returned (.agg (hBeg5.map u64v).toArray) ∧ Below w.heap.size w w' := by
  have hz0 := zero80
  go_enter Try.func35, Try.ntmps35
  go_upto_region 1 with fail
  refine absorb_wp (St.start_lay w [] |>.allocAt 0 rfl w.heap.size rfl _ _ |>.push_mk rfl) ?_
  intro w3 H3
  generalize w.heap.size = g1 at H3 ⊢
  replace H3 : St w [] w3 (lay [.blk g1 69 (List.replicate 8 (.int .u64 0))]) := H3
  have ht : w3.there g1 0 hBegV.toArray.size := by have := H3.there 0 rfl; rw [List.length_replicate] at this; exact this
  have h1 : hBegV.toArray.all (·.oneCell') = true := all_oneCell_toArray (by rw [← hBegV_eq]; exact u64_one _)
  go_wp2_with (first | (refine wpList_build rfl (.agg hBegV.toArray) rfl (by kernel_rfl) ?_) | (with_reducible refine hold_store 69 (.tmp 0) (.tmp 1) (by rfl) ?_))
  refine Lib.hid ?_
  refine wpList_store_mid rfl 69 (.tmp 0) (.tmp 1) rfl g1 0 hBegV.toArray (by rfl) (by rfl) ht (by rw [a8_size]; rfl) h1 ?_
  have H4 := (H3.storeAll 0 rfl (vs := hBegV) rfl).upd_mk (by simp)
  show wpList Try.prog _ _ [] _ (w3.setCells g1 0 hBegV)
  go_wp2
  exact bodyPost_ret (results_cell_row rfl _ _ g1 69 hBegV.toArray _ _ rfl (H4.blk 0 rfl) Try.underlying69 rfl (by rw [a8_size]; rfl)) rfl ⟨by rw [hBegV_eq], H4.below⟩
end Go.Proofs.Ythieegmmbjjcbaa
