/- Power, Peak; the examples of layer 28. -/
import Derived.Test.YtpmgklmgaienhaaEiSums
namespace Go.Proofs.Ytpmgklmgaienhaa
open Go.RowKit
set_option linter.unusedVariables false

theorem power_s (a b p q r : Nat) (w : World) (e1 : floatBits .mul .f64 a a = some p) (e2 : floatBits .mul .f64 b b = some q) (e3 : floatBits .add .f64 p q = some r) :
    Calls Try.prog 61 #[.complex .f64 a b] w fun e w' => e = .returned (.float .f64 r) ∧ w = w' := by
  have m1 := fun (t : TypeId) (w : World) => run_float_arith (P := Try.prog) w .mul t .f64 _ _ _ e1
  have m2 := fun (t : TypeId) (w : World) => run_float_arith (P := Try.prog) w .mul t .f64 _ _ _ e2
  have m3 := fun (t : TypeId) (w : World) => run_float_arith (P := Try.prog) w .add t .f64 _ _ _ e3
  clear e1 e2 e3
  go_enter Try.func61, Try.ntmps61
  go_wp2
  go_ret
  exact ⟨rfl, rfl⟩

/-- the parts' power, or 0 -/
def powO (z : Nat × Nat) : Option Nat := (floatBits .mul .f64 z.1 z.1).bind fun p => (floatBits .mul .f64 z.2 z.2).bind fun q => floatBits .add .f64 p q
theorem power_o (z : Nat × Nat) (r : Nat) (w : World) (h : powO z = some r) : Calls Try.prog 61 #[.complex .f64 z.1 z.2] w fun e w' => e = .returned (.float .f64 r) ∧ w = w' := by
  unfold powO at h
  cases a : floatBits .mul .f64 z.1 z.1 with
  | none => rw [a] at h; simp at h
  | some p =>
    cases b : floatBits .mul .f64 z.2 z.2 with
    | none => rw [a, b] at h; simp at h
    | some q =>
      rw [a, b] at h
      exact power_s z.1 z.2 p q r w a b h
def xA : List Nat := [4607182418800017408, 4611686018427387904, 4613937818241073152, 4616189618054758400]
def SA (k : Nat) : Nat × Nat := [(4621819117588971520, 0), (13824505464953302840, 13843212543757085914), (13835058055282163712, 4611686018427387904), (4612618744449965542, 13831647212162888551), (13835058055282163712, 0), (4612618744449965542, 4608275175308112743), (13835058055282163712, 13835058055282163712), (13824505464953302840, 4619840506902310106)].getD k (0, 0)
theorem SA_ok : ∀ k, k < 8 → sumTo k xA 4 = some (SA k) := by
  have h : ∀ k ∈ List.range 8, sumTo k xA 4 = some (SA k) := by decide +kernel
  exact fun k hk => h k (List.mem_range.2 hk)
def xB : List Nat := [4607182418800017408, 0, 4611686018427387904, 0, 4613937818241073152, 0, 4616189618054758400, 0]
def SB (k : Nat) : Nat × Nat := [(4621819117588971520, 0), (13835058055282163712, 4611686018427387904), (13835058055282163712, 0), (13835058055282163712, 13835058055282163712), (4621819117588971520, 0), (13835058055282163712, 4611686018427387904), (13835058055282163712, 0), (13835058055282163712, 13835058055282163712)].getD k (0, 0)
theorem SB_ok : ∀ k, k < 8 → sumTo k xB 8 = some (SB k) := by
  have h : ∀ k ∈ List.range 8, sumTo k xB 8 = some (SB k) := by decide +kernel
  exact fun k hk => h k (List.mem_range.2 hk)
def xC : List Nat := [4617315517961601024]
def SC (k : Nat) : Nat × Nat := [(4617315517961601024, 0), (4617315517961601024, 0), (4617315517961601024, 0), (4617315517961601024, 0), (4617315517961601024, 0), (4617315517961601024, 0), (4617315517961601024, 0), (4617315517961601024, 0)].getD k (0, 0)
theorem SC_ok : ∀ k, k < 8 → sumTo k xC 1 = some (SC k) := by
  have h : ∀ k ∈ List.range 8, sumTo k xC 1 = some (SC k) := by decide +kernel
  exact fun k hk => h k (List.mem_range.2 hk)

theorem cells8_get (S : Nat → Nat × Nat) {k : Nat} (h : k < 8) : (cellsTo 8 S)[k]? = some (.complex .f64 (S k).1 (S k).2) := by
  unfold cellsTo
  rw [List.getElem?_map, List.getElem?_range h]
  simp [h]
def c8 (S : Nat → Nat × Nat) : List Value := [.complex .f64 (S 0).1 (S 0).2, .complex .f64 (S 1).1 (S 1).2, .complex .f64 (S 2).1 (S 2).2, .complex .f64 (S 3).1 (S 3).2, .complex .f64 (S 4).1 (S 4).2, .complex .f64 (S 5).1 (S 5).2, .complex .f64 (S 6).1 (S 6).2, .complex .f64 (S 7).1 (S 7).2]
theorem cells8 (S : Nat → Nat × Nat) : cellsTo 8 S = c8 S := rfl
theorem c8_get (S : Nat → Nat × Nat) {k : Nat} (h : k < 8) : (c8 S)[k]? = some (.complex .f64 (S k).1 (S k).2) := cells8 S ▸ cells8_get S h
/-- which of the powers 1 to k - 1 is the greatest -/
def bestTo (P : Nat → Nat) : Nat → Nat
  | 0 => 1
  | k + 1 => if k < 2 then 1 else if FloatKind.f64.format.order (P k) (P (bestTo P k)) = some Ordering.gt then k else bestTo P k
theorem bestTo_in (P : Nat → Nat) (k : Nat) (h : k ≤ 5) : 1 ≤ bestTo P k ∧ bestTo P k < 5 := by
  induction k with
  | zero => exact ⟨Nat.le_refl _, by show 1 < 5; omega⟩
  | succ k ih =>
    have := ih (by omega)
    unfold bestTo
    split
    · omega
    · split <;> omega

set_option maxRecDepth 100000 in
set_option maxHeartbeats 4000000 in
theorem peak_s (A : Option Addr) (n c : Nat) (x : List Nat) (S : Nat → Nat × Nat) (P : Nat → Nat) (w : World) (hR : Rd w 1 A n (x.map fv)) (hn : n ≤ 1000000) (hS : ∀ k, k < 8 → sumTo k x n = some (S k)) (hP : ∀ k, k < 8 → powO (S k) = some (P k)) :
    Calls Try.prog 49 #[.slice A n c] w fun e w' => e = .returned (.tuple #[.int .i64 (bestTo P 5 : Nat), .float .f64 (P (bestTo P 5))]) ∧ Below w.heap.size w w' := by
  have HP := Lib.hid hP
  clear hP
  go_enter Try.func49, Try.ntmps49
  go_wp2_with fail
  refine (sums_s A n c x S w hR hn hS).mono ?_
  rintro e w2 ⟨he, hb⟩
  rw [cells8] at he
  subst he
  have HA := ((St.start_lay w []).call hb).allocAt 0 rfl w2.heap.size rfl (c8 S).toArray 76 |>.push_mk rfl
  have hst := fun (a : Addr) (re im : Nat) (m : Mode) (w : World) => run_store Try.prog w a (.complex .f64 re im) m rfl
  unfold c8
  go_wp2
  refine absorb_wp HA ?_
  clear HA hst
  intro w3 H
  generalize w2.heap.size = g at H ⊢
  replace H : St w [] w3 (lay [.blk g 76 (c8 S)]) := H
  go_loopw [5, 6] (fun v i wr => ∃ k b : Nat, 2 ≤ k ∧ k ≤ 5 ∧ b < 5 ∧ i = .int .i64 k ∧ v = .int .i64 b ∧ Hid (b = bestTo P k) ∧ St w [] wr (lay [.blk g 76 (c8 S)])) (fun _ i _ => 6 - (intOf i).toNat)
  case atStart => exact ⟨2, 1, by omega, by omega, by omega, rfl, rfl, rfl, H⟩
  case round =>
    clear H
    obtain ⟨k, b, hk2, hk, hb5, rfl, rfl, HB, H⟩ := hrel
    have c2 := H.cell 0 rfl (c8_get S (k := b) (by omega))
    have hp2 := HP.out b (by omega)
    have HP2 := Lib.hid hp2
    have b8 : (b : Int) < 8 := by omega
    have k8 : (k : Int) < 8 := by omega
    clear hp2
    by_cases hlt : k < 5
    · have hk4 : (k : Int) ≤ 4 := by omega
      have c1 := H.cell 0 rfl (c8_get S (k := k) (by omega))
      have hp1 := HP.out k (by omega)
      have HP1 := Lib.hid hp1
      clear hp1
      go_wp2
      by_cases hg : FloatKind.f64.format.order (P k) (P b) = some Ordering.gt
      · have hg' : (FloatKind.f64.format.order (P k) (P b) == some Ordering.gt) = true := by simpa using hg
        go_quiet ((go_at_call 61; first | with_reducible exact quiet_add_left (power_o (S k) (P k) _ HP1.out) | with_reducible exact quiet_left (power_o (S k) (P k) _ HP1.out) | with_reducible exact quiet_add_left (power_o (S b) (P b) _ HP2.out) | with_reducible exact quiet_left (power_o (S b) (P b) _ HP2.out)))
        go_wp2
        go_roundw
        case rel => exact ⟨k + 1, k, by omega, by omega, by omega, by go_num, rfl, by unfold Hid bestTo; rw [if_neg (by omega), ← HB.out, if_pos hg], H.drewN _⟩
        case measure => simp [intOf]; omega
      · have hg' : (FloatKind.f64.format.order (P k) (P b) == some Ordering.gt) = false := by simpa using hg
        go_quiet ((go_at_call 61; first | with_reducible exact quiet_add_left (power_o (S k) (P k) _ HP1.out) | with_reducible exact quiet_left (power_o (S k) (P k) _ HP1.out) | with_reducible exact quiet_add_left (power_o (S b) (P b) _ HP2.out) | with_reducible exact quiet_left (power_o (S b) (P b) _ HP2.out)))
        go_wp2
        go_roundw
        case rel => exact ⟨k + 1, b, by omega, by omega, by omega, by go_num, rfl, by unfold Hid bestTo; rw [if_neg (by omega), ← HB.out, if_neg hg], H.drewN _⟩
        case measure => simp [intOf]; omega
    · obtain rfl : k = 5 := by omega
      have hk4 : ¬ ((5 : Nat) : Int) ≤ 4 := by omega
      go_wp2_with fail
      refine (power_o (S b) (P b) wr HP2.out).mono ?_
      rintro e w4 ⟨rfl, rfl⟩
      go_wp2
      go_ret2
      refine ⟨?_, H.below⟩
      rw [← HB.out]
      rfl

theorem rd_lit (w : World) (cs : List Value) (t : TypeId) (n b : Nat) (hb : b = w.heap.size) (h : cs.length = n) : Rd (w.alloc (.cells cs.toArray t)) 1 (some ⟨b, 0, none⟩) n cs := by
  subst hb
  exact ⟨by omega, fun _ => ⟨_, rfl, by simp, fun j u hu => by
    rw [Addr.add_mid, Nat.zero_add, World.cell?_alloc_at _ _ _ _ rfl]; simpa using hu⟩⟩
def PC (k : Nat) : Nat := [4627730092099895296, 4627730092099895296, 4627730092099895296, 4627730092099895296, 4627730092099895296, 4627730092099895296, 4627730092099895296, 4627730092099895296].getD k 0
theorem PC_ok : ∀ k, k < 8 → powO (SC k) = some (PC k) := by
  have h : ∀ k ∈ List.range 8, powO (SC k) = some (PC k) := by decide +kernel
  exact fun k hk => h k (List.mem_range.2 hk)
theorem SA_8 : cellsTo 8 SA = [.complex .f64 4621819117588971520 0, .complex .f64 13824505464953302840 13843212543757085914, .complex .f64 13835058055282163712 4611686018427387904, .complex .f64 4612618744449965542 13831647212162888551, .complex .f64 13835058055282163712 0, .complex .f64 4612618744449965542 4608275175308112743, .complex .f64 13835058055282163712 13835058055282163712, .complex .f64 13824505464953302840 4619840506902310106] := rfl
theorem SB_8 : cellsTo 8 SB = [.complex .f64 4621819117588971520 0, .complex .f64 13835058055282163712 4611686018427387904, .complex .f64 13835058055282163712 0, .complex .f64 13835058055282163712 13835058055282163712, .complex .f64 4621819117588971520 0, .complex .f64 13835058055282163712 4611686018427387904, .complex .f64 13835058055282163712 0, .complex .f64 13835058055282163712 13835058055282163712] := rfl
theorem PC_best : bestTo PC 5 = 1 ∧ PC 1 = 4627730092099895296 := by decide +kernel

end Go.Proofs.Ytpmgklmgaienhaa
