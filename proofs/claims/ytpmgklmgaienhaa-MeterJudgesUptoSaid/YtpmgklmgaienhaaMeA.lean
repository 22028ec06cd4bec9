/- Mean and Spread of numbers whose sums are numbers. -/
import Derived.Test.YtpmgklmgaienhaaFlo
import Derived.Test.YtpmgklmgaienhaaProg
import Derived.Test.YtpmgklmgaienhaaFlat
import Derived.Laws.Cover2
namespace Go.Proofs.Ytpmgklmgaienhaa
open Go.RowKit
set_option linter.unusedVariables false
set_option maxRecDepth 100000

abbrev flV (x : Nat) : Value := .float .f64 x
/-- the sum of the first k, or none where a sum is no number -/
def addTo (x : List Nat) : Nat → Option Nat
  | 0 => some 0
  | k + 1 => (addTo x k).bind fun s => (x[k]?).bind fun v => floatBits .add .f64 s v
theorem addTo_pre (x : List Nat) : ∀ (n k : Nat), k ≤ n → (addTo x n).isSome → (addTo x k).isSome := by
  intro n
  induction n with
  | zero =>
    intro k hk h
    obtain rfl : k = 0 := by omega
    exact h
  | succ n ih =>
    intro k hk h
    by_cases e : k = n + 1
    · subst e; exact h
    · refine ih k (by omega) ?_
      unfold addTo at h
      cases a : addTo x n with
      | none => rw [a] at h; simp at h
      | some s => rfl
theorem addTo_step {x : List Nat} {n k v s : Nat} (hk : k < n) (h : (addTo x n).isSome) (hv : x[k]? = some v) (hs : addTo x k = some s) : ∃ t, floatBits .add .f64 s v = some t ∧ addTo x (k + 1) = some t := by
  obtain ⟨t, ht⟩ := Option.isSome_iff_exists.1 (addTo_pre x n (k + 1) (by omega) h)
  refine ⟨t, ?_, ht⟩
  unfold addTo at ht
  rw [hs, hv] at ht
  exact ht

theorem mean_s (A : Option Addr) (n c : Nat) (x : List Nat) (S r : Nat) (w : World) (hR : Rd w 1 A n (x.map flV)) (hn0 : 0 < n) (hn : n ≤ 1000000) (hS : addTo x n = some S) (hq : floatBits .quo .f64 S (floatOfInt .f64 n) = some r) :
    Calls Try.prog 14 #[.slice A n c] w fun e w' => e = .returned (.float .f64 r) ∧ Below w.heap.size w w' := by
  have hl : x.length = n := by simpa using hR.1
  have HL := Lib.hid hl
  have HS := Lib.hid hS
  have m2 := fun (t : TypeId) (w : World) => run_float_arith (P := Try.prog) w .quo t .f64 _ _ _ hq
  clear hl hS hq
  have H := St.start_lay w []
  have hn1 : (n == 0) = false := by simp; omega
  have hn2 : ((n : Int) == 0) = false := by simp; omega
  go_enter Try.func14, Try.ntmps14
  go_wp2
  go_loopw [3, 11] (fun s i wr => ∃ (j T : Nat), j ≤ n ∧ i = .int .i64 (j : Int) ∧ s = .float .f64 T ∧ Hid (addTo x j = some T) ∧ St w [] wr (lay [])) (fun _ i _ => n - (intOf i).toNat)
  case atStart => exact ⟨0, 0, Nat.zero_le _, rfl, rfl, rfl, H⟩
  case round =>
    clear H
    obtain ⟨j, T, hj, rfl, rfl, HT, H⟩ := hrel
    by_cases hlt : j < n
    · obtain ⟨v, hv⟩ : ∃ v, x[j]? = some v := ⟨_, List.getElem?_eq_getElem (by rw [HL.out]; exact hlt)⟩
      obtain ⟨T', e1, e2⟩ := addTo_step hlt (by rw [HS.out]; rfl) hv HT.out
      obtain ⟨g, o, rfl, -, hc⟩ := (H.arg0 hR).flat (by omega) (by omega)
      have c1 := hc j (flV v) (by rw [List.getElem?_map, hv]; rfl)
      have m1 := fun (t : TypeId) (w : World) => run_float_arith (P := Try.prog) w .add t .f64 _ _ _ e1
      have HE := Lib.hid e2
      have hji : (j : Int) < n := by omega
      clear hc hv e1 e2 HT m2
      go_wp2
      go_roundw
      case rel => exact ⟨j + 1, T', by omega, by go_num, rfl, HE, H⟩
      case measure => simp [intOf]; omega
    · obtain rfl : j = n := by omega
      have hji : ¬ (j : Int) < j := by omega
      obtain rfl : T = S := by have h := HT.out; rw [HS.out] at h; exact (Option.some.inj h).symm
      clear HT HS
      go_wp2
      go_ret
      exact ⟨rfl, H.below⟩
/-- the sum of the squares of the first k, taken off m -/
def sqTo (x : List Nat) (m : Nat) : Nat → Option Nat
  | 0 => some 0
  | k + 1 => (sqTo x m k).bind fun s => (x[k]?).bind fun v => (floatBits .sub .f64 v m).bind fun d => (floatBits .mul .f64 d d).bind fun q => floatBits .add .f64 s q
theorem sqTo_pre (x : List Nat) (m : Nat) : ∀ (n k : Nat), k ≤ n → (sqTo x m n).isSome → (sqTo x m k).isSome := by
  intro n
  induction n with
  | zero =>
    intro k hk h
    obtain rfl : k = 0 := by omega
    exact h
  | succ n ih =>
    intro k hk h
    by_cases e : k = n + 1
    · subst e; exact h
    · refine ih k (by omega) ?_
      unfold sqTo at h
      cases a : sqTo x m n with
      | none => rw [a] at h; simp at h
      | some s => rfl
theorem sqTo_step {x : List Nat} {m n k v s : Nat} (hk : k < n) (h : (sqTo x m n).isSome) (hv : x[k]? = some v) (hs : sqTo x m k = some s) : ∃ d q t, floatBits .sub .f64 v m = some d ∧ floatBits .mul .f64 d d = some q ∧ floatBits .add .f64 s q = some t ∧ sqTo x m (k + 1) = some t := by
  obtain ⟨t, ht⟩ := Option.isSome_iff_exists.1 (sqTo_pre x m n (k + 1) (by omega) h)
  have h0 := ht
  unfold sqTo at ht
  rw [hs, hv] at ht
  simp only [Option.bind_some] at ht
  obtain ⟨d, hd, h1⟩ := Option.bind_eq_some_iff.1 ht
  obtain ⟨q, hq, h2⟩ := Option.bind_eq_some_iff.1 h1
  exact ⟨d, q, t, hd, hq, h2, h0⟩

theorem spread_s (A : Option Addr) (n c : Nat) (x : List Nat) (S m Q r : Nat) (w : World) (hR : Rd w 1 A n (x.map flV)) (hn0 : 2 ≤ n) (hn : n ≤ 1000000) (hS : addTo x n = some S) (hm : floatBits .quo .f64 S (floatOfInt .f64 n) = some m) (hQ : sqTo x m n = some Q) (hq : floatBits .quo .f64 Q (floatOfInt .f64 ((n : Int) - 1)) = some r) :
    Calls Try.prog 16 #[.slice A n c] w fun e w' => e = .returned (.float .f64 r) ∧ Below w.heap.size w w' := by
  have hl : x.length = n := by simpa using hR.1
  have HL := Lib.hid hl
  have HS := Lib.hid hQ
  have HM := Lib.hid (And.intro hS hm)
  have m2 := fun (t : TypeId) (w : World) => run_float_arith (P := Try.prog) w .quo t .f64 _ _ _ hq
  clear hl hS hm hQ hq
  have H := St.start_lay w []
  have hn2 : decide ((n : Int) < 2) = false := by simp; omega
  go_enter Try.func16, Try.ntmps16
  go_wp2_with fail
  refine (mean_s A n c x S m w hR (by omega) hn HM.out.1 HM.out.2).mono ?_
  rintro e w1 ⟨rfl, hb⟩
  replace H := H.call hb
  clear hb HM
  go_wp2
  go_loopw [4, 16] (fun s i wr => ∃ (j T : Nat), j ≤ n ∧ i = .int .i64 (j : Int) ∧ s = .float .f64 T ∧ Hid (sqTo x m j = some T) ∧ St w [] wr (lay [])) (fun _ i _ => n - (intOf i).toNat)
  case atStart => exact ⟨0, 0, Nat.zero_le _, rfl, rfl, rfl, H⟩
  case round =>
    clear H
    obtain ⟨j, T, hj, rfl, rfl, HT, H⟩ := hrel
    by_cases hlt : j < n
    · obtain ⟨v, hv⟩ : ∃ v, x[j]? = some v := ⟨_, List.getElem?_eq_getElem (by rw [HL.out]; exact hlt)⟩
      obtain ⟨d, q, T', e1, e3, e4, e2⟩ := sqTo_step hlt (by rw [HS.out]; rfl) hv HT.out
      obtain ⟨g, o, rfl, -, hc⟩ := (H.arg0 hR).flat (by omega) (by omega)
      have c1 := hc j (flV v) (by rw [List.getElem?_map, hv]; rfl)
      have m1 := fun (t : TypeId) (w : World) => run_float_arith (P := Try.prog) w .sub t .f64 _ _ _ e1
      have m3 := fun (t : TypeId) (w : World) => run_float_arith (P := Try.prog) w .mul t .f64 _ _ _ e3
      have m4 := fun (t : TypeId) (w : World) => run_float_arith (P := Try.prog) w .add t .f64 _ _ _ e4
      have HE := Lib.hid e2
      have hji : (j : Int) < n := by omega
      clear hc hv e1 e2 e3 e4 HT m2
      go_wp2
      go_roundw
      case rel => exact ⟨j + 1, T', by omega, by go_num, rfl, HE, H⟩
      case measure => simp [intOf]; omega
    · obtain rfl : j = n := by omega
      have hji : ¬ (j : Int) < j := by omega
      obtain rfl : T = Q := by have h := HT.out; rw [HS.out] at h; exact (Option.some.inj h).symm
      clear HT HS
      go_wp2
      go_ret
      exact ⟨rfl, H.below⟩
end Go.Proofs.Ytpmgklmgaienhaa
