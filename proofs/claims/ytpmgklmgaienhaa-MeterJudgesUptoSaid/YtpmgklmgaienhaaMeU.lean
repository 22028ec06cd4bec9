/- Total of runs; the number and the size of a kind: in the program and in the document. -/
import Derived.Test.YtpmgklmgaienhaaMeT
import Derived.Test.YtpmgklmgaienhaaMeB
import Derived.Test.YtpmgklmgaienhaaRowR
import Derived.Test.YtpmgklmgaienhaaStepM
import Derived.Lib.MinMax
namespace Go.Proofs.Ytpmgklmgaienhaa
open Go.RowKit
set_option linter.unusedVariables false
set_option maxRecDepth 100000

theorem run_sizeM : (Try.prog.info? 60).map (·.size) = some 3 := by kernel_rfl
/-- the sum of the first k counts, those below 1 left out -/
def totF (l : List RunT) : Nat → Int
  | 0 => 0
  | k + 1 => plusI (totF l k) (max ((l[k]?).getD (0, 0, 0)).2.2 0)
theorem totF_in (l : List RunT) (hl : ∀ r ∈ l, RunOk r) : ∀ k, 0 ≤ totF l k ∧ totF l k ≤ 9223372036854775807 := by
  intro k
  induction k with
  | zero => exact ⟨by show (0 : Int) ≤ 0; omega, by show (0 : Int) ≤ _; omega⟩
  | succ k ih =>
    refine plusI_in ih ?_
    cases h : l[k]? with
    | none => simp
    | some r =>
      have := (hl r (List.mem_of_getElem? h)).2.2
      simp only [Option.getD_some]
      omega
theorem plusI_zero {a : Int} (h : a ≤ 9223372036854775807) : plusI a 0 = a := by unfold plusI; rw [if_neg (by omega)]; omega
theorem run_range {w : World} {A : Option Addr} {n k : Nat} {l : List RunT} {x : RunT} (h : Rd w 3 A n (runsV l)) (hx : l[k]? = some x) : ∃ p o, A = some ⟨p, o, none⟩ ∧ w.rangeAt p (o + k * 3) (runV x) ∧ p < w.heap.size := by
  have hl := h.1
  rw [runsV_length] at hl
  have hk : k < l.length := (List.getElem?_eq_some_iff.1 hx).1
  obtain ⟨p, o, rfl, hb, hc⟩ := h.flat (by omega) (by omega)
  refine ⟨p, o, rfl, fun j v hv => ?_, hb⟩
  have hj : j < (runV x).length := (List.getElem?_eq_some_iff.1 hv).1
  have hj3 : j < 3 := hj
  rw [Nat.add_assoc]
  exact hc (k * 3 + j) v (by rw [runsV_get l k j x hx hj3]; exact hv)
theorem run_cells {w : World} {A : Option Addr} {n k : Nat} {l : List RunT} {a b c : Int} (h : Rd w 3 A n (runsV l)) (hx : l[k]? = some (a, b, c)) : ∃ p o, A = some ⟨p, o, none⟩ ∧ w.cell? ⟨p, o + k * 3, none⟩ = some (.int .u8 a) ∧ w.cell? ⟨p, o + k * 3 + 1, none⟩ = some (.int .i64 b) ∧ w.cell? ⟨p, o + k * 3 + 2, none⟩ = some (.int .i64 c) ∧ p < w.heap.size := by
  obtain ⟨p, o, rfl, hr, hb⟩ := run_range h hx
  exact ⟨p, o, rfl, hr 0 _ rfl, hr 1 _ rfl, hr 2 _ rfl, hb⟩

set_option maxHeartbeats 1000000 in
theorem total_s (A : Option Addr) (n c : Nat) (l : List RunT) (w : World) (hR : Rd w 3 A n (runsV l)) (hl : ∀ r ∈ l, RunOk r) (hn : n ≤ 10000000000000) :
    Calls Try.prog 43 #[.slice A n c] w fun e w' => e = .returned (.int .i64 (totF l n)) ∧ Below w.heap.size w w' := by
  have hll : l.length = n := by have := hR.1; rw [runsV_length] at this; omega
  have HL := Lib.hid hll
  have HB := Lib.hid hl
  have HT := Lib.hid (totF_in l hl)
  clear hll hl
  have H := St.start_lay w []
  go_enter Try.func43, Try.ntmps43
  go_wp2
  go_loopw [3, 8] (fun s i wr => ∃ j : Nat, j ≤ n ∧ i = .int .i64 (j : Int) ∧ s = .int .i64 (totF l j) ∧ St w [] wr (lay [])) (fun _ i _ => n - (intOf i).toNat)
  case atStart => exact ⟨0, Nat.zero_le _, rfl, rfl, H⟩
  case round =>
    clear H
    obtain ⟨j, hj, rfl, rfl, H⟩ := hrel
    by_cases hlt : j < n
    · obtain ⟨x, hx⟩ : ∃ x, l[j]? = some x := ⟨_, List.getElem?_eq_getElem (by rw [HL.out]; exact hlt)⟩
      obtain ⟨g, o, rfl, hr, -⟩ := run_range (H.arg0 hR) hx
      have hb := (HB.out x (List.mem_of_getElem? hx)).2.2
      have hs : totF l (j + 1) = plusI (totF l j) (max x.2.2 0) := by show plusI _ _ = _; rw [hx]; rfl
      have HS := Lib.hid hs
      have HR := Lib.hid hr
      have hti := HT.out j
      have hji : (j : Int) < n := by omega
      clear hx hs hr
      obtain ⟨a, b, z⟩ := x
      generalize totF l j = T at HS hti ⊢
      simp only at hb HS
      have HA := H.allocAt 0 rfl wr.heap.size rfl #[.int .u8 a, .int .i64 b, .int .i64 z] 60 |>.push_mk rfl
      go_upto_region 5 with (first | (refine wpList_load_mid rfl 60 (.tmp 10) rfl g (o + j * 3) rfl [.int .u8 a, .int .i64 b, .int .i64 z] _ HR.out Try.underlying60 rfl (by rw [run_sizeM]; rfl) ?_) | fail)
      refine absorb_wp HA ?_
      clear HA H
      intro w2 H
      generalize wr.heap.size = gq at H ⊢
      replace H : St w [] w2 (lay [.blk gq 60 [.int .u8 a, .int .i64 b, .int .i64 z]]) := H
      have c2 := H.cell 0 rfl (o := 2) (u := .int .i64 z) rfl
      go_wp2_with fail
      refine (plus_s T (max z 0) w2 hti (by omega)).mono ?_
      rintro e w3 ⟨rfl, rfl⟩
      replace H := H.front 0
      go_wp2
      go_roundw
      case rel => exact ⟨j + 1, by omega, by go_num, by rw [HS.out], H⟩
      case measure => simp [intOf]; omega
    · obtain rfl : j = n := by omega
      have hji : ¬ (j : Int) < j := by omega
      go_wp2
      go_ret
      exact ⟨rfl, H.below⟩

set_option maxHeartbeats 1000000 in
theorem refTotal_s (A : Option Addr) (n c : Nat) (l : List RunT) (w : World) (hR : Rd w 3 A n (runsV l)) (hl : ∀ r ∈ l, RunOk r) (hn : n ≤ 10000000000000) :
    Calls Try.prog 44 #[.slice A n c] w fun e w' => e = .returned (.int .i64 (totF l n)) ∧ w = w' := by
  have hll : l.length = n := by have := hR.1; rw [runsV_length] at this; omega
  have HL := Lib.hid hll
  have HB := Lib.hid hl
  have HT := Lib.hid (totF_in l hl)
  clear hll hl
  go_enter Try.func44, Try.ntmps44
  go_wp2
  go_loopw [3, 4] (fun s i wr => ∃ j : Nat, j ≤ n ∧ i = .int .i64 (j : Int) ∧ s = .int .i64 (totF l j) ∧ w = wr) (fun _ i _ => n - (intOf i).toNat)
  case atStart => exact ⟨0, Nat.zero_le _, rfl, rfl, rfl⟩
  case round =>
    obtain ⟨j, hj, rfl, rfl, rfl⟩ := hrel
    by_cases hlt : j < n
    · obtain ⟨x, hx⟩ : ∃ x, l[j]? = some x := ⟨_, List.getElem?_eq_getElem (by rw [HL.out]; exact hlt)⟩
      have hb := (HB.out x (List.mem_of_getElem? hx)).2.2
      have hs : totF l (j + 1) = plusI (totF l j) (max x.2.2 0) := by show plusI _ _ = _; rw [hx]; rfl
      have HS := Lib.hid hs
      have hti := HT.out j
      have hji : (j : Int) < n := by omega
      obtain ⟨a, b, z⟩ := x
      obtain ⟨g, o, rfl, c0, c1, c2, -⟩ := run_cells hR hx
      clear hx hs c0 c1
      generalize totF l j = T at HS hti ⊢
      simp only at hb HS
      by_cases hz : 1 ≤ z
      · have z1 : z ≥ 1 := hz
        have z2 : max z 0 = z := by omega
        rw [z2] at HS
        clear z2
        go_wp2_with fail
        refine (sum_s T z w hti (by omega)).mono ?_
        rintro e w3 ⟨rfl, rfl⟩
        go_wp2
        go_roundw
        case rel => exact ⟨j + 1, by omega, by go_num, by rw [HS.out], trivial⟩
        case measure => simp [intOf]; omega
      · have z1 : ¬ z ≥ 1 := hz
        have z2 : max z 0 = 0 := by omega
        rw [z2, plusI_zero hti.2] at HS
        clear z2
        go_wp2
        go_roundw
        case rel => exact ⟨j + 1, by omega, by go_num, by rw [HS.out], trivial⟩
        case measure => simp [intOf]; omega
    · obtain rfl : j = n := by omega
      have hji : ¬ (j : Int) < j := by omega
      go_wp2
      go_ret
      exact ⟨rfl, rfl⟩

/-- the runs of a kind among the first j -/
def kindTo (l : List RunT) (k : Int) (j : Nat) : List RunT := (l.take j).filter fun r => r.1 == k
theorem kindTo_yes {l : List RunT} {k : Int} {j : Nat} {x : RunT} (hx : l[j]? = some x) (h : x.1 = k) : kindTo l k (j + 1) = kindTo l k j ++ [x] := by
  unfold kindTo
  rw [List.take_add_one, hx]; simp [h]
theorem kindTo_no {l : List RunT} {k : Int} {j : Nat} {x : RunT} (hx : l[j]? = some x) (h : x.1 ≠ k) : kindTo l k (j + 1) = kindTo l k j := by
  unfold kindTo
  rw [List.take_add_one, hx]; simp [h]
theorem kindTo_le (l : List RunT) (k : Int) (j : Nat) : (kindTo l k j).length ≤ j := by
  unfold kindTo
  exact Nat.le_trans (List.length_filter_le _ _) (by rw [List.length_take]; omega)
theorem kindTo_ok {l : List RunT} (h : ∀ r ∈ l, RunOk r) (k : Int) (j : Nat) : ∀ r ∈ kindTo l k j, RunOk r := by
  intro r hr
  unfold kindTo at hr
  exact h r (List.mem_of_mem_take (List.mem_filter.1 hr).1)
theorem kindTo_zero (l : List RunT) (k : Int) : kindTo l k 0 = [] := rfl
/-- how many there are, as a float -/
def numI (l : List RunT) (k : Int) (n : Nat) : Int := totF (kindTo l k n) (kindTo l k n).length
theorem numI_in {l : List RunT} (h : ∀ r ∈ l, RunOk r) (k : Int) (n : Nat) : 0 ≤ numI l k n ∧ numI l k n ≤ 9223372036854775807 := totF_in _ (kindTo_ok h k n) _
def sizeO (l : List RunT) (k : Int) : Nat → Option Nat
  | 0 => some 0
  | j + 1 => if ((l[j]?).getD (0, 0, 0)).1 = k then opA .add (sizeO l k j) (opA .mul (some (floatOfInt .f64 ((l[j]?).getD (0, 0, 0)).2.2)) (some (floatOfInt .f64 ((l[j]?).getD (0, 0, 0)).2.1))) else sizeO l k j
theorem sizeO_yes {l : List RunT} {k a b c : Int} {j : Nat} (hx : l[j]? = some (a, b, c)) (h : a = k) : sizeO l k (j + 1) = opA .add (sizeO l k j) (opA .mul (some (floatOfInt .f64 c)) (some (floatOfInt .f64 b))) := by
  show (if _ then _ else _) = _
  rw [hx]; exact if_pos h
theorem sizeO_no {l : List RunT} {k a b c : Int} {j : Nat} (hx : l[j]? = some (a, b, c)) (h : a ≠ k) : sizeO l k (j + 1) = sizeO l k j := by
  show (if _ then _ else _) = _
  rw [hx]; exact if_neg h

set_option maxHeartbeats 2000000 in
theorem number_s (A : Option Addr) (n c : Nat) (l : List RunT) (kk : Int) (w : World) (hR : Rd w 3 A n (runsV l)) (hl : ∀ r ∈ l, RunOk r) (hn : n ≤ 5864062014634) :
    Calls Try.prog 21 #[.slice A n c, .int .u8 kk] w fun e w' => e = .returned (.float .f64 (floatOfInt .f64 (numI l kk n))) ∧ Below w.heap.size w w' := by
  obtain ⟨i0, hi0, hz0, hz1, hz2⟩ := info_parts run_info
  have hll : l.length = n := by have := hR.1; rw [runsV_length] at this; omega
  have HL := Lib.hid hll
  have HB := Lib.hid hl
  clear hll hl
  obtain ⟨N, HN⟩ : ∃ N, Hid (numI l kk n = N) := ⟨_, rfl⟩
  rw [HN.out]
  have H0 := St.start_lay w []
  go_enter Try.func21, Try.ntmps21
  go_wp2
  have H := (H0.nilRow 0 rfl 60 3).push_mk rfl
  clear H0
  replace H : St w [] w (lay [.row 60 3 (.slice none 0 0) (kindTo l kk 0).length (runsV (kindTo l kk 0))]) := H
  go_loopw [5, 10] (fun v i wr => ∃ j : Nat, j ≤ n ∧ i = .int .i64 (j : Int) ∧ St w [] wr (lay [.row 60 3 v (kindTo l kk j).length (runsV (kindTo l kk j))])) (fun _ i _ => n - (intOf i).toNat)
  case atStart => exact ⟨0, Nat.zero_le _, rfl, H⟩
  case round =>
    clear H
    obtain ⟨j, hj, rfl, H⟩ := hrel
    by_cases hlt : j < n
    · obtain ⟨⟨a, b, z⟩, hx⟩ : ∃ x, l[j]? = some x := ⟨_, List.getElem?_eq_getElem (by rw [HL.out]; exact hlt)⟩
      obtain ⟨g, o, rfl, hr, hgl⟩ := run_range (H.arg0 hR) hx
      have HR := Lib.hid hr
      have hji : (j : Int) < n := by omega
      have HY := Lib.hid (fun h : a = kk => kindTo_yes hx h)
      have HNo := Lib.hid (fun h : a ≠ kk => kindTo_no hx h)
      have hkl : (kindTo l kk j).length ≤ n := Nat.le_trans (kindTo_le l kk j) hj
      clear hx hr hgl
      generalize kindTo l kk j = K0 at H HY HNo hkl ⊢
      have h1 : (runsV [(a, b, z)]) = runV (a, b, z) := by simp [runsV]
      have HA := H.allocAt 1 rfl wr.heap.size rfl #[.int .u8 a, .int .i64 b, .int .i64 z] 60 |>.push_mk rfl
      go_upto_region 5 with (first | (refine wpList_load_mid rfl 60 (.tmp 12) rfl g (o + j * 3) rfl [.int .u8 a, .int .i64 b, .int .i64 z] _ HR.out Try.underlying60 rfl (by rw [run_sizeM]; rfl) ?_) | fail)
      refine absorb_wp HA ?_
      clear HA H
      intro w2 H
      generalize wr.heap.size = gq at H ⊢
      replace H : St w [] w2 (lay [.row 60 3 u5 K0.length (runsV K0), .blk gq 60 [.int .u8 a, .int .i64 b, .int .i64 z]]) := H
      have c0 := H.cell 1 rfl (o := 0) (u := .int .u8 a) rfl
      by_cases hk : a = kk
      · subst hk
        have hrow := H.row 0 rfl
        have hblk := H.blk 1 rfl
        have HA := H.alloc 2 rfl #[.int .u8 a, .int .i64 b, .int .i64 z] 60
        go_wp2_with (first | (refine wpList_load_row rfl 60 (.tmp 7) rfl gq rfl _ _ _ _ hblk Try.underlying60 rfl (by kernel_rfl) ?_) | (at_builtin; refine wpList_append_any _ rfl (.tmp 19) (.tmp 21) _ rfl 0 60 i0 _ 3 24 Try.underlying35 hi0 hz0 hz1 hz2 rfl (by omega) u5 K0.length (runsV K0) rfl (hrow.alloc _) (some ⟨w2.heap.size, 0, none⟩) 1 1 (runV (a, b, z)) rfl (rd_new0 w2 (runV (a, b, z)) _ 3 rfl) (by rw [← h1]; exact runsV_one [(a, b, z)]) (by simp only [maxLen]; omega) (by omega) (by omega) ?_; intro v3 w3 hown3 hg3 hat3))
        have H3 := ((HA.grow 0 rfl hown3 hg3 hat3)).sub (E' := lay [.row 60 3 v3 (K0.length + 1) (runsV K0 ++ runV (a, b, z))]) (fun i A hA => by cases i with | zero => exact hA | succ i => simp [lay] at hA)
        go_roundw
        case rel => exact ⟨j + 1, by omega, by go_num, by rw [HY.out (by trivial), runsV_append, h1, List.length_append]; exact H3⟩
        case measure => simp [intOf]; omega
      · have hne : (a == kk) = false := by simpa using hk
        have H3 := H.front 1
        go_wp2
        go_roundw
        case rel => exact ⟨j + 1, by omega, by go_num, by rw [HNo.out hk]; exact H3⟩
        case measure => simp [intOf]; omega
    · obtain rfl : j = n := by omega
      have hji : ¬ (j : Int) < j := by omega
      have hok := kindTo_ok HB.out kk j
      have hkl : (kindTo l kk j).length ≤ j := kindTo_le l kk j
      obtain ⟨m, hm⟩ : ∃ m, (kindTo l kk j).length = m := ⟨_, rfl⟩
      have hN2 : totF (kindTo l kk j) m = N := by rw [← hm]; exact HN.out
      rw [hm] at H hkl
      have HN2 := Lib.hid hN2
      clear hN2 hm
      obtain ⟨A2, c2, rfl, -, -⟩ := row_form (H.row 0 rfl)
      go_wp2_with fail
      refine (total_s A2 m c2 (kindTo l kk j) wr (H.rd 0 rfl) hok (by omega)).mono ?_
      rintro e w2 ⟨rfl, hb⟩
      rw [HN2.out]
      go_wp2
      go_ret
      exact ⟨rfl, (H.call hb).below⟩

set_option maxHeartbeats 2000000 in
theorem refNumber_s (A : Option Addr) (n c : Nat) (l : List RunT) (kk : Int) (w : World) (hR : Rd w 3 A n (runsV l)) (hl : ∀ r ∈ l, RunOk r) (hn : n ≤ 5864062014634) :
    Calls Try.prog 23 #[.slice A n c, .int .u8 kk] w fun e w' => e = .returned (.float .f64 (floatOfInt .f64 (numI l kk n))) ∧ Below w.heap.size w w' := by
  obtain ⟨i0, hi0, hz0, hz1, hz2⟩ := info_parts run_info
  have hll : l.length = n := by have := hR.1; rw [runsV_length] at this; omega
  have HL := Lib.hid hll
  have HB := Lib.hid hl
  clear hll hl
  obtain ⟨N, HN⟩ : ∃ N, Hid (numI l kk n = N) := ⟨_, rfl⟩
  rw [HN.out]
  have H0 := St.start_lay w []
  go_enter Try.func23, Try.ntmps23
  go_wp2
  have H := (H0.nilRow 0 rfl 60 3).push_mk rfl
  clear H0
  replace H : St w [] w (lay [.row 60 3 (.slice none 0 0) (kindTo l kk 0).length (runsV (kindTo l kk 0))]) := H
  go_loopw [5, 6] (fun v i wr => ∃ j : Nat, j ≤ n ∧ i = .int .i64 (j : Int) ∧ St w [] wr (lay [.row 60 3 v (kindTo l kk j).length (runsV (kindTo l kk j))])) (fun _ i _ => n - (intOf i).toNat)
  case atStart => exact ⟨0, Nat.zero_le _, rfl, H⟩
  case round =>
    clear H
    obtain ⟨j, hj, rfl, H⟩ := hrel
    by_cases hlt : j < n
    · obtain ⟨⟨a, b, z⟩, hx⟩ : ∃ x, l[j]? = some x := ⟨_, List.getElem?_eq_getElem (by rw [HL.out]; exact hlt)⟩
      obtain ⟨g, o, rfl, hr, hgl⟩ := run_range (H.arg0 hR) hx
      have HR := Lib.hid hr
      have hji : (j : Int) < n := by omega
      have HY := Lib.hid (fun h : a = kk => kindTo_yes hx h)
      have HNo := Lib.hid (fun h : a ≠ kk => kindTo_no hx h)
      have hkl : (kindTo l kk j).length ≤ n := Nat.le_trans (kindTo_le l kk j) hj
      clear hx hr hgl
      generalize kindTo l kk j = K0 at H HY HNo hkl ⊢
      have h1 : (runsV [(a, b, z)]) = runV (a, b, z) := by simp [runsV]
      have c0 : wr.cell? ⟨g, o + j * 3, none⟩ = some (.int .u8 a) := HR.out 0 _ rfl
      by_cases hk : a = kk
      · subst hk
        have hrow := H.row 0 rfl
        have HA := H.alloc 1 rfl #[.int .u8 a, .int .i64 b, .int .i64 z] 60
        go_wp2_with (first | (refine wpList_load_mid rfl 60 (.tmp 24) rfl g (o + j * 3) rfl [.int .u8 a, .int .i64 b, .int .i64 z] _ HR.out Try.underlying60 rfl (by rw [run_sizeM]; rfl) ?_) | (at_builtin; refine wpList_append_any _ rfl (.tmp 21) (.tmp 26) _ rfl 0 60 i0 _ 3 24 Try.underlying35 hi0 hz0 hz1 hz2 rfl (by omega) u5 K0.length (runsV K0) rfl (hrow.alloc _) (some ⟨wr.heap.size, 0, none⟩) 1 1 (runV (a, b, z)) rfl (rd_new0 wr (runV (a, b, z)) _ 3 rfl) (by rw [← h1]; exact runsV_one [(a, b, z)]) (by simp only [maxLen]; omega) (by omega) (by omega) ?_; intro v3 w3 hown3 hg3 hat3))
        have H3 := ((HA.grow 0 rfl hown3 hg3 hat3)).sub (E' := lay [.row 60 3 v3 (K0.length + 1) (runsV K0 ++ runV (a, b, z))]) (fun i A hA => by cases i with | zero => exact hA | succ i => simp [lay] at hA)
        go_roundw
        case rel => exact ⟨j + 1, by omega, by go_num, by rw [HY.out (by trivial), runsV_append, h1, List.length_append]; exact H3⟩
        case measure => simp [intOf]; omega
      · have hne : (a == kk) = false := by simpa using hk
        go_wp2
        go_roundw
        case rel => exact ⟨j + 1, by omega, by go_num, by rw [HNo.out hk]; exact H⟩
        case measure => simp [intOf]; omega
    · obtain rfl : j = n := by omega
      have hji : ¬ (j : Int) < j := by omega
      have hok := kindTo_ok HB.out kk j
      have hkl : (kindTo l kk j).length ≤ j := kindTo_le l kk j
      obtain ⟨m, hm⟩ : ∃ m, (kindTo l kk j).length = m := ⟨_, rfl⟩
      have hN2 : totF (kindTo l kk j) m = N := by rw [← hm]; exact HN.out
      rw [hm] at H hkl
      have HN2 := Lib.hid hN2
      clear hN2 hm
      obtain ⟨A2, c2, rfl, -, -⟩ := row_form (H.row 0 rfl)
      go_wp2_with fail
      refine (refTotal_s A2 m c2 (kindTo l kk j) wr (H.rd 0 rfl) hok (by omega)).mono ?_
      rintro e w2 ⟨rfl, hb⟩
      rw [HN2.out]
      go_wp2
      go_ret
      exact ⟨rfl, by rw [← hb]; exact H.below⟩

set_option maxHeartbeats 2000000 in
theorem size_a (A : Option Addr) (n c : Nat) (l : List RunT) (kk : Int) (w : World) (hR : Rd w 3 A n (runsV l)) (hn : n ≤ 5864062014634) :
    Calls Try.prog 22 #[.slice A n c, .int .u8 kk] w fun e w' => ∃ r, e = .returned (.float .f64 r) ∧ Hid (absF r = sizeO l kk n) ∧ Below w.heap.size w w' := by
  have hll : l.length = n := by have := hR.1; rw [runsV_length] at this; omega
  have HL := Lib.hid hll
  clear hll
  have H := St.start_lay w []
  go_enter Try.func22, Try.ntmps22
  go_wp2
  go_loopw [5, 11] (fun s i wr => ∃ j T : Nat, j ≤ n ∧ i = .int .i64 (j : Int) ∧ s = .float .f64 T ∧ Hid (absF T = sizeO l kk j) ∧ St w [] wr (lay [])) (fun _ i _ => n - (intOf i).toNat)
  case atStart => exact ⟨0, 0, Nat.zero_le _, rfl, rfl, absF_zero9, H⟩
  case round =>
    clear H
    obtain ⟨j, T, hj, rfl, rfl, HT, H⟩ := hrel
    by_cases hlt : j < n
    · obtain ⟨⟨a, b, z⟩, hx⟩ : ∃ x, l[j]? = some x := ⟨_, List.getElem?_eq_getElem (by rw [HL.out]; exact hlt)⟩
      obtain ⟨g, o, rfl, hr, hgl⟩ := run_range (H.arg0 hR) hx
      have HR := Lib.hid hr
      have hji : (j : Int) < n := by omega
      have HY := Lib.hid (fun h : a = kk => sizeO_yes hx h)
      have HNo := Lib.hid (fun h : a ≠ kk => sizeO_no hx h)
      clear hx hr hgl
      have HA := H.allocAt 0 rfl wr.heap.size rfl #[.int .u8 a, .int .i64 b, .int .i64 z] 60 |>.push_mk rfl
      go_upto_region 5 with (first | (refine wpList_load_mid rfl 60 (.tmp 13) rfl g (o + j * 3) rfl [.int .u8 a, .int .i64 b, .int .i64 z] _ HR.out Try.underlying60 rfl (by rw [run_sizeM]; rfl) ?_) | fail)
      refine absorb_wp HA ?_
      clear HA H
      intro w2 H
      generalize wr.heap.size = gq at H ⊢
      replace H : St w [] w2 (lay [.blk gq 60 [.int .u8 a, .int .i64 b, .int .i64 z]]) := H
      have c0 := H.cell 0 rfl (o := 0) (u := .int .u8 a) rfl
      have H3 := H.front 0
      by_cases hk : a = kk
      · subst hk
        have c1 := H.cell 0 rfl (o := 1) (u := .int .i64 b) rfl
        have c2 := H.cell 0 rfl (o := 2) (u := .int .i64 z) rfl
        obtain ⟨p, n1, m1, e1⟩ := run_float_any (P := Try.prog) w2 .mul rfl 25 (floatOfInt .f64 z) (floatOfInt .f64 b)
        obtain ⟨r, n2, m2, e2⟩ := run_float_any (P := Try.prog) (w2.drewN n1) .add rfl 25 T p
        have HE := Lib.hid (show absF r = sizeO l a (j + 1) by rw [HY.out (by trivial), e2, e1, HT.out, absF_int, absF_int])
        clear e1 e2
        go_wp2
        go_roundw
        case rel => exact ⟨j + 1, r, by omega, by go_num, rfl, HE, H3.drewN _⟩
        case measure => simp [intOf]; omega
      · have hne : (a == kk) = false := by simpa using hk
        go_wp2
        go_roundw
        case rel => exact ⟨j + 1, T, by omega, by go_num, rfl, by unfold Hid; rw [HNo.out hk]; exact HT.out, H3⟩
        case measure => simp [intOf]; omega
    · obtain rfl : j = n := by omega
      have hji : ¬ (j : Int) < j := by omega
      go_wp2
      go_ret
      exact ⟨T, rfl, HT, H.below⟩

set_option maxHeartbeats 2000000 in
theorem refSize_a (A : Option Addr) (n c : Nat) (l : List RunT) (kk : Int) (w : World) (hR : Rd w 3 A n (runsV l)) (hn : n ≤ 5864062014634) :
    Calls Try.prog 24 #[.slice A n c, .int .u8 kk] w fun e w' => ∃ r q, e = .returned (.float .f64 r) ∧ Hid (absF r = sizeO l kk n) ∧ w' = w.drewN q := by
  have hll : l.length = n := by have := hR.1; rw [runsV_length] at this; omega
  have HL := Lib.hid hll
  clear hll
  go_enter Try.func24, Try.ntmps24
  go_wp2
  go_loopw [5, 6] (fun s i wr => ∃ j T q : Nat, j ≤ n ∧ i = .int .i64 (j : Int) ∧ s = .float .f64 T ∧ Hid (absF T = sizeO l kk j) ∧ wr = w.drewN q) (fun _ i _ => n - (intOf i).toNat)
  case atStart => exact ⟨0, 0, 0, Nat.zero_le _, rfl, rfl, absF_zero9, rfl⟩
  case round =>
    obtain ⟨j, T, q, hj, rfl, rfl, HT, rfl⟩ := hrel
    by_cases hlt : j < n
    · obtain ⟨⟨a, b, z⟩, hx⟩ : ∃ x, l[j]? = some x := ⟨_, List.getElem?_eq_getElem (by rw [HL.out]; exact hlt)⟩
      obtain ⟨g, o, rfl, c0, c1, c2, -⟩ := run_cells hR hx
      have hji : (j : Int) < n := by omega
      have HY := Lib.hid (fun h : a = kk => sizeO_yes hx h)
      have HNo := Lib.hid (fun h : a ≠ kk => sizeO_no hx h)
      clear hx
      by_cases hk : a = kk
      · subst hk
        go_wp2
        refine wp_region_held_drew (S := fun w' : World => w'.cell? ⟨g, o + j * 3 + 1, none⟩ = some (.int .i64 b) ∧ w'.cell? ⟨g, o + j * 3 + 2, none⟩ = some (.int .i64 z)) (by kernel_rfl) ?_ (fun hHeld => ?_)
        · exact ⟨c1, c2⟩
        refine takeV 0 rfl (by intro w h; clear h; go_simp; try with_reducible rfl) (by kernel_rfl) (by kernel_rfl) (by kernel_rfl) (by exact fun _ _ _ h => h) (by rfl) (by assumption) ?_
        try simp only [Act.put, List.setIfInBounds_toArray, List.set_cons_zero, List.set_cons_succ]
        refine takeV 1 rfl (by intro w h; clear h; go_simp; try with_reducible rfl) (by kernel_rfl) (by kernel_rfl) (by kernel_rfl) (by exact fun _ _ _ h => h) (by rfl) (by assumption) ?_
        try simp only [Act.put, List.setIfInBounds_toArray, List.set_cons_zero, List.set_cons_succ]
        refine takeV 2 rfl (by intro w h; clear h; go_simp; try with_reducible rfl) (by kernel_rfl) (by kernel_rfl) (by kernel_rfl) (by exact fun _ _ _ h => h) (by rfl) (by assumption) ?_
        try simp only [Act.put, List.setIfInBounds_toArray, List.set_cons_zero, List.set_cons_succ]
        refine takeV 3 rfl (by intro w h; clear h; go_simp; try with_reducible rfl) (by kernel_rfl) (by kernel_rfl) (by kernel_rfl) (by exact fun _ _ _ h => h) (by rfl) (by assumption) ?_
        try simp only [Act.put, List.setIfInBounds_toArray, List.set_cons_zero, List.set_cons_succ]
        refine takeV 4 rfl (by intro w h; have hc := h.2; clear h; go_simp; try with_reducible rfl) (by kernel_rfl) (by kernel_rfl) (by kernel_rfl) (by exact fun _ _ _ h => h) (by rfl) (by assumption) ?_
        try simp only [Act.put, List.setIfInBounds_toArray, List.set_cons_zero, List.set_cons_succ]
        refine takeV 5 rfl (by intro w h; clear h; go_simp; try with_reducible rfl) (by kernel_rfl) (by kernel_rfl) (by kernel_rfl) (by exact fun _ _ _ h => h) (by rfl) (by assumption) ?_
        try simp only [Act.put, List.setIfInBounds_toArray, List.set_cons_zero, List.set_cons_succ]
        refine takeV 6 rfl (by intro w h; clear h; go_simp; try with_reducible rfl) (by kernel_rfl) (by kernel_rfl) (by kernel_rfl) (by exact fun _ _ _ h => h) (by rfl) (by assumption) ?_
        try simp only [Act.put, List.setIfInBounds_toArray, List.set_cons_zero, List.set_cons_succ]
        refine takeV 7 rfl (by intro w h; clear h; go_simp; try with_reducible rfl) (by kernel_rfl) (by kernel_rfl) (by kernel_rfl) (by exact fun _ _ _ h => h) (by rfl) (by assumption) ?_
        try simp only [Act.put, List.setIfInBounds_toArray, List.set_cons_zero, List.set_cons_succ]
        refine takeV 8 rfl (by intro w h; clear h; go_simp; try with_reducible rfl) (by kernel_rfl) (by kernel_rfl) (by kernel_rfl) (by exact fun _ _ _ h => h) (by rfl) (by assumption) ?_
        try simp only [Act.put, List.setIfInBounds_toArray, List.set_cons_zero, List.set_cons_succ]
        refine takeV 9 rfl (by intro w h; clear h; go_simp; try with_reducible rfl) (by kernel_rfl) (by kernel_rfl) (by kernel_rfl) (by exact fun _ _ _ h => h) (by rfl) (by assumption) ?_
        try simp only [Act.put, List.setIfInBounds_toArray, List.set_cons_zero, List.set_cons_succ]
        refine takeV 10 rfl (by intro w h; clear h; go_simp; try with_reducible rfl) (by kernel_rfl) (by kernel_rfl) (by kernel_rfl) (by exact fun _ _ _ h => h) (by rfl) (by assumption) ?_
        try simp only [Act.put, List.setIfInBounds_toArray, List.set_cons_zero, List.set_cons_succ]
        refine takeV 11 rfl (by intro w h; have hc := h.1; clear h; go_simp; try with_reducible rfl) (by kernel_rfl) (by kernel_rfl) (by kernel_rfl) (by exact fun _ _ _ h => h) (by rfl) (by assumption) ?_
        try simp only [Act.put, List.setIfInBounds_toArray, List.set_cons_zero, List.set_cons_succ]
        refine takeV 12 rfl (by intro w h; clear h; go_simp; try with_reducible rfl) (by kernel_rfl) (by kernel_rfl) (by kernel_rfl) (by exact fun _ _ _ h => h) (by rfl) (by assumption) ?_
        try simp only [Act.put, List.setIfInBounds_toArray, List.set_cons_zero, List.set_cons_succ]
        obtain ⟨p, n1, m1, e1⟩ := run_float_any (P := Try.prog) (w.drewN (q + 1)) .mul rfl 25 (floatOfInt .f64 z) (floatOfInt .f64 b)
        refine take_call 13 rfl (by kernel_rfl) (fun K hK => ?_)
        go_simp
        refine hK.out _ _ ?_ (fun hHeld => ?_)
        · exact ⟨c1, c2⟩
        clear hK K
        try simp only [Act.put, List.setIfInBounds_toArray, List.set_cons_zero, List.set_cons_succ]
        refine takeV 14 rfl (by intro w h; clear h; go_simp; try with_reducible rfl) (by kernel_rfl) (by kernel_rfl) (by kernel_rfl) (by exact fun _ _ _ h => h) (by rfl) (by assumption) ?_
        try simp only [Act.put, List.setIfInBounds_toArray, List.set_cons_zero, List.set_cons_succ]
        refine wpAnyH_done (by kernel_rfl) ?_ _
        clear hHeld m1
        obtain ⟨r, n2, m2, e2⟩ := run_float_any (P := Try.prog) (w.drewN (q + 1 + n1)) .add rfl 25 T p
        have HE := Lib.hid (show absF r = sizeO l a (j + 1) by rw [HY.out (by trivial), e2, e1, HT.out, absF_int, absF_int])
        clear e1 e2
        go_wp2
        go_roundw
        case rel => exact ⟨j + 1, r, _, by omega, by go_num, rfl, HE, rfl⟩
        case measure => simp [intOf]; omega
      · have hne : (a == kk) = false := by simpa using hk
        go_wp2
        go_roundw
        case rel => exact ⟨j + 1, T, _, by omega, by go_num, rfl, by unfold Hid; rw [HNo.out hk]; exact HT.out, rfl⟩
        case measure => simp [intOf]; omega
    · obtain rfl : j = n := by omega
      have hji : ¬ (j : Int) < j := by omega
      go_wp2
      go_ret
      exact ⟨T, rfl, HT, q, rfl⟩

end Go.Proofs.Ytpmgklmgaienhaa
