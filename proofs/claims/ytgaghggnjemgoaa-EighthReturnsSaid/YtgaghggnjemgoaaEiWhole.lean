/- Whole numbers out of any (turnkeylaw28.whole). -/
import Derived.Test.YtgaghggnjemgoaaEiExact
import Derived.Test.YtgaghggnjemgoaaEiAwake
import Derived.Test.YtgaghggnjemgoaaEiSummed
import Derived.Test.YtgaghggnjemgoaaPick
namespace Go.Proofs.Ytgaghggnjemgoaa
open Go.RowKit
set_option linter.unusedVariables false
set_option maxRecDepth 100000

abbrev I64 := { x : Int // -9223372036854775808 ≤ x ∧ x ≤ 9223372036854775807 }
def pw (x : I64) : Int := x.1 % 2097153 - 1048576
theorem pw_in (x : I64) : -1048576 ≤ pw x ∧ pw x ≤ 1048576 := by unfold pw; omega
def wlTo (l : List I64) (k : Nat) : List Int := (l.take k).map pw
def wlF (l : List I64) (k : Nat) : List Nat := (wlTo l k).map (floatOfInt .f64)
theorem wlF_succ {l : List I64} {k : Nat} {x : I64} (h : l[k]? = some x) : wlF l (k + 1) = wlF l k ++ [floatOfInt .f64 (pw x)] := by
  unfold wlF wlTo
  rw [List.take_add_one, h]; simp
theorem wlF_length {l : List I64} {k : Nat} (h : k ≤ l.length) : (wlF l k).length = k := by simp [wlF, wlTo]; omega
theorem wl_is {l : List I64} {k j : Nat} (h : k ≤ l.length) (hj : j < k) : (wlF l k)[j]? = some (floatOfInt .f64 ((wlTo l k).getD j 0)) ∧ -1048576 ≤ (wlTo l k).getD j 0 ∧ (wlTo l k).getD j 0 ≤ 1048576 := by
  have hx : ∃ x, l[j]? = some x := ⟨_, List.getElem?_eq_getElem (by omega)⟩
  obtain ⟨x, hx⟩ := hx
  have e : (wlTo l k)[j]? = some (pw x) := by unfold wlTo; rw [List.getElem?_map, List.getElem?_take, if_pos hj, hx]; rfl
  have e2 : (wlTo l k).getD j 0 = pw x := by rw [List.getD_eq_getElem?_getD, e]; rfl
  rw [e2]
  refine ⟨?_, pw_in x⟩
  unfold wlF
  rw [List.getElem?_map, e]; rfl

set_option maxHeartbeats 1000000 in
theorem whole_s (A : Option Addr) (n c : Nat) (l : List I64) (w : World) (hR : Rd w 1 A n (l.map fun x => iv8 x.1)) (hn : n * 8 ≤ 140737488351232) :
    Calls Try.prog 24 #[.slice A n c] w fun e w' => ∃ v, e = .returned v ∧ OwnR w' w.heap.size v (wlF l (min n 1024)) ∧ Below w.heap.size w w' := by
  obtain ⟨i0, hi0, hz0, hz1, hz2⟩ := info_parts real_info
  have hl : l.length = n := by simpa using hR.1
  have HL := Lib.hid hl
  clear hl
  have H0 := St.start_lay w []
  obtain ⟨m, hm⟩ : ∃ m, min n 1024 = m := ⟨_, rfl⟩
  rw [hm]
  have hmn : m ≤ n := by omega
  have hm1 : m ≤ 1024 := by omega
  have HM := Lib.hid hm
  clear hm
  go_enter Try.func24, Try.ntmps24
  go_wp2
  have H := (H0.nilRow 0 rfl 22 1).push_mk rfl
  clear H0
  go_loopw [3, 4] (fun v i wr => ∃ j : Nat, j ≤ m ∧ i = .int .i64 (j : Int) ∧ St w [] wr (lay [.row 22 1 v (wlF l j).length ((wlF l j).map rv)])) (fun _ i _ => m - (intOf i).toNat)
  case atStart => exact ⟨0, Nat.zero_le _, rfl, by simpa [wlF, wlTo] using H⟩
  case round =>
    clear H
    obtain ⟨j, hj, rfl, H⟩ := hrel
    by_cases hlt : j < m
    · obtain ⟨v, hv⟩ : ∃ v, l[j]? = some v := ⟨_, List.getElem?_eq_getElem (by rw [HL.out]; omega)⟩
      obtain ⟨g, o, rfl, -, hc⟩ := (H.arg0 hR).flat (by omega) (by omega)
      have c1 := hc j (iv8 v.1) (by rw [List.getElem?_map, hv]; rfl)
      have hml : (wlF l j).length ≤ n := by rw [wlF_length (by rw [HL.out]; omega)]; omega
      have HS := Lib.hid (wlF_succ hv)
      have hji : (j : Int) < n := by omega
      have hj2 : (j : Int) < 1024 := by omega
      clear hc hv
      go_wp2_with fail
      refine (pick_any v.1 2097153 wr v.2.1 v.2.2 (by omega) (by omega) rfl).mono ?_
      rintro e w2 ⟨⟨q, hq, hqv, rfl⟩, rfl⟩
      have hpv : (q : Int) - 1048576 = pw v := by rw [hqv]; rfl
      have w1 : IntKind.i64.wrap ((q : Int) - 1048576) = pw v := by rw [hpv]; exact IntWalk.i64_in _ (by have := pw_in v; omega)
      generalize pw v = pv at w1 HS
      generalize hfo : floatOfInt .f64 pv = fo at HS
      have HFO := Lib.hid hfo
      have hcv : ∀ w : World, (convert 3 22 (.int .i64 pv)).run Try.prog w = .ok (.float .f64 fo) w := by
        intro w; rw [← HFO.out]; rfl
      clear hqv hpv hfo
      have hr := H.row 0 rfl
      have HA := H.alloc 1 rfl #[rv fo] 22
      go_wp2_with (at_builtin; refine wpList_append_any _ rfl (.tmp 15) (.tmp 23) _ rfl 0 22 i0 _ 1 8 Try.underlying30 hi0 hz0 hz1 hz2 rfl (by omega) u3 (wlF l j).length ((wlF l j).map rv) rfl (hr.alloc _) (some ⟨wr.heap.size, 0, none⟩) 1 1 [rv fo] rfl (rd_new0 wr [rv fo] _ 1 rfl) (by simpa using rv_one [fo]) (by simp only [maxLen]; omega) (by omega) (by omega) ?_; intro v3 w3 hown3 hg3 hat3)
      have H3 := ((HA.grow 0 rfl hown3 hg3 hat3)).sub (E' := lay [.row 22 1 v3 ((wlF l j).length + 1) ((wlF l j).map rv ++ [rv fo])]) (fun i A hA => by cases i with | zero => exact hA | succ i => simp [lay] at hA)
      go_roundw
      case rel => exact ⟨j + 1, by omega, by go_num, by rw [HS.out]; simpa [Nat.add_assoc] using H3⟩
      case measure => simp [intOf]; omega
    · obtain rfl : j = m := by omega
      by_cases hjn : j < n
      · have hji : (j : Int) < n := by omega
        have hj2 : ¬ (j : Int) < 1024 := by have := HM.out; omega
        go_wp2
        go_ret
        exact ⟨_, rfl, H.ownRow 0 rfl, H.below⟩
      · have hji : ¬ (j : Int) < n := by omega
        go_wp2
        go_ret
        exact ⟨_, rfl, H.ownRow 0 rfl, H.below⟩

end Go.Proofs.Ytgaghggnjemgoaa
