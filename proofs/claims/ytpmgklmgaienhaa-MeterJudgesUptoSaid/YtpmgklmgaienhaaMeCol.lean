/- Columns of a heap of rows; the weight of a number; the first fault: in meter and in the document. -/
import Derived.Test.YtpmgklmgaienhaaMeC
import Derived.Test.YtpmgklmgaienhaaMeK
import Derived.Test.YtpmgklmgaienhaaRealK
namespace Go.Proofs.Ytpmgklmgaienhaa
open Go.RowKit
set_option linter.unusedVariables false
set_option maxRecDepth 100000

/-- a row as it lies in memory, and what it holds -/
structure RowM where
  A : Option Addr
  n : Nat
  c : Nat
  l : List RunT

def rowMV (r : RowM) : Value := .slice r.A r.n r.c

def RowsOk (w : World) (rs : List RowM) : Prop := ∀ r ∈ rs, Rd w 3 r.A r.n (runsV r.l) ∧ r.n ≤ 5864062014634 ∧ ∀ x ∈ r.l, RunOk x

theorem RowsOk.st {w w' : World} {E : Env} {rs : List RowM} (h : RowsOk w rs) (H : St w [] w' E) : RowsOk w' rs := fun r hr => ⟨H.arg0 (h r hr).1, (h r hr).2⟩

theorem RowsOk.below {w w' : World} {rs : List RowM} (h : RowsOk w rs) (hb : Below w.heap.size w w') : RowsOk w' rs := fun r hr => ⟨(h r hr).1.below hb, (h r hr).2⟩

theorem RowsOk.drewN {w : World} {rs : List RowM} (h : RowsOk w rs) (q : Nat) : RowsOk (w.drewN q) rs := fun r hr => ⟨(h r hr).1.drewN q, (h r hr).2⟩

/-- what is asked of a row -/
def askO (kk : Int) (s : Bool) (r : RowM) : Option Nat := if s = true then sizeO r.l kk r.n else some (floatOfInt .f64 (numI r.l kk r.n))

def colO (rs : List RowM) (kk : Int) (s : Bool) (j : Nat) : List (Option Nat) := (rs.take j).map (askO kk s)

theorem colO_succ {rs : List RowM} {kk : Int} {s : Bool} {j : Nat} {r : RowM} (h : rs[j]? = some r) : colO rs kk s (j + 1) = colO rs kk s j ++ [askO kk s r] := by
  unfold colO
  rw [List.take_add_one, h]; simp

theorem heap_cell {w : World} {g o n j : Nat} {rs : List RowM} {r : RowM} (h : Rd w 1 (some ⟨g, o, none⟩) n (rs.map rowMV)) (hr : rs[j]? = some r) : w.cell? ⟨g, o + j, none⟩ = some (rowMV r) := by
  have hl : rs.length = n := by simpa using h.1
  have hj := (List.getElem?_eq_some_iff.1 hr).1
  obtain ⟨g', o', e, -, hc⟩ := h.flat (by omega) (by omega)
  injection e with e
  injection e with e1 e2
  subst e1 e2
  exact hc j _ (by rw [List.getElem?_map, hr]; rfl)

set_option maxHeartbeats 2000000 in
theorem column_a (A : Option Addr) (n c : Nat) (rs : List RowM) (kk : Int) (s : Bool) (w : World) (hR : Rd w 1 A n (rs.map rowMV)) (hok : RowsOk w rs) (hn : n ≤ 100000) :
    Calls Try.prog 47 #[.slice A n c, .int .u8 kk, .bool s] w fun e w' => ∃ v X, e = .returned v ∧ OwnR w' w.heap.size v X ∧ Hid (X.map absF = colO rs kk s n) ∧ Below w.heap.size w w' := by
  obtain ⟨i0, hi0, hz0, hz1, hz2⟩ := info_parts real_info
  have hl : rs.length = n := by simpa using hR.1
  have HL := Lib.hid hl
  have HOK := Lib.hid hok
  clear hl hok
  have H0 := St.start_lay w []
  go_enter Try.func47, Try.ntmps47
  go_wp2
  have H := (H0.nilRow 0 rfl 25 1).push_mk rfl
  clear H0
  go_loopw [7, 12] (fun v i wr => ∃ (j : Nat) (X : List Nat), j ≤ n ∧ i = .int .i64 (j : Int) ∧ Hid (X.map absF = colO rs kk s j) ∧ St w [] wr (lay [.row 25 1 v j (X.map rv)])) (fun _ i _ => n - (intOf i).toNat)
  case atStart => exact ⟨0, [], Nat.zero_le _, rfl, rfl, H⟩
  case round =>
    clear H
    obtain ⟨j, X, hj, rfl, HX, H⟩ := hrel
    by_cases hlt : j < n
    · obtain ⟨⟨RA, rn, rc, rl⟩, hx⟩ : ∃ x, rs[j]? = some x := ⟨_, List.getElem?_eq_getElem (by rw [HL.out]; exact hlt)⟩
      obtain ⟨g, o, rfl, -, -⟩ := (H.arg0 hR).flat (by omega) (by omega)
      have cx := heap_cell (H.arg0 hR) hx
      have hrow := (HOK.out.st H) _ (List.mem_of_getElem? hx)
      have HRow := Lib.hid hrow
      have HC := Lib.hid (colO_succ (kk := kk) (s := s) hx)
      have hji : (j : Int) < n := by omega
      change wr.cell? ⟨g, o + j, none⟩ = some (.slice RA rn rc) at cx
      clear hx hrow
      cases s with
      | true =>
        go_wp2_with fail
        refine (size_a RA rn rc rl kk wr HRow.out.1 HRow.out.2.1).mono ?_
        rintro e w2 ⟨r, rfl, HS, hb⟩
        replace H := H.call hb
        clear hb
        have HN : Hid ((X ++ [r]).map absF = colO rs kk true (j + 1)) := by
          unfold Hid; rw [HC.out, List.map_append, HX.out]; simp [askO, HS.out]
        have hx1 : X.length = j := by have := congrArg List.length HX.out; simp [colO] at this; have := HL.out; omega
        have HX1 := Lib.hid hx1
        clear hx1
        have hr := H.row 0 rfl
        have HA := H.alloc 1 rfl #[rv r] 25
        go_wp2_with (at_builtin; refine wpList_append_any _ rfl (.tmp 17) (.tmp 21) _ rfl 0 25 i0 _ 1 8 Try.underlying22 hi0 hz0 hz1 hz2 rfl (by omega) u7 j (X.map rv) rfl (hr.alloc _) (some ⟨w2.heap.size, 0, none⟩) 1 1 [rv r] rfl (rd_new0 w2 [rv r] _ 1 rfl) (by simpa using rv_one [r]) (by simp only [maxLen]; omega) (by omega) (by omega) ?_; intro v3 w3 hown3 hg3 hat3)
        have H3 := ((HA.grow 0 rfl hown3 hg3 hat3)).sub (E' := lay [.row 25 1 v3 (j + 1) (X.map rv ++ [rv r])]) (fun i A hA => by cases i with | zero => exact hA | succ i => simp [lay] at hA)
        go_roundw
        case rel => exact ⟨j + 1, X ++ [r], by omega, by go_num, HN.out, by simpa using H3⟩
        case measure => simp [intOf]; omega

      | false =>
        go_wp2_with fail
        refine (number_s RA rn rc rl kk wr HRow.out.1 HRow.out.2.2 HRow.out.2.1).mono ?_
        rintro e w2 ⟨rfl, hb⟩
        replace H := H.call hb
        clear hb
        have hi := absF_int (numI rl kk rn)
        generalize hgen : floatOfInt .f64 (numI rl kk rn) = r at hi ⊢
        have HN : Hid ((X ++ [r]).map absF = colO rs kk false (j + 1)) := by
          unfold Hid; rw [HC.out, List.map_append, HX.out]; simp [askO, hgen, hi]
        clear hgen hi
        have hr := H.row 0 rfl
        have HA := H.alloc 1 rfl #[rv r] 25
        go_wp2_with (at_builtin; refine wpList_append_any _ rfl (.tmp 23) (.tmp 27) _ rfl 0 25 i0 _ 1 8 Try.underlying22 hi0 hz0 hz1 hz2 rfl (by omega) u7 j (X.map rv) rfl (hr.alloc _) (some ⟨w2.heap.size, 0, none⟩) 1 1 [rv r] rfl (rd_new0 w2 [rv r] _ 1 rfl) (by simpa using rv_one [r]) (by simp only [maxLen]; omega) (by omega) (by omega) ?_; intro v3 w3 hown3 hg3 hat3)
        have H3 := ((HA.grow 0 rfl hown3 hg3 hat3)).sub (E' := lay [.row 25 1 v3 (j + 1) (X.map rv ++ [rv r])]) (fun i A hA => by cases i with | zero => exact hA | succ i => simp [lay] at hA)
        go_roundw
        case rel => exact ⟨j + 1, X ++ [r], by omega, by go_num, HN.out, by simpa using H3⟩
        case measure => simp [intOf]; omega

    · obtain rfl : j = n := by omega
      have hji : ¬ (j : Int) < j := by omega
      have hx1 : X.length = j := by have := congrArg List.length HX.out; simp [colO] at this; have := HL.out; omega
      go_wp2
      go_ret
      have ho := H.ownRow 0 rfl
      exact ⟨_, rfl, X, by unfold OwnR; rw [hx1]; exact ho, HX, H.below⟩

set_option maxHeartbeats 2000000 in
theorem values_a (A : Option Addr) (n c : Nat) (rs : List RowM) (kk : Int) (s : Bool) (w : World) (hR : Rd w 1 A n (rs.map rowMV)) (hok : RowsOk w rs) (hn : n ≤ 100000) :
    Calls Try.prog 51 #[.slice A n c, .int .u8 kk, .bool s] w fun e w' => ∃ v X, e = .returned v ∧ OwnR w' w.heap.size v X ∧ Hid (X.map absF = colO rs kk s n) ∧ Below w.heap.size w w' := by
  obtain ⟨i0, hi0, hz0, hz1, hz2⟩ := info_parts real_info
  have hl : rs.length = n := by simpa using hR.1
  have HL := Lib.hid hl
  have HOK := Lib.hid hok
  clear hl hok
  have H0 := St.start_lay w []
  go_enter Try.func51, Try.ntmps51
  go_wp2
  have H := (H0.nilRow 0 rfl 25 1).push_mk rfl
  clear H0
  go_loopw [7, 8] (fun v i wr => ∃ (j : Nat) (X : List Nat), j ≤ n ∧ i = .int .i64 (j : Int) ∧ Hid (X.map absF = colO rs kk s j) ∧ St w [] wr (lay [.row 25 1 v j (X.map rv)])) (fun _ i _ => n - (intOf i).toNat)
  case atStart => exact ⟨0, [], Nat.zero_le _, rfl, rfl, H⟩
  case round =>
    clear H
    obtain ⟨j, X, hj, rfl, HX, H⟩ := hrel
    by_cases hlt : j < n
    · obtain ⟨⟨RA, rn, rc, rl⟩, hx⟩ : ∃ x, rs[j]? = some x := ⟨_, List.getElem?_eq_getElem (by rw [HL.out]; exact hlt)⟩
      obtain ⟨g, o, rfl, -, -⟩ := (H.arg0 hR).flat (by omega) (by omega)
      have cx := heap_cell (H.arg0 hR) hx
      have hrow := (HOK.out.st H) _ (List.mem_of_getElem? hx)
      have HRow := Lib.hid hrow
      have HC := Lib.hid (colO_succ (kk := kk) (s := s) hx)
      have hji : (j : Int) < n := by omega
      change wr.cell? ⟨g, o + j, none⟩ = some (.slice RA rn rc) at cx
      clear hx hrow
      cases s with
      | true =>
        go_wp2_with fail
        refine (refSize_a RA rn rc rl kk wr HRow.out.1 HRow.out.2.1).mono ?_
        rintro e w2 ⟨r, q, rfl, HS, rfl⟩
        replace H := H.drewN q
        skip
        have HN : Hid ((X ++ [r]).map absF = colO rs kk true (j + 1)) := by
          unfold Hid; rw [HC.out, List.map_append, HX.out]; simp [askO, HS.out]
        have hx1 : X.length = j := by have := congrArg List.length HX.out; simp [colO] at this; have := HL.out; omega
        have HX1 := Lib.hid hx1
        clear hx1
        have hr := H.row 0 rfl
        have HA := H.alloc 1 rfl #[rv r] 25
        go_wp2_with (at_builtin; refine wpList_append_any _ rfl (.tmp 16) (.tmp 23) _ rfl 0 25 i0 _ 1 8 Try.underlying22 hi0 hz0 hz1 hz2 rfl (by omega) u7 j (X.map rv) rfl (hr.alloc _) (some ⟨(wr.drewN q).heap.size, 0, none⟩) 1 1 [rv r] rfl (rd_new0 (wr.drewN q) [rv r] _ 1 rfl) (by simpa using rv_one [r]) (by simp only [maxLen]; omega) (by omega) (by omega) ?_; intro v3 w3 hown3 hg3 hat3)
        have H3 := ((HA.grow 0 rfl hown3 hg3 hat3)).sub (E' := lay [.row 25 1 v3 (j + 1) (X.map rv ++ [rv r])]) (fun i A hA => by cases i with | zero => exact hA | succ i => simp [lay] at hA)
        go_roundw
        case rel => exact ⟨j + 1, X ++ [r], by omega, by go_num, HN.out, by simpa using H3⟩
        case measure => simp [intOf]; omega

      | false =>
        go_wp2_with fail
        refine (refNumber_s RA rn rc rl kk wr HRow.out.1 HRow.out.2.2 HRow.out.2.1).mono ?_
        rintro e w2 ⟨rfl, hb⟩
        replace H := H.call hb
        clear hb
        have hi := absF_int (numI rl kk rn)
        generalize hgen : floatOfInt .f64 (numI rl kk rn) = r at hi ⊢
        have HN : Hid ((X ++ [r]).map absF = colO rs kk false (j + 1)) := by
          unfold Hid; rw [HC.out, List.map_append, HX.out]; simp [askO, hgen, hi]
        clear hgen hi
        have hr := H.row 0 rfl
        have HA := H.alloc 1 rfl #[rv r] 25
        go_wp2_with (at_builtin; refine wpList_append_any _ rfl (.tmp 25) (.tmp 32) _ rfl 0 25 i0 _ 1 8 Try.underlying22 hi0 hz0 hz1 hz2 rfl (by omega) u7 j (X.map rv) rfl (hr.alloc _) (some ⟨w2.heap.size, 0, none⟩) 1 1 [rv r] rfl (rd_new0 w2 [rv r] _ 1 rfl) (by simpa using rv_one [r]) (by simp only [maxLen]; omega) (by omega) (by omega) ?_; intro v3 w3 hown3 hg3 hat3)
        have H3 := ((HA.grow 0 rfl hown3 hg3 hat3)).sub (E' := lay [.row 25 1 v3 (j + 1) (X.map rv ++ [rv r])]) (fun i A hA => by cases i with | zero => exact hA | succ i => simp [lay] at hA)
        go_roundw
        case rel => exact ⟨j + 1, X ++ [r], by omega, by go_num, HN.out, by simpa using H3⟩
        case measure => simp [intOf]; omega

    · obtain rfl : j = n := by omega
      have hji : ¬ (j : Int) < j := by omega
      have hx1 : X.length = j := by have := congrArg List.length HX.out; simp [colO] at this; have := HL.out; omega
      go_wp2
      go_ret
      have ho := H.ownRow 0 rfl
      exact ⟨_, rfl, X, by unfold OwnR; rw [hx1]; exact ho, HX, H.below⟩

end Go.Proofs.Ytpmgklmgaienhaa
