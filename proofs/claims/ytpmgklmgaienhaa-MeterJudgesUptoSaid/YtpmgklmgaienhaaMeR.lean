/- Lists of runs lent. -/
import Derived.Test.YtpmgklmgaienhaaProg
import Derived.Test.YtpmgklmgaienhaaRows
import Derived.Test.YtpmgklmgaienhaaSep
import Derived.Test.YtpmgklmgaienhaaRuns
import Derived.Test.YtpmgklmgaienhaaFlat
namespace Go.Proofs.Ytpmgklmgaienhaa
open Go.RowKit
set_option linter.unusedVariables false
set_option maxRecDepth 100000

theorem run_info : (Try.prog.info? 60).map (fun i => (i.zero, i.size, i.bytes)) = some (some (.agg #[.int .u8 0, .int .i64 0, .int .i64 0]), 3, 24) := by kernel_rfl
theorem runsV_one (rs : List RunT) : ∀ u ∈ runsV rs, u.oneCell' = true := by
  intro u hu
  obtain ⟨r, -, hr⟩ := List.mem_flatMap.1 hu
  simp [runV] at hr
  rcases hr with rfl | rfl | rfl <;> rfl

def OwnRn (w : World) (base : Nat) (v : Value) (l : List RunT) : Prop := w.ownsRow base 60 3 v l.length (runsV l)
theorem copyRn_any (A : Option Addr) (n c : Nat) (l : List RunT) (w : World) (h : Rd w 3 A n (runsV l)) (hn : n ≤ 5864062014800) :
    Calls Try.prog 41 #[.slice A n c] w fun e w' => ∃ v, e = .returned v ∧ OwnRn w' w.heap.size v l ∧ Below w.heap.size w w' := by
  obtain ⟨i0, hi0, hz0, hz1, hz2⟩ := info_parts run_info
  have hl : n = l.length := by have := h.1; rw [runsV_length] at this; omega
  subst hl
  go_enter Try.func41, Try.ntmps41
  go_wp2_with (at_builtin; refine wpList_append_any _ rfl (.tmp 4) (.tmp 5) _ rfl w.heap.size 60 i0 _ 3 24 Try.underlying35 hi0 hz0 hz1 hz2 rfl (by omega) (.slice none 0 0) 0 [] rfl ⟨by simp, .inl ⟨rfl, rfl⟩⟩ A l.length c (runsV l) rfl h (runsV_one l) (by simp only [maxLen]; omega) (by omega) (Nat.le_refl _) ?_; intro v1 w1 hown1 hg1 hat1; have hbw1 : Below w.heap.size w w1 := (Below.refl _ _).grown hg1 (Nat.le_refl _) (by simp [Value.ownBlock]))
  go_ret
  exact ⟨v1, rfl, by simpa [OwnRn] using hown1, hbw1⟩

/-- The marks behind a lent list. -/
def markRn (k i : Nat) : RunT := (0, 0, -1000 * (k : Int) - i - 7)
def marksRn (k s n : Nat) : List RunT := (List.range n).map fun i => markRn k (s + i)
theorem marksRn_succ (k s n : Nat) : marksRn k s (n + 1) = marksRn k s n ++ [markRn k (s + n)] := by
  simp [marksRn, List.range_succ]
theorem marksRn_length (k s n : Nat) : (marksRn k s n).length = n := by simp [marksRn]

set_option maxHeartbeats 400000 in
theorem markRn_any (k i : Nat) (w : World) (h1 : k ≤ 100000) (h3 : i ≤ 1000000000000000000) {a b : Int} (ha : a = (k : Int)) (hb : b = (i : Int)) :
    Calls Try.prog 42 #[.int .i64 a, .int .i64 b] w fun e w' => e = .returned (.agg (runV (markRn k i)).toArray) ∧ Below w.heap.size w w' := by
  subst ha hb
  go_enter Try.func42, Try.ntmps42
  go_wp2
  exact bodyPost_ret (results_cell_row rfl _ _ w.heap.size 60 (runV (markRn k i)).toArray _ _ rfl (heap_alloc_new _ _) Try.underlying60 rfl (by kernel_rfl)) rfl ⟨rfl, (Below.refl _ _).alloc (Nat.le_refl _) _⟩

theorem markRn_h (k i : Nat) (w : World) (h1 : k ≤ 100000) (h3 : i ≤ 1000000000000000000) {a b : Int} (ha : a = (k : Int)) (hb : b = (i : Int)) :
    Calls Try.prog 42 #[.int .i64 a, .int .i64 b] w fun e w' => ∃ x1 x2 x3, Hid ((x1, x2, x3) = markRn k i) ∧ e = .returned (.agg #[.int .u8 x1, .int .i64 x2, .int .i64 x3]) ∧ Below w.heap.size w w' :=
  (markRn_any k i w h1 h3 ha hb).mono fun _ _ h => ⟨_, _, _, rfl, h.1, h.2⟩

set_option maxHeartbeats 400000 in
theorem lentRn_any (A : Option Addr) (n c : Nat) (l : List RunT) (w : World) (h : Rd w 3 A n (runsV l)) (hn : n ≤ 5864062014700) :
    Calls Try.prog 20 #[.slice A n c] w fun e w' => ∃ v, e = .returned v ∧ OwnRn w' w.heap.size v (l ++ marksRn 7 0 6) ∧ Below w.heap.size w w' := by
  obtain ⟨i0, hi0, hz0, hz1, hz2⟩ := info_parts run_info
  have hl : l.length = n := by have := h.1; rw [runsV_length] at this; omega
  have HL := Lib.hid hl
  clear hl
  go_enter Try.func20, Try.ntmps20
  go_wp2_with (go_at_call 41; refine (copyRn_any A n c l _ h (by omega)).mono ?_; rintro e w1 ⟨v1, rfl, ho1, hb1⟩)
  have H1 := (St.start_lay w []).pushRow 0 rfl hb1 ho1
  go_loopw [3, 4] (fun v i wr => ∃ k : Nat, k ≤ 6 ∧ i = .int .i64 k ∧ St w [] wr (lay [.row 60 3 v (l ++ marksRn 7 0 k).length (runsV (l ++ marksRn 7 0 k))])) (fun _ i _ => 6 - (intOf i).toNat)
  case atStart => exact ⟨0, Nat.zero_le _, rfl, by simpa [marksRn] using H1.push_mk rfl⟩
  case round =>
    clear H1 ho1 hb1
    obtain ⟨k, hk, rfl, H⟩ := hrel
    by_cases hlt : k < 6
    · have hm : (l ++ marksRn 7 0 k).length ≤ n + 6 := by have := HL.out; simp [marksRn_length]; omega
      go_wp2_with fail
      refine (markRn_h 7 k _ (by omega) (by omega) rfl rfl).mono ?_
      rintro e w2 ⟨x1, x2, x3, HM, rfl, hb2⟩
      have H2 := H.call hb2
      have hr := H2.row 0 rfl
      go_wp2_with (at_builtin; refine wpList_append_any _ rfl (.tmp 11) (.tmp 14) _ rfl 0 60 i0 _ 3 24 Try.underlying35 hi0 hz0 hz1 hz2 rfl (by omega) u3 (l ++ marksRn 7 0 k).length (runsV (l ++ marksRn 7 0 k)) rfl (hr.alloc _) (some ⟨w2.heap.size, 0, none⟩) 1 1 (runV (x1, x2, x3)) rfl (rd_new0 w2 (runV (x1, x2, x3)) _ 3 rfl) (by simpa [runsV] using runsV_one [(x1, x2, x3)]) (by simp only [maxLen]; omega) (by omega) (by omega) ?_; intro v3 w3 hown3 hg3 hat3)
      have H3 := (((((H2.alloc 1 rfl #[.int .u8 x1, .int .i64 x2, .int .i64 x3] 60)).grow 0 rfl hown3 hg3 hat3)).sub (E' := lay [.row 60 3 v3 ((l ++ marksRn 7 0 k).length + 1) (runsV (l ++ marksRn 7 0 k) ++ runV (x1, x2, x3))]) (fun i A hA => by cases i with | zero => exact hA | succ i => simp [lay] at hA))
      rw [HM.out] at H3
      go_roundw
      case rel => exact ⟨k + 1, by omega, by go_num, by rw [marksRn_succ, ← List.append_assoc]; simpa [runsV_append, runsV, Nat.add_assoc] using H3⟩
      case measure => simp [intOf]; omega
    · have hk6 : k = 6 := by omega
      subst hk6
      go_wp2
      go_ret
      exact ⟨_, rfl, H.ownRow 0 rfl, H.below⟩

end Go.Proofs.Ytpmgklmgaienhaa
