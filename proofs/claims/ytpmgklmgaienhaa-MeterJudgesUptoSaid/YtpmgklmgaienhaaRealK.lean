/- Lists of floats: copied, lent, kept (turnkeykit). -/
import Derived.Test.YtpmgklmgaienhaaProg
import Derived.Test.YtpmgklmgaienhaaSep
import Derived.Test.YtpmgklmgaienhaaFlat
import Derived.Test.YtpmgklmgaienhaaFlo
import Derived.Laws.Cover2
namespace Go.Proofs.Ytpmgklmgaienhaa
open Go.RowKit
set_option linter.unusedVariables false
set_option maxRecDepth 100000

theorem real_info : (Try.prog.info? 25).map (fun i => (i.zero, i.size, i.bytes)) = some (some (.float .f64 0), 1, 8) := by kernel_rfl
/-- a float as a value -/
abbrev rv (b : Nat) : Value := .float .f64 b
theorem rv_one (l : List Nat) : ∀ u ∈ l.map rv, u.oneCell' = true := by
  intro u hu
  obtain ⟨r, -, rfl⟩ := List.mem_map.1 hu
  rfl
def OwnR (w : World) (base : Nat) (v : Value) (l : List Nat) : Prop := w.ownsRow base 25 1 v l.length (l.map rv)
theorem copyR_any (A : Option Addr) (n c : Nat) (l : List Nat) (w : World) (h : Rd w 1 A n (l.map rv)) (hn : n ≤ 17592186044000) :
    Calls Try.prog 37 #[.slice A n c] w fun e w' => ∃ v, e = .returned v ∧ OwnR w' w.heap.size v l ∧ Below w.heap.size w w' := by
  obtain ⟨i0, hi0, hz0, hz1, hz2⟩ := info_parts real_info
  have hl : n = l.length := by have := h.1; simp at this; omega
  subst hl
  go_enter Try.func37, Try.ntmps37
  go_wp2_with (at_builtin; refine wpList_append_any _ rfl (.tmp 4) (.tmp 5) _ rfl w.heap.size 25 i0 _ 1 8 Try.underlying22 hi0 hz0 hz1 hz2 rfl (by omega) (.slice none 0 0) 0 [] rfl ⟨by simp, .inl ⟨rfl, rfl⟩⟩ A l.length c (l.map rv) rfl h (rv_one l) (by simp only [maxLen]; omega) (by omega) (Nat.le_refl _) ?_; intro v1 w1 hown1 hg1 hat1; have hbw1 : Below w.heap.size w w1 := (Below.refl _ _).grown hg1 (Nat.le_refl _) (by simp [Value.ownBlock]))
  go_ret
  exact ⟨v1, rfl, by simpa [OwnR] using hown1, hbw1⟩

/-- The marks behind a lent list. -/
def markR (i : Nat) : Nat := (floatBits .sub .f64 (floatOfInt .f64 (-7000 - (i : Int))) 4620130267728707584).getD 0
def marksR (n : Nat) : List Nat := (List.range n).map markR
theorem marksR_succ (n : Nat) : marksR (n + 1) = marksR n ++ [markR n] := by simp [marksR, List.range_succ]
theorem marksR_length (n : Nat) : (marksR n).length = n := by simp [marksR]
theorem markR_some {i : Nat} (h : i < 6) : floatBits .sub .f64 (floatOfInt .f64 (-7000 - (i : Int))) 4620130267728707584 = some (markR i) := by
  have hh : ∀ i ∈ List.range 6, floatBits .sub .f64 (floatOfInt .f64 (-7000 - (i : Int))) 4620130267728707584 = some (markR i) := by decide +kernel
  exact hh i (List.mem_range.2 h)
theorem marksR_zero : marksR 0 = [] := rfl
attribute [irreducible] markR marksR
theorem markR_s (i : Nat) (w : World) (h : i < 6) {a : Int} (ha : a = (i : Int)) :
    Calls Try.prog 38 #[.int .i64 7, .int .i64 a] w fun e w' => e = .returned (rv (markR i)) ∧ w = w' := by
  subst ha
  have hm := markR_some h
  have m1 := fun (t : TypeId) (w : World) => run_float_arith (P := Try.prog) w .sub t .f64 _ _ _ hm
  clear hm
  generalize markR i = r at m1 ⊢
  go_enter Try.func38, Try.ntmps38
  go_wp2
  go_ret
  exact ⟨rfl, rfl⟩

set_option maxHeartbeats 400000 in
theorem lentR_any (A : Option Addr) (n c : Nat) (l : List Nat) (w : World) (h : Rd w 1 A n (l.map rv)) (hn : n ≤ 17592186043904) :
    Calls Try.prog 10 #[.slice A n c] w fun e w' => ∃ v, e = .returned v ∧ OwnR w' w.heap.size v (l ++ marksR 6) ∧ Below w.heap.size w w' := by
  obtain ⟨i0, hi0, hz0, hz1, hz2⟩ := info_parts real_info
  have hl : l.length = n := by have := h.1; simp at this; omega
  have HL := Lib.hid hl
  clear hl
  go_enter Try.func10, Try.ntmps10
  go_wp2_with (go_at_call 37; refine (copyR_any A n c l _ h (by omega)).mono ?_; rintro e w1 ⟨v1, rfl, ho1, hb1⟩)
  have H1 := (St.start_lay w []).pushRow 0 rfl hb1 ho1
  go_loopw [3, 4] (fun v i wr => ∃ k : Nat, k ≤ 6 ∧ i = .int .i64 k ∧ St w [] wr (lay [.row 25 1 v (l ++ marksR k).length ((l ++ marksR k).map rv)])) (fun _ i _ => 6 - (intOf i).toNat)
  case atStart => exact ⟨0, Nat.zero_le _, rfl, by simpa [marksR_zero] using H1.push_mk rfl⟩
  case round =>
    clear H1 ho1 hb1
    obtain ⟨k, hk, rfl, H⟩ := hrel
    by_cases hlt : k < 6
    · have hm : (l ++ marksR k).length ≤ n + 6 := by have := HL.out; simp [marksR_length]; omega
      go_wp2_with fail
      refine (markR_s k _ hlt rfl).mono ?_
      rintro e w2 ⟨rfl, rfl⟩
      have hr := H.row 0 rfl
      have HA := H.alloc 1 rfl #[rv (markR k)] 25
      generalize hmk : markR k = mk at HA ⊢
      have HM := Lib.hid hmk
      clear hmk
      go_wp2_with (at_builtin; refine wpList_append_any _ rfl (.tmp 11) (.tmp 14) _ rfl 0 25 i0 _ 1 8 Try.underlying22 hi0 hz0 hz1 hz2 rfl (by omega) u3 (l ++ marksR k).length ((l ++ marksR k).map rv) rfl (hr.alloc _) (some ⟨wr.heap.size, 0, none⟩) 1 1 [rv mk] rfl (rd_new0 wr [rv mk] _ 1 rfl) (by simpa using rv_one [mk]) (by simp only [maxLen]; omega) (by omega) (by omega) ?_; intro v3 w3 hown3 hg3 hat3)
      have H3 := ((HA.grow 0 rfl hown3 hg3 hat3)).sub (E' := lay [.row 25 1 v3 ((l ++ marksR k).length + 1) ((l ++ marksR k).map rv ++ [rv mk])]) (fun i A hA => by cases i with | zero => exact hA | succ i => simp [lay] at hA)
      rw [← HM.out] at H3
      go_roundw
      case rel => exact ⟨k + 1, by omega, by go_num, by rw [marksR_succ, ← List.append_assoc]; simpa [Nat.add_assoc] using H3⟩
      case measure => simp [intOf]; omega
    · have hk6 : k = 6 := by omega
      subst hk6
      go_wp2
      go_ret
      exact ⟨_, rfl, H.ownRow 0 rfl, H.below⟩
theorem alikeR_s (x : Nat) (w : World) : Calls Try.prog 56 #[rv x, rv x] w fun e w' => e = .returned (.bool true) ∧ w = w' := by
  by_cases h : FloatKind.f64.format.order x x = some Ordering.eq
  · go_enter Try.func56, Try.ntmps56
    go_wp2
    go_ret
    exact ⟨ret_bool (by simp [h]), rfl⟩
  · go_enter Try.func56, Try.ntmps56
    go_wp2
    go_ret
    exact ⟨ret_bool (by simp; exact Classical.em _), rfl⟩
theorem Rd.realAt {w : World} {A : Option Addr} {n k : Nat} {l : List Nat} (h : Rd w 1 A n (l.map rv)) (hk : k < n) :
    ∃ ad b, A = some ad ∧ l[k]? = some b ∧ w.cell? (ad.add k) = some (rv b) := by
  obtain ⟨ad, u, rfl, -, hu, hc⟩ := h.at_ hk
  rw [List.getElem?_map] at hu
  cases hb : l[k]? with
  | none => rw [hb] at hu; cases hu
  | some b => rw [hb] at hu; cases hu; exact ⟨ad, b, rfl, rfl, hc⟩
set_option maxHeartbeats 400000 in
theorem sameR_yes (A B : Option Addr) (n c d : Nat) (l : List Nat) (w : World) (ha : Rd w 1 A n (l.map rv)) (hb : Rd w 1 B n (l.map rv)) (hn : n ≤ 9223372036854775807) :
    Calls Try.prog 39 #[.slice A n c, .slice B n d] w fun e w' => e = .returned (.bool true) ∧ ∃ k, w' = w.drewN k := by
  have h0 : ((n : Int) != n) = false := by simp
  go_enter Try.func39, Try.ntmps39
  go_wp2
  go_loopw [5] (fun i wr => ∃ k q : Nat, k ≤ n ∧ i = .int .i64 k ∧ wr = w.drewN q) (fun i _ => n - (intOf i).toNat)
  case atStart => exact ⟨0, 0, Nat.zero_le _, rfl, rfl⟩
  case round =>
    obtain ⟨k, q, hk, rfl, rfl⟩ := hrel
    by_cases hlt : k < n
    · obtain ⟨p, x, rfl, hx, hcx⟩ := ha.realAt hlt
      obtain ⟨p', y, rfl, hy, hcy⟩ := hb.realAt hlt
      rw [hx] at hy
      cases hy
      have hk1 : (k : Int) < n := by omega
      clear hx
      have hk1' : k < n := hlt
      go_wp2
      go_quiet ((go_at_call 56; first | with_reducible exact quiet_left (alikeR_s x _) | with_reducible exact quiet_add_left (alikeR_s x _)))
      go_wp2
      go_roundw
      case rel => exact ⟨k + 1, _, by omega, by go_num, rfl⟩
      case measure => simp [intOf]; omega
    · have hk1 : ¬ (k : Int) < n := by omega
      go_wp2
      go_ret
      exact ⟨rfl, _, rfl⟩

/-- is a lent list as it was? -/
theorem keptR_yes (A B : Option Addr) (n m c d : Nat) (l : List Nat) (w : World) (ha : Rd w 1 A m ((l ++ marksR 6).map rv)) (hb : Rd w 1 B n (l.map rv)) (hn : n ≤ 17592186043904) :
    Calls Try.prog 18 #[.slice A m c, .slice B n d] w fun e w' => e = .returned (.bool true) ∧ Below w.heap.size w w' := by
  have hm : m = (l ++ marksR 6).length := by have := ha.1; simp only [List.length_map, Nat.mul_one] at this; omega
  have hl : l.length = n := by have := hb.1; simp at this; omega
  have hm2 : m ≤ 9223372036854775807 := by rw [hm, List.length_append, marksR_length]; omega
  go_enter Try.func18, Try.ntmps18
  go_wp2_with fail
  refine (lentR_any B n d l w hb hn).mono ?_
  rintro e w1 ⟨v, rfl, ho, hbl⟩
  obtain ⟨A2, c2, rfl⟩ : ∃ A2 c2, v = .slice A2 m c2 := by
    rcases ho.2 with ⟨rfl, h0⟩ | ⟨g, cap, cur, rfl, -⟩
    · exact ⟨none, 0, by rw [hm, h0]⟩
    · exact ⟨some ⟨g, 0, none⟩, cap, by rw [hm]⟩
  have hr2 : Rd w1 1 A2 m ((l ++ marksR 6).map rv) := by
    have := ho
    unfold OwnR at this
    rw [← hm] at this
    exact Rd.of_own this
  clear hm hl
  go_wp2_with fail
  refine (sameR_yes A A2 m c c2 (l ++ marksR 6) w1 (ha.below hbl) hr2 hm2).mono ?_
  rintro e w2 ⟨rfl, k, rfl⟩
  go_wp2
  go_ret
  exact ⟨rfl, bdrewN hbl _⟩
end Go.Proofs.Ytpmgklmgaienhaa
