/- Skeletons as cells; the kit's functions for lists of them. -/
import Derived.Test.YtgfhnbjpdhdhgaaRows
import Derived.Test.YtgfhnbjpdhdhgaaSep
import Derived.Test.YtgfhnbjpdhdhgaaFlat
namespace Go.Proofs.Ytgfhnbjpdhdhgaa
open Go.RowKit
set_option linter.unusedVariables false

/-- kind, handle, alg, count, out, data, more -/
abbrev SkT := Int × Int × Int × Int × Int × Int × Int
instance : DecidableEq SkT := @instDecidableEqProd _ _ inferInstance (@instDecidableEqProd _ _ inferInstance (@instDecidableEqProd _ _ inferInstance (@instDecidableEqProd _ _ inferInstance (@instDecidableEqProd _ _ inferInstance (@instDecidableEqProd _ _ inferInstance inferInstance)))))
def skV (s : SkT) : List Value := [.int .u8 s.1, .int .i64 s.2.1, .int .u8 s.2.2.1, .int .i64 s.2.2.2.1, .int .i64 s.2.2.2.2.1, .int .i64 s.2.2.2.2.2.1, .int .i64 s.2.2.2.2.2.2]
def sksV (l : List SkT) : List Value := l.flatMap skV
theorem skV_length (s : SkT) : (skV s).length = 7 := rfl
theorem sksV_length (l : List SkT) : (sksV l).length = l.length * 7 := flat_length skV_length l
theorem sksV_append (a b : List SkT) : sksV (a ++ b) = sksV a ++ sksV b := by simp [sksV]
theorem sksV_get (l : List SkT) (i j : Nat) (a : SkT) (hi : l[i]? = some a) (hj : j < 7) : (sksV l)[i * 7 + j]? = (skV a)[j]? := flat_get skV_length l i j a hi hj
theorem sksV_one (l : List SkT) : ∀ u ∈ sksV l, u.oneCell' = true := flat_one (by intro a u hu; simp [skV] at hu; rcases hu with rfl | rfl | rfl | rfl | rfl | rfl | rfl <;> rfl) l
theorem sk_info : (Try.prog.info? 51).map (fun i => (i.zero, i.size, i.bytes)) = some (some (.agg #[.int .u8 0, .int .i64 0, .int .u8 0, .int .i64 0, .int .i64 0, .int .i64 0, .int .i64 0]), 7, 56) := by kernel_rfl

theorem sk_cells {w : World} {A : Option Addr} {n k : Nat} {l : List SkT} {x : SkT} (h : Rd w 7 A n (sksV l)) (hx : l[k]? = some x) : ∃ p o, A = some ⟨p, o, none⟩ ∧ w.cell? ⟨p, o + k * 7, none⟩ = some (.int .u8 x.1) ∧
    w.cell? ⟨p, o + k * 7 + 1, none⟩ = some (.int .i64 x.2.1) ∧ w.cell? ⟨p, o + k * 7 + 2, none⟩ = some (.int .u8 x.2.2.1) ∧ w.cell? ⟨p, o + k * 7 + 3, none⟩ = some (.int .i64 x.2.2.2.1) ∧
    w.cell? ⟨p, o + k * 7 + 4, none⟩ = some (.int .i64 x.2.2.2.2.1) ∧ w.cell? ⟨p, o + k * 7 + 5, none⟩ = some (.int .i64 x.2.2.2.2.2.1) ∧ w.cell? ⟨p, o + k * 7 + 6, none⟩ = some (.int .i64 x.2.2.2.2.2.2) := by
  have hl := h.1
  rw [sksV_length] at hl
  have hk : k < l.length := (List.getElem?_eq_some_iff.1 hx).1
  obtain ⟨p, o, rfl, -, hc⟩ := h.flat (by omega) (by omega)
  refine ⟨p, o, rfl, ?_, ?_, ?_, ?_, ?_, ?_, ?_⟩
  · have := hc (k * 7 + 0) _ (sksV_get l k 0 x hx (by omega)); exact this
  · have := hc (k * 7 + 1) _ (sksV_get l k 1 x hx (by omega)); rwa [← Nat.add_assoc] at this
  · have := hc (k * 7 + 2) _ (sksV_get l k 2 x hx (by omega)); rwa [← Nat.add_assoc] at this
  · have := hc (k * 7 + 3) _ (sksV_get l k 3 x hx (by omega)); rwa [← Nat.add_assoc] at this
  · have := hc (k * 7 + 4) _ (sksV_get l k 4 x hx (by omega)); rwa [← Nat.add_assoc] at this
  · have := hc (k * 7 + 5) _ (sksV_get l k 5 x hx (by omega)); rwa [← Nat.add_assoc] at this
  · have := hc (k * 7 + 6) _ (sksV_get l k 6 x hx (by omega)); rwa [← Nat.add_assoc] at this

theorem sk_differ {x y : SkT} (h : x ≠ y) : (x.1 == y.1) = false ∨ (x.1 = y.1 ∧ (x.2.1 == y.2.1) = false) ∨ (x.1 = y.1 ∧ x.2.1 = y.2.1 ∧ (x.2.2.1 == y.2.2.1) = false) ∨ (x.1 = y.1 ∧ x.2.1 = y.2.1 ∧ x.2.2.1 = y.2.2.1 ∧ (x.2.2.2.1 == y.2.2.2.1) = false) ∨
    (x.1 = y.1 ∧ x.2.1 = y.2.1 ∧ x.2.2.1 = y.2.2.1 ∧ x.2.2.2.1 = y.2.2.2.1 ∧ (x.2.2.2.2.1 == y.2.2.2.2.1) = false) ∨ (x.1 = y.1 ∧ x.2.1 = y.2.1 ∧ x.2.2.1 = y.2.2.1 ∧ x.2.2.2.1 = y.2.2.2.1 ∧ x.2.2.2.2.1 = y.2.2.2.2.1 ∧ (x.2.2.2.2.2.1 == y.2.2.2.2.2.1) = false) ∨
    (x.1 = y.1 ∧ x.2.1 = y.2.1 ∧ x.2.2.1 = y.2.2.1 ∧ x.2.2.2.1 = y.2.2.2.1 ∧ x.2.2.2.2.1 = y.2.2.2.2.1 ∧ x.2.2.2.2.2.1 = y.2.2.2.2.2.1 ∧ (x.2.2.2.2.2.2 == y.2.2.2.2.2.2) = false) := by
  obtain ⟨a, b, c, d, e, f, g⟩ := x
  obtain ⟨a', b', c', d', e', f', g'⟩ := y
  simp only [ne_eq, Prod.mk.injEq, beq_eq_false_iff_ne] at h ⊢
  grind

set_option maxHeartbeats 1000000 in
theorem sameSk_any (A B : Option Addr) (n m c d : Nat) (xs ys : List SkT) (w : World) (ha : Rd w 7 A n (sksV xs)) (hb : Rd w 7 B m (sksV ys)) (hn : n ≤ 9223372036854775807) (hm : m ≤ 9223372036854775807) :
    Calls Try.prog 15 #[.slice A n c, .slice B m d] w fun e w' => e = .returned (.bool (decide (xs = ys))) ∧ ∃ k, w' = w.drewN k := by
  have hlx : xs.length = n := by have := ha.1; rw [sksV_length] at this; omega
  have hly : ys.length = m := by have := hb.1; rw [sksV_length] at this; omega
  have Hx := Lib.hid hlx
  have Hy := Lib.hid hly
  clear hlx hly
  by_cases hnm : n = m
  · subst hnm
    have h0 : ((n : Int) != n) = false := by simp
    go_enter Try.func15, Try.ntmps15
    go_wp2
    go_loopw [5] (fun i wr => ∃ k q : Nat, k ≤ n ∧ i = .int .i64 k ∧ wr = w.drewN q ∧ Hid (xs.take k = ys.take k)) (fun i _ => n - (intOf i).toNat)
    case atStart => exact ⟨0, 0, Nat.zero_le _, rfl, rfl, rfl⟩
    case round =>
      obtain ⟨k, q, hk, rfl, rfl, hpre⟩ := hrel
      by_cases hlt : k < n
      · obtain ⟨⟨x1, x2, x3, x4, x5, x6, x7⟩, hx⟩ : ∃ r, xs[k]? = some r := ⟨_, List.getElem?_eq_getElem (by rw [Hx.out]; exact hlt)⟩
        obtain ⟨⟨y1, y2, y3, y4, y5, y6, y7⟩, hy⟩ : ∃ r, ys[k]? = some r := ⟨_, List.getElem?_eq_getElem (by rw [Hy.out]; exact hlt)⟩
        obtain ⟨p, o, rfl, a0, a1, a2, a3, a4, a5, a6⟩ := sk_cells ha hx
        obtain ⟨p', o', rfl, b0, b1, b2, b3, b4, b5, b6⟩ := sk_cells hb hy
        have HX := Lib.hid hx
        have HY := Lib.hid hy
        clear hx hy
        have hk1 : (k : Int) < n := by omega
        go_wp2
        by_cases hxy : (x1, x2, x3, x4, x5, x6, x7) = ((y1, y2, y3, y4, y5, y6, y7) : SkT)
        · simp only [Prod.mk.injEq] at hxy
          obtain ⟨rfl, rfl, rfl, rfl, rfl, rfl, rfl⟩ := hxy
          go_quiet (fail)
          clear hk1
          go_wp2
          go_roundw
          case rel => exact ⟨k + 1, q + nq, by omega, by go_num, by simp, take_succ_eq hpre.out HX.out HY.out⟩
          case measure => simp [intOf]; omega
        · have hq := sk_differ hxy
          simp only at hq
          rcases hq with hq | ⟨rfl, hq⟩ | ⟨rfl, rfl, hq⟩ | ⟨rfl, rfl, rfl, hq⟩ | ⟨rfl, rfl, rfl, rfl, hq⟩ | ⟨rfl, rfl, rfl, rfl, rfl, hq⟩ | ⟨rfl, rfl, rfl, rfl, rfl, rfl, hq⟩
          all_goals
            go_quiet (fail)
            clear hk1
            go_wp2
            go_ret
            refine ⟨ret_bool ?_, q + nq, by simp⟩
            symm; simp only [decide_eq_false_iff_not]
            rintro rfl
            have a := HX.out
            have b := HY.out
            rw [a] at b
            exact hxy (Option.some.inj b)
      · go_wp2
        go_ret
        refine ⟨ret_bool ?_, q, rfl⟩
        symm; simp only [decide_eq_true_eq]
        have h := hpre.out
        have a := Hx.out
        have b := Hy.out
        rwa [List.take_of_length_le (by omega), List.take_of_length_le (by omega)] at h
  · have h0 : ((n : Int) != m) = true := by simp only [bne_iff_ne, ne_eq]; omega
    go_enter Try.func15, Try.ntmps15
    go_wp2
    go_ret
    refine ⟨ret_bool ?_, 0, rfl⟩
    symm; simp only [decide_eq_false_iff_not]
    rintro rfl
    exact hnm (Hx.out.symm.trans Hy.out)

set_option maxHeartbeats 1000000 in
theorem skelSame_any (A B : Option Addr) (n m c d : Nat) (xs ys : List SkT) (w : World) (ha : Rd w 7 A n (sksV xs)) (hb : Rd w 7 B m (sksV ys)) (hn : n ≤ 9223372036854775807) (hm : m ≤ 9223372036854775807) :
    Calls Try.prog 16 #[.slice A n c, .slice B m d] w fun e w' => e = .returned (.bool (decide (xs = ys))) ∧ ∃ k, w' = w.drewN k := by
  have hlx : xs.length = n := by have := ha.1; rw [sksV_length] at this; omega
  have hly : ys.length = m := by have := hb.1; rw [sksV_length] at this; omega
  have Hx := Lib.hid hlx
  have Hy := Lib.hid hly
  clear hlx hly
  by_cases hnm : n = m
  · subst hnm
    have h0 : ((n : Int) != n) = false := by simp
    go_enter Try.func16, Try.ntmps16
    go_wp2
    go_loopw [5, 13] (fun _ i wr => ∃ k q : Nat, k ≤ n ∧ i = .int .i64 k ∧ wr = w.drewN q ∧ Hid (xs.take k = ys.take k)) (fun _ i _ => n - (intOf i).toNat)
    case atStart => exact ⟨0, 0, Nat.zero_le _, rfl, rfl, rfl⟩
    case round =>
      obtain ⟨k, q, hk, rfl, rfl, hpre⟩ := hrel
      by_cases hlt : k < n
      · obtain ⟨⟨x1, x2, x3, x4, x5, x6, x7⟩, hx⟩ : ∃ r, xs[k]? = some r := ⟨_, List.getElem?_eq_getElem (by rw [Hx.out]; exact hlt)⟩
        obtain ⟨⟨y1, y2, y3, y4, y5, y6, y7⟩, hy⟩ : ∃ r, ys[k]? = some r := ⟨_, List.getElem?_eq_getElem (by rw [Hy.out]; exact hlt)⟩
        obtain ⟨p, o, rfl, a0, a1, a2, a3, a4, a5, a6⟩ := sk_cells ha hx
        obtain ⟨p', o', rfl, b0, b1, b2, b3, b4, b5, b6⟩ := sk_cells hb hy
        have HX := Lib.hid hx
        have HY := Lib.hid hy
        clear hx hy
        have hk1 : (k : Int) < n := by omega
        go_wp2
        by_cases hxy : (x1, x2, x3, x4, x5, x6, x7) = ((y1, y2, y3, y4, y5, y6, y7) : SkT)
        · simp only [Prod.mk.injEq] at hxy
          obtain ⟨rfl, rfl, rfl, rfl, rfl, rfl, rfl⟩ := hxy
          go_quiet (fail)
          clear hk1
          go_wp2
          go_roundw
          case rel => exact ⟨k + 1, q + nq, by omega, by go_num, by simp, take_succ_eq hpre.out HX.out HY.out⟩
          case measure => simp [intOf]; omega
        · have hq := sk_differ hxy
          simp only at hq
          rcases hq with hq | ⟨rfl, hq⟩ | ⟨rfl, rfl, hq⟩ | ⟨rfl, rfl, rfl, hq⟩ | ⟨rfl, rfl, rfl, rfl, hq⟩ | ⟨rfl, rfl, rfl, rfl, rfl, hq⟩ | ⟨rfl, rfl, rfl, rfl, rfl, rfl, hq⟩
          all_goals
            go_quiet (fail)
            clear hk1
            go_wp2
            go_ret
            refine ⟨ret_bool ?_, q + nq, by simp⟩
            symm; simp only [decide_eq_false_iff_not]
            rintro rfl
            have a := HX.out
            have b := HY.out
            rw [a] at b
            exact hxy (Option.some.inj b)
      · go_wp2
        go_ret
        refine ⟨ret_bool ?_, q, rfl⟩
        symm; simp only [decide_eq_true_eq]
        have h := hpre.out
        have a := Hx.out
        have b := Hy.out
        rwa [List.take_of_length_le (by omega), List.take_of_length_le (by omega)] at h
  · have h0 : ((n : Int) != m) = true := by simp only [bne_iff_ne, ne_eq]; omega
    go_enter Try.func16, Try.ntmps16
    go_wp2
    go_ret
    refine ⟨ret_bool ?_, 0, rfl⟩
    symm; simp only [decide_eq_false_iff_not]
    rintro rfl
    exact hnm (Hx.out.symm.trans Hy.out)

/-- a row of skeletons of one's own -/
def OwnS (w : World) (base : Nat) (v : Value) (l : List SkT) : Prop := w.ownsRow base 51 7 v l.length (sksV l)
theorem OwnS.shape {w : World} {base : Nat} {v : Value} {l : List SkT} (h : OwnS w base v l) : ∃ A n c, v = .slice A n c ∧ Hid (n = l.length) ∧ Rd w 7 A n (sksV l) := by
  rcases h.2 with ⟨rfl, hn⟩ | ⟨g, cap, cur, rfl, h2, h3⟩
  · have : l = [] := List.length_eq_zero_iff.1 hn
    subst this
    exact ⟨none, 0, 0, rfl, rfl, Rd.none_⟩
  · exact ⟨_, _, _, rfl, rfl, Rd.of_own h⟩

set_option maxHeartbeats 400000 in
theorem copySk_any (A : Option Addr) (n c : Nat) (l : List SkT) (w : World) (h : Rd w 7 A n (sksV l)) (hn : n ≤ 2513169434916) :
    Calls Try.prog 17 #[.slice A n c] w fun e w' => ∃ v, e = .returned v ∧ OwnS w' w.heap.size v l ∧ Below w.heap.size w w' := by
  obtain ⟨i0, hi0, hz0, hz1, hz2⟩ := info_parts sk_info
  have hl : n = l.length := by have := h.1; rw [sksV_length] at this; omega
  subst hl
  go_enter Try.func17, Try.ntmps17
  go_wp2_with (at_builtin; refine wpList_append_any _ rfl (.tmp 4) (.tmp 5) _ rfl w.heap.size 51 i0 _ 7 56 Try.underlying22 hi0 hz0 hz1 hz2 rfl (by omega) (.slice none 0 0) 0 [] rfl ⟨by simp, .inl ⟨rfl, rfl⟩⟩ A l.length c (sksV l) rfl h (sksV_one l) (by simp only [maxLen]; omega) (by omega) (Nat.le_refl _) ?_; intro v1 w1 hown1 hg1 hat1; have hbw1 : Below w.heap.size w w1 := (Below.refl _ _).grown hg1 (Nat.le_refl _) (by simp [Value.ownBlock]))
  go_ret
  exact ⟨v1, rfl, by simpa [OwnS] using hown1, hbw1⟩

/-- The marks behind a lent list. -/
def markS (k i : Nat) : SkT := (0, -1000 * (k : Int) - i - 7, 0, 0, 0, 0, 0)
def marksS (k s n : Nat) : List SkT := (List.range n).map fun i => markS k (s + i)
theorem marksS_succ (k s n : Nat) : marksS k s (n + 1) = marksS k s n ++ [markS k (s + n)] := by
  simp [marksS, List.range_succ]
theorem marksS_length (k s n : Nat) : (marksS k s n).length = n := by simp [marksS]

set_option maxHeartbeats 400000 in
theorem markS_any (k i : Nat) (w : World) (h1 : k ≤ 100000) (h3 : i ≤ 1000000000000000000) {a b : Int} (ha : a = (k : Int)) (hb : b = (i : Int)) :
    Calls Try.prog 55 #[.int .i64 a, .int .i64 b] w fun e w' => e = .returned (.agg (skV (markS k i)).toArray) ∧ Below w.heap.size w w' := by
  subst ha hb
  go_enter Try.func55, Try.ntmps55
  go_wp2
  exact bodyPost_ret (results_cell_row rfl _ _ w.heap.size 51 (skV (markS k i)).toArray _ _ rfl (heap_alloc_new _ _) Try.underlying51 rfl (by kernel_rfl)) rfl ⟨rfl, (Below.refl _ _).alloc (Nat.le_refl _) _⟩

theorem markS_h (k i : Nat) (w : World) (h1 : k ≤ 100000) (h3 : i ≤ 1000000000000000000) {a b : Int} (ha : a = (k : Int)) (hb : b = (i : Int)) :
    Calls Try.prog 55 #[.int .i64 a, .int .i64 b] w fun e w' => ∃ x1 x2 x3 x4 x5 x6 x7, Hid ((x1, x2, x3, x4, x5, x6, x7) = markS k i) ∧ e = .returned (.agg #[.int .u8 x1, .int .i64 x2, .int .u8 x3, .int .i64 x4, .int .i64 x5, .int .i64 x6, .int .i64 x7]) ∧ Below w.heap.size w w' :=
  (markS_any k i w h1 h3 ha hb).mono fun _ _ h => ⟨_, _, _, _, _, _, _, rfl, h.1, h.2⟩

set_option maxHeartbeats 400000 in
theorem lentSk_any (A : Option Addr) (n c : Nat) (l : List SkT) (w : World) (h : Rd w 7 A n (sksV l)) (hn : n ≤ 2513169434900) :
    Calls Try.prog 14 #[.slice A n c] w fun e w' => ∃ v, e = .returned v ∧ OwnS w' w.heap.size v (l ++ marksS 7 0 6) ∧ Below w.heap.size w w' := by
  obtain ⟨i0, hi0, hz0, hz1, hz2⟩ := info_parts sk_info
  have hl : l.length = n := by have := h.1; rw [sksV_length] at this; omega
  have HL := Lib.hid hl
  clear hl
  go_enter Try.func14, Try.ntmps14
  go_wp2_with (go_at_call 17; refine (copySk_any A n c l _ h (by omega)).mono ?_; rintro e w1 ⟨v1, rfl, ho1, hb1⟩)
  have H1 := (St.start_lay w []).pushRow 0 rfl hb1 ho1
  go_loopw [3, 4] (fun v i wr => ∃ k : Nat, k ≤ 6 ∧ i = .int .i64 k ∧ St w [] wr (lay [.row 51 7 v (l ++ marksS 7 0 k).length (sksV (l ++ marksS 7 0 k))])) (fun _ i _ => 6 - (intOf i).toNat)
  case atStart => exact ⟨0, Nat.zero_le _, rfl, by simpa [marksS] using H1.push_mk rfl⟩
  case round =>
    clear H1 ho1 hb1
    obtain ⟨k, hk, rfl, H⟩ := hrel
    by_cases hlt : k < 6
    · have hm : (l ++ marksS 7 0 k).length ≤ n + 6 := by have := HL.out; simp [marksS_length]; omega
      go_wp2_with fail
      refine (markS_h 7 k _ (by omega) (by omega) rfl rfl).mono ?_
      rintro e w2 ⟨x1, x2, x3, x4, x5, x6, x7, HM, rfl, hb2⟩
      have H2 := H.call hb2
      have hr := H2.row 0 rfl
      go_wp2_with (at_builtin; refine wpList_append_any _ rfl (.tmp 11) (.tmp 14) _ rfl 0 51 i0 _ 7 56 Try.underlying22 hi0 hz0 hz1 hz2 rfl (by omega) u3 (l ++ marksS 7 0 k).length (sksV (l ++ marksS 7 0 k)) rfl (hr.alloc _) (some ⟨w2.heap.size, 0, none⟩) 1 1 (skV (x1, x2, x3, x4, x5, x6, x7)) rfl (rd_new0 w2 (skV (x1, x2, x3, x4, x5, x6, x7)) _ 7 rfl) (by simpa [sksV] using sksV_one [(x1, x2, x3, x4, x5, x6, x7)]) (by simp only [maxLen]; omega) (by omega) (by omega) ?_; intro v3 w3 hown3 hg3 hat3)
      have H3 := (((((H2.alloc 1 rfl #[.int .u8 x1, .int .i64 x2, .int .u8 x3, .int .i64 x4, .int .i64 x5, .int .i64 x6, .int .i64 x7] 51)).grow 0 rfl hown3 hg3 hat3)).sub (E' := lay [.row 51 7 v3 ((l ++ marksS 7 0 k).length + 1) (sksV (l ++ marksS 7 0 k) ++ skV (x1, x2, x3, x4, x5, x6, x7))]) (fun i A hA => by cases i with | zero => exact hA | succ i => simp [lay] at hA))
      rw [HM.out] at H3
      go_roundw
      case rel => exact ⟨k + 1, by omega, by go_num, by rw [marksS_succ, ← List.append_assoc]; simpa [sksV_append, sksV, Nat.add_assoc] using H3⟩
      case measure => simp [intOf]; omega
    · have hk6 : k = 6 := by omega
      subst hk6
      go_wp2
      go_ret
      exact ⟨_, rfl, H.ownRow 0 rfl, H.below⟩

theorem keptSk_any (A B : Option Addr) (n m c d : Nat) (xs ys : List SkT) (w : World) (ha : Rd w 7 A n (sksV xs)) (hb : Rd w 7 B m (sksV ys)) (hn : n ≤ 9223372036854775807) (hm : m ≤ 2513169434900) :
    Calls Try.prog 18 #[.slice A n c, .slice B m d] w fun e w' => e = .returned (.bool (decide (xs = ys ++ marksS 7 0 6))) ∧ Below w.heap.size w w' := by
  have hly : ys.length = m := by have := hb.1; rw [sksV_length] at this; omega
  have HY := Lib.hid hly
  clear hly
  go_enter Try.func18, Try.ntmps18
  go_wp2_with fail
  refine (lentSk_any B m d ys _ hb hm).mono ?_
  rintro e w1 ⟨v1, rfl, ho1, hb1⟩
  obtain ⟨A1, n1, c1, rfl, hn1, hr1⟩ := ho1.shape
  have hlen : n1 ≤ 9223372036854775807 := by rw [hn1.out, List.length_append, HY.out, marksS_length]; omega
  go_wp2_with fail
  refine (sameSk_any A A1 n _ c c1 xs _ w1 (ha.below hb1) hr1 hn hlen).mono ?_
  rintro e w2 ⟨rfl, q, rfl⟩
  go_wp2
  go_ret
  exact ⟨rfl, bdrewN hb1 q⟩
end Go.Proofs.Ytgfhnbjpdhdhgaa
