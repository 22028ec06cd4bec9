/- The program's ledger, nil or not: New, Note, Runs, Len. -/
import Derived.Test.YthieegmmbjjcbaaLedP
namespace Go.Proofs.Ythieegmmbjjcbaa
open Go.RowKit
set_option linter.unusedVariables false

/-- a ledger, or none -/
def led (l : Value) : Option (List RunT) → Own
  | none => .fact (l = .pointer none) .emp
  | some rs => .ex fun g => .fact (l = lptr g) (ledO g rs)
/-- runs as a ledger has them, at most b events -/
def Runs.Good (rs : List RunT) (b : Int) : Prop := (∀ r ∈ rs, 1 ≤ r.2.2) ∧ total rs ≤ b
def LGood (r : Option (List RunT)) (b : Int) : Prop := ∀ rs, r = some rs → Runs.Good rs b
theorem Runs.Good.length {rs : List RunT} {b : Int} (h : Runs.Good rs b) : (rs.length : Int) ≤ b := by
  obtain ⟨h1, h2⟩ := h
  refine Int.le_trans ?_ h2
  clear h2
  induction rs with
  | nil => simp [total]
  | cons a rs ih =>
    have := h1 a (by simp)
    have := ih fun r hr => h1 r (by simp [hr])
    simp only [total, List.length_cons]; omega
theorem Runs.Good.noted {rs : List RunT} {b : Int} (h : Runs.Good rs b) (k s n : Int) (hn : 1 ≤ n) : Runs.Good (noted rs k s n) (b + n) := by
  refine ⟨?_, by rw [total_noted]; have := h.2; omega⟩
  intro r hr
  unfold Go.Proofs.Ythieegmmbjjcbaa.noted at hr
  split at hr
  · rename_i k' s' c hl
    have hc := h.1 _ (List.mem_of_getLast? hl)
    split at hr
    · rcases List.mem_append.1 hr with h1 | h1
      · exact h.1 r (List.dropLast_subset _ h1)
      · simp at h1; subst h1; simp only at hc ⊢; omega
    · rcases List.mem_append.1 hr with h1 | h1
      · exact h.1 r h1
      · simp at h1; subst h1; exact hn
  · simp at hr; subst hr; exact hn
theorem LGood.noted {r : Option (List RunT)} {b : Int} (h : LGood r b) (k s n : Int) (hn : 1 ≤ n) : LGood (r.map fun rs => noted rs k s n) (b + n) := by
  intro rs hrs
  cases r with
  | none => cases hrs
  | some rs0 => simp at hrs; subst hrs; exact (h rs0 rfl).noted k s n hn
theorem LGood.none (b : Int) : LGood none b := fun _ h => by cases h
theorem LGood.nil : LGood (some []) 0 := fun rs h => by injection h with h; subst h; exact ⟨by simp, by simp [total]⟩
theorem LGood.more {r : Option (List RunT)} {b b' : Int} (h : LGood r b) (hb : b ≤ b') : LGood r b' := fun rs hr => ⟨(h rs hr).1, Int.le_trans (h rs hr).2 hb⟩

section
variable {w0 w : World} {F0 : List Nat} {E : Env}

theorem St.ledNil (H : St w0 F0 w E) (k : Nat) (hk : E k = Option.none) : St w0 F0 w (upd E k (led (.pointer none) none)) :=
  by have h := (H.nothing k hk).shutFact (p := Value.pointer none = Value.pointer none) rfl k upd_same; rw [upd_upd] at h; exact h
theorem St.ledOpen {l : Value} {rs : List RunT} (H : St w0 F0 w E) (i : Nat) (hi : E i = some (led l (some rs))) : ∃ g, l = lptr g ∧ St w0 F0 w (upd E i (ledO g rs)) := by
  obtain ⟨g, H1⟩ := H.openEx i hi
  obtain ⟨h, H2⟩ := H1.openFact i upd_same
  simp only [upd_upd] at H2
  exact ⟨g, h, H2⟩
theorem St.ledShut {rs : List RunT} {g : Nat} (H : St w0 F0 w E) (i : Nat) (hi : E i = some (ledO g rs)) : St w0 F0 w (upd E i (led (lptr g) (some rs))) := by
  have H1 := H.shutFact (p := lptr g = lptr g) rfl i hi
  have H2 := H1.shutEx (A := fun g' => .fact (lptr g = lptr g') (ledO g' rs)) g i upd_same
  rw [upd_upd] at H2
  exact H2

set_option maxHeartbeats 400000 in
theorem ledger_new (H : St w0 F0 w E) (k : Nat) (hk : E k = Option.none) : Calls Try.prog 7 #[] w fun e w' => ∃ v, e = .returned v ∧ St w0 F0 w' (upd E k (led v (some []))) := by
  go_enter Try.func7, Try.ntmps7
  go_wp2
  go_ret
  refine ⟨_, rfl, ?_⟩
  have ho : (ledO w.heap.size []).holds (w.alloc (.cells #[.slice none 0 0, .int .i64 0] 62)) [w.heap.size] :=
    ⟨.slice none 0 0, [w.heap.size], [], rfl, ⟨by rw [heap_alloc_new]; rfl, rfl⟩, ⟨World.ownsRow_nil _ _ _ _, rfl⟩, by simp⟩
  have H1 := H.push k hk ((Below.refl _ _).alloc (Nat.le_refl _) _) ho (by simp)
  have H2 := H1.ledShut k upd_same
  simp only [upd_upd] at H2
  exact H2

set_option maxHeartbeats 400000 in
theorem noteTimes_none (k s n : Int) : Calls Try.prog 49 #[.pointer none, .agg #[.int .u8 k, .int .i64 s], .int .i64 n] w fun e w' => e = .returned (.tuple #[]) ∧ Below w.heap.size w w' := by
  go_enter Try.func49, Try.ntmps49
  go_wp2
  refine bodyPost_ret (results_none rfl _ _ _) rfl ⟨rfl, ?_⟩
  exact (Below.refl _ _).alloc (Nat.le_refl _) _

set_option maxHeartbeats 400000 in
theorem ledger_note {l : Value} {r : Option (List RunT)} (b k s : Int) (H : St w0 F0 w E) (i : Nat) (hi : E i = some (led l r)) (hg : LGood r b) (hb : b ≤ 1000000) :
    Calls Try.prog 40 #[l, .agg #[.int .u8 k, .int .i64 s]] w fun e w' => e = .returned (.tuple #[]) ∧ St w0 F0 w' (upd E i (led l (r.map fun rs => noted rs k s 1))) := by
  cases r with
  | none =>
    obtain ⟨rfl, H1⟩ := H.openFact i hi
    go_enter Try.func40, Try.ntmps40
    go_wp2_with fail
    refine (noteTimes_none k s 1).mono ?_
    rintro e w1 ⟨rfl, hb1⟩
    go_wp2
    go_end0
    have H2 := (H.call ((Below.refl _ _).alloc (Nat.le_refl _) _)).call hb1
    exact ⟨rfl, by rw [← upd_id hi] at H2; exact H2⟩
  | some rs =>
    obtain ⟨g, rfl, H1⟩ := H.ledOpen i hi
    obtain ⟨h1, h2⟩ := hg rs rfl
    have hl := (hg rs rfl).length
    have h0 : ∀ r ∈ rs, 0 ≤ r.2.2 := fun r hr => by have := h1 r hr; omega
    have H2 := H1.call ((Below.refl _ _).alloc (Nat.le_refl _) (.cells #[.int .u8 k, .int .i64 s] 54))
    obtain ⟨F, HF, -, -, hback⟩ := H2.frame1 i upd_same
    have hc := noteTimes_led g rs k s 1 HF (by omega) (by omega) h0 (by omega) (by omega)
    clear hl h0 h1 h2 HF H1 H2 H
    unfold lptr at hc ⊢
    have HC := Lib.hid hc
    have HB := Lib.hid hback
    clear hc hback
    go_enter Try.func40, Try.ntmps40
    go_wp2_with fail
    refine HC.out.mono ?_
    rintro e w1 ⟨rfl, hs⟩
    go_wp2
    go_end0
    have H3 := (HB.out _ _ hs).ledShut i upd_same
    simp only [upd_upd] at H3
    exact ⟨rfl, H3⟩

def runsO (v : Value) (rs : List RunT) : Own := .row 56 3 v rs.length (runsV rs)
theorem St.ledRead {l : Value} {rs : List RunT} (H : St w0 F0 w E) (i : Nat) (hi : E i = some (led l (some rs))) :
    ∃ g A c, l = lptr g ∧ g < w.heap.size ∧ w.cell? ⟨g, 0, none⟩ = some (.slice A rs.length c) ∧ w.cell? ⟨g, 1, none⟩ = some (.int .i64 (total rs)) ∧ Rd w 3 A rs.length (runsV rs) := by
  obtain ⟨F, ⟨g, hl, v, G, K, eF, ⟨hb, -⟩, ⟨hr, -⟩, -⟩, -⟩ := H.change i hi
  obtain ⟨A, c, rfl, -, -⟩ := row_shape hr
  exact ⟨g, A, c, hl, lt_of_heap hb, by rw [cell_of_row w g 0 _ _ _ hb]; rfl, by rw [cell_of_row w g 1 _ _ _ hb]; rfl, Rd.of_own hr⟩

theorem runsV_one (rs : List RunT) : ∀ u ∈ runsV rs, u.oneCell' = true := by
  intro u hu
  obtain ⟨r, -, hr⟩ := List.mem_flatMap.1 hu
  simp [runV] at hr
  rcases hr with rfl | rfl | rfl <;> rfl

set_option maxHeartbeats 400000 in
theorem ledger_runs {l : Value} {r : Option (List RunT)} (b : Int) (H : St w0 F0 w E) (i : Nat) (hi : E i = some (led l r)) (hg : LGood r b) (hb : b ≤ 1000000) (k : Nat) (hk : E k = Option.none) :
    Calls Try.prog 16 #[l] w fun e w' => ∃ v, e = .returned v ∧ St w0 F0 w' (upd E k (runsO v (r.getD []))) := by
  cases r with
  | none =>
    obtain ⟨rfl, H1⟩ := H.openFact i hi
    go_enter Try.func16, Try.ntmps16
    go_wp2
    go_ret
    exact ⟨_, rfl, H.nilRow k hk _ _⟩
  | some rs =>
    obtain ⟨i0, hi0, hz0, hz1, hz2⟩ := info_parts run_info
    obtain ⟨g, A, c, rfl, hlt, c0, -, hr⟩ := H.ledRead i hi
    have hl := (hg rs rfl).length
    unfold lptr
    go_enter Try.func16, Try.ntmps16
    go_wp2_with (at_builtin; refine wpList_append_any _ rfl (.tmp 5) (.tmp 9) _ rfl w.heap.size 56 i0 _ 3 24 Try.underlying33 hi0 hz0 hz1 hz2 rfl (by omega) (.slice (some ⟨w.heap.size, 0, none⟩) 0 0) 0 [] rfl (World.ownsRow_made _ _ 0 (Nat.le_refl _) (by simp [maxLen]) rfl) A rs.length c (runsV rs) rfl (hr.below ((Below.refl _ _).alloc (Nat.le_refl _) _)) (runsV_one rs) (by simp only [maxLen]; omega) (by omega) (by simp) ?_; intro v1 w1 hown1 hg1 hat1)
    go_ret
    refine ⟨_, rfl, H.pushRow k hk (((Below.refl _ _).alloc (Nat.le_refl _) _).grown hg1 (by simp) (fun g hg => by simp [Value.ownBlock] at hg; omega)) ?_⟩
    have h := hown1
    rw [Nat.zero_add, List.nil_append] at h
    exact h

set_option maxHeartbeats 400000 in
theorem sameRuns_any (A B : Option Addr) (c d : Nat) (xs ys : List RunT) (ha : Rd w 3 A xs.length (runsV xs)) (hb : Rd w 3 B ys.length (runsV ys)) (hn : xs.length ≤ 1000000000) (hm : ys.length ≤ 1000000000) :
    Calls Try.prog 15 #[.slice A xs.length c, .slice B ys.length d] w fun e w' => e = .returned (.bool (decide (xs = ys))) ∧ ∃ k, w' = w.drewN k := by
  by_cases hnm : xs.length = ys.length
  · have Hl := Lib.hid hnm
    have h0 : ((xs.length : Int) != (ys.length : Int)) = false := by rw [hnm]; simp
    clear hnm
    go_enter Try.func15, Try.ntmps15
    go_wp2
    clear h0
    go_loopw [5] (fun i wr => ∃ k q : Nat, k ≤ xs.length ∧ i = .int .i64 k ∧ wr = w.drewN q ∧ Hid (xs.take k = ys.take k)) (fun i _ => xs.length - (intOf i).toNat)
    case atStart => exact ⟨0, 0, Nat.zero_le _, rfl, rfl, rfl⟩
    case round =>
      obtain ⟨k, q, hk, rfl, rfl, hpre⟩ := hrel
      by_cases hlt : k < xs.length
      · have hlt' : k < ys.length := by rw [← Hl.out]; exact hlt
        obtain ⟨⟨x1, x2, x3⟩, hx⟩ : ∃ r, xs[k]? = some r := ⟨_, List.getElem?_eq_getElem hlt⟩
        obtain ⟨⟨y1, y2, y3⟩, hy⟩ : ∃ r, ys[k]? = some r := ⟨_, List.getElem?_eq_getElem hlt'⟩
        obtain ⟨p, o, rfl, -, hcx⟩ := ha.flat (by omega) (by omega)
        obtain ⟨p', o', rfl, -, hcy⟩ := hb.flat (by omega) (by omega)
        have a0 := hcx (k * 3 + 0) _ (runsV_get xs k 0 _ hx (by omega))
        have a1 := hcx (k * 3 + 1) _ (runsV_get xs k 1 _ hx (by omega))
        have a2 := hcx (k * 3 + 2) _ (runsV_get xs k 2 _ hx (by omega))
        have b0 := hcy (k * 3 + 0) _ (runsV_get ys k 0 _ hy (by omega))
        have b1 := hcy (k * 3 + 1) _ (runsV_get ys k 1 _ hy (by omega))
        have b2 := hcy (k * 3 + 2) _ (runsV_get ys k 2 _ hy (by omega))
        have HX := Lib.hid hx
        have HY := Lib.hid hy
        clear hx hy hcx hcy
        rw [Nat.add_zero] at a0 b0
        rw [← Nat.add_assoc] at a1 a2 b1 b2
        have hk1 : (k : Int) < (xs.length : Int) := by omega
        have hk2 : (k : Int) < (ys.length : Int) := by omega
        go_wp2
        by_cases hxy : (x1, x2, x3) = ((y1, y2, y3) : RunT)
        · simp only [Prod.mk.injEq] at hxy
          obtain ⟨rfl, rfl, rfl⟩ := hxy
          go_quiet (fail)
          clear hk1 hk2
          go_wp2
          go_roundw
          case rel => exact ⟨k + 1, q + nq, by omega, by go_num, by simp, take_succ_eq hpre.out HX.out HY.out⟩
          case measure => simp [intOf]; omega
        · have hq : (x1 == y1) = false ∨ (x1 = y1 ∧ (x2 == y2) = false) ∨ (x1 = y1 ∧ x2 = y2 ∧ (x3 == y3) = false) := by
            by_cases h1 : x1 = y1
            · by_cases h2 : x2 = y2
              · exact .inr (.inr ⟨h1, h2, by simpa using fun h => hxy (by rw [h1, h2, h])⟩)
              · exact .inr (.inl ⟨h1, by simpa using h2⟩)
            · exact .inl (by simpa using h1)
          rcases hq with hq | ⟨rfl, hq⟩ | ⟨rfl, rfl, hq⟩
          all_goals
            go_quiet (fail)
            clear hk1 hk2
            go_wp2
            go_ret
            refine ⟨ret_bool ?_, q + nq, by simp⟩
            symm; simp only [decide_eq_false_iff_not]
            rintro rfl
            have a := HX.out
            have b := HY.out
            rw [a] at b
            exact hxy (Option.some.inj b)
      · go_wp2
        go_ret
        refine ⟨ret_bool ?_, q, rfl⟩
        symm; simp only [decide_eq_true_eq]
        have h := hpre.out
        have a := Hl.out
        rwa [List.take_of_length_le (by omega), List.take_of_length_le (by omega)] at h
  · have h0 : ((xs.length : Int) != (ys.length : Int)) = true := by simp only [bne_iff_ne, ne_eq]; omega
    have Hl := Lib.hid hnm
    clear hnm
    go_enter Try.func15, Try.ntmps15
    go_wp2
    go_ret
    refine ⟨ret_bool ?_, 0, rfl⟩
    symm; simp only [decide_eq_false_iff_not]
    rintro rfl
    exact Hl.out rfl
end
end Go.Proofs.Ythieegmmbjjcbaa
