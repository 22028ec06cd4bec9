/- The program's ledger, with bounds that bear any message: at most m runs, b events. -/
import Derived.Test.YthieegmmbjjcbaaLedQ

namespace Go.Proofs.Ythieegmmbjjcbaa
open Go.RowKit
set_option linter.unusedVariables false

/-- runs as a ledger has them: at most m runs, b events in all -/
def LW (r : Option (List RunT)) (m : Nat) (b : Int) : Prop := ∀ rs, r = some rs → (∀ x ∈ rs, 1 ≤ x.2.2) ∧ rs.length ≤ m ∧ total rs ≤ b

theorem LW.none (m : Nat) (b : Int) : LW none m b := fun _ h => by cases h

theorem LW.nil : LW (some []) 0 0 := fun rs h => by injection h with h; subst h; exact ⟨by simp, by simp, by simp [total]⟩

theorem LW.more {r : Option (List RunT)} {m m' : Nat} {b b' : Int} (h : LW r m b) (hm : m ≤ m') (hb : b ≤ b') : LW r m' b' := fun rs hr => ⟨(h rs hr).1, Nat.le_trans (h rs hr).2.1 hm, Int.le_trans (h rs hr).2.2 hb⟩

theorem LGood.lw {r : Option (List RunT)} {b : Int} (h : LGood r b) : LW r b.toNat b := fun rs hr => ⟨(h rs hr).1, by have := (h rs hr).length; omega, (h rs hr).2⟩

/-- n times the same event, none perhaps -/
def noteN (r : Option (List RunT)) (k s : Int) (n : Nat) : Option (List RunT) := if n = 0 then r else r.map fun rs => noted rs k s n

theorem noteN_zero (r : Option (List RunT)) (k s : Int) : noteN r k s 0 = r := rfl

theorem noteN_one (r : Option (List RunT)) (k s : Int) : noteN r k s 1 = r.map fun rs => noted rs k s 1 := rfl

theorem noted_concat (X : List RunT) (k' s' c k s n : Int) : noted (X ++ [(k', s', c)]) k s n = if k' = k ∧ s' = s then X ++ [(k, s, c + n)] else X ++ [(k', s', c)] ++ [(k, s, n)] := by
  unfold noted
  simp

theorem noted_noted (rs : List RunT) (k s a b : Int) : noted (noted rs k s a) k s b = noted rs k s (a + b) := by
  have key : ∀ (X : List RunT) (x : Int), noted (X ++ [(k, s, x)]) k s b = X ++ [(k, s, x + b)] := fun X x => by rw [noted_concat, if_pos ⟨rfl, rfl⟩]
  rcases List.eq_nil_or_concat rs with rfl | ⟨X, ⟨k', s', c⟩, rfl⟩
  · have := key [] a
    rw [noted_nil, noted_nil]
    simpa using this
  · rw [List.concat_eq_append, noted_concat, noted_concat]
    by_cases h : k' = k ∧ s' = s
    · rw [if_pos h, if_pos h, key, Int.add_assoc]
    · rw [if_neg h, if_neg h, key]

theorem noteN_noteN (r : Option (List RunT)) (k s : Int) (a b : Nat) : noteN (noteN r k s a) k s b = noteN r k s (a + b) := by
  unfold noteN
  by_cases ha : a = 0
  · subst ha; simp
  · by_cases hb : b = 0
    · subst hb; simp [ha]
    · rw [if_neg ha, if_neg hb, if_neg (by omega)]
      cases r with
      | none => rfl
      | some rs => simp [noted_noted]

theorem LW.noteN {r : Option (List RunT)} {m : Nat} {b : Int} (h : LW r m b) (k s : Int) (n : Nat) : LW (noteN r k s n) (m + 1) (b + n) := by
  unfold Go.Proofs.Ythieegmmbjjcbaa.noteN
  split
  · exact h.more (by omega) (by omega)
  · rename_i hn
    intro rs hrs
    cases r with
    | none => cases hrs
    | some rs0 =>
      simp at hrs
      subst hrs
      obtain ⟨h1, h2, h3⟩ := h rs0 rfl
      refine ⟨?_, by have := noted_length rs0 k s n; omega, by rw [total_noted]; omega⟩
      have g := (Runs.Good.noted (rs := rs0) (b := total rs0) ⟨h1, Int.le_refl _⟩ k s n (by omega)).1
      exact g

section
variable {w0 w : World} {F0 : List Nat} {E : Env}

set_option maxHeartbeats 400000 in
theorem ledger_note_w {l : Value} {r : Option (List RunT)} (m : Nat) (b k s : Int) (H : St w0 F0 w E) (i : Nat) (hi : E i = some (led l r)) (hg : LW r m b) (hm : m ≤ 1000000000000) (hb : b ≤ 4611686018427387903) :
    Calls Try.prog 40 #[l, .agg #[.int .u8 k, .int .i64 s]] w fun e w' => e = .returned (.tuple #[]) ∧ St w0 F0 w' (upd E i (led l (noteN r k s 1))) := by
  rw [noteN_one]
  cases r with
  | none =>
    obtain ⟨rfl, H1⟩ := H.openFact i hi
    go_enter Try.func40, Try.ntmps40
    go_wp2_with fail
    refine (noteTimes_none k s 1).mono ?_
    rintro e w1 ⟨rfl, hb1⟩
    go_wp2
    go_end0
    have H2 := (H.call ((Below.refl _ _).alloc (Nat.le_refl _) _)).call hb1
    exact ⟨rfl, by rw [← upd_id hi] at H2; exact H2⟩
  | some rs =>
    obtain ⟨g, rfl, H1⟩ := H.ledOpen i hi
    obtain ⟨h1, hl, h2⟩ := hg rs rfl
    have h0 : ∀ r ∈ rs, 0 ≤ r.2.2 := fun r hr => by have := h1 r hr; omega
    have H2 := H1.call ((Below.refl _ _).alloc (Nat.le_refl _) (.cells #[.int .u8 k, .int .i64 s] 54))
    obtain ⟨F, HF, -, -, hback⟩ := H2.frame1 i upd_same
    have hc := noteTimes_led g rs k s 1 HF (by omega) (by omega) h0 (by omega) (by omega)
    clear hl h0 h1 h2 HF H1 H2 H
    unfold lptr at hc ⊢
    have HC := Lib.hid hc
    have HB := Lib.hid hback
    clear hc hback
    go_enter Try.func40, Try.ntmps40
    go_wp2_with fail
    refine HC.out.mono ?_
    rintro e w1 ⟨rfl, hs⟩
    go_wp2
    go_end0
    have H3 := (HB.out _ _ hs).ledShut i upd_same
    simp only [upd_upd] at H3
    exact ⟨rfl, H3⟩

set_option maxHeartbeats 400000 in
theorem ledger_runs_w {l : Value} {r : Option (List RunT)} (m : Nat) (b : Int) (H : St w0 F0 w E) (i : Nat) (hi : E i = some (led l r)) (hg : LW r m b) (hm : m ≤ 1000000000) (k : Nat) (hk : E k = Option.none) :
    Calls Try.prog 16 #[l] w fun e w' => ∃ v, e = .returned v ∧ St w0 F0 w' (upd E k (runsO v (r.getD []))) := by
  cases r with
  | none =>
    obtain ⟨rfl, H1⟩ := H.openFact i hi
    go_enter Try.func16, Try.ntmps16
    go_wp2
    go_ret
    exact ⟨_, rfl, H.nilRow k hk _ _⟩
  | some rs =>
    obtain ⟨i0, hi0, hz0, hz1, hz2⟩ := info_parts run_info
    obtain ⟨g, A, c, rfl, hlt, c0, -, hr⟩ := H.ledRead i hi
    have hl := (hg rs rfl).2.1
    unfold lptr
    go_enter Try.func16, Try.ntmps16
    go_wp2_with (at_builtin; refine wpList_append_any _ rfl (.tmp 5) (.tmp 9) _ rfl w.heap.size 56 i0 _ 3 24 Try.underlying33 hi0 hz0 hz1 hz2 rfl (by omega) (.slice (some ⟨w.heap.size, 0, none⟩) 0 0) 0 [] rfl (World.ownsRow_made _ _ 0 (Nat.le_refl _) (by simp [maxLen]) rfl) A rs.length c (runsV rs) rfl (hr.below ((Below.refl _ _).alloc (Nat.le_refl _) _)) (runsV_one rs) (by simp only [maxLen]; omega) (by omega) (by simp) ?_; intro v1 w1 hown1 hg1 hat1)
    go_ret
    refine ⟨_, rfl, H.pushRow k hk (((Below.refl _ _).alloc (Nat.le_refl _) _).grown hg1 (by simp) (fun g hg => by simp [Value.ownBlock] at hg; omega)) ?_⟩
    have h := hown1
    rw [Nat.zero_add, List.nil_append] at h
    exact h

end

end Go.Proofs.Ythieegmmbjjcbaa
