/- The law MeterAlike, walked. -/
import Derived.Test.YtpmgklmgaienhaaMeHp
import Derived.Test.YtpmgklmgaienhaaPick
namespace Go.Proofs.Ytpmgklmgaienhaa
open Go.RowKit
set_option linter.unusedVariables false
set_option maxRecDepth 100000

theorem eq_zero_al (w : World) : (Op.equalIn 9999 25 (.float .f64 0) (.float .f64 0)).run Try.prog w = .ok true w := by kernel_rfl
theorem goodRows_rep {r : RowM} (h : goodTo r.l r.n = true) (N : Nat) : ∀ j, goodRows (List.replicate N r) j = true := by
  intro j
  induction j with
  | zero => rfl
  | succ j ih =>
    unfold goodRows
    rw [ih]
    cases hx : (List.replicate N r)[j]? with
    | none => rfl
    | some x =>
      rw [List.getElem?_replicate] at hx
      split at hx
      · cases hx; simp [h]
      · cases hx
theorem judgeE_rep {ra rb : RowM} (ha : goodTo ra.l ra.n = true) (hb : goodTo rb.l rb.n = true) {N M : Nat} (hN : 2 ≤ N) (hM : 2 ≤ M) : judgeE (List.replicate N ra) (List.replicate M rb) = 0 :=
  judgeE_ok (by rw [List.length_replicate, List.length_replicate]; omega) (goodRows_rep ha N _) (goodRows_rep hb M _)
/-- the numbers of the 24 questions -/
def Asks (r : RowM) (f : Nat → Nat × Int) : Prop := ∀ i, i < 24 → AskIs r ((i / 2 : Nat) + 1) (i % 2 == 1) (f i).1 (f i).2
theorem asks_of {r : RowM} (h : FitR r) : ∃ f, Asks r f := by
  have h1 : ∀ i, i < 24 → ∃ x : Nat × Int, AskIs r ((i / 2 : Nat) + 1) (i % 2 == 1) x.1 x.2 := fun i hi => by
    have h2 := h.2 (i / 2 + 1) (by omega)
    have e : ((i / 2 + 1 : Nat) : Int) = ((i / 2 : Nat) : Int) + 1 := by omega
    rw [e] at h2
    cases hb : (i % 2 == 1) with
    | true => obtain ⟨w, c, h3⟩ := h2.2; exact ⟨(w, c), h3⟩
    | false => obtain ⟨w, c, h3⟩ := h2.1; exact ⟨(w, c), h3⟩
  exact Go.Deep.choose_lt h1
theorem st_two {ra rb : RowM} {f g : Nat → Nat × Int} (hf : Asks ra f) (hg : Asks rb g) {N M : Nat} (hN : 2 ≤ N) (hN3 : N ≤ 300) (hM : 2 ≤ M) (hM3 : M ≤ 300) :
    (stJ (List.replicate N ra) (List.replicate M rb) 24 = (0, false, 0) ∧ ∀ i, i < 24 → (f i).2 = (g i).2) ∨ (∃ k s T, stJ (List.replicate N ra) (List.replicate M rb) 24 = (k, s, T) ∧ k ≠ 0 ∧ (T = 9218868437227405312 ∨ T = 18442240474082181120) ∧ ∃ i, i < 24 ∧ (f i).2 ≠ (g i).2) :=
  stJ_rep (fun i => (f i).2) (fun i => (g i).2) (fun i hi => tJ_rep (hf i hi) (hg i hi) N M hN hN3 hM hM3) 24 (Nat.le_refl _)
theorem ver_zero' {as_ bs : List RowM} {V : List Value} (h : VerIs as_ bs V) (h2 : (stJ as_ bs 24).1 = 0) : V = zeroV := by
  unfold VerIs at h
  rwa [if_neg (fun hh => hh.2 h2)] at h
theorem ver_yes' {as_ bs : List RowM} {V : List Value} (h : VerIs as_ bs V) (h1 : judgeE as_ bs = 0) (h2 : (stJ as_ bs 24).1 ≠ 0) : ∃ P, V = verV as_ bs (stJ as_ bs 24) P := by
  unfold VerIs at h
  rw [if_pos ⟨h1, h2⟩] at h
  obtain ⟨P, h, -⟩ := h
  exact ⟨P, h⟩
theorem inf_apart {T : Nat} (h : T = 9218868437227405312 ∨ T = 18442240474082181120) : apartJ T = true ∧ T < 2 ^ 64 ∧ T % 2 ^ 63 = 9218868437227405312 := by
  rcases h with rfl | rfl <;> decide +kernel
theorem isInf_s (T : Nat) (w : World) (h : T < 2 ^ 64) (h2 : T % 2 ^ 63 = 9218868437227405312) : Calls Try.prog 34 #[.float .f64 T, .int .i64 0] w fun e w' => e = .returned (.bool true) ∧ w = w' := by
  have o1 : FloatKind.f64.format.order 9218868437227405312 9218868437227405311 = some Ordering.gt := by decide +kernel
  go_enter Try.func34, Try.ntmps34
  go_wp2_with fail
  refine (abs_s T w h).mono ?_
  rintro e w2 ⟨rfl, rfl⟩
  rw [h2]
  go_wp2
  go_ret
  exact ⟨rfl, rfl⟩
theorem RowsOk.rep {w : World} {r : RowM} (h : Rd w 3 r.A r.n (runsV r.l)) (hn : r.n ≤ 5864062014634) (hok : ∀ x ∈ r.l, RunOk x) (N : Nat) : RowsOk w (List.replicate N r) := fun x hx => by
  obtain ⟨-, rfl⟩ := List.mem_replicate.1 hx
  exact ⟨h, hn, hok⟩
end Go.Proofs.Ytpmgklmgaienhaa
