/- Lists of records, cell by cell. -/
import Derived.Test.YtenmlkgamlafpaaDoorSep
namespace Go.Proofs.YtenmlkgamlafpaaDoor
open Go.RowKit
set_option linter.unusedVariables false

section
variable {α : Type} {f : α → List Value} {s : Nat}
theorem flat_length (hf : ∀ a, (f a).length = s) (l : List α) : (l.flatMap f).length = l.length * s := by
  induction l with
  | nil => simp
  | cons a l ih => rw [List.flatMap_cons, List.length_append, ih, hf, List.length_cons, Nat.add_mul]; omega
theorem flat_get (hf : ∀ a, (f a).length = s) (l : List α) (i j : Nat) (a : α) (hi : l[i]? = some a) (hj : j < s) : (l.flatMap f)[i * s + j]? = (f a)[j]? := by
  induction l generalizing i with
  | nil => simp at hi
  | cons b l ih =>
    rw [List.flatMap_cons]
    cases i with
    | zero =>
      simp at hi; subst hi
      rw [List.getElem?_append_left (by rw [hf]; omega)]; simp
    | succ i =>
      rw [List.getElem?_append_right (by rw [hf, Nat.add_mul]; omega), hf, show (i + 1) * s + j - s = i * s + j by rw [Nat.add_mul]; omega]
      exact ih i (by simpa using hi)
theorem flat_one {Q : Value → Prop} (h : ∀ a, ∀ u ∈ f a, Q u) (l : List α) : ∀ u ∈ l.flatMap f, Q u := by
  intro u hu
  obtain ⟨a, -, ha⟩ := List.mem_flatMap.1 hu
  exact h a u ha
theorem Rd.takeF {w : World} {A : Option Addr} {n k : Nat} {l : List α} (hf : ∀ a, (f a).length = s) (hs : 0 < s) (h : Rd w s A n (l.flatMap f)) (hk : k ≤ n) : Rd w s A k ((l.take k).flatMap f) := by
  have hl := h.1
  rw [flat_length hf] at hl
  have hln : l.length = n := Nat.eq_of_mul_eq_mul_right hs hl
  refine ⟨by rw [flat_length hf, List.length_take, hln, Nat.min_eq_left hk], fun hn => ?_⟩
  obtain ⟨ad, rfl, hb, hc⟩ := h.2 (by omega)
  refine ⟨ad, rfl, hb, fun j u hu => hc j u ?_⟩
  have hj : j < ((l.take k).flatMap f).length := (List.getElem?_eq_some_iff.1 hu).1
  rw [← List.take_append_drop k l, List.flatMap_append, List.getElem?_append_left hj]
  exact hu
end
/-- a row of the call's own, at its end -/
theorem St.ownRow {w0 w : World} {E : Env} {e : TypeId} {size n : Nat} {v : Value} {xs : List Value} (H : St w0 [] w E) (k : Nat) (hk : E k = some (.row e size v n xs)) : w.ownsRow w0.heap.size e size v n xs := by
  obtain ⟨F, ⟨h1, h2⟩, -, h4⟩ := H.out k hk
  refine ownsRow_base h1 fun g hg => ?_
  rcases h4 g (by rw [h2]; exact hg) with h | h
  · simp at h
  · exact h
theorem row_form {w : World} {e : TypeId} {size n : Nat} {v : Value} {xs : List Value} (h : w.ownsRow 0 e size v n xs) : ∃ A c, v = .slice A n c ∧ n ≤ c ∧ (0 < n → ∃ g, A = some ⟨g, 0, none⟩ ∧ g < w.heap.size) := by
  rcases h.2 with ⟨rfl, rfl⟩ | ⟨g, cap, cur, rfl, _, hg, hc, _⟩
  · exact ⟨_, _, rfl, by omega, fun h => by omega⟩
  · exact ⟨_, _, rfl, hc, fun _ => ⟨g, rfl, lt_of_heap hg⟩⟩
theorem rd_new0 (w : World) (us : List Value) (t : TypeId) (size : Nat) (h : us.length = size) : Rd (w.alloc (.cells us.toArray t)) size (some ⟨w.heap.size, 0, none⟩) 1 us :=
  ⟨by omega, fun _ => ⟨_, rfl, by simp, fun j u hu => by
    rw [Addr.add_mid, Nat.zero_add, World.cell?_alloc_at _ _ _ _ rfl]; simpa using hu⟩⟩
/-- some of the pieces, under other numbers -/
theorem St.pick {w0 w : World} {F0 : List Nat} {E E' : Env} (H : St w0 F0 w E) (f : Nat → Nat) (hf : ∀ i j, f i = f j → i = j) (h : ∀ k A, E' k = some A → E (f k) = some A) : St w0 F0 w E' := by
  obtain ⟨lo, Fs, h1, h2⟩ := H
  exact ⟨lo, fun k => Fs (f k), fun i A hA => h1 (f i) A (h i A hA), fun i j A B hij hA hB => h2 (f i) (f j) A B (fun e => hij (hf i j e)) (h i A hA) (h j B hB)⟩
/-- what a call has made, beside what there was -/
theorem St.also {w0 w w' : World} {F0 : List Nat} {L1 L2 : List Own} (H : St w0 F0 w (lay L1)) (HN : St w [] w' (lay L2)) : St w0 F0 w' (lay (L1 ++ L2)) := by
  obtain ⟨lo, Fs, h1, h2⟩ := H
  obtain ⟨lo', Gs, k1, k2⟩ := HN
  have look : ∀ i A, lay (L1 ++ L2) i = some A → (i < L1.length ∧ lay L1 i = some A) ∨ (L1.length ≤ i ∧ lay L2 (i - L1.length) = some A) := by
    intro i A hA
    simp only [lay] at hA ⊢
    rcases Nat.lt_or_ge i L1.length with h | h
    · rw [List.getElem?_append_left h] at hA; exact .inl ⟨h, hA⟩
    · rw [List.getElem?_append_right h] at hA; exact .inr ⟨h, hA⟩
  refine ⟨lo.trans lo' (by simp), fun i => if i < L1.length then Fs i else Gs (i - L1.length), fun i A hA => ?_, fun i j A B hij hA hB g hg => ?_⟩
  · rcases look i A hA with ⟨hi, h⟩ | ⟨hi, h⟩
    · simp only [if_pos hi]
      exact ⟨A.loc (h1 i A h).1 fun g hg => lo'.block g (A.old (h1 i A h).1 g hg) (by simp), (h1 i A h).2⟩
    · simp only [if_neg (Nat.not_lt.2 hi)]
      exact ⟨(k1 _ A h).1, fun g hg => .inr (by
        rcases (k1 _ A h).2 g hg with e | e
        · simp at e
        · exact Nat.le_trans lo.size e)⟩
  · rcases look i A hA with ⟨hi, h⟩ | ⟨hi, h⟩ <;> rcases look j B hB with ⟨hj, h'⟩ | ⟨hj, h'⟩
    · simp only [if_pos hi] at hg
      simp only [if_pos hj]
      exact h2 i j A B hij h h' g hg
    · simp only [if_pos hi] at hg
      simp only [if_neg (Nat.not_lt.2 hj)]
      intro m
      have := A.old (h1 i A h).1 g hg
      rcases (k1 _ B h').2 g m with e | e
      · simp at e
      · omega
    · simp only [if_neg (Nat.not_lt.2 hi)] at hg
      simp only [if_pos hj]
      intro m
      have := B.old (h1 j B h').1 g m
      rcases (k1 _ A h).2 g hg with e | e
      · simp at e
      · omega
    · simp only [if_neg (Nat.not_lt.2 hi)] at hg
      simp only [if_neg (Nat.not_lt.2 hj)]
      exact k2 _ _ A B (by omega) h h' g hg
theorem lay1_of {A B : Own} {L : List Own} (h : L = A :: B :: []) : ∀ k C, lay [A] k = some C → lay L k = some C := by
  subst h
  intro k C hC
  match k with
  | 0 => exact hC
  | k + 1 => simp [lay] at hC
end Go.Proofs.YtenmlkgamlafpaaDoor
