/- Runs of events, in plain lists. -/
import Derived.Test.YtpmgklmgaienhaaLib
namespace Go.Proofs.Ytpmgklmgaienhaa
/-- kind, size, count -/
abbrev RunT := Int × Int × Int
def runV (r : RunT) : List Value := [.int .u8 r.1, .int .i64 r.2.1, .int .i64 r.2.2]
def runsV (rs : List RunT) : List Value := rs.flatMap runV
/-- an event is noted n times -/
def noted (rs : List RunT) (k s n : Int) : List RunT :=
  match rs.getLast? with
  | some (k', s', c) => if k' = k ∧ s' = s then rs.dropLast ++ [(k, s, c + n)] else rs ++ [(k, s, n)]
  | none => [(k, s, n)]
def total : List RunT → Int
  | [] => 0
  | r :: rs => r.2.2 + total rs
theorem total_append (a b : List RunT) : total (a ++ b) = total a + total b := by
  induction a with
  | nil => simp [total]
  | cons x a ih => simp only [List.cons_append, total, ih]; omega
theorem runsV_length (rs : List RunT) : (runsV rs).length = rs.length * 3 := by
  induction rs with
  | nil => rfl
  | cons r rs ih => simp only [runsV, List.flatMap_cons, List.length_append, List.length_cons] at ih ⊢; rw [ih]; simp [runV]; omega
theorem runsV_append (a b : List RunT) : runsV (a ++ b) = runsV a ++ runsV b := by simp [runsV]
theorem runsV_get (rs : List RunT) (i j : Nat) (r : RunT) (hi : rs[i]? = some r) (hj : j < 3) : (runsV rs)[i * 3 + j]? = (runV r)[j]? := by
  induction rs generalizing i with
  | nil => simp at hi
  | cons a rs ih =>
    simp only [runsV, List.flatMap_cons]
    cases i with
    | zero =>
      simp at hi; subst hi
      rw [List.getElem?_append_left (by simp [runV]; omega)]; simp
    | succ i =>
      rw [List.getElem?_append_right (by simp [runV]; omega)]
      simp only [List.getElem?_cons_succ] at hi
      rw [← ih i hi]
      simp only [runsV]
      congr 1
      simp [runV]; omega
theorem runsV_set (rs : List RunT) (i : Nat) (r : RunT) (c : Int) (hi : rs[i]? = some r) : (runsV rs).set (i * 3 + 2) (.int .i64 c) = runsV (rs.set i (r.1, r.2.1, c)) := by
  induction rs generalizing i with
  | nil => simp at hi
  | cons a rs ih =>
    simp only [runsV, List.flatMap_cons]
    cases i with
    | zero =>
      simp at hi; subst hi
      simp [runV]
    | succ i =>
      simp only [List.getElem?_cons_succ] at hi
      rw [List.set_append_right _ _ (by simp [runV]; omega), List.set_cons_succ, List.flatMap_cons]
      congr 1
      have h := ih i hi
      simp only [runsV] at h
      rw [← h]
      congr 1
      simp [runV]; omega
theorem noted_nil (k s n : Int) : noted [] k s n = [(k, s, n)] := rfl
theorem noted_same (rs : List RunT) (m : Nat) (k s c n : Int) (hm : rs.length = m + 1) (h : rs[m]? = some (k, s, c)) : noted rs k s n = rs.set m (k, s, c + n) := by
  have hl : rs.getLast? = some (k, s, c) := by rw [List.getLast?_eq_getElem?, hm]; exact h
  unfold noted
  rw [hl]
  simp only [and_self, if_true]
  apply List.ext_getElem?
  intro i
  have hdl : rs.dropLast.length = m := by simp [hm]
  rcases Nat.lt_trichotomy i m with h1 | h1 | h1
  · rw [List.getElem?_append_left (by omega), List.getElem?_set_ne (by omega), List.getElem?_dropLast, if_pos (by omega)]
  · subst h1
    rw [List.getElem?_append_right (by omega), List.getElem?_set_self (by omega), hdl]
    simp
  · rw [List.getElem?_eq_none (by simp; omega), List.getElem?_eq_none (by simp; omega)]
theorem noted_other (rs : List RunT) (m : Nat) (k s k' s' c n : Int) (hm : rs.length = m + 1) (h : rs[m]? = some (k', s', c)) (hne : ¬ (k' = k ∧ s' = s)) : noted rs k s n = rs ++ [(k, s, n)] := by
  have hl : rs.getLast? = some (k', s', c) := by rw [List.getLast?_eq_getElem?, hm]; exact h
  unfold noted
  rw [hl]
  simp only [if_neg hne]
theorem total_set (rs : List RunT) (m : Nat) (k s c n : Int) (h : rs[m]? = some (k, s, c)) : total (rs.set m (k, s, c + n)) = total rs + n := by
  induction rs generalizing m with
  | nil => simp at h
  | cons a rs ih =>
    cases m with
    | zero => simp at h; subst h; simp [total]; omega
    | succ m => simp at h; simp only [List.set_cons_succ, total]; rw [ih m h]; omega
theorem total_noted (rs : List RunT) (k s n : Int) : total (noted rs k s n) = total rs + n := by
  cases hl : rs.getLast? with
  | none => have : rs = [] := by simpa using hl
            subst this; simp [noted, total]
  | some r =>
    obtain ⟨k', s', c⟩ := r
    obtain ⟨m, hm⟩ : ∃ m, rs.length = m + 1 := by
      cases rs with
      | nil => simp at hl
      | cons a r => exact ⟨r.length, rfl⟩
    have hg : rs[m]? = some (k', s', c) := by rw [List.getLast?_eq_getElem?, hm] at hl; exact hl
    by_cases h : k' = k ∧ s' = s
    · obtain ⟨rfl, rfl⟩ := h
      rw [noted_same rs m _ _ c n hm hg, total_set rs m _ _ c n hg]
    · rw [noted_other rs m k s k' s' c n hm hg h, total_append]; simp [total]
theorem total_nonneg (rs : List RunT) (h : ∀ r ∈ rs, 0 ≤ r.2.2) : 0 ≤ total rs := by
  induction rs with
  | nil => simp [total]
  | cons a rs ih => have := h a (by simp); have := ih fun r hr => h r (by simp [hr]); simp only [total]; omega
theorem total_ge (rs : List RunT) (h : ∀ r ∈ rs, 0 ≤ r.2.2) : ∀ r ∈ rs, r.2.2 ≤ total rs := by
  induction rs with
  | nil => simp
  | cons a rs ih =>
    intro r hr
    have h1 := h a (by simp)
    have h2 := total_nonneg rs fun r hr => h r (by simp [hr])
    simp only [total]
    rcases List.mem_cons.1 hr with rfl | hr
    · omega
    · have := ih (fun r hr => h r (by simp [hr])) r hr; omega
theorem noted_pos (rs : List RunT) (k s n : Int) (hn : 0 ≤ n) (h : ∀ r ∈ rs, 0 ≤ r.2.2) : ∀ r ∈ noted rs k s n, 0 ≤ r.2.2 := by
  intro r hr
  unfold noted at hr
  split at hr
  · rename_i k' s' c hl
    have hc := h _ (List.mem_of_getLast? hl)
    split at hr
    · rcases List.mem_append.1 hr with h1 | h1
      · exact h r (List.dropLast_subset _ h1)
      · simp at h1; subst h1; simp only at hc ⊢; omega
    · rcases List.mem_append.1 hr with h1 | h1
      · exact h r h1
      · simp at h1; subst h1; exact hn
  · simp at hr; subst hr; exact hn
theorem noted_length (rs : List RunT) (k s n : Int) : (noted rs k s n).length ≤ rs.length + 1 := by
  unfold noted
  split
  · split
    · simp only [List.length_append, List.length_dropLast, List.length_singleton]; omega
    · simp
  · simp
end Go.Proofs.Ytpmgklmgaienhaa
