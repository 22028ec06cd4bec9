/- The document's ledger (turnkeyref02): New, Note, NoteTimes, Runs, Len. -/
import Derived.Test.YthieegmmbjjcbaaLedW
import Derived.Test.YthieegmmbjjcbaaQTail
import Derived.Test.YthieegmmbjjcbaaFlat
import Derived.Test.YthieegmmbjjcbaaKitO

namespace Go.Proofs.Ythieegmmbjjcbaa
open Go.RowKit
set_option linter.unusedVariables false

def ledRO (g : Nat) (rs : List RunT) : Own := .ex fun v => .sep (.blk g 64 [v]) (.row 56 3 v rs.length (runsV rs))

theorem ledR_close {w0 w : World} {F0 : List Nat} {E : Env} {g n : Nat} {v : Value} {xs : List Value} (rs : List RunT) (H : St w0 F0 w E) (h0 : E 0 = some (.blk g 64 [v])) (h1 : E 1 = some (.row 56 3 v n xs)) (hn : n = rs.length) (hx : xs = runsV rs) : St w0 F0 w (one (ledRO g rs)) := by
  subst hn hx
  refine ((H.join 0 1 (by omega) h0 h1).shutEx (A := fun v => .sep (.blk g 64 [v]) (.row 56 3 v rs.length (runsV rs))) v 0 (by simp [upd])).sub fun k A hA => ?_
  by_cases hk : k = 0
  · subst hk; simp only [one, upd, if_true] at hA ⊢; exact hA
  · simp [one, upd, hk, Env.nil] at hA

set_option maxHeartbeats 1000000 in
theorem refNoteTimes_nil {F : List Nat} {w : World} (g : Nat) (k s n : Int) (HF : St w F w (one (ledRO g []))) (hn : 1 ≤ n) (hb : n ≤ 4611686018427387904) :
    Calls Try.prog 41 #[lptr g, .agg #[.int .u8 k, .int .i64 s], .int .i64 n] w fun e w' => e = .returned (.tuple #[]) ∧ St w F w' (one (ledRO g [(k, s, n)])) := by
  obtain ⟨i0, hi0, hz0, hz1, hz2⟩ := info_parts run_info
  obtain ⟨v, H1⟩ := HF.openEx 0 rfl
  have H2 := H1.part 0 1 (by omega) rfl rfl
  clear HF H1
  obtain ⟨A, c, rfl, hc, -⟩ := row_shape (H2.row 1 rfl)
  have c0 := H2.cell 0 rfl (o := 0) rfl
  have f0 := H2.free 0 rfl 0
  have hg := H2.lt 0 rfl
  have hn1 : ¬ n < 1 := by omega
  unfold lptr
  go_enter Try.func41, Try.ntmps41
  go_wp2
  go_quiet (fail)
  go_wp2
  have H3 := (H2.allocAt 2 rfl w.heap.size rfl #[.int .u8 k, .int .i64 s] 54).drewN nq
  clear c0 f0 hg H2
  generalize hw3 : (w.alloc (.cells #[.int .u8 k, .int .i64 s] 54)).drewN nq = w3 at H3 ⊢
  clear hw3
  generalize w.heap.size = b at H3 ⊢
  have c0 := H3.cell 0 rfl (o := 0) rfl
  have c1 := H3.cell 2 rfl (o := 0) rfl
  have c2 := H3.cell 2 rfl (o := 1) rfl
  have f0 := H3.free 0 rfl 0
  have hg := H3.lt 0 rfl
  have hb := H3.lt 2 rfl
  have hr := H3.row 1 rfl
  go_region_law (refine step_append_any _ (by rfl) (.tmp 54) (.tmp 58) _ (by rfl) 0 56 i0 (.agg #[.int .u8 0, .int .i64 0, .int .i64 0]) 3 24 Try.underlying33 hi0 hz0 hz1 hz2 rfl (by omega) (.slice A 0 c) 0 [] (by rfl) ((hr.alloc _)) (some ⟨w3.heap.size, 0, none⟩) 1 1 [.int .u8 k, .int .i64 s, .int .i64 n] (by rfl) (rd_new _ _ _ 3 rfl) (by simp [Value.oneCell']) (by simp only [maxLen]; omega) (by omega) (by omega) ?_; intro v1 w1 hown1 hg1 hat1; obtain ⟨A1, d1, rfl, hd1, -⟩ := row_shape hown1; have H4 := ((H3.alloc 3 rfl #[.int .u8 k, .int .i64 s, .int .i64 n] 56).drew).grow 1 rfl hown1 hg1 hat1; have k0 := H4.cell 0 rfl (o := 0) rfl; have k1 := H4.cell 2 rfl (o := 0) rfl; have k2 := H4.cell 2 rfl (o := 1) rfl; have k3 := H4.free 0 rfl 0)
  all_goals go_wp2
  all_goals go_end0
  all_goals exact ⟨rfl, ledR_close [(k, s, n)] (H4.store 0 rfl (o := 0) (u := .slice A1 1 d1)) rfl rfl rfl rfl⟩

set_option maxHeartbeats 1000000 in
theorem refNoteTimes_same {F : List Nat} {w : World} (g m : Nat) (rs : List RunT) (k s c n : Int) (hm : rs.length = m + 1) (hr : rs[m]? = some (k, s, c)) (HF : St w F w (one (ledRO g rs))) (hn : 1 ≤ n) (hb : n ≤ 4611686018427387904) (hc0 : 0 ≤ c) (hc : c + n ≤ 4611686018427387904) (ht : 0 ≤ total rs) (ht' : total rs + n ≤ 4611686018427387904) (hl : m ≤ 1000000000000) :
    Calls Try.prog 41 #[lptr g, .agg #[.int .u8 k, .int .i64 s], .int .i64 n] w fun e w' => e = .returned (.tuple #[]) ∧ St w F w' (one (ledRO g (rs.set m (k, s, c + n)))) := by
  obtain ⟨v, H1⟩ := HF.openEx 0 rfl
  have H2 := H1.part 0 1 (by omega) rfl rfl
  clear HF H1
  obtain ⟨A, d, rfl, hd, hA⟩ := row_shape (H2.row 1 rfl)
  obtain ⟨g', rfl, -⟩ := hA (by omega)
  clear hA
  have c0 := H2.cell 0 rfl (o := 0) rfl
  have f0 := H2.free 0 rfl 0
  have hg := H2.lt 0 rfl
  have hn1 : ¬ n < 1 := by omega
  rw [hm] at c0
  have HM := Lib.hid hm
  have HR := Lib.hid hr
  clear hm hr
  unfold lptr
  go_enter Try.func41, Try.ntmps41
  go_wp2
  have H3 := (H2.allocAt 2 rfl w.heap.size rfl #[.int .u8 k, .int .i64 s] 54)
  clear c0 f0 hg H2
  generalize hw3 : (w.alloc (.cells #[.int .u8 k, .int .i64 s] 54)) = w3 at H3 ⊢
  clear hw3
  generalize w.heap.size = b at H3 ⊢
  have c0 := H3.cell 0 rfl (o := 0) rfl
  rw [HM.out] at c0
  have c1 := H3.cell 2 rfl (o := 0) rfl
  have c2 := H3.cell 2 rfl (o := 1) rfl
  obtain ⟨r0, r1, r2, fr⟩ := run_cells (H3.row 1 rfl) HR.out
  have hi : IntKind.i64.wrap (m : Int) = (m : Int) := IntWalk.i64_in _ (by omega)
  have hi3 : (0 : Int) ≤ (m : Int) := by omega
  go_quiet (fail)
  clear hi
  go_wp2
  refine region_quiet_tail 17 (by kernel_rfl) (by kernel_rfl) ?_
  simp only [List.take_succ_cons, List.take_zero, List.drop_succ_cons, List.drop_zero]
  repeat (go_big_quiet_step (fail))
  refine wpQuiet_nil ?_
  intro nq2
  go_wp2
  refine bodyPost_ret (results_none rfl _ _ _) rfl ⟨rfl, ?_⟩
  exact ledR_close _ ((H3.drewN (nq + nq2)).rowStore 1 rfl (o := m * 3 + 2) (u := .int .i64 (c + n))) rfl rfl (by rw [List.length_set]) (runsV_set rs m _ _ HR.out)

set_option maxHeartbeats 1000000 in
theorem refNoteTimes_other {F : List Nat} {w : World} (g m : Nat) (rs : List RunT) (k s k' s' c n : Int) (hm : rs.length = m + 1) (hr : rs[m]? = some (k', s', c)) (hne : ¬ (k' = k ∧ s' = s)) (HF : St w F w (one (ledRO g rs))) (hn : 1 ≤ n) (hb : n ≤ 4611686018427387904) (ht : 0 ≤ total rs) (ht' : total rs + n ≤ 4611686018427387904) (hl : m ≤ 1000000000000) :
    Calls Try.prog 41 #[lptr g, .agg #[.int .u8 k, .int .i64 s], .int .i64 n] w fun e w' => e = .returned (.tuple #[]) ∧ St w F w' (one (ledRO g (rs ++ [(k, s, n)]))) := by
  obtain ⟨v, H1⟩ := HF.openEx 0 rfl
  have H2 := H1.part 0 1 (by omega) rfl rfl
  clear HF H1
  obtain ⟨A, d, rfl, hd, hA⟩ := row_shape (H2.row 1 rfl)
  obtain ⟨g', rfl, -⟩ := hA (by omega)
  clear hA
  have c0 := H2.cell 0 rfl (o := 0) rfl
  have f0 := H2.free 0 rfl 0
  have hg := H2.lt 0 rfl
  have hn1 : ¬ n < 1 := by omega
  rw [hm] at c0
  have HM := Lib.hid hm
  have HR := Lib.hid hr
  have HN := Lib.hid hne
  clear hm hr hne
  unfold lptr
  go_enter Try.func41, Try.ntmps41
  go_wp2
  have H3 := (H2.allocAt 2 rfl w.heap.size rfl #[.int .u8 k, .int .i64 s] 54)
  clear c0 f0 hg H2
  generalize hw3 : (w.alloc (.cells #[.int .u8 k, .int .i64 s] 54)) = w3 at H3 ⊢
  clear hw3
  generalize w.heap.size = b at H3 ⊢
  have c0 := H3.cell 0 rfl (o := 0) rfl
  rw [HM.out] at c0
  have c1 := H3.cell 2 rfl (o := 0) rfl
  have c2 := H3.cell 2 rfl (o := 1) rfl
  obtain ⟨r0, r1, r2, fr⟩ := run_cells (H3.row 1 rfl) HR.out
  have hi : IntKind.i64.wrap (m : Int) = (m : Int) := IntWalk.i64_in _ (by omega)
  have hi2 : (m : Int) < (m : Int) + 1 := by omega
  have hi3 : (0 : Int) ≤ (m : Int) := by omega
  have hq : (k' == k) = false ∨ (k' = k ∧ (s' == s) = false) := by
    by_cases hk : k' = k
    · exact .inr ⟨hk, by simpa using fun h => HN.out ⟨hk, h⟩⟩
    · exact .inl (by simpa using hk)
  rcases hq with hq | ⟨hq0, hq⟩
  all_goals
    try (have hq1 := hq0.symm; subst hq1)
    go_quiet (fail)
    clear hi hi2 hi3 hq
    go_wp2
    have H4 := H3.drewN nq
    clear c0 c1 c2 r0 r1 r2 fr H3
    generalize w3.drewN nq = w4 at H4 ⊢
    obtain ⟨i0, hi0, hz0, hz1, hz2⟩ := info_parts run_info
    have c0 := H4.cell 0 rfl (o := 0) rfl
    rw [HM.out] at c0
    have c1 := H4.cell 2 rfl (o := 0) rfl
    have c2 := H4.cell 2 rfl (o := 1) rfl
    have f0 := H4.free 0 rfl 0
    have hg := H4.lt 0 rfl
    have hbb := H4.lt 2 rfl
    have hr := H4.row 1 rfl
    rw [HM.out] at hr
    go_region_law (refine step_append_any _ (by rfl) (.tmp 54) (.tmp 58) _ (by rfl) 0 56 i0 (.agg #[.int .u8 0, .int .i64 0, .int .i64 0]) 3 24 Try.underlying33 hi0 hz0 hz1 hz2 rfl (by omega) (.slice (some ⟨g', 0, none⟩) (m + 1) d) (m + 1) (runsV rs) (by rfl) ((hr.alloc _)) (some ⟨w4.heap.size, 0, none⟩) 1 1 [.int .u8 k, .int .i64 s, .int .i64 n] (by rfl) (rd_new _ _ _ 3 rfl) (by simp [Value.oneCell']) (by simp only [maxLen]; omega) (by omega) (by omega) ?_; intro v1 w1 hown1 hg1 hat1; obtain ⟨A1, d1, rfl, hd1, -⟩ := row_shape hown1; have H5 := ((H4.alloc 3 rfl #[.int .u8 k, .int .i64 s, .int .i64 n] 56).drew).grow 1 rfl hown1 hg1 hat1; have k0 := H5.cell 0 rfl (o := 0) rfl; have k3 := H5.free 0 rfl 0)
    all_goals go_wp2
    all_goals go_end0
    all_goals exact ⟨rfl, ledR_close (rs ++ [(k, s, n)]) (H5.store 0 rfl (o := 0) (u := .slice A1 (m + 1 + 1) d1)) rfl rfl (by simp [HM.out]) (by rw [runsV_append]; rfl)⟩

/-- Of any ledger that is one: an event is noted. -/
theorem refNoteTimes_led {F : List Nat} {w : World} (g : Nat) (rs : List RunT) (k s n : Int) (HF : St w F w (one (ledRO g rs))) (hn : 1 ≤ n) (hb : n ≤ 4611686018427387904) (h0 : ∀ r ∈ rs, 0 ≤ r.2.2) (ht' : total rs + n ≤ 4611686018427387904) (hl : rs.length ≤ 1000000000000) :
    Calls Try.prog 41 #[lptr g, .agg #[.int .u8 k, .int .i64 s], .int .i64 n] w fun e w' => e = .returned (.tuple #[]) ∧ St w F w' (one (ledRO g (noted rs k s n))) := by
  have ht := total_nonneg rs h0
  rcases Nat.eq_zero_or_pos rs.length with hz | hz
  · have : rs = [] := List.length_eq_zero_iff.1 hz
    subst this
    rw [noted_nil]
    exact refNoteTimes_nil g k s n HF hn hb
  · obtain ⟨m, hm⟩ : ∃ m, rs.length = m + 1 := ⟨rs.length - 1, by omega⟩
    obtain ⟨r, hr⟩ : ∃ r, rs[m]? = some r := ⟨rs[m], List.getElem?_eq_getElem (by omega)⟩
    obtain ⟨k', s', c⟩ := r
    have hc0 := h0 _ (List.mem_of_getElem? hr)
    have hc1 := total_ge rs h0 _ (List.mem_of_getElem? hr)
    by_cases he : k' = k ∧ s' = s
    · obtain ⟨rfl, rfl⟩ := he
      rw [noted_same rs m _ _ c n hm hr]
      exact refNoteTimes_same g m rs _ _ c n hm hr HF hn hb hc0 (by simp only at hc1; omega) ht ht' (by omega)
    · rw [noted_other rs m k s k' s' c n hm hr he]
      exact refNoteTimes_other g m rs k s k' s' c n hm hr he HF hn hb ht ht' (by omega)

/-- the document's ledger, or none -/
def ledR (l : Value) : Option (List RunT) → Own
  | none => .fact (l = .pointer none) .emp
  | some rs => .ex fun g => .fact (l = lptr g) (ledRO g rs)

section
variable {w0 w : World} {F0 : List Nat} {E : Env}

theorem St.ledRNil (H : St w0 F0 w E) (k : Nat) (hk : E k = Option.none) : St w0 F0 w (upd E k (ledR (.pointer none) none)) :=
  by have h := (H.nothing k hk).shutFact (p := Value.pointer none = Value.pointer none) rfl k upd_same; rw [upd_upd] at h; exact h

theorem St.ledROpen {l : Value} {rs : List RunT} (H : St w0 F0 w E) (i : Nat) (hi : E i = some (ledR l (some rs))) : ∃ g, l = lptr g ∧ St w0 F0 w (upd E i (ledRO g rs)) := by
  obtain ⟨g, H1⟩ := H.openEx i hi
  obtain ⟨h, H2⟩ := H1.openFact i upd_same
  simp only [upd_upd] at H2
  exact ⟨g, h, H2⟩

theorem St.ledRShut {rs : List RunT} {g : Nat} (H : St w0 F0 w E) (i : Nat) (hi : E i = some (ledRO g rs)) : St w0 F0 w (upd E i (ledR (lptr g) (some rs))) := by
  have H1 := H.shutFact (p := lptr g = lptr g) rfl i hi
  have H2 := H1.shutEx (A := fun g' => .fact (lptr g = lptr g') (ledRO g' rs)) g i upd_same
  simp only [upd_upd] at H2
  exact H2

theorem St.ledRRead {l : Value} {rs : List RunT} (H : St w0 F0 w E) (i : Nat) (hi : E i = some (ledR l (some rs))) :
    ∃ g A c, l = lptr g ∧ g < w.heap.size ∧ w.cell? ⟨g, 0, none⟩ = some (.slice A rs.length c) ∧ Rd w 3 A rs.length (runsV rs) := by
  obtain ⟨F, ⟨g, hl, v, G, K, eF, ⟨hb, -⟩, ⟨hr, -⟩, -⟩, -⟩ := H.change i hi
  obtain ⟨A, c, rfl, -, -⟩ := row_shape hr
  exact ⟨g, A, c, hl, lt_of_heap hb, by rw [cell_of_row w g 0 _ _ _ hb]; rfl, Rd.of_own hr⟩

theorem refLedger_new (H : St w0 F0 w E) (k : Nat) (hk : E k = Option.none) : Calls Try.prog 8 #[] w fun e w' => ∃ v, e = .returned v ∧ St w0 F0 w' (upd E k (ledR v (some []))) := by
  go_enter Try.func8, Try.ntmps8
  go_wp2
  go_ret
  refine ⟨_, rfl, ?_⟩
  have ho : (ledRO w.heap.size []).holds (w.alloc (.cells #[.slice none 0 0] 64)) [w.heap.size] :=
    ⟨.slice none 0 0, [w.heap.size], [], rfl, ⟨by rw [heap_alloc_new], rfl⟩, ⟨World.ownsRow_nil _ _ _ _, rfl⟩, by simp⟩
  have H1 := H.push k hk ((Below.refl _ _).alloc (Nat.le_refl _) _) ho (by simp)
  have H2 := H1.ledRShut k upd_same
  simp only [upd_upd] at H2
  exact H2

theorem refNoteTimes_zero (l : Value) (k s : Int) (hl : l = .pointer none ∨ ∃ g, l = lptr g) : Calls Try.prog 41 #[l, .agg #[.int .u8 k, .int .i64 s], .int .i64 0] w fun e w' => e = .returned (.tuple #[]) ∧ Below w.heap.size w w' := by
  rcases hl with rfl | ⟨g, rfl⟩
  · go_enter Try.func41, Try.ntmps41
    go_wp2
    refine bodyPost_ret (results_none rfl _ _ _) rfl ⟨rfl, ?_⟩
    exact (Below.refl _ _).alloc (Nat.le_refl _) _
  · unfold lptr
    go_enter Try.func41, Try.ntmps41
    go_wp2
    refine bodyPost_ret (results_none rfl _ _ _) rfl ⟨rfl, ?_⟩
    exact (Below.refl _ _).alloc (Nat.le_refl _) _

theorem refNoteTimes_null (k s n : Int) : Calls Try.prog 41 #[.pointer none, .agg #[.int .u8 k, .int .i64 s], .int .i64 n] w fun e w' => e = .returned (.tuple #[]) ∧ Below w.heap.size w w' := by
  go_enter Try.func41, Try.ntmps41
  go_wp2
  refine bodyPost_ret (results_none rfl _ _ _) rfl ⟨rfl, ?_⟩
  exact (Below.refl _ _).alloc (Nat.le_refl _) _

/-- an event so many times, none perhaps -/
theorem refNoteTimes_w {l : Value} {r : Option (List RunT)} (m : Nat) (b k s : Int) (n : Nat) (N : Int) (hN : N = n) (H : St w0 F0 w E) (i : Nat) (hi : E i = some (ledR l r)) (hg : LW r m b) (hm : m ≤ 1000000000000) (hb : b + n ≤ 4611686018427387904) (hn : n ≤ 4611686018427387904) :
    Calls Try.prog 41 #[l, .agg #[.int .u8 k, .int .i64 s], .int .i64 N] w fun e w' => e = .returned (.tuple #[]) ∧ St w0 F0 w' (upd E i (ledR l (noteN r k s n))) := by
  subst hN
  cases r with
  | none =>
    obtain ⟨rfl, H1⟩ := H.openFact i hi
    refine (refNoteTimes_null k s n).mono ?_
    rintro e w1 ⟨rfl, hb1⟩
    have H2 := H.call hb1
    refine ⟨rfl, ?_⟩
    have e : noteN none k s n = none := by unfold noteN; split <;> rfl
    rw [e, upd_id hi]
    exact H2
  | some rs =>
    rcases Nat.eq_zero_or_pos n with rfl | hp
    · obtain ⟨g, hl, -⟩ := H.ledROpen i hi
      refine (refNoteTimes_zero l k s (.inr ⟨g, hl⟩)).mono ?_
      rintro e w1 ⟨rfl, hb1⟩
      exact ⟨rfl, by rw [noteN_zero, upd_id hi]; exact H.call hb1⟩
    · obtain ⟨g, rfl, H1⟩ := H.ledROpen i hi
      obtain ⟨h1, hl, h2⟩ := hg rs rfl
      have h0 : ∀ r ∈ rs, 0 ≤ r.2.2 := fun r hr => by have := h1 r hr; omega
      obtain ⟨F, HF, -, -, hback⟩ := H1.frame1 i upd_same
      refine (refNoteTimes_led g rs k s n HF (by omega) (by omega) h0 (by omega) (by omega)).mono ?_
      rintro e w1 ⟨rfl, hs⟩
      have H3 := (hback _ _ hs).ledRShut i upd_same
      simp only [upd_upd] at H3
      refine ⟨rfl, ?_⟩
      unfold noteN
      rw [if_neg (by omega)]
      exact H3

theorem hold_here' {p : Prop} (h : Hid p) : p := h

theorem St.rdBlk {w0 w : World} {F0 : List Nat} {E : Env} {g : Nat} {T : TypeId} {cs : List Value} (H : St w0 F0 w E) (k : Nat) (hk : E k = some (.blk g T cs)) (size n : Nat) (hl : cs.length = n * size) : Rd w size (some ⟨g, 0, none⟩) n cs :=
  ⟨hl, fun _ => ⟨_, rfl, H.lt k hk, fun j u hu => by rw [Addr.add_mid, Nat.zero_add]; exact H.cell k hk hu⟩⟩

theorem total_take_succ {rs : List RunT} {j : Nat} {x : RunT} (h : rs[j]? = some x) : total (rs.take (j + 1)) = total (rs.take j) + x.2.2 := by
  rw [List.take_add_one, h, total_append]
  simp [total]

theorem total_take_le {rs : List RunT} (h : ∀ x ∈ rs, 0 ≤ x.2.2) (j : Nat) : 0 ≤ total (rs.take j) ∧ total (rs.take j) ≤ total rs := by
  have h1 := total_nonneg (rs.take j) fun x hx => h x (List.mem_of_mem_take hx)
  have h2 := total_nonneg (rs.drop j) fun x hx => h x (List.mem_of_mem_drop hx)
  have h3 := total_append (rs.take j) (rs.drop j)
  rw [List.take_append_drop] at h3
  omega

theorem runsV_snoc {rs : List RunT} {j : Nat} {x : RunT} (h : rs[j]? = some x) : runsV (rs.take (j + 1)) = runsV (rs.take j) ++ runV x := by
  rw [List.take_add_one, h, runsV_append]
  simp [runsV]

set_option maxHeartbeats 1000000 in
theorem refRuns_w {l : Value} {rs : List RunT} (m : Nat) (b : Int) (H : St w0 F0 w E) (i : Nat) (hi : E i = some (ledR l (some rs))) (hg : LW (some rs) m b) (hm : m ≤ 1000000000) (q : Nat) (hq : E q = Option.none) :
    Calls Try.prog 17 #[l] w fun e w' => ∃ v, e = .returned v ∧ St w0 F0 w' (upd E q (runsO v rs)) := by
  obtain ⟨i0, hi0, hz0, hz1, hz2⟩ := info_parts run_info
  obtain ⟨g, A, c, hlp, hlt, c0, hr⟩ := H.ledRRead i hi
  obtain ⟨h1, h2, h3⟩ := hg rs rfl
  have HE : Hid (rs.take rs.length = rs) := by unfold Hid; rw [List.take_length]
  clear h1 h3 hg
  generalize hN : rs.length = N at c0 hr h2 HE
  have HN := Lib.hid hN
  clear hN
  have HH := Lib.hid H
  have G := St.start_lay w []
  replace G := (G.nilRow 0 rfl 56 3).push_mk rfl
  have HRR : Hid (Rd w 3 A N (runsV rs)) := hr
  have HLP := Lib.hid hlp
  obtain rfl := hlp
  unfold lptr
  go_enter Try.func17, Try.ntmps17
  clear H c0 hr
  go_wp2
  go_loopw [3, 4] (fun t i wr => ∃ k : Nat, k ≤ N ∧ i = .int .i64 k ∧ St w [] wr (lay [.row 56 3 t k (runsV (rs.take k))])) (fun _ i _ => N - (intOf i).toNat)
  case atStart => exact ⟨0, Nat.zero_le _, rfl, G⟩
  case round =>
    clear G
    obtain ⟨k, hk, rfl, G⟩ := hrel
    obtain ⟨g', A', c', e, hlt, c0, hr⟩ := (HH.out.call G.below).ledRRead i hi
    unfold lptr at e
    injection e with e
    injection e with e
    injection e with e
    subst e
    rw [HN.out] at c0 hr
    by_cases hlt2 : k < N
    · obtain ⟨x, hx⟩ : ∃ r, rs[k]? = some r := ⟨_, List.getElem?_eq_getElem (by rw [HN.out]; exact hlt2)⟩
      obtain ⟨p, o, rfl, -, hcx⟩ := hr.flat (by omega) (by omega)
      have a0 := hcx (k * 3 + 0) _ (by rw [runsV_get rs k 0 x hx (by omega)]; rfl)
      have a1 := hcx (k * 3 + 1) _ (by rw [runsV_get rs k 1 x hx (by omega)]; rfl)
      have a2 := hcx (k * 3 + 2) _ (by rw [runsV_get rs k 2 x hx (by omega)]; rfl)
      simp only [← Nat.add_assoc, Nat.add_zero] at a0 a1 a2
      have HS := Lib.hid (runsV_snoc hx)
      have hk1 : (k : Int) < N := by omega
      obtain ⟨x0, x1, x2⟩ := x
      simp only at a0 a1 a2
      clear hx hcx hr
      obtain ⟨A3, c3, rfl, -⟩ := row_form (G.row 0 rfl)
      go_wp2_with (at_builtin; refine hold_here' ?_)
      refine Lib.hid ?_
      refine absorb_list (G.allocAt 1 rfl wr.heap.size rfl #[.int .u8 x0, .int .i64 x1, .int .i64 x2] 56 |>.push_mk rfl) ?_
      clear G
      intro w5 G
      generalize wr.heap.size = gN at G ⊢
      refine wpList_append_any _ rfl (.tmp 18) (.tmp 26) _ rfl 0 56 i0 _ 3 24 Try.underlying33 hi0 hz0 hz1 hz2 rfl (by omega) (.slice A3 k c3) k (runsV (rs.take k)) rfl (G.row 0 rfl) (some ⟨gN, 0, none⟩) 1 1 [.int .u8 x0, .int .i64 x1, .int .i64 x2] rfl (G.rdBlk 1 rfl 3 1 rfl) (by intro u hu; simp at hu; rcases hu with rfl | rfl | rfl <;> rfl) (by simp only [maxLen]; omega) (by omega) (by omega) ?_
      intro v6 w6 hown6 hg6 hat6
      replace G := ((G.grow 0 rfl hown6 hg6 hat6).upd_mk (by simp)).front 1
      clear hown6 hg6 hat6
      have G2 : St w [] w6 (lay [.row 56 3 v6 (k + 1) (runsV (rs.take (k + 1)))]) := by rw [HS.out]; exact G
      clear G
      go_wp2
      go_roundw
      case rel => exact ⟨k + 1, by omega, by go_num, G2⟩
      case measure => simp [intOf]; omega
    · obtain rfl : N = k := by omega
      go_wp2
      go_ret
      refine ⟨_, rfl, ?_⟩
      rw [HE.out] at G
      have H2 := HH.out.pushRow q hq G.below (G.ownRow 0 rfl)
      rw [← HN.out] at H2
      exact H2

end

end Go.Proofs.Ythieegmmbjjcbaa
