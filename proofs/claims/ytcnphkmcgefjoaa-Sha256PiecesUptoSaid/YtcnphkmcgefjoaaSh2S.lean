/- SHA-256: a state takes bytes (put), walked. -/
import Derived.Test.YtcnphkmcgefjoaaSh2C
import Derived.Test.YtcnphkmcgefjoaaCut
namespace Go.Proofs.Ytcnphkmcgefjoaa
open Go.RowKit
set_option linter.unusedVariables false
set_option maxRecDepth 100000

/-- the words behind a message's whole blocks -/
def h2 (m : List UInt8) : List UInt32 := hAll 64 comp2 hBeg2 m
def w2' (m : List UInt8) : List UInt8 := waitOf 64 m
def sh2S (m : List UInt8) : List Value := shVs (h2 m) m.length (w2' m)

theorem h2_length (m : List UInt8) : (h2 m).length = 8 := by
  unfold h2 hAll
  cases m.length / 64 with
  | zero => rfl
  | succ k => exact comp2_length _ _
theorem w2_length (m : List UInt8) : (w2' m).length = 64 := wait_length (by omega) m
theorem h2_stay {m x : List UInt8} (h : m.length % 64 + x.length < 64) : h2 (m ++ x) = h2 m := hAll_stay h
theorem w2_stay {m x : List UInt8} (h : m.length % 64 + x.length < 64) : putAt (w2' m) (m.length % 64) x = w2' (m ++ x) := wait_stay h
theorem h2_next {m x : List UInt8} (h : m.length % 64 + x.length = 64) : h2 (m ++ x) = comp2 (h2 m) (putAt (w2' m) (m.length % 64) x) := by
  unfold h2 w2'
  rw [wait_full (by omega) h]
  exact hAll_next (by omega) h
theorem w2_next {m x : List UInt8} (h : m.length % 64 + x.length = 64) : w2' (m ++ x) = List.replicate 64 0 := wait_next (by omega) h
theorem put_length {b x : List UInt8} {k : Nat} (h : k + x.length ≤ b.length) : (putAt b k x).length = b.length := by
  unfold putAt
  rw [List.length_append, List.length_append, List.length_take, List.length_drop]
  omega

theorem upd_laid2 {L : List Own} {k : Nat} {A : Own} (h : k < L.length) : upd (lay L) k A = lay (L.set k A) := by
  funext i
  by_cases hi : i = k
  · subst hi; simp [upd, lay, List.getElem?_set_self h]
  · simp [upd, lay, hi, List.getElem?_set_ne (Ne.symm hi)]

theorem u8_size' : (Try.prog.info? 5).map (·.size) = some 1 := by kernel_rfl

section
variable {w0 w : World} {F0 : List Nat} {E : Env}

theorem sh2None_no (g : Nat) (w : World) (hc : w.cell? ⟨g, 73, none⟩ = some (.bool true)) :
    Calls Try.prog 44 #[lptr g] w fun e w' => e = .returned (.bool false) ∧ w = w' := by
  unfold lptr
  go_enter Try.func44, Try.ntmps44
  go_wp2
  go_ret
  exact ⟨rfl, rfl⟩

theorem sh2None_nil (w : World) : Calls Try.prog 44 #[.pointer none] w fun e w' => e = .returned (.bool true) ∧ w = w' := by
  go_enter Try.func44, Try.ntmps44
  go_wp2
  go_ret
  exact ⟨rfl, rfl⟩

theorem sh2None_off (g : Nat) (w : World) (hc : w.cell? ⟨g, 73, none⟩ = some (.bool false)) :
    Calls Try.prog 44 #[lptr g] w fun e w' => e = .returned (.bool true) ∧ w = w' := by
  unfold lptr
  go_enter Try.func44, Try.ntmps44
  go_wp2
  go_ret
  exact ⟨rfl, rfl⟩

theorem take_more {α : Type} (p : List α) (t q : Nat) : p.take (t + q) = p.take t ++ (p.drop t).take q := List.take_add

theorem Rd.drop_any {w : World} {A : Option Addr} {n c x : Nat} {l : List UInt8} (b o : Nat) (h : Rd w 1 (some ⟨b, o, none⟩) n (l.map vb)) (hx : x ≤ n) (hc : n ≤ c) : Rd w 1 (if c = x then some ⟨b, o, none⟩ else some ⟨b, o + x, none⟩) (n - x) ((l.drop x).map vb) := Rd.drop_if h hx hc

theorem below_take {α : Type} {l : List α} {n j : Nat} {v : α} (h : (l.take n)[j]? = some v) : l[j]? = some v := by
  rw [List.getElem?_take] at h
  split at h
  · exact h
  · cases h

attribute [local irreducible] comp2 hTo

set_option maxHeartbeats 8000000 in
theorem sh2Put_s (l : Value) (r : Option (List RunT)) (m : Nat) (c : Int) (g : Nat) (M : List UInt8) (A : Option Addr) (n cA : Nat) (p : List UInt8) (H : St w0 F0 w E) (i j : Nat) (hij : i ≠ j) (hi : E i = some (led l r)) (hj : E j = some (.blk g 77 (sh2S M))) (hg : LW r m c) (hm : m ≤ 999999999) (hc : c ≤ 400000000000000000)
    (hR : ∀ w' X Y, St w0 F0 w' (upd (upd E i X) j Y) → Rd w' 1 A n (p.map vb)) (hcap : n ≤ cA) (hn : M.length + n ≤ 281474976710656) :
    Calls Try.prog 39 #[lptr g, l, .slice A n cA] w fun e w' => e = .returned (.tuple #[]) ∧ St w0 F0 w' (upd (upd E i (led l (noteN r 1 64 ((M.length + n) / 64 - M.length / 64)))) j (.blk g 77 (sh2S (M ++ p)))) := by
  have hl : p.length = n := by have h := (hR w _ _ (by rw [upd_id hi, upd_id hj]; exact H)).1; simpa using h
  obtain ⟨F, HF, -, -, hback⟩ := H.frame2 i j hij hi hj
  have HB := Lib.hid hback
  have HR0 : Hid (∀ w' X Y, St w F w' (lay [X, Y]) → Rd w' 1 A n (p.map vb)) := fun w' X Y h => hR w' X Y (hback w' X Y (h.to2 rfl rfl))
  have HL := Lib.hid hl
  replace HF := HF.as2
  clear H hback hi hj hR hl hij
  unfold lptr
  go_enter Try.func39, Try.ntmps39
  go_wp2
  go_loopw [2] (fun s wr => ∃ (t : Nat) (A' : Option Addr) (c' : Nat), t ≤ n ∧ s = .slice A' (n - t) c' ∧ n - t ≤ c' ∧ Hid (∀ w' X Y, St w F w' (lay [X, Y]) → Rd w' 1 A' (n - t) ((p.drop t).map vb)) ∧ St w F wr (lay [led l (noteN r 1 64 ((M.length + t) / 64 - M.length / 64)), .blk g 77 (sh2S (M ++ p.take t))])) (fun s _ => match s with | .slice _ k _ => k | _ => 0)
  case atStart => exact ⟨0, A, cA, Nat.zero_le _, rfl, hcap, HR0.out, by rw [Nat.add_zero, Nat.sub_self, noteN_zero, List.take_zero, List.append_nil]; exact HF⟩
  case round =>
    clear HF HR0
    obtain ⟨t, A', c', ht, rfl, hc', HR, H⟩ := hrel
    by_cases hlt : t < n
    · obtain ⟨b, o, rfl, -, -⟩ := (HR.out wr _ _ H).flat (by omega) (by omega)
      obtain ⟨N, hN⟩ : ∃ N, M ++ p.take t = N := ⟨_, rfl⟩
      have hNl : N.length = M.length + t := by rw [← hN, List.length_append, List.length_take, HL.out]; omega
      rw [hN, ← hNl] at H
      obtain ⟨q, hq⟩ : ∃ q, min (64 - N.length % 64) (n - t) = q := ⟨_, rfl⟩
      obtain ⟨x, hx⟩ : ∃ x, (p.drop t).take q = x := ⟨_, rfl⟩
      have ha : N.length % 64 < 64 := Nat.mod_lt _ (by omega)
      have hxl : x.length = q := by rw [← hx, List.length_take, List.length_drop, HL.out]; omega
      have hq1 : 1 ≤ q := by omega
      have hq2 : q ≤ n - t := by omega
      have hq3 : N.length % 64 + q ≤ 64 := by omega
      have HN2 : Hid (M ++ p.take (t + q) = N ++ x) := by unfold Hid; rw [take_more, ← List.append_assoc, hN, hx]
      have HXX := Lib.hid hx
      have HXL := Lib.hid hxl
      have HNL := Lib.hid hNl
      have HQ := Lib.hid hq
      have hnb : N.length + n ≤ 600000000000000 := by omega
      clear hx hxl hNl hN hq
      have hn8 := shVs_n (n := N.length) (b := w2' N) (h2_length N)
      have c8 := H.cell 1 rfl hn8
      have hgo : ((n - t : Nat) : Int) > 0 := by omega
      have hrm : Int.tmod (N.length : Int) 64 = ((N.length % 64 : Nat) : Int) := by rw [Int.tmod_eq_emod_of_nonneg (by omega)]; omega
      obtain ⟨a, haa⟩ : ∃ a, N.length % 64 = a := ⟨_, rfl⟩
      rw [haa] at hrm hq3 ha
      have HA := Lib.hid haa
      have HRM := Lib.hid hrm
      clear haa hrm
      have ha64 : ¬ 64 = a := by omega
      have ha2 : (a : Int) ≤ 64 := by omega
      go_upto_region 1 with fail
      replace H := H.drew
      have HNE : Hid ((M.length + t) / 64 = N.length / 64) := by unfold Hid; rw [HNL.out]
      rw [← HNE.out] at H
      replace H : St w F _ (lay [led l (noteN r 1 64 ((M.length + t) / 64 - M.length / 64)), .blk g 77 (shVs (h2 N) N.length (w2' N))]) := H
      refine wp_region_held_drew (S := fun w' : World => ∃ Z, St w F w' (lay [led l (noteN r 1 64 ((M.length + t) / 64 - M.length / 64)), .blk g 77 (shVs (h2 N) N.length Z)])) (by kernel_rfl) ?_ (fun hHeld => ?_)
      · exact ⟨_, H⟩
      refine takeV 0 rfl (by intro w h; clear h; go_simp; try with_reducible rfl) (by kernel_rfl) (by kernel_rfl) (by kernel_rfl) (by exact fun _ _ _ h => h) (by rfl) (by assumption) ?_
      try simp only [Act.put, List.setIfInBounds_toArray, List.set_cons_zero, List.set_cons_succ]
      refine takeV 1 rfl (by intro w h; clear h; go_simp; try with_reducible rfl) (by kernel_rfl) (by kernel_rfl) (by kernel_rfl) (by exact fun _ _ _ h => h) (by rfl) (by assumption) ?_
      try simp only [Act.put, List.setIfInBounds_toArray, List.set_cons_zero, List.set_cons_succ]
      refine takeV 2 rfl (by intro w h; clear h; go_simp; try with_reducible rfl) (by kernel_rfl) (by kernel_rfl) (by kernel_rfl) (by exact fun _ _ _ h => h) (by rfl) (by assumption) ?_
      try simp only [Act.put, List.setIfInBounds_toArray, List.set_cons_zero, List.set_cons_succ]
      refine takeV 3 rfl (by intro w h; clear h; go_simp; try with_reducible rfl) (by kernel_rfl) (by kernel_rfl) (by kernel_rfl) (by exact fun _ _ _ h => h) (by rfl) (by assumption) ?_
      try simp only [Act.put, List.setIfInBounds_toArray, List.set_cons_zero, List.set_cons_succ]
      refine takeV 4 rfl (by intro w h; clear h; go_simp; try with_reducible rfl) (by kernel_rfl) (by kernel_rfl) (by kernel_rfl) (by exact fun _ _ _ h => h) (by rfl) (by assumption) ?_
      try simp only [Act.put, List.setIfInBounds_toArray, List.set_cons_zero, List.set_cons_succ]
      refine takeV 5 rfl (by intro w h; clear h; go_simp; try with_reducible rfl) (by kernel_rfl) (by kernel_rfl) (by kernel_rfl) (by exact fun _ _ _ h => h) (by rfl) (by assumption) ?_
      try simp only [Act.put, List.setIfInBounds_toArray, List.set_cons_zero, List.set_cons_succ]
      refine takeV 6 rfl (by intro w h; have hc := (h.elim fun Z h => h.cell 1 rfl (shVs_n (h2_length N))); clear h; go_simp; try with_reducible rfl) (by kernel_rfl) (by kernel_rfl) (by kernel_rfl) (by exact fun _ _ _ h => h) (by rfl) (by assumption) ?_
      try simp only [Act.put, List.setIfInBounds_toArray, List.set_cons_zero, List.set_cons_succ]
      refine takeV 7 rfl (by intro w h; clear h; go_simp; try with_reducible rfl) (by kernel_rfl) (by kernel_rfl) (by kernel_rfl) (by exact fun _ _ _ h => h) (by rfl) (by assumption) ?_
      try simp only [Act.put, List.setIfInBounds_toArray, List.set_cons_zero, List.set_cons_succ]
      rw [HRM.out]
      refine takeV 8 rfl (by intro w h; clear h; go_simp; try with_reducible rfl) (by kernel_rfl) (by kernel_rfl) (by kernel_rfl) (by exact fun _ _ _ h => h) (by rfl) (by assumption) ?_
      try simp only [Act.put, List.setIfInBounds_toArray, List.set_cons_zero, List.set_cons_succ]
      refine takeV 9 rfl (by intro w h; clear h; go_simp; try with_reducible rfl) (by kernel_rfl) (by kernel_rfl) (by kernel_rfl) (by exact fun _ _ _ h => h) (by rfl) (by assumption) ?_
      try simp only [Act.put, List.setIfInBounds_toArray, List.set_cons_zero, List.set_cons_succ]
      refine take_call 10 rfl (by kernel_rfl) (fun K hK => ?_)
      refine step_copy_st rfl (.tmp 18) (.tmp 19) _ _ rfl 5 Try.underlying22 u8_size' _ _ _ _ _ _ (by rfl) (by rfl) H 1 g (9 + a) _ _ (by rfl) (x.map vb) ?_ ?_ ?_ (vb_one _) ?_
      · rw [List.length_map, HXL.out, ← HQ.out, HA.out]; exact Nat.min_comm _ _
      · exact fun _ => ⟨rfl, ⟨b, o, none⟩, rfl, fun j v hv => (((HR.out _ _ _ H).2 (by omega)).elim fun ad h => by obtain ⟨e, -, h3⟩ := h; injection e with e; subst e; exact h3 j v (by rw [← HXX.out, List.map_take] at hv; exact below_take hv))⟩
      · rw [List.length_map, HXL.out, shVs_length (h2_length N) (w2_length N)]; omega
      intro w5 H5
      replace H5 := H5.upd_mk (by simp)
      have hs := shVs_setb (h := h2 N) (n := N.length) (b := w2' N) (h2_length N) (w2_length N) x a (by rw [HXL.out]; omega)
      rw [List.append_assoc] at hs
      replace H5 : St w F w5 (lay [led l (noteN r 1 64 ((M.length + t) / 64 - M.length / 64)), .blk g 77 ((shVs (h2 N) N.length (w2' N)).take (9 + a) ++ (x.map vb ++ (shVs (h2 N) N.length (w2' N)).drop (9 + a + (x.map vb).length)))]) := H5
      rw [hs] at H5
      clear hs
      refine hK.out _ _ ?_ (fun hHeld => ?_)
      · exact ⟨_, H5⟩
      clear hK K
      try simp only [Act.put, List.setIfInBounds_toArray, List.set_cons_zero, List.set_cons_succ]
      rw [show (x.map vb).length = q by rw [List.length_map, HXL.out]]
      refine takeV 11 rfl (by intro w h; clear h; go_simp; try with_reducible rfl) (by kernel_rfl) (by kernel_rfl) (by kernel_rfl) (by exact fun _ _ _ h => h) (by rfl) (by assumption) ?_
      try simp only [Act.put, List.setIfInBounds_toArray, List.set_cons_zero, List.set_cons_succ]
      refine wpAnyH_done (by kernel_rfl) ?_ _
      clear H c8
      have c8 := H5.cell 1 rfl (shVs_n (n := N.length) (b := putAt (w2' N) a x) (h2_length N))
      have f8 := H5.free 1 rfl 8
      clear hHeld
      have H6 := (H5.store 1 rfl (o := 8) (u := .int .i64 ((N.length + q : Nat) : Int))).upd_mk (by simp)
      replace H6 : St w F _ (lay [led l (noteN r 1 64 ((M.length + t) / 64 - M.length / 64)), .blk g 77 ((shVs (h2 N) N.length (putAt (w2' N) a x)).set 8 (.int .i64 ((N.length + q : Nat) : Int)))]) := H6
      rw [shVs_setn (h2_length N)] at H6
      rw [Int.natCast_add] at H6
      clear H5
      go_upto_region 3 with fail
      have c9 := H6.cell 1 rfl (shVs_n (n := N.length + q) (b := putAt (w2' N) a x) (h2_length N))
      rw [Int.natCast_add] at c9
      have hqc : (q : Int) ≤ c' := by omega
      have hqn : (q : Int) ≤ ((n - t : Nat) : Int) := by omega
      have HRR : Hid (∀ w' X Y, St w F w' (lay [X, Y]) → Rd w' 1 (if c' = q then some ⟨b, o, none⟩ else some ⟨b, o + q, none⟩) (n - t - q) (((p.drop t).drop q).map vb)) := fun w' X Y h => Rd.drop_if (HR.out w' X Y h) hq2 hc'
      go_upto_region 4 with fail
      generalize (if c' = q then some (⟨b, o, none⟩ : Addr) else some ⟨b, o + q, none⟩) = A2 at HRR ⊢
      by_cases hf : a + q = 64
      · have h0 : (((N.length : Int) + (q : Int)) % 64 == 0) = true := by
          have e : ((N.length : Int) + (q : Int)) % 64 = 0 := by have := HA.out; omega
          rw [e]; rfl
        have hfx : Hid (N.length % 64 + x.length = 64) := by unfold Hid; rw [HA.out, HXL.out]; exact hf
        have hS : Hid (sh2S (N ++ x) = shVs (comp2 (h2 N) (putAt (w2' N) a x)) (N.length + q) (List.replicate 64 0)) := by
          unfold Hid sh2S
          rw [h2_next hfx.out, w2_next hfx.out, List.length_append, HXL.out, HA.out]
        have hC : Hid ((M.length + t) / 64 - M.length / 64 + 1 = (M.length + (t + q)) / 64 - M.length / 64) := by
          have e := (div_next (B := 64) (n := N.length) (k := q) (by omega) (by rw [HA.out]; exact hf)).1
          rw [HNL.out] at e
          rw [show M.length + (t + q) = M.length + t + q by omega, e]
          have : M.length / 64 ≤ (M.length + t) / 64 := Nat.div_le_div_right (by omega)
          unfold Hid; omega
        have hcb : (M.length + t) / 64 - M.length / 64 ≤ 600000000000000 := by
          have h1 : (M.length + t) / 64 ≤ M.length + t := Nat.div_le_self _ _
          have := HNL.out
          omega
        have HF2 := Lib.hid hf
        clear hf c8 f8
        go_wp2_with fail
        refine (sh2Comp_s l _ (m + 1) (c + (((M.length + t) / 64 - M.length / 64 : Nat) : Int)) g (h2 N) (N.length + q) (putAt (w2' N) a x) H6 0 1 (by omega) rfl rfl (hg.noteN 1 64 _) (by omega) (by omega) (h2_length N) (by rw [put_length (by rw [w2_length, HXL.out]; omega), w2_length])).mono ?_
        rintro e w7 ⟨rfl, H7⟩
        rw [noteN_noteN, hC.out, ← hS.out, ← HN2.out, upd_laid2 (by simp), upd_laid2 (by simp)] at H7
        replace H7 : St w F w7 (lay [led l (noteN r 1 64 ((M.length + (t + q)) / 64 - M.length / 64)), .blk g 77 (sh2S (M ++ p.take (t + q)))]) := H7
        clear h0 H6
        go_wp2
        go_roundw
        case rel => exact ⟨t + q, _, c' - q, by omega, by rw [← Nat.sub_sub], by omega, fun w' X Y h => by rw [← Nat.sub_sub, ← List.drop_drop]; exact HRR.out w' X Y h, H7⟩
        case measure => show n - t - q < n - t; omega
      · have h0 : (((N.length : Int) + (q : Int)) % 64 == 0) = false := by
          have e : ((N.length : Int) + (q : Int)) % 64 = ((a + q : Nat) : Int) := by have := HA.out; omega
          rw [e]; simp; omega
        have hfx : Hid (N.length % 64 + x.length < 64) := by unfold Hid; rw [HA.out, HXL.out]; omega
        have hS : Hid (sh2S (N ++ x) = shVs (h2 N) (N.length + q) (putAt (w2' N) a x)) := by
          unfold Hid sh2S
          rw [h2_stay hfx.out, ← w2_stay hfx.out, List.length_append, HXL.out, HA.out]
        have hC : Hid ((M.length + t) / 64 - M.length / 64 = (M.length + (t + q)) / 64 - M.length / 64) := by
          have e := (div_stay (B := 64) (n := N.length) (k := q) (by rw [HA.out]; omega)).1
          rw [HNL.out] at e
          unfold Hid
          rw [show M.length + (t + q) = M.length + t + q by omega, e]
        rw [← hS.out, hC.out, ← HN2.out] at H6
        clear hf c8 f8
        go_wp2
        go_roundw
        case rel => exact ⟨t + q, _, c' - q, by omega, by rw [← Nat.sub_sub], by omega, fun w' X Y h => by rw [← Nat.sub_sub, ← List.drop_drop]; exact HRR.out w' X Y h, H6⟩
        case measure => show n - t - q < n - t; omega
    · obtain rfl : t = n := by omega
      have hgo : ¬ ((t - t : Nat) : Int) > 0 := by omega
      rw [show p.take t = p from List.take_of_length_le (by rw [HL.out]; exact Nat.le_refl _)] at H
      go_wp2
      go_end0
      exact ⟨rfl, HB.out _ _ _ (H.to2 rfl rfl)⟩
end
end Go.Proofs.Ytcnphkmcgefjoaa
