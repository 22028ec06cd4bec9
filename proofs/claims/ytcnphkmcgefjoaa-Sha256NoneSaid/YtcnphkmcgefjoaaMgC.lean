/- Texts of this claim, merged: Sh2S, Sh2N, WLay, Sh2W, Sh2D, Lit, Sh2L, Sh2V, LawSh2No. -/
import Derived.Test.YtcnphkmcgefjoaaRows
import Derived.Lib.SlBytesConst
import Derived.Test.YtcnphkmcgefjoaaMgB
set_option linter.unusedVariables false

namespace Go.Proofs.Ytcnphkmcgefjoaa
open Go.RowKit
set_option linter.unusedVariables false
set_option maxRecDepth 100000

/-- the words behind a message's whole blocks -/
def h2 (m : List UInt8) : List UInt32 := hAll 64 comp2 hBeg2 m
def w2' (m : List UInt8) : List UInt8 := waitOf 64 m
def sh2S (m : List UInt8) : List Value := shVs (h2 m) m.length (w2' m)

theorem h2_length (m : List UInt8) : (h2 m).length = 8 := by
  unfold h2 hAll
  cases m.length / 64 with
  | zero => rfl
  | succ k => exact comp2_length _ _
theorem w2_length (m : List UInt8) : (w2' m).length = 64 := wait_length (by omega) m
theorem h2_stay {m x : List UInt8} (h : m.length % 64 + x.length < 64) : h2 (m ++ x) = h2 m := hAll_stay h
theorem w2_stay {m x : List UInt8} (h : m.length % 64 + x.length < 64) : putAt (w2' m) (m.length % 64) x = w2' (m ++ x) := wait_stay h
theorem h2_next {m x : List UInt8} (h : m.length % 64 + x.length = 64) : h2 (m ++ x) = comp2 (h2 m) (putAt (w2' m) (m.length % 64) x) := by
  unfold h2 w2'
  rw [wait_full (by omega) h]
  exact hAll_next (by omega) h
theorem w2_next {m x : List UInt8} (h : m.length % 64 + x.length = 64) : w2' (m ++ x) = List.replicate 64 0 := wait_next (by omega) h
theorem put_length {b x : List UInt8} {k : Nat} (h : k + x.length ≤ b.length) : (putAt b k x).length = b.length := by
  unfold putAt
  rw [List.length_append, List.length_append, List.length_take, List.length_drop]
  omega

theorem upd_laid2 {L : List Own} {k : Nat} {A : Own} (h : k < L.length) : upd (lay L) k A = lay (L.set k A) := by
  funext i
  by_cases hi : i = k
  · subst hi; simp [upd, lay, List.getElem?_set_self h]
  · simp [upd, lay, hi, List.getElem?_set_ne (Ne.symm hi)]

theorem u8_size' : (Try.prog.info? 5).map (·.size) = some 1 := by kernel_rfl

section
variable {w0 w : World} {F0 : List Nat} {E : Env}

theorem sh2None_no (g : Nat) (w : World) (hc : w.cell? ⟨g, 73, none⟩ = some (.bool true)) :
    Calls Try.prog 44 #[lptr g] w fun e w' => e = .returned (.bool false) ∧ w = w' := by
  unfold lptr
  go_enter Try.func44, Try.ntmps44
  go_wp2
  go_ret
  exact ⟨rfl, rfl⟩

theorem sh2None_nil (w : World) : Calls Try.prog 44 #[.pointer none] w fun e w' => e = .returned (.bool true) ∧ w = w' := by
  go_enter Try.func44, Try.ntmps44
  go_wp2
  go_ret
  exact ⟨rfl, rfl⟩

theorem sh2None_off (g : Nat) (w : World) (hc : w.cell? ⟨g, 73, none⟩ = some (.bool false)) :
    Calls Try.prog 44 #[lptr g] w fun e w' => e = .returned (.bool true) ∧ w = w' := by
  unfold lptr
  go_enter Try.func44, Try.ntmps44
  go_wp2
  go_ret
  exact ⟨rfl, rfl⟩

theorem take_more {α : Type} (p : List α) (t q : Nat) : p.take (t + q) = p.take t ++ (p.drop t).take q := List.take_add

theorem Rd.drop_any {w : World} {A : Option Addr} {n c x : Nat} {l : List UInt8} (b o : Nat) (h : Rd w 1 (some ⟨b, o, none⟩) n (l.map vb)) (hx : x ≤ n) (hc : n ≤ c) : Rd w 1 (if c = x then some ⟨b, o, none⟩ else some ⟨b, o + x, none⟩) (n - x) ((l.drop x).map vb) := Rd.drop_if h hx hc

theorem below_take {α : Type} {l : List α} {n j : Nat} {v : α} (h : (l.take n)[j]? = some v) : l[j]? = some v := by
  rw [List.getElem?_take] at h
  split at h
  · exact h
  · cases h

attribute [local irreducible] comp2 hTo

set_option maxHeartbeats 8000000 in
theorem sh2Put_s (l : Value) (r : Option (List RunT)) (m : Nat) (c : Int) (g : Nat) (M : List UInt8) (A : Option Addr) (n cA : Nat) (p : List UInt8) (H : St w0 F0 w E) (i j : Nat) (hij : i ≠ j) (hi : E i = some (led l r)) (hj : E j = some (.blk g 77 (sh2S M))) (hg : LW r m c) (hm : m ≤ 999999999) (hc : c ≤ 400000000000000000)
    (hR : ∀ w' X Y, St w0 F0 w' (upd (upd E i X) j Y) → Rd w' 1 A n (p.map vb)) (hcap : n ≤ cA) (hn : M.length + n ≤ 281474976710656) :
    Calls Try.prog 39 #[lptr g, l, .slice A n cA] w fun e w' => e = .returned (.tuple #[]) ∧ St w0 F0 w' (upd (upd E i (led l (noteN r 1 64 ((M.length + n) / 64 - M.length / 64)))) j (.blk g 77 (sh2S (M ++ p)))) := by
  have hl : p.length = n := by have h := (hR w _ _ (by rw [upd_id hi, upd_id hj]; exact H)).1; simpa using h
  obtain ⟨F, HF, -, -, hback⟩ := H.frame2 i j hij hi hj
  have HB := Lib.hid hback
  have HR0 : Hid (∀ w' X Y, St w F w' (lay [X, Y]) → Rd w' 1 A n (p.map vb)) := fun w' X Y h => hR w' X Y (hback w' X Y (h.to2 rfl rfl))
  have HL := Lib.hid hl
  replace HF := HF.as2
  clear H hback hi hj hR hl hij
  unfold lptr
  go_enter Try.func39, Try.ntmps39
  go_wp2
  go_loopw [2] (fun s wr => ∃ (t : Nat) (A' : Option Addr) (c' : Nat), t ≤ n ∧ s = .slice A' (n - t) c' ∧ n - t ≤ c' ∧ Hid (∀ w' X Y, St w F w' (lay [X, Y]) → Rd w' 1 A' (n - t) ((p.drop t).map vb)) ∧ St w F wr (lay [led l (noteN r 1 64 ((M.length + t) / 64 - M.length / 64)), .blk g 77 (sh2S (M ++ p.take t))])) (fun s _ => match s with | .slice _ k _ => k | _ => 0)
  case atStart => exact ⟨0, A, cA, Nat.zero_le _, rfl, hcap, HR0.out, by rw [Nat.add_zero, Nat.sub_self, noteN_zero, List.take_zero, List.append_nil]; exact HF⟩
  case round =>
    clear HF HR0
    obtain ⟨t, A', c', ht, rfl, hc', HR, H⟩ := hrel
    by_cases hlt : t < n
    · obtain ⟨b, o, rfl, -, -⟩ := (HR.out wr _ _ H).flat (by omega) (by omega)
      obtain ⟨N, hN⟩ : ∃ N, M ++ p.take t = N := ⟨_, rfl⟩
      have hNl : N.length = M.length + t := by rw [← hN, List.length_append, List.length_take, HL.out]; omega
      rw [hN, ← hNl] at H
      obtain ⟨q, hq⟩ : ∃ q, min (64 - N.length % 64) (n - t) = q := ⟨_, rfl⟩
      obtain ⟨x, hx⟩ : ∃ x, (p.drop t).take q = x := ⟨_, rfl⟩
      have ha : N.length % 64 < 64 := Nat.mod_lt _ (by omega)
      have hxl : x.length = q := by rw [← hx, List.length_take, List.length_drop, HL.out]; omega
      have hq1 : 1 ≤ q := by omega
      have hq2 : q ≤ n - t := by omega
      have hq3 : N.length % 64 + q ≤ 64 := by omega
      have HN2 : Hid (M ++ p.take (t + q) = N ++ x) := by unfold Hid; rw [take_more, ← List.append_assoc, hN, hx]
      have HXX := Lib.hid hx
      have HXL := Lib.hid hxl
      have HNL := Lib.hid hNl
      have HQ := Lib.hid hq
      have hnb : N.length + n ≤ 600000000000000 := by omega
      clear hx hxl hNl hN hq
      have hn8 := shVs_n (n := N.length) (b := w2' N) (h2_length N)
      have c8 := H.cell 1 rfl hn8
      have hgo : ((n - t : Nat) : Int) > 0 := by omega
      have hrm : Int.tmod (N.length : Int) 64 = ((N.length % 64 : Nat) : Int) := by rw [Int.tmod_eq_emod_of_nonneg (by omega)]; omega
      obtain ⟨a, haa⟩ : ∃ a, N.length % 64 = a := ⟨_, rfl⟩
      rw [haa] at hrm hq3 ha
      have HA := Lib.hid haa
      have HRM := Lib.hid hrm
      clear haa hrm
      have ha64 : ¬ 64 = a := by omega
      have ha2 : (a : Int) ≤ 64 := by omega
      go_upto_region 1 with fail
      replace H := H.drew
      have HNE : Hid ((M.length + t) / 64 = N.length / 64) := by unfold Hid; rw [HNL.out]
      rw [← HNE.out] at H
      replace H : St w F _ (lay [led l (noteN r 1 64 ((M.length + t) / 64 - M.length / 64)), .blk g 77 (shVs (h2 N) N.length (w2' N))]) := H
      refine wp_region_held_drew (S := fun w' : World => ∃ Z, St w F w' (lay [led l (noteN r 1 64 ((M.length + t) / 64 - M.length / 64)), .blk g 77 (shVs (h2 N) N.length Z)])) (by kernel_rfl) ?_ (fun hHeld => ?_)
      · exact ⟨_, H⟩
      refine takeV 0 rfl (by intro w h; clear h; go_simp; try with_reducible rfl) (by kernel_rfl) (by kernel_rfl) (by kernel_rfl) (by exact fun _ _ _ h => h) (by rfl) (by assumption) ?_
      try simp only [Act.put, List.setIfInBounds_toArray, List.set_cons_zero, List.set_cons_succ]
      refine takeV 1 rfl (by intro w h; clear h; go_simp; try with_reducible rfl) (by kernel_rfl) (by kernel_rfl) (by kernel_rfl) (by exact fun _ _ _ h => h) (by rfl) (by assumption) ?_
      try simp only [Act.put, List.setIfInBounds_toArray, List.set_cons_zero, List.set_cons_succ]
      refine takeV 2 rfl (by intro w h; clear h; go_simp; try with_reducible rfl) (by kernel_rfl) (by kernel_rfl) (by kernel_rfl) (by exact fun _ _ _ h => h) (by rfl) (by assumption) ?_
      try simp only [Act.put, List.setIfInBounds_toArray, List.set_cons_zero, List.set_cons_succ]
      refine takeV 3 rfl (by intro w h; clear h; go_simp; try with_reducible rfl) (by kernel_rfl) (by kernel_rfl) (by kernel_rfl) (by exact fun _ _ _ h => h) (by rfl) (by assumption) ?_
      try simp only [Act.put, List.setIfInBounds_toArray, List.set_cons_zero, List.set_cons_succ]
      refine takeV 4 rfl (by intro w h; clear h; go_simp; try with_reducible rfl) (by kernel_rfl) (by kernel_rfl) (by kernel_rfl) (by exact fun _ _ _ h => h) (by rfl) (by assumption) ?_
      try simp only [Act.put, List.setIfInBounds_toArray, List.set_cons_zero, List.set_cons_succ]
      refine takeV 5 rfl (by intro w h; clear h; go_simp; try with_reducible rfl) (by kernel_rfl) (by kernel_rfl) (by kernel_rfl) (by exact fun _ _ _ h => h) (by rfl) (by assumption) ?_
      try simp only [Act.put, List.setIfInBounds_toArray, List.set_cons_zero, List.set_cons_succ]
      refine takeV 6 rfl (by intro w h; have hc := (h.elim fun Z h => h.cell 1 rfl (shVs_n (h2_length N))); clear h; go_simp; try with_reducible rfl) (by kernel_rfl) (by kernel_rfl) (by kernel_rfl) (by exact fun _ _ _ h => h) (by rfl) (by assumption) ?_
      try simp only [Act.put, List.setIfInBounds_toArray, List.set_cons_zero, List.set_cons_succ]
      refine takeV 7 rfl (by intro w h; clear h; go_simp; try with_reducible rfl) (by kernel_rfl) (by kernel_rfl) (by kernel_rfl) (by exact fun _ _ _ h => h) (by rfl) (by assumption) ?_
      try simp only [Act.put, List.setIfInBounds_toArray, List.set_cons_zero, List.set_cons_succ]
      rw [HRM.out]
      refine takeV 8 rfl (by intro w h; clear h; go_simp; try with_reducible rfl) (by kernel_rfl) (by kernel_rfl) (by kernel_rfl) (by exact fun _ _ _ h => h) (by rfl) (by assumption) ?_
      try simp only [Act.put, List.setIfInBounds_toArray, List.set_cons_zero, List.set_cons_succ]
      refine takeV 9 rfl (by intro w h; clear h; go_simp; try with_reducible rfl) (by kernel_rfl) (by kernel_rfl) (by kernel_rfl) (by exact fun _ _ _ h => h) (by rfl) (by assumption) ?_
      try simp only [Act.put, List.setIfInBounds_toArray, List.set_cons_zero, List.set_cons_succ]
      refine take_call 10 rfl (by kernel_rfl) (fun K hK => ?_)
      refine step_copy_st rfl (.tmp 18) (.tmp 19) _ _ rfl 5 Try.underlying22 u8_size' _ _ _ _ _ _ (by rfl) (by rfl) H 1 g (9 + a) _ _ (by rfl) (x.map vb) ?_ ?_ ?_ (vb_one _) ?_
      · rw [List.length_map, HXL.out, ← HQ.out, HA.out]; exact Nat.min_comm _ _
      · exact fun _ => ⟨rfl, ⟨b, o, none⟩, rfl, fun j v hv => (((HR.out _ _ _ H).2 (by omega)).elim fun ad h => by obtain ⟨e, -, h3⟩ := h; injection e with e; subst e; exact h3 j v (by rw [← HXX.out, List.map_take] at hv; exact below_take hv))⟩
      · rw [List.length_map, HXL.out, shVs_length (h2_length N) (w2_length N)]; omega
      intro w5 H5
      replace H5 := H5.upd_mk (by simp)
      have hs := shVs_setb (h := h2 N) (n := N.length) (b := w2' N) (h2_length N) (w2_length N) x a (by rw [HXL.out]; omega)
      rw [List.append_assoc] at hs
      replace H5 : St w F w5 (lay [led l (noteN r 1 64 ((M.length + t) / 64 - M.length / 64)), .blk g 77 ((shVs (h2 N) N.length (w2' N)).take (9 + a) ++ (x.map vb ++ (shVs (h2 N) N.length (w2' N)).drop (9 + a + (x.map vb).length)))]) := H5
      rw [hs] at H5
      clear hs
      refine hK.out _ _ ?_ (fun hHeld => ?_)
      · exact ⟨_, H5⟩
      clear hK K
      try simp only [Act.put, List.setIfInBounds_toArray, List.set_cons_zero, List.set_cons_succ]
      rw [show (x.map vb).length = q by rw [List.length_map, HXL.out]]
      refine takeV 11 rfl (by intro w h; clear h; go_simp; try with_reducible rfl) (by kernel_rfl) (by kernel_rfl) (by kernel_rfl) (by exact fun _ _ _ h => h) (by rfl) (by assumption) ?_
      try simp only [Act.put, List.setIfInBounds_toArray, List.set_cons_zero, List.set_cons_succ]
      refine wpAnyH_done (by kernel_rfl) ?_ _
      clear H c8
      have c8 := H5.cell 1 rfl (shVs_n (n := N.length) (b := putAt (w2' N) a x) (h2_length N))
      have f8 := H5.free 1 rfl 8
      clear hHeld
      have H6 := (H5.store 1 rfl (o := 8) (u := .int .i64 ((N.length + q : Nat) : Int))).upd_mk (by simp)
      replace H6 : St w F _ (lay [led l (noteN r 1 64 ((M.length + t) / 64 - M.length / 64)), .blk g 77 ((shVs (h2 N) N.length (putAt (w2' N) a x)).set 8 (.int .i64 ((N.length + q : Nat) : Int)))]) := H6
      rw [shVs_setn (h2_length N)] at H6
      rw [Int.natCast_add] at H6
      clear H5
      go_upto_region 3 with fail
      have c9 := H6.cell 1 rfl (shVs_n (n := N.length + q) (b := putAt (w2' N) a x) (h2_length N))
      rw [Int.natCast_add] at c9
      have hqc : (q : Int) ≤ c' := by omega
      have hqn : (q : Int) ≤ ((n - t : Nat) : Int) := by omega
      have HRR : Hid (∀ w' X Y, St w F w' (lay [X, Y]) → Rd w' 1 (if c' = q then some ⟨b, o, none⟩ else some ⟨b, o + q, none⟩) (n - t - q) (((p.drop t).drop q).map vb)) := fun w' X Y h => Rd.drop_if (HR.out w' X Y h) hq2 hc'
      go_upto_region 4 with fail
      generalize (if c' = q then some (⟨b, o, none⟩ : Addr) else some ⟨b, o + q, none⟩) = A2 at HRR ⊢
      by_cases hf : a + q = 64
      · have h0 : (((N.length : Int) + (q : Int)) % 64 == 0) = true := by
          have e : ((N.length : Int) + (q : Int)) % 64 = 0 := by have := HA.out; omega
          rw [e]; rfl
        have hfx : Hid (N.length % 64 + x.length = 64) := by unfold Hid; rw [HA.out, HXL.out]; exact hf
        have hS : Hid (sh2S (N ++ x) = shVs (comp2 (h2 N) (putAt (w2' N) a x)) (N.length + q) (List.replicate 64 0)) := by
          unfold Hid sh2S
          rw [h2_next hfx.out, w2_next hfx.out, List.length_append, HXL.out, HA.out]
        have hC : Hid ((M.length + t) / 64 - M.length / 64 + 1 = (M.length + (t + q)) / 64 - M.length / 64) := by
          have e := (div_next (B := 64) (n := N.length) (k := q) (by omega) (by rw [HA.out]; exact hf)).1
          rw [HNL.out] at e
          rw [show M.length + (t + q) = M.length + t + q by omega, e]
          have : M.length / 64 ≤ (M.length + t) / 64 := Nat.div_le_div_right (by omega)
          unfold Hid; omega
        have hcb : (M.length + t) / 64 - M.length / 64 ≤ 600000000000000 := by
          have h1 : (M.length + t) / 64 ≤ M.length + t := Nat.div_le_self _ _
          have := HNL.out
          omega
        have HF2 := Lib.hid hf
        clear hf c8 f8
        go_wp2_with fail
        refine (sh2Comp_s l _ (m + 1) (c + (((M.length + t) / 64 - M.length / 64 : Nat) : Int)) g (h2 N) (N.length + q) (putAt (w2' N) a x) H6 0 1 (by omega) rfl rfl (hg.noteN 1 64 _) (by omega) (by omega) (h2_length N) (by rw [put_length (by rw [w2_length, HXL.out]; omega), w2_length])).mono ?_
        rintro e w7 ⟨rfl, H7⟩
        rw [noteN_noteN, hC.out, ← hS.out, ← HN2.out, upd_laid2 (by simp), upd_laid2 (by simp)] at H7
        replace H7 : St w F w7 (lay [led l (noteN r 1 64 ((M.length + (t + q)) / 64 - M.length / 64)), .blk g 77 (sh2S (M ++ p.take (t + q)))]) := H7
        clear h0 H6
        go_wp2
        go_roundw
        case rel => exact ⟨t + q, _, c' - q, by omega, by rw [← Nat.sub_sub], by omega, fun w' X Y h => by rw [← Nat.sub_sub, ← List.drop_drop]; exact HRR.out w' X Y h, H7⟩
        case measure => show n - t - q < n - t; omega
      · have h0 : (((N.length : Int) + (q : Int)) % 64 == 0) = false := by
          have e : ((N.length : Int) + (q : Int)) % 64 = ((a + q : Nat) : Int) := by have := HA.out; omega
          rw [e]; simp; omega
        have hfx : Hid (N.length % 64 + x.length < 64) := by unfold Hid; rw [HA.out, HXL.out]; omega
        have hS : Hid (sh2S (N ++ x) = shVs (h2 N) (N.length + q) (putAt (w2' N) a x)) := by
          unfold Hid sh2S
          rw [h2_stay hfx.out, ← w2_stay hfx.out, List.length_append, HXL.out, HA.out]
        have hC : Hid ((M.length + t) / 64 - M.length / 64 = (M.length + (t + q)) / 64 - M.length / 64) := by
          have e := (div_stay (B := 64) (n := N.length) (k := q) (by rw [HA.out]; omega)).1
          rw [HNL.out] at e
          unfold Hid
          rw [show M.length + (t + q) = M.length + t + q by omega, e]
        rw [← hS.out, hC.out, ← HN2.out] at H6
        clear hf c8 f8
        go_wp2
        go_roundw
        case rel => exact ⟨t + q, _, c' - q, by omega, by rw [← Nat.sub_sub], by omega, fun w' X Y h => by rw [← Nat.sub_sub, ← List.drop_drop]; exact HRR.out w' X Y h, H6⟩
        case measure => show n - t - q < n - t; omega
    · obtain rfl : t = n := by omega
      have hgo : ¬ ((t - t : Nat) : Int) > 0 := by omega
      rw [show p.take t = p from List.take_of_length_le (by rw [HL.out]; exact Nat.le_refl _)] at H
      go_wp2
      go_end0
      exact ⟨rfl, HB.out _ _ _ (H.to2 rfl rfl)⟩
end
end Go.Proofs.Ytcnphkmcgefjoaa

namespace Go.Proofs.Ytcnphkmcgefjoaa
open Go.RowKit
set_option linter.unusedVariables false
set_option maxRecDepth 100000

attribute [local irreducible] comp2 hTo

def shZ : List Value := List.replicate 8 (.int .u32 0) ++ (.int .i64 0 :: (List.replicate 64 (.int .u8 0) ++ [.bool false]))

theorem zero_sh (w : World) : (zeroValue 77).run Try.prog w = .ok (.agg shZ.toArray) w := by kernel_rfl

theorem sh_size : (Try.prog.info? 77).map (·.size) = some 74 := by kernel_rfl

theorem sh2S_nil : sh2S [] = shVs hBeg2 0 (List.replicate 64 0) := by
  unfold sh2S h2 w2'
  rw [hAll_nil, wait_nil]
  rfl

section
variable {w0 w : World} {F0 : List Nat} {E : Env}

set_option maxHeartbeats 1000000 in
theorem sh2New_s (H : St w0 F0 w E) (k : Nat) (hk : E k = none) :
    Calls Try.prog 21 #[] w fun e w' => ∃ g, e = .returned (lptr g) ∧ St w0 F0 w' (upd E k (.blk g 77 (sh2S []))) := by
  go_enter Try.func21, Try.ntmps21
  go_wp2
  go_ret
  have key : ∀ cs : Array Value, cs.toList = sh2S [] → St w0 F0 (w.alloc (.cells cs 77)) (upd E k (.blk w.heap.size 77 (sh2S []))) := fun cs h => by rw [← h]; exact H.alloc k hk cs 77
  exact ⟨w.heap.size, rfl, key _ (by rw [sh2S_nil]; kernel_rfl)⟩

theorem sh2Write_s (l : Value) (r : Option (List RunT)) (m : Nat) (c : Int) (g : Nat) (M : List UInt8) (A : Option Addr) (n cA : Nat) (p : List UInt8) (H : St w0 F0 w E) (i j : Nat) (hij : i ≠ j) (hi : E i = some (led l r)) (hj : E j = some (.blk g 77 (sh2S M))) (hg : LW r m c) (hm : m ≤ 999999999) (hc : c ≤ 400000000000000000)
    (hR : ∀ w' X Y, St w0 F0 w' (upd (upd E i X) j Y) → Rd w' 1 A n (p.map vb)) (hcap : n ≤ cA) (hn : M.length + n ≤ 281474976710656) :
    Calls Try.prog 23 #[lptr g, l, .slice A n cA] w fun e w' => e = .returned (.int .i64 0) ∧ St w0 F0 w' (upd (upd E i (led l (noteN r 1 64 ((M.length + n) / 64 - M.length / 64)))) j (.blk g 77 (sh2S (M ++ p)))) := by
  have c0 := H.cell j hj (shVs_made (h2_length M) (w2_length M))
  have hput := sh2Put_s l r m c g M A n cA p H i j hij hi hj hg hm hc hR hcap hn
  have HP := Lib.hid hput
  clear hput hi hj hij hR H hg
  go_enter Try.func23, Try.ntmps23
  go_wp2_with fail
  refine (sh2None_no g w c0).mono ?_
  rintro e w1 ⟨rfl, rfl⟩
  unfold lptr
  go_wp2_with fail
  refine HP.out.mono ?_
  rintro e w1 ⟨rfl, H1⟩
  go_wp2
  go_ret
  exact ⟨rfl, H1⟩

theorem sh2S_one (M : List UInt8) : ∀ u ∈ sh2S M, u.oneCell' = true := shVs_one
theorem sh2S_length (M : List UInt8) : (sh2S M).length = 74 := shVs_length (h2_length M) (w2_length M)
theorem shZ_one : ∀ u ∈ shZ, u.oneCell' = true := by decide
theorem there_new' (w : World) (cs : Array Value) (T : TypeId) (n : Nat) (h : n = cs.size) : (w.alloc (.cells cs T)).there w.heap.size 0 n := fun j hj => by
  rw [Nat.zero_add, World.cell?_alloc_at _ _ _ _ rfl, World.frozen?_alloc_at _ _ _ _ rfl]
  exact ⟨by rw [Array.getElem?_eq_getElem (by omega)]; rfl, rfl⟩

set_option maxHeartbeats 1000000 in
theorem sh2Wipe_s (l : Value) (r : Option (List RunT)) (m : Nat) (b : Int) (g : Nat) (M : List UInt8) (H : St w0 F0 w E) (i j : Nat) (hij : i ≠ j) (hi : E i = some (led l r)) (hj : E j = some (.blk g 77 (sh2S M))) (hg : LW r m b) (hm : m ≤ 999999999999) (hb : b ≤ 4000000000000000000) :
    Calls Try.prog 34 #[lptr g, l] w fun e w' => e = .returned (.int .i64 0) ∧ St w0 F0 w' (upd (upd E i (led l (noteN r 8 104 1))) j (.blk g 77 shZ)) := by
  have c0 := H.cell j hj (shVs_made (h2_length M) (w2_length M))
  have hz0 := zero_sh
  have HI := Lib.hid hi
  have HJ := Lib.hid hj
  have HG := Lib.hid hg
  have HIJ := Lib.hid hij
  clear hi hj hg hij
  go_enter Try.func34, Try.ntmps34
  go_wp2_with fail
  refine (sh2None_no g w c0).mono ?_
  rintro e w1 ⟨rfl, rfl⟩
  unfold lptr
  go_wp2_with fail
  refine (ledger_note_w m b 8 104 H i HI.out HG.out (by omega) (by omega)).mono ?_
  rintro e w3 ⟨rfl, H3⟩
  have HJ2 : Hid (upd E i (led l (noteN r 8 104 1)) j = some (.blk g 77 (sh2S M))) := by unfold Hid; rw [show upd E i (led l (noteN r 8 104 1)) j = E j from if_neg (Ne.symm HIJ.out)]; exact HJ.out
  clear H
  go_wp2_with (with_reducible refine hold_store 77 (.tmp 12) (.tmp 11) (by rfl) ?_)
  refine Lib.hid ?_
  refine wpList_store_mid rfl 77 (.tmp 12) (.tmp 11) rfl g 0 shZ.toArray rfl rfl (by have h := H3.there j HJ2.out; rw [sh2S_length] at h; exact h) (by rw [sh_size]; rfl) (all_oneCell_toArray shZ_one) ?_
  have H4 := H3.storeAll j HJ2.out (vs := shZ) (by rw [sh2S_length]; rfl)
  show wpList Try.prog _ _ [] _ (w3.setCells g 0 shZ)
  go_wp2
  go_ret
  exact ⟨rfl, H4⟩

end
end Go.Proofs.Ytcnphkmcgefjoaa

namespace Go.Proofs.Ytcnphkmcgefjoaa
open Go.RowKit
set_option maxRecDepth 100000
set_option linter.unusedVariables false

theorem made_bytes {w : World} {base g n : Nat} (h : w.ownsRow base 5 1 (.slice (some ⟨g, 0, none⟩) n n) n (madeCells (Value.int .u8 0).cells (n * 1)).toList) : OwnB w base (.slice (some ⟨g, 0, none⟩) n n) (List.replicate n 0) := by
  unfold OwnB
  rw [List.length_replicate, List.map_replicate]
  rw [show (Value.int .u8 0).cells = #[.int .u8 0] from rfl, toList_madeCells_one, Nat.mul_one] at h
  exact h

set_option maxHeartbeats 400000 in
theorem lay_u32 (x : Nat) (w : World) (hx : x < 2 ^ 32) :
    Calls Try.prog 61 #[.int .u32 (x : Int)] w fun e w' => ∃ v, e = .returned v ∧ OwnB w' w.heap.size v (beL 4 x) ∧ Below w.heap.size w w' := by
  obtain ⟨i0, hi0, hz0, hz1, hz2⟩ := info_parts u8_info
  have HX := Lib.hid hx
  clear hx
  go_enter Try.func61, Try.ntmps61
  go_wp2_with (first | (go_at_call 73; refine (width_u32 _).mono ?_; rintro e w1 ⟨rfl, rfl⟩) | (at_make; refine wpList_make_full _ rfl (.tmp 8) (.tmp 8) 22 rfl w.heap.size 5 i0 (.int .u8 0) 1 Try.underlying22 hi0 hz0 hz1 .i64 .i64 _ _ 4 rfl rfl (by omega) (by omega) (by rw [hz2]; omega) (by simp only [maxLen]; omega) (Nat.le_refl _) ?_; intro w1 ho1 hg1))
  have ho1' := made_bytes ho1
  have hb1 : Below w.heap.size w w1 := (Below.refl _ _).grown hg1 (Nat.le_refl _) (fun _ h => by cases h)
  go_loopw [12] (fun i wr => ∃ k : Nat, k ≤ 4 ∧ i = .int .i64 k ∧ OwnB wr w.heap.size (.slice (some ⟨w.heap.size, 0, none⟩) 4 4) ((beL 4 x).take k ++ List.replicate (4 - k) 0) ∧ Below w.heap.size w wr) (fun i _ => 4 - (intOf i).toNat)
  case atStart => exact ⟨0, Nat.zero_le _, rfl, by simpa using ho1', hb1⟩
  case round =>
    clear ho1 hg1 hb1 ho1'
    obtain ⟨k, hk, rfl, ho, hbw⟩ := hrel
    by_cases hlt : k < 4
    · have hxy := beL_get (x := x) hlt
      rw [show 4 - 1 - k = 3 - k by omega] at hxy
      have hst := ho.stored k (UInt8.ofNat (x / 256 ^ (3 - k)))
      rw [zeros_step hlt hxy, ← byte_eq] at hst
      obtain ⟨z, -, hcz⟩ := ho.cellAt (k := k) (by simp only [List.length_append, List.length_take, beL_length, List.length_replicate]; omega)
      have hfz := ho.frozenAt k
      clear hxy
      go_wp2
      go_roundw
      case rel => exact ⟨k + 1, by omega, by go_num, hst.1, hbw.setCell (Nat.le_refl _) _⟩
      case measure => simp [intOf]; omega
    · have hkr : k = 4 := by omega
      subst hkr
      rw [Nat.sub_self, List.replicate_zero, List.append_nil, List.take_of_length_le (by rw [beL_length]; omega)] at ho
      go_wp2
      go_ret
      exact ⟨_, rfl, ho, hbw⟩

set_option maxHeartbeats 400000 in
theorem lay_u64 (x : Nat) (w : World) (hx : x < 2 ^ 64) :
    Calls Try.prog 46 #[.int .u64 (x : Int)] w fun e w' => ∃ v, e = .returned v ∧ OwnB w' w.heap.size v (beL 8 x) ∧ Below w.heap.size w w' := by
  obtain ⟨i0, hi0, hz0, hz1, hz2⟩ := info_parts u8_info
  have HX := Lib.hid hx
  clear hx
  go_enter Try.func46, Try.ntmps46
  go_wp2_with (first | (go_at_call 62; refine (width_u64 _).mono ?_; rintro e w1 ⟨rfl, rfl⟩) | (at_make; refine wpList_make_full _ rfl (.tmp 8) (.tmp 8) 22 rfl w.heap.size 5 i0 (.int .u8 0) 1 Try.underlying22 hi0 hz0 hz1 .i64 .i64 _ _ 8 rfl rfl (by omega) (by omega) (by rw [hz2]; omega) (by simp only [maxLen]; omega) (Nat.le_refl _) ?_; intro w1 ho1 hg1))
  have ho1' := made_bytes ho1
  have hb1 : Below w.heap.size w w1 := (Below.refl _ _).grown hg1 (Nat.le_refl _) (fun _ h => by cases h)
  go_loopw [12] (fun i wr => ∃ k : Nat, k ≤ 8 ∧ i = .int .i64 k ∧ OwnB wr w.heap.size (.slice (some ⟨w.heap.size, 0, none⟩) 8 8) ((beL 8 x).take k ++ List.replicate (8 - k) 0) ∧ Below w.heap.size w wr) (fun i _ => 8 - (intOf i).toNat)
  case atStart => exact ⟨0, Nat.zero_le _, rfl, by simpa using ho1', hb1⟩
  case round =>
    clear ho1 hg1 hb1 ho1'
    obtain ⟨k, hk, rfl, ho, hbw⟩ := hrel
    by_cases hlt : k < 8
    · have hxy := beL_get (x := x) hlt
      rw [show 8 - 1 - k = 7 - k by omega] at hxy
      have hst := ho.stored k (UInt8.ofNat (x / 256 ^ (7 - k)))
      rw [zeros_step hlt hxy, ← byte_eq] at hst
      obtain ⟨z, -, hcz⟩ := ho.cellAt (k := k) (by simp only [List.length_append, List.length_take, beL_length, List.length_replicate]; omega)
      have hfz := ho.frozenAt k
      clear hxy
      go_wp2
      go_roundw
      case rel => exact ⟨k + 1, by omega, by go_num, hst.1, hbw.setCell (Nat.le_refl _) _⟩
      case measure => simp [intOf]; omega
    · have hkr : k = 8 := by omega
      subst hkr
      rw [Nat.sub_self, List.replicate_zero, List.append_nil, List.take_of_length_le (by rw [beL_length]; omega)] at ho
      go_wp2
      go_ret
      exact ⟨_, rfl, ho, hbw⟩

end Go.Proofs.Ytcnphkmcgefjoaa

namespace Go.Proofs.Ytcnphkmcgefjoaa
open Go.RowKit
set_option linter.unusedVariables false
set_option maxRecDepth 100000

attribute [local irreducible] comp2 hTo

def laid4 (l : List UInt32) (k : Nat) : List UInt8 := ((l.take k).map fun x => beL 4 x.toNat).flatten

theorem laid4_succ {l : List UInt32} {k : Nat} (hk : k < l.length) : laid4 l (k + 1) = laid4 l k ++ beL 4 (at32 l k).toNat := by
  unfold laid4
  rw [List.take_add_one, at32_some hk]
  simp

theorem laid4_length {l : List UInt32} {k : Nat} (hk : k ≤ l.length) : (laid4 l k).length = 4 * k := by
  induction k with
  | zero => rfl
  | succ k ih => rw [laid4_succ (by omega), List.length_append, ih (by omega), beL_length]; omega

theorem h8_ix (h : List UInt32) (hh : h.length = 8) (k : Nat) (hk : k < 8) (w : World) : (Instr.index 40 (.agg (h.map u32v).toArray) (.int .i64 (k : Int))).run Try.prog w = .ok (.int .u32 ((at32 h k).toNat : Int)) w :=
  run_index_agg (P := Try.prog) 40 39 8 (h.map u32v).toArray k _ Try.underlying40 h8_size u32_notAgg hk (by have := u32_get (l := h) (k := k) (by omega); simpa using this) w

theorem St.newRow' {w w' : World} {E : Env} {e : TypeId} {size n : Nat} {v : Value} {xs : List Value} (H : St w [] w' E) (k : Nat) (hk : E k = some (.row e size v n xs)) : w'.ownsRow w.heap.size e size v n xs := by
  obtain ⟨F, ⟨h, eF⟩, hF, -⟩ := H.change k hk
  exact ownsRow_base h fun g hg => by have := hF g (by rw [eF]; exact hg); simpa using this

theorem h8size : (Try.prog.info? 40).map (·.size) = some 8 := by kernel_rfl

section
variable {w0 w : World} {F0 : List Nat} {E : Env}

theorem sh_front {g : Nat} {T : TypeId} {h : List UInt32} {n : Nat} {b : List UInt8} (H : St w0 F0 w E) (j : Nat) (hj : E j = some (.blk g T (shVs h n b))) : w.rangeAt g 0 (h.map u32v) := fun k v hv => by
  rw [Nat.zero_add]
  refine H.cell j hj ?_
  unfold shVs
  rw [List.getElem?_append_left (List.getElem?_eq_some_iff.1 hv).1]
  exact hv

set_option maxHeartbeats 2000000 in
theorem sh2Words_s (g : Nat) (h : List UInt32) (n : Nat) (b : List UInt8) (H : St w0 F0 w E) (j : Nat) (hj : E j = some (.blk g 77 (shVs h n b))) (hh : h.length = 8) :
    Calls Try.prog 45 #[lptr g] w fun e w' => ∃ v, e = .returned v ∧ OwnB w' w.heap.size v (laid4 h 8) ∧ Below w.heap.size w w' := by
  obtain ⟨i0, hi0, hz0, hz1, hz2⟩ := info_parts u8_info
  have HI := Lib.hid (⟨hi0, hz0, hz1, hz2⟩ : _ ∧ _ ∧ _ ∧ _)
  clear hi0 hz0 hz1 hz2
  have hr := sh_front H j hj
  have HH := Lib.hid hh
  clear H hj hh
  have H := (St.start_lay w []).nilRow 0 rfl 5 1 |>.push_mk rfl
  unfold lptr
  go_enter Try.func45, Try.ntmps45
  go_wp2_with (refine wpList_load_mid rfl 40 (.tmp 8) rfl g 0 rfl (h.map u32v) _ hr Try.underlying40 rfl (by rw [h8size, List.length_map, HH.out]) ?_)
  go_loopw [3, 10] (fun v i wr => ∃ k : Nat, k ≤ 8 ∧ i = .int .i64 k ∧ St w [] wr (lay [.row 5 1 v (4 * k) ((laid4 h k).map vb)])) (fun _ i _ => 8 - (intOf i).toNat)
  case atStart => exact ⟨0, by omega, rfl, H⟩
  case round =>
    clear H hr
    obtain ⟨k, hk, rfl, H⟩ := hrel
    obtain ⟨AV, cV, rfl, -, -⟩ := row_form (H.row 0 rfl)
    by_cases hlt : k < 8
    · have hk1 : (k : Int) < 8 := by omega
      have hi := h8_ix h HH.out k hlt
      have HS := Lib.hid (laid4_succ (l := h) (k := k) (by rw [HH.out]; exact hlt))
      generalize at32 h k = x at hi HS
      go_wp2_with fail
      refine (lay_u32 x.toNat wr x.toNat_lt).mono ?_
      rintro e w2 ⟨v2, rfl, ho, hb⟩
      replace H := (H.pushRow 1 rfl hb ho).push_mk rfl
      clear ho hb
      rw [beL_length] at H
      obtain ⟨A2, c2, rfl, -, -⟩ := row_form (H.row 1 rfl)
      go_wp2_with (at_builtin; refine hold_here' ?_)
      refine Lib.hid ?_
      obtain ⟨hi0, hz0, hz1, hz2⟩ := HI.out
      refine wpList_append_any _ rfl (.tmp 13) (.tmp 15) _ rfl 0 5 i0 _ 1 1 Try.underlying22 hi0 hz0 hz1 hz2 rfl (by omega) (.slice AV (4 * k) cV) (4 * k) ((laid4 h k).map vb) rfl (H.row 0 rfl) A2 4 c2 ((beL 4 x.toNat).map vb) rfl (H.rd 1 rfl) (vb_one _) (by simp only [maxLen]; omega) (by omega) (by omega) ?_
      intro v6 w6 hown6 hg6 hat6
      replace H := ((H.grow 0 rfl hown6 hg6 hat6).upd_mk (by simp)).front 1
      clear hown6 hg6 hat6 hi0 hz0 hz1 hz2
      have H7 : St w [] w6 (lay [.row 5 1 v6 (4 * (k + 1)) ((laid4 h (k + 1)).map vb)]) := by rw [HS.out, List.map_append]; exact H
      clear H
      go_wp2
      go_roundw
      case rel => exact ⟨k + 1, by omega, by go_num, H7⟩
      case measure => simp [intOf]; omega
    · obtain rfl : k = 8 := by omega
      go_wp2
      go_ret
      exact ⟨_, rfl, (by unfold OwnB; rw [laid4_length (by rw [HH.out]; omega)]; exact H.newRow' 0 rfl), H.below⟩
end
end Go.Proofs.Ytcnphkmcgefjoaa

namespace Go.Proofs.Ytcnphkmcgefjoaa
open Go.RowKit
set_option linter.unusedVariables false
set_option maxRecDepth 100000

theorem St.two_more2 {w0 w w' : World} {F0 F : List Nat} {E : Env} {A B R A0 B0 : Own} {i j k : Nat} (hij : i ≠ j) (hi : E i = some A0) (hj : E j = some B0) (hk : E k = none)
    (hback : ∀ (w' : World) (A' B' : Own), St w F w' (two A' B') → St w0 F0 w' (upd (upd E i A') j B')) (H : St w F w' (lay [A, B, R])) : St w0 F0 w' (upd (upd (upd E i A) j B) k R) := by
  have hki : k ≠ i := fun e => by rw [e, hi] at hk; cases hk
  have hkj : k ≠ j := fun e => by rw [e, hj] at hk; cases hk
  have H1 := H.join 0 2 (by omega) rfl rfl
  have H2 : St w F w' (two (.sep A R) B) := H1.sub fun n C hC => by
    simp only [two, upd, Env.nil] at hC
    by_cases h1 : n = 1
    · subst h1; rw [if_pos rfl] at hC; rw [← hC]; rfl
    · rw [if_neg h1] at hC
      by_cases h0 : n = 0
      · subst h0; rw [if_pos rfl] at hC; rw [← hC]; rfl
      · rw [if_neg h0] at hC; cases hC
  have H3 := hback _ _ _ H2
  have H4 := H3.part (A := A) (B := R) i k (Ne.symm hki) (by simp [upd, hij]) (by simp [upd, hki, hkj, hk])
  refine H4.env fun n => ?_
  simp only [upd]
  by_cases h1 : n = k
  · simp [h1]
  · by_cases h2 : n = j
    · subst h2; simp [h1, Ne.symm hij]
    · by_cases h3 : n = i <;> simp [h1, h2, h3, hij]

theorem made0' {w : World} {base g n : Nat} (h : w.ownsRow base 5 1 (.slice (some ⟨g, 0, none⟩) n n) n (madeCells (Value.int .u8 0).cells (n * 1)).toList) : w.ownsRow base 5 1 (.slice (some ⟨g, 0, none⟩) n n) n ((List.replicate n (0 : UInt8)).map vb) := by
  rw [show (Value.int .u8 0).cells = #[.int .u8 0] from rfl, toList_madeCells_one, Nat.mul_one] at h
  rw [List.map_replicate]
  exact h

section
variable {w0 w w' : World} {F0 : List Nat} {E : Env}

theorem St.rowFull2 {g n : Nat} {e : TypeId} {xs : List Value} (H : St w0 F0 w E) (k : Nat) (hk : E k = some (.row e 1 (.slice (some ⟨g, 0, none⟩) n n) n xs)) : St w0 F0 w (upd E k (.blk g e xs)) := by
  obtain ⟨F, ⟨h, hF⟩, -, -, hc⟩ := H.change k hk
  refine hc w _ [g] ⟨?_, rfl⟩ (Low.refl _ _) (by intro g' hg'; left; rw [hF]; simpa [Value.ownBlock] using hg')
  rcases h.2 with ⟨hv, -⟩ | ⟨g', cap, cur, hv, -, hg, hn, -, hs, hx⟩
  · cases hv
  · injection hv with h1 h2 h3
    injection h1 with h1
    injection h1 with h1
    subst h1 h3
    rw [hg]
    have : cur.toList = xs := by rw [← hx, List.take_of_length_le (by simp; omega)]
    rw [← this]

theorem St.blkRow2 {g n : Nat} {e : TypeId} {xs : List Value} (H : St w0 F0 w E) (k : Nat) (hk : E k = some (.blk g e xs)) (hx : xs.length = n) (hn : n ≤ maxLen) : St w0 F0 w (upd E k (.row e 1 (.slice (some ⟨g, 0, none⟩) n n) n xs)) := by
  obtain ⟨F, ⟨h, hF⟩, -, -, hc⟩ := H.change k hk
  subst hF
  subst hx
  refine hc w _ [g] ⟨⟨(Nat.mul_one _).symm, .inr ⟨g, xs.length, xs.toArray, rfl, Nat.zero_le _, h, Nat.le_refl _, hn, by rw [Nat.mul_one]; exact List.size_toArray, by rw [Nat.mul_one]; exact List.take_length⟩⟩, by simp [Value.ownBlock]⟩ (Low.refl _ _) (by simp)

end

theorem St.permS {w0 w : World} {F0 : List Nat} {L L' : List Own} (H : St w0 F0 w (lay L)) (p : List Nat) (n : Nat) (hn : L'.length = n) (hp : ∀ i, i < n → ∀ j, j < n → p.getD i 0 = p.getD j 0 → i = j) (h : ∀ i, i < n → L[p.getD i 0]? = L'[i]?) : St w0 F0 w (lay L') := by
  obtain ⟨lo, Fs, h1, h2⟩ := H
  have hl : ∀ i A, lay L' i = some A → i < n ∧ lay L (p.getD i 0) = some A := by
    intro i A hA
    have hi : i < n := by rw [← hn]; exact (List.getElem?_eq_some_iff.1 hA).1
    exact ⟨hi, (h i hi).trans hA⟩
  exact ⟨lo, fun k => Fs (p.getD k 0), fun i A hA => h1 _ A (hl i A hA).2, fun i j A B hij hA hB => h2 _ _ A B (fun e => hij (hp i (hl i A hA).1 j (hl j B hB).1 e)) (hl i A hA).2 (hl j B hB).2⟩

attribute [local irreducible] comp2 hTo

def padZ (n : Nat) : Nat := (119 - n % 64) % 64
def padM (n : Nat) : List UInt8 := (128 :: List.replicate (padZ n) 0) ++ beL 8 (8 * n)
theorem padM_length (n : Nat) : (padM n).length = 9 + padZ n := by
  unfold padM
  rw [List.length_append, List.length_cons, List.length_replicate, beL_length]; omega
def dig2 (M : List UInt8) : List UInt8 := laid4 (h2 (M ++ padM M.length)) 8
theorem dig2_length (M : List UInt8) : (dig2 M).length = 32 := laid4_length (by rw [h2_length]; omega)
def lastN (n : Nat) : Nat := (n + (9 + padZ n)) / 64 - n / 64
theorem lastN_le (n : Nat) : lastN n ≤ 2 := by
  unfold lastN padZ
  omega

section
variable {w0 w : World} {F0 : List Nat} {E : Env}

set_option maxHeartbeats 8000000 in
theorem sh2Sum_s (l : Value) (r : Option (List RunT)) (m : Nat) (c : Int) (g : Nat) (M : List UInt8) (H : St w0 F0 w E) (i j k0 : Nat) (hij : i ≠ j) (hi : E i = some (led l r)) (hj : E j = some (.blk g 77 (sh2S M))) (hk : E k0 = none) (hg : LW r m c) (hm : m ≤ 999999999) (hc : c ≤ 400000000000000000) (hn : M.length ≤ 281474976710000) :
    Calls Try.prog 25 #[lptr g, l] w fun e w' => ∃ v, e = .returned (.tuple #[v, .int .i64 0]) ∧ St w0 F0 w' (upd (upd (upd E i (led l (noteN r 1 64 (lastN M.length)))) j (.blk g 77 (sh2S M))) k0 (.row 5 1 v 32 ((dig2 M).map vb))) := by
  obtain ⟨i0, hi0, hz0, hz1, hz2⟩ := info_parts u8_info
  have HI0 := Lib.hid (⟨hi0, hz0, hz1, hz2⟩ : _ ∧ _ ∧ _ ∧ _)
  clear hi0 hz0 hz1 hz2
  obtain ⟨F, HF, -, -, hback⟩ := H.frame2 i j hij hi hj
  have HB := Lib.hid hback
  have HKK := Lib.hid hk
  have HIJ := Lib.hid hij
  have HI := Lib.hid hi
  have HJ := Lib.hid hj
  have HG := Lib.hid hg
  replace HF := HF.as2
  clear H hback hi hj hk hij hg
  have hzz := zero_sh
  have c0 := HF.cell 1 rfl (shVs_made (h2_length M) (w2_length M))
  have c8 := HF.cell 1 rfl (shVs_n (n := M.length) (b := w2' M) (h2_length M))
  go_enter Try.func25, Try.ntmps25
  go_wp2_with fail
  refine (sh2None_no g w c0).mono ?_
  rintro e w1 ⟨rfl, rfl⟩
  unfold lptr
  go_wp2_with (first | (with_reducible refine hold_store 77 (.tmp 6) (.tmp 13) (by rfl) ?_) | (refine wpList_load_row rfl 77 (.tmp 12) rfl g rfl _ _ _ _ (HF.blk 1 rfl) Try.underlying77 rfl (by rw [sh_size]; simp [sh2S_length]) ?_))
  refine Lib.hid ?_
  refine absorb_list (HF.allocAt 2 rfl w.heap.size rfl shZ.toArray 77 |>.push_mk rfl) ?_
  clear HF c0 c8
  intro w3 H
  generalize w.heap.size = gt at H ⊢
  refine wpList_store_mid rfl 77 (.tmp 6) (.tmp 13) rfl gt 0 (sh2S M).toArray rfl rfl (by have ht := H.there 2 rfl; rw [List.size_toArray, sh2S_length]; exact ht) (by rw [sh_size, List.size_toArray, sh2S_length]) (all_oneCell_toArray (sh2S_one M)) ?_
  replace H := (H.storeAll 2 rfl (vs := sh2S M) (by rw [sh2S_length]; rfl)).upd_mk (by simp)
  replace H : St w F (w3.setCells gt 0 (sh2S M)) (lay [led l r, .blk g 77 (sh2S M), .blk gt 77 (sh2S M)]) := H
  show wpList Try.prog _ _ [] _ (w3.setCells gt 0 (sh2S M))
  generalize w3.setCells gt 0 (sh2S M) = w4 at H ⊢
  have c8 := H.cell 1 rfl (shVs_n (n := M.length) (b := w2' M) (h2_length M))
  go_wp2_with fail
  rw [show (8 * (M.length : Int)) = ((8 * M.length : Nat) : Int) by omega]
  refine (lay_u64 (8 * M.length) w4 (by omega)).mono ?_
  rintro e w5 ⟨v3, rfl, ho, hb⟩
  replace H := (H.pushRow 3 rfl hb ho).push_mk rfl
  rw [beL_length] at H
  clear ho hb c8
  obtain ⟨A3, c3, rfl, -, -⟩ := row_form (H.row 3 rfl)
  have c8 := H.cell 1 rfl (shVs_n (n := M.length) (b := w2' M) (h2_length M))
  go_wp2_with (at_make; refine hold_here' ?_)
  refine Lib.hid ?_
  obtain ⟨hi0, hz0, hz1, hz2⟩ := HI0.out
  obtain ⟨Z, hZ⟩ : ∃ Z, padZ M.length = Z := ⟨_, rfl⟩
  have hZb : Z ≤ 63 := by rw [← hZ]; unfold padZ; omega
  rw [show (1 + (119 - (M.length : Int)) % 64) = ((1 + Z : Nat) : Int) by rw [← hZ]; unfold padZ; omega]
  have HZ := Lib.hid hZ
  clear hZ
  refine wpList_make_full _ rfl (.tmp 28) (.tmp 28) 22 rfl w5.heap.size 5 i0 (.int .u8 0) 1 Try.underlying22 hi0 hz0 hz1 .i64 .i64 _ _ (1 + Z) rfl rfl rfl rfl (by rw [hz2]; omega) (by simp only [maxLen]; omega) (Nat.le_refl _) ?_
  intro w6 ho6 hg6
  have hb6 : Below w5.heap.size w5 w6 := (Below.refl _ _).grown hg6 (Nat.le_refl _) (fun _ h => by cases h)
  replace H := (((H.pushRow 4 rfl hb6 (made0' ho6)).push_mk rfl).rowFull2 4 rfl).upd_mk (by simp)
  clear ho6 hg6 hb6 c8
  generalize w5.heap.size = gp at H ⊢
  replace H : St w F w6 (lay [led l r, .blk g 77 (sh2S M), .blk gt 77 (sh2S M), .row 5 1 (.slice A3 8 c3) 8 ((beL 8 (8 * M.length)).map vb), .blk gp 5 ((List.replicate (1 + Z) (0 : UInt8)).map vb)]) := H
  clear hi0 hz0 hz1 hz2
  have z0 := H.cell 4 rfl (o := 0) (u := .int .u8 0) (by rw [List.getElem?_map, List.getElem?_replicate, if_pos (by omega)]; rfl)
  have f0 := H.free 4 rfl 0
  have hz1 : (0 : Int) < 1 + (Z : Int) := by omega
  have hz2 : 0 < 1 + Z := by omega
  have H2 := (H.store 4 rfl (o := 0) (u := .int .u8 128)).upd_mk (by simp)
  have hset : ((List.replicate (1 + Z) (0 : UInt8)).map vb).set 0 (.int .u8 128) = ((128 :: List.replicate Z 0 : List UInt8)).map vb := by
    rw [Nat.add_comm, List.replicate_succ, List.map_cons, List.set_cons_zero]; rfl
  replace H2 : St w F (w6.setCell ⟨gp, 0, none⟩ (.int .u8 128)) (lay [led l r, .blk g 77 (sh2S M), .blk gt 77 (sh2S M), .row 5 1 (.slice A3 8 c3) 8 ((beL 8 (8 * M.length)).map vb), .blk gp 5 (((List.replicate (1 + Z) (0 : UInt8)).map vb).set 0 (.int .u8 128))]) := H2
  rw [hset] at H2
  replace H2 := (H2.blkRow2 4 rfl (n := 1 + Z) (by rw [List.length_map, List.length_cons, List.length_replicate, Nat.add_comm]) (by simp only [maxLen]; omega)).upd_mk (by simp)
  clear H hset
  go_wp2_with (at_builtin; refine hold_here' ?_)
  refine Lib.hid ?_
  obtain ⟨hi0, hz0, hz1', hz2'⟩ := HI0.out
  refine wpList_append_any _ rfl (.tmp 33) (.tmp 34) _ rfl 0 5 i0 _ 1 1 Try.underlying22 hi0 hz0 hz1' hz2' rfl (by omega) (.slice (some ⟨gp, 0, none⟩) (1 + Z) (1 + Z)) (1 + Z) (((128 :: List.replicate Z 0 : List UInt8)).map vb) rfl (H2.row 4 rfl) A3 8 c3 ((beL 8 (8 * M.length)).map vb) rfl (H2.rd 3 rfl) (vb_one _) (by simp only [maxLen]; omega) (by omega) (by omega) ?_
  intro v7 w7 hown6 hg6 hat6
  have H := (H2.grow 4 rfl hown6 hg6 hat6).upd_mk (by simp)
  clear hown6 hg6 hat6 hi0 hz0 hz1' hz2' H2 z0 f0
  have hpm : (128 :: List.replicate Z 0 : List UInt8) ++ beL 8 (8 * M.length) = padM M.length := by unfold padM; rw [HZ.out]
  rw [← List.map_append, hpm] at H
  obtain ⟨A4, c4, rfl, hc4, -⟩ := row_form (H.row 4 rfl)
  replace H : St w F w7 (lay [led l r, .blk g 77 (sh2S M), .blk gt 77 (sh2S M), .row 5 1 (.slice A3 8 c3) 8 ((beL 8 (8 * M.length)).map vb), .row 5 1 (.slice A4 (1 + Z + 8) c4) (1 + Z + 8) ((padM M.length).map vb)]) := H
  have hln : lastN M.length = (M.length + (1 + Z + 8)) / 64 - M.length / 64 := by unfold lastN; rw [HZ.out, show 9 + Z = 1 + Z + 8 by omega]
  have HLN := Lib.hid hln
  clear hpm hln
  go_wp2_with fail
  refine (sh2Put_s l r m c gt M A4 (1 + Z + 8) c4 (padM M.length) H 0 2 (by omega) rfl rfl HG.out hm hc (fun w' X Y h => h.rd 4 rfl) hc4 (by omega)).mono ?_
  rintro e w8 ⟨rfl, H8⟩
  rw [← HLN.out, upd_laid2 (by simp), upd_laid2 (by simp)] at H8
  clear H
  replace H8 : St w F w8 (lay [led l (noteN r 1 64 (lastN M.length)), .blk g 77 (sh2S M), .blk gt 77 (sh2S (M ++ padM M.length)), .row 5 1 (.slice A3 8 c3) 8 ((beL 8 (8 * M.length)).map vb), .row 5 1 (.slice A4 (1 + Z + 8) c4) (1 + Z + 8) ((padM M.length).map vb)]) := H8
  go_wp2_with fail
  refine (sh2Words_s gt (h2 (M ++ padM M.length)) _ _ H8 2 rfl (h2_length _)).mono ?_
  rintro e w9 ⟨v9, rfl, ho, hb⟩
  unfold OwnB at ho
  rw [laid4_length (by rw [h2_length]; omega)] at ho
  have H9 := (H8.pushRow 5 rfl hb ho).push_mk rfl
  clear ho hb H8
  have H10 : St w F w9 (lay [led l (noteN r 1 64 (lastN M.length)), .blk g 77 (sh2S M), .row 5 1 v9 32 ((dig2 M).map vb)]) := H9.permS [0, 1, 5] 3 rfl (by decide) (fun i hi => by
    match i, hi with
    | 0, _ => rfl
    | 1, _ => rfl
    | 2, _ => rfl)
  clear H9
  go_wp2
  go_ret2
  exact ⟨_, rfl, St.two_more2 HIJ.out HI.out HJ.out HKK.out HB.out H10⟩
end
end Go.Proofs.Ytcnphkmcgefjoaa

namespace Go.Proofs.Ytcnphkmcgefjoaa
open Go.RowKit
set_option linter.unusedVariables false

def Own.lit (g : Nat) (T : TypeId) (cs : List Value) (m : Nat × Nat) : Own where
  holds w F := w.heap[g]? = some (.cells cs.toArray T m) ∧ F = [g]
  loc := fun ⟨h, e⟩ k => ⟨by rw [k g (by simp [e])]; exact h, e⟩
  old := fun ⟨h, e⟩ k hk => by rw [e] at hk; simp at hk; subst hk; exact lt_of_heap h

section
variable {w0 w w' : World} {F0 : List Nat} {E : Env}

theorem St.litAt (H : St w0 F0 w E) (k : Nat) (hk : E k = none) (b : Nat) (hb : b = w.heap.size) (cs : Array Value) (T : TypeId) (m : Nat × Nat) : St w0 F0 (w.alloc (.cells cs T m)) (upd E k (.lit b T cs.toList m)) := by
  subst hb
  exact H.push k hk ((Below.refl _ _).alloc (Nat.le_refl _) _) (F := [w.heap.size]) ⟨by rw [heap_alloc_new], rfl⟩ (by simp)

theorem St.rdLit {g : Nat} {T : TypeId} {cs : List Value} {m : Nat × Nat} (H : St w0 F0 w E) (k : Nat) (hk : E k = some (.lit g T cs m)) (size n : Nat) (hl : cs.length = n * size) : Rd w size (some ⟨g, 0, none⟩) n cs := by
  obtain ⟨F, ⟨h, -⟩, -⟩ := H.change k hk
  refine ⟨hl, fun _ => ⟨_, rfl, lt_of_heap h, fun j u hu => ?_⟩⟩
  rw [Addr.add_mid, Nat.zero_add, cell_of_row w g j _ _ _ h]
  simpa using hu
end
end Go.Proofs.Ytcnphkmcgefjoaa

namespace Go.Proofs.Ytcnphkmcgefjoaa
open Go.RowKit
set_option linter.unusedVariables false
set_option maxRecDepth 100000

theorem St.one_more2 {w0 w w' : World} {F0 F : List Nat} {E : Env} {A R A0 : Own} {i k : Nat} (hi : E i = some A0) (hk : E k = none)
    (hback : ∀ (w' : World) (A' : Own), St w F w' (one A') → St w0 F0 w' (upd E i A')) (H : St w F w' (lay [A, R])) : St w0 F0 w' (upd (upd E i A) k R) := by
  have hki : k ≠ i := fun e => by rw [e, hi] at hk; cases hk
  have H1 := H.join 0 1 (by omega) rfl rfl
  have H2 : St w F w' (one (.sep A R)) := H1.sub fun n C hC => by
    simp only [one, upd, Env.nil] at hC
    by_cases h0 : n = 0
    · subst h0; rw [if_pos rfl] at hC; rw [← hC]; rfl
    · rw [if_neg h0] at hC; cases hC
  have H3 := hback _ _ H2
  have H4 := H3.part (A := A) (B := R) i k (Ne.symm hki) (by simp [upd]) (by simp [upd, hki, hk])
  refine H4.env fun n => ?_
  simp only [upd]
  by_cases h1 : n = k
  · simp [h1]
  · by_cases h3 : n = i <;> simp [h1, h3]

attribute [local irreducible] comp2 hTo

/-- how many blocks the digest of n bytes takes -/
def allN (n : Nat) : Nat := n / 64 + lastN n

section
variable {w0 w : World} {F0 : List Nat} {E : Env}

set_option maxHeartbeats 4000000 in
theorem sh2Fn_s (l : Value) (r : Option (List RunT)) (m : Nat) (c : Int) (A : Option Addr) (n cA : Nat) (p : List UInt8) (H : St w0 F0 w E) (i k0 : Nat) (hi : E i = some (led l r)) (hk : E k0 = none) (hg : LW r m c) (hm : m ≤ 99999999) (hc : c ≤ 300000000000000000)
    (hR : ∀ w' X, St w0 F0 w' (upd E i X) → Rd w' 1 A n (p.map vb)) (hcap : n ≤ cA) (hn : n ≤ 281474976710000) :
    Calls Try.prog 12 #[l, .slice A n cA] w fun e w' => ∃ v, e = .returned v ∧ St w0 F0 w' (upd (upd E i (led l (noteN r 1 64 (allN n)))) k0 (.row 5 1 v 32 ((dig2 p).map vb))) := by
  have hl : p.length = n := by have h := (hR w _ (by rw [upd_id hi]; exact H)).1; simpa using h
  obtain ⟨F, HF, -, -, hback⟩ := H.frame1 i hi
  have HB := Lib.hid hback
  have HR0 : Hid (∀ w' X, St w F w' (lay [X]) → Rd w' 1 A n (p.map vb)) := fun w' X h => hR w' X (hback w' X (h.to1 rfl))
  have HI := Lib.hid hi
  have HK := Lib.hid hk
  have HG := Lib.hid hg
  have HL := Lib.hid hl
  replace HF := HF.as1
  clear H hback hi hk hR hl hg
  have hnb : n / 64 ≤ n := Nat.div_le_self _ _
  go_enter Try.func12, Try.ntmps12
  go_wp2_with fail
  refine (sh2New_s HF 1 rfl).mono ?_
  rintro e w1 ⟨g, rfl, H1⟩
  replace H1 := H1.push_mk rfl
  clear HF
  unfold lptr
  go_wp2_with fail
  refine (sh2Put_s l r m c g [] A n cA p H1 0 1 (by omega) rfl rfl HG.out (by omega) (by omega) (fun w' X Y h => HR0.out w' X (h.sub fun k C hC => by
    match k, hC with
    | 0, hC => simp only [lay, List.getElem?_cons_zero, Option.some.injEq] at hC; subst hC; rfl
    | k + 1, hC => simp [lay] at hC)) hcap (by rw [List.length_nil]; omega)).mono ?_
  rintro e w2 ⟨rfl, H2⟩
  rw [upd_laid2 (by simp), upd_laid2 (by simp), List.length_nil, Nat.zero_add, Nat.zero_div, Nat.sub_zero, List.nil_append] at H2
  clear H1
  go_wp2_with fail
  refine (sh2Sum_s l _ (m + 1) (c + ((n / 64 : Nat) : Int)) g p H2 0 1 2 (by omega) rfl rfl rfl (HG.out.noteN 1 64 _) (by omega) (by omega) (by rw [HL.out]; omega)).mono ?_
  rintro e w3 ⟨v, rfl, H3⟩
  rw [noteN_noteN, HL.out, upd_laid2 (by simp), upd_laid2 (by simp)] at H3
  replace H3 := H3.push_mk rfl
  clear H2
  have H4 : St w F w3 (lay [led l (noteN r 1 64 (allN n)), .row 5 1 v 32 ((dig2 p).map vb)]) := H3.permS [0, 2] 2 rfl (by decide) (fun i hi => by
    match i, hi with
    | 0, _ => rfl
    | 1, _ => rfl)
  clear H3
  obtain ⟨A3, c3, rfl, -, -⟩ := row_form (H4.row 1 rfl)
  go_wp2
  go_ret
  exact ⟨_, rfl, St.one_more2 HI.out HK.out HB.out H4⟩

end

/-- nil, or a state that nobody made -/
def Sh2No (w : World) (s : Value) : Prop := s = .pointer none ∨ ∃ g, s = lptr g ∧ w.cell? ⟨g, 73, none⟩ = some (.bool false)

theorem sh2Below {w w' : World} {a : Addr} {v : Value} (hb : Below w.heap.size w w') (h : w.cell? a = some v) : w'.cell? a = some v := by
  rw [hb.cell (World.block_lt_of_cell? w _ h)]; exact h

theorem Sh2No.below {w w' : World} {s : Value} (h : Sh2No w s) (hb : Below w.heap.size w w') : Sh2No w' s := by
  rcases h with rfl | ⟨g, rfl, c0⟩
  · exact .inl rfl
  · exact .inr ⟨g, rfl, sh2Below hb c0⟩

theorem St.sh2No {w0 w : World} {F0 : List Nat} {E : Env} {g : Nat} (H : St w0 F0 w E) (k : Nat) (hk : E k = some (.blk g 77 shZ)) : Sh2No w (lptr g) :=
  .inr ⟨g, rfl, H.cell k hk rfl⟩

section
variable {w : World}

theorem sh2Sum_none (l : Value) (s : Value) (h : Sh2No w s) : Calls Try.prog 25 #[s, l] w fun e w' => e = .returned (.tuple #[.slice none 0 0, .int .i64 1]) ∧ w = w' := by
  rcases h with rfl | ⟨g, rfl, c0⟩
  · go_enter Try.func25, Try.ntmps25
    go_wp2_with fail
    refine (sh2None_nil w).mono ?_
    rintro e w1 ⟨rfl, rfl⟩
    go_wp2
    go_ret2
    exact ⟨rfl, rfl⟩
  · go_enter Try.func25, Try.ntmps25
    go_wp2_with fail
    refine (sh2None_off g w c0).mono ?_
    rintro e w1 ⟨rfl, rfl⟩
    go_wp2
    go_ret2
    exact ⟨rfl, rfl⟩

theorem sh2Clone_none (s : Value) (h : Sh2No w s) : Calls Try.prog 33 #[s] w fun e w' => e = .returned (.tuple #[.pointer none, .int .i64 1]) ∧ w = w' := by
  rcases h with rfl | ⟨g, rfl, c0⟩
  · go_enter Try.func33, Try.ntmps33
    go_wp2_with fail
    refine (sh2None_nil w).mono ?_
    rintro e w1 ⟨rfl, rfl⟩
    go_wp2
    go_ret2
    exact ⟨rfl, rfl⟩
  · go_enter Try.func33, Try.ntmps33
    go_wp2_with fail
    refine (sh2None_off g w c0).mono ?_
    rintro e w1 ⟨rfl, rfl⟩
    go_wp2
    go_ret2
    exact ⟨rfl, rfl⟩

theorem sh2Write_none (l v : Value) (s : Value) (h : Sh2No w s) : Calls Try.prog 23 #[s, l, v] w fun e w' => e = .returned (.int .i64 1) ∧ w = w' := by
  rcases h with rfl | ⟨g, rfl, c0⟩
  · go_enter Try.func23, Try.ntmps23
    go_wp2_with fail
    refine (sh2None_nil w).mono ?_
    rintro e w1 ⟨rfl, rfl⟩
    go_wp2
    go_ret
    exact ⟨rfl, rfl⟩
  · go_enter Try.func23, Try.ntmps23
    go_wp2_with fail
    refine (sh2None_off g w c0).mono ?_
    rintro e w1 ⟨rfl, rfl⟩
    go_wp2
    go_ret
    exact ⟨rfl, rfl⟩

theorem sh2Reset_none (s : Value) (h : Sh2No w s) : Calls Try.prog 35 #[s] w fun e w' => e = .returned (.int .i64 1) ∧ w = w' := by
  rcases h with rfl | ⟨g, rfl, c0⟩
  · go_enter Try.func35, Try.ntmps35
    go_wp2_with fail
    refine (sh2None_nil w).mono ?_
    rintro e w1 ⟨rfl, rfl⟩
    go_wp2
    go_ret
    exact ⟨rfl, rfl⟩
  · go_enter Try.func35, Try.ntmps35
    go_wp2_with fail
    refine (sh2None_off g w c0).mono ?_
    rintro e w1 ⟨rfl, rfl⟩
    go_wp2
    go_ret
    exact ⟨rfl, rfl⟩

theorem sh2Wipe_none (l : Value) (s : Value) (h : Sh2No w s) : Calls Try.prog 34 #[s, l] w fun e w' => e = .returned (.int .i64 1) ∧ w = w' := by
  rcases h with rfl | ⟨g, rfl, c0⟩
  · go_enter Try.func34, Try.ntmps34
    go_wp2_with fail
    refine (sh2None_nil w).mono ?_
    rintro e w1 ⟨rfl, rfl⟩
    go_wp2
    go_ret
    exact ⟨rfl, rfl⟩
  · go_enter Try.func34, Try.ntmps34
    go_wp2_with fail
    refine (sh2None_off g w c0).mono ?_
    rintro e w1 ⟨rfl, rfl⟩
    go_wp2
    go_ret
    exact ⟨rfl, rfl⟩

theorem sh2Form_none (s : Value) (h : Sh2No w s) : Calls Try.prog 22 #[s] w fun e w' => e = .returned (.slice none 0 0) ∧ w = w' := by
  rcases h with rfl | ⟨g, rfl, c0⟩
  · go_enter Try.func22, Try.ntmps22
    go_wp2_with fail
    refine (sh2None_nil w).mono ?_
    rintro e w1 ⟨rfl, rfl⟩
    go_wp2
    go_ret
    exact ⟨rfl, rfl⟩
  · go_enter Try.func22, Try.ntmps22
    go_wp2_with fail
    refine (sh2None_off g w c0).mono ?_
    rintro e w1 ⟨rfl, rfl⟩
    go_wp2
    go_ret
    exact ⟨rfl, rfl⟩

theorem sh2Len_none (s : Value) (h : Sh2No w s) : Calls Try.prog 27 #[s] w fun e w' => e = .returned (.int .i64 0) ∧ w = w' := by
  rcases h with rfl | ⟨g, rfl, c0⟩
  · go_enter Try.func27, Try.ntmps27
    go_wp2_with fail
    refine (sh2None_nil w).mono ?_
    rintro e w1 ⟨rfl, rfl⟩
    go_wp2
    go_ret
    exact ⟨rfl, rfl⟩
  · go_enter Try.func27, Try.ntmps27
    go_wp2_with fail
    refine (sh2None_off g w c0).mono ?_
    rintro e w1 ⟨rfl, rfl⟩
    go_wp2
    go_ret
    exact ⟨rfl, rfl⟩

end
end Go.Proofs.Ytcnphkmcgefjoaa

namespace Go.Proofs.Ytcnphkmcgefjoaa
open Go.RowKit
set_option linter.unusedVariables false
set_option maxRecDepth 100000

def abcB : List UInt8 := [97, 98, 99]
def abcW : List UInt32 := [0xba7816bf, 0x8f01cfea, 0x414140de, 0x5dae2223, 0xb00361a3, 0x96177a9c, 0xb410ff61, 0xf20015ad]
theorem abc_val : dig2 abcB = laid4 abcW 8 := by decide +kernel

theorem beL4_eq (x : Nat) : beL 4 x = [UInt8.ofNat (x / 256 ^ 3), UInt8.ofNat (x / 256 ^ 2), UInt8.ofNat (x / 256 ^ 1), UInt8.ofNat (x / 256 ^ 0)] := rfl

attribute [local irreducible] comp2 hTo

set_option maxHeartbeats 4000000 in
theorem wants_s (h : List UInt32) (hh : h.length = 8) (w : World) :
    Calls Try.prog 20 #[.agg (h.map u32v).toArray] w fun e w' => ∃ v, e = .returned v ∧ OwnB w' w.heap.size v (laid4 h 8) ∧ Below w.heap.size w w' := by
  obtain ⟨i0, hi0, hz0, hz1, hz2⟩ := info_parts u8_info
  have HI := Lib.hid (⟨hi0, hz0, hz1, hz2⟩ : _ ∧ _ ∧ _ ∧ _)
  clear hi0 hz0 hz1 hz2
  have HH := Lib.hid hh
  clear hh
  have H := (St.start_lay w []).nilRow 0 rfl 5 1 |>.push_mk rfl
  go_enter Try.func20, Try.ntmps20
  go_upto_region 1 with fail
  refine absorb_wp (H.allocAt 1 rfl w.heap.size rfl _ _ |>.push_mk rfl) ?_
  clear H
  intro w1 H
  generalize w.heap.size = gb at H ⊢
  replace H : St w [] w1 (lay [.row 5 1 (.slice none 0 0) 0 [], .blk gb 40 (h.map u32v)]) := H
  go_wp2
  go_loopw [3, 4] (fun v i wr => ∃ k : Nat, k ≤ 8 ∧ i = .int .i64 k ∧ St w [] wr (lay [.row 5 1 v (4 * k) ((laid4 h k).map vb), .blk gb 40 (h.map u32v)])) (fun _ i _ => 8 - (intOf i).toNat)
  case atStart => exact ⟨0, by omega, rfl, H⟩
  case round =>
    clear H
    obtain ⟨k, hk, rfl, H⟩ := hrel
    obtain ⟨AV, cV, rfl, -, -⟩ := row_form (H.row 0 rfl)
    by_cases hlt : k < 8
    · have hk1 : (k : Int) < 8 := by omega
      have a0 := H.cell 1 rfl (u32_get (l := h) (k := k) (by rw [HH.out]; exact hlt))
      have HS := Lib.hid (laid4_succ (l := h) (k := k) (by rw [HH.out]; exact hlt))
      have HA : Hid (∀ w' X, St w [] w' X → X 1 = some (.blk gb 40 (h.map u32v)) → w'.cell? ⟨gb, k, none⟩ = some (.int .u32 ((at32 h k).toNat : Int))) := fun w' X h hX => h.cell 1 hX (u32_get (by rw [HH.out]; exact hlt))
      generalize at32 h k = x at a0 HS HA
      go_upto_region 5 with fail
      replace H := H.drew
      refine wp_region_held_drew (S := fun w' : World => w'.cell? ⟨gb, k, none⟩ = some (.int .u32 (x.toNat : Int))) (by kernel_rfl) ?_ (fun hHeld => ?_)
      · exact HA.out _ _ H rfl
      refine takeV 0 rfl (by intro w h; clear h; go_simp; try with_reducible rfl) (by kernel_rfl) (by kernel_rfl) (by kernel_rfl) (by exact fun _ _ _ h => h) (by rfl) (by assumption) ?_
      try simp only [Act.put, List.setIfInBounds_toArray, List.set_cons_zero, List.set_cons_succ]
      refine takeV 1 rfl (by intro w h; clear h; go_simp; try with_reducible rfl) (by kernel_rfl) (by kernel_rfl) (by kernel_rfl) (by exact fun _ _ _ h => h) (by rfl) (by assumption) ?_
      try simp only [Act.put, List.setIfInBounds_toArray, List.set_cons_zero, List.set_cons_succ]
      refine takeV 2 rfl (by intro w h; clear h; go_simp; try with_reducible rfl) (by kernel_rfl) (by kernel_rfl) (by kernel_rfl) (by exact fun _ _ _ h => h) (by rfl) (by assumption) ?_
      try simp only [Act.put, List.setIfInBounds_toArray, List.set_cons_zero, List.set_cons_succ]
      refine takeV 3 rfl (by intro w h; have hc := h; clear h; go_simp; try with_reducible rfl) (by kernel_rfl) (by kernel_rfl) (by kernel_rfl) (by exact fun _ _ _ h => h) (by rfl) (by assumption) ?_
      try simp only [Act.put, List.setIfInBounds_toArray, List.set_cons_zero, List.set_cons_succ]
      refine takeV 4 rfl (by intro w h; clear h; go_simp; try with_reducible rfl) (by kernel_rfl) (by kernel_rfl) (by kernel_rfl) (by exact fun _ _ _ h => h) (by rfl) (by assumption) ?_
      try simp only [Act.put, List.setIfInBounds_toArray, List.set_cons_zero, List.set_cons_succ]
      refine takeV 5 rfl (by intro w h; clear h; go_simp; try with_reducible rfl) (by kernel_rfl) (by kernel_rfl) (by kernel_rfl) (by exact fun _ _ _ h => h) (by rfl) (by assumption) ?_
      try simp only [Act.put, List.setIfInBounds_toArray, List.set_cons_zero, List.set_cons_succ]
      refine takeV 6 rfl (by intro w h; clear h; go_simp; try with_reducible rfl) (by kernel_rfl) (by kernel_rfl) (by kernel_rfl) (by exact fun _ _ _ h => h) (by rfl) (by assumption) ?_
      try simp only [Act.put, List.setIfInBounds_toArray, List.set_cons_zero, List.set_cons_succ]
      refine takeV 7 rfl (by intro w h; clear h; go_simp; try with_reducible rfl) (by kernel_rfl) (by kernel_rfl) (by kernel_rfl) (by exact fun _ _ _ h => h) (by rfl) (by assumption) ?_
      try simp only [Act.put, List.setIfInBounds_toArray, List.set_cons_zero, List.set_cons_succ]
      refine takeV 8 rfl (by intro w h; have hc := h; clear h; go_simp; try with_reducible rfl) (by kernel_rfl) (by kernel_rfl) (by kernel_rfl) (by exact fun _ _ _ h => h) (by rfl) (by assumption) ?_
      try simp only [Act.put, List.setIfInBounds_toArray, List.set_cons_zero, List.set_cons_succ]
      refine takeV 9 rfl (by intro w h; clear h; go_simp; try with_reducible rfl) (by kernel_rfl) (by kernel_rfl) (by kernel_rfl) (by exact fun _ _ _ h => h) (by rfl) (by assumption) ?_
      try simp only [Act.put, List.setIfInBounds_toArray, List.set_cons_zero, List.set_cons_succ]
      refine takeV 10 rfl (by intro w h; clear h; go_simp; try with_reducible rfl) (by kernel_rfl) (by kernel_rfl) (by kernel_rfl) (by exact fun _ _ _ h => h) (by rfl) (by assumption) ?_
      try simp only [Act.put, List.setIfInBounds_toArray, List.set_cons_zero, List.set_cons_succ]
      refine takeV 11 rfl (by intro w h; clear h; go_simp; try with_reducible rfl) (by kernel_rfl) (by kernel_rfl) (by kernel_rfl) (by exact fun _ _ _ h => h) (by rfl) (by assumption) ?_
      try simp only [Act.put, List.setIfInBounds_toArray, List.set_cons_zero, List.set_cons_succ]
      refine takeV 12 rfl (by intro w h; clear h; go_simp; try with_reducible rfl) (by kernel_rfl) (by kernel_rfl) (by kernel_rfl) (by exact fun _ _ _ h => h) (by rfl) (by assumption) ?_
      try simp only [Act.put, List.setIfInBounds_toArray, List.set_cons_zero, List.set_cons_succ]
      refine takeV 13 rfl (by intro w h; have hc := h; clear h; go_simp; try with_reducible rfl) (by kernel_rfl) (by kernel_rfl) (by kernel_rfl) (by exact fun _ _ _ h => h) (by rfl) (by assumption) ?_
      try simp only [Act.put, List.setIfInBounds_toArray, List.set_cons_zero, List.set_cons_succ]
      refine takeV 14 rfl (by intro w h; clear h; go_simp; try with_reducible rfl) (by kernel_rfl) (by kernel_rfl) (by kernel_rfl) (by exact fun _ _ _ h => h) (by rfl) (by assumption) ?_
      try simp only [Act.put, List.setIfInBounds_toArray, List.set_cons_zero, List.set_cons_succ]
      refine takeV 15 rfl (by intro w h; clear h; go_simp; try with_reducible rfl) (by kernel_rfl) (by kernel_rfl) (by kernel_rfl) (by exact fun _ _ _ h => h) (by rfl) (by assumption) ?_
      try simp only [Act.put, List.setIfInBounds_toArray, List.set_cons_zero, List.set_cons_succ]
      refine takeV 16 rfl (by intro w h; clear h; go_simp; try with_reducible rfl) (by kernel_rfl) (by kernel_rfl) (by kernel_rfl) (by exact fun _ _ _ h => h) (by rfl) (by assumption) ?_
      try simp only [Act.put, List.setIfInBounds_toArray, List.set_cons_zero, List.set_cons_succ]
      refine takeV 17 rfl (by intro w h; clear h; go_simp; try with_reducible rfl) (by kernel_rfl) (by kernel_rfl) (by kernel_rfl) (by exact fun _ _ _ h => h) (by rfl) (by assumption) ?_
      try simp only [Act.put, List.setIfInBounds_toArray, List.set_cons_zero, List.set_cons_succ]
      refine takeV 18 rfl (by intro w h; have hc := h; clear h; go_simp; try with_reducible rfl) (by kernel_rfl) (by kernel_rfl) (by kernel_rfl) (by exact fun _ _ _ h => h) (by rfl) (by assumption) ?_
      try simp only [Act.put, List.setIfInBounds_toArray, List.set_cons_zero, List.set_cons_succ]
      refine takeV 19 rfl (by intro w h; clear h; go_simp; try with_reducible rfl) (by kernel_rfl) (by kernel_rfl) (by kernel_rfl) (by exact fun _ _ _ h => h) (by rfl) (by assumption) ?_
      try simp only [Act.put, List.setIfInBounds_toArray, List.set_cons_zero, List.set_cons_succ]
      refine take_call 20 rfl (by kernel_rfl) (fun K hK => ?_)
      go_simp
      have H4 := (H.alloc 2 rfl #[.int .u8 ((x.toNat : Int) / 16777216 % 256), .int .u8 ((x.toNat : Int) / 65536 % 256), .int .u8 ((x.toNat : Int) / 256 % 256), .int .u8 ((x.toNat : Int) % 256)] 5).push_mk rfl
      refine hK.out _ _ (HA.out _ _ H4 rfl) (fun hHeld => ?_)
      clear hK K
      try simp only [Act.put, List.setIfInBounds_toArray, List.set_cons_zero, List.set_cons_succ]
      refine take_call 21 rfl (by kernel_rfl) (fun K hK => ?_)
      obtain ⟨hi0, hz0, hz1, hz2⟩ := HI.out
      refine step_append_any _ (by rfl) (.tmp 9) (.tmp 29) _ (by rfl) 0 5 i0 (.int .u8 0) 1 1 Try.underlying22 hi0 hz0 hz1 hz2 rfl (by omega) (.slice AV (4 * k) cV) (4 * k) ((laid4 h k).map vb) (by rfl) (H4.row 0 rfl) _ 4 4 [.int .u8 ((x.toNat : Int) / 16777216 % 256), .int .u8 ((x.toNat : Int) / 65536 % 256), .int .u8 ((x.toNat : Int) / 256 % 256), .int .u8 ((x.toNat : Int) % 256)] (by rfl) (H4.rdBlk 2 rfl 1 4 rfl) (by intro q hq; simp at hq; rcases hq with rfl | rfl | rfl | rfl <;> rfl) (by simp only [maxLen]; omega) (by omega) (Nat.zero_le _) ?_
      intro v1 w5 hown hg2 hat
      have H5 := ((H4.grow 0 rfl hown hg2 hat).upd_mk (by simp)).front 2
      refine hK.out _ _ (HA.out _ _ H5 rfl) (fun hHeld => ?_)
      clear hK K H4 H hown hg2 hat hi0 hz0 hz1 hz2 a0
      try simp only [Act.put, List.setIfInBounds_toArray, List.set_cons_zero, List.set_cons_succ]
      refine takeV 22 rfl (by intro w h; clear h; go_simp; try with_reducible rfl) (by kernel_rfl) (by kernel_rfl) (by kernel_rfl) (by exact fun _ _ _ h => h) (by rfl) (by assumption) ?_
      try simp only [Act.put, List.setIfInBounds_toArray, List.set_cons_zero, List.set_cons_succ]
      refine wpAnyH_done (by kernel_rfl) ?_ _
      clear hHeld
      have hbe : [.int .u8 ((x.toNat : Int) / 16777216 % 256), .int .u8 ((x.toNat : Int) / 65536 % 256), .int .u8 ((x.toNat : Int) / 256 % 256), .int .u8 ((x.toNat : Int) % 256)] = (beL 4 x.toNat).map vb := by rw [beL4_eq, List.map_cons, List.map_cons, List.map_cons, List.map_cons, List.map_nil]; unfold vb; rw [← byte_eq, ← byte_eq, ← byte_eq, ← byte_eq]; simp
      have H6 : St w [] w5 (lay [.row 5 1 v1 (4 * k + 4) ((laid4 h k).map vb ++ [.int .u8 ((x.toNat : Int) / 16777216 % 256), .int .u8 ((x.toNat : Int) / 65536 % 256), .int .u8 ((x.toNat : Int) / 256 % 256), .int .u8 ((x.toNat : Int) % 256)]), .blk gb 40 (h.map u32v)]) := H5
      rw [hbe, ← List.map_append, ← HS.out] at H6
      clear H5 hbe
      go_wp2
      go_roundw
      case rel => exact ⟨k + 1, by omega, by go_num, H6⟩
      case measure => simp [intOf]; omega
    · obtain rfl : k = 8 := by omega
      go_wp2
      go_ret
      exact ⟨_, rfl, (by unfold OwnB; rw [laid4_length (by rw [HH.out]; omega)]; exact H.newRow' 0 rfl), H.below⟩
end Go.Proofs.Ytcnphkmcgefjoaa

namespace Go.Proofs.Ytcnphkmcgefjoaa
open Go.RowKit
set_option linter.unusedVariables false
set_option maxRecDepth 100000

attribute [local irreducible] comp2 hTo dig2 laid4

theorem abcW_len : abcW.length = 8 := rfl
theorem abcV : (abcW.map u32v).toArray = #[.int .u32 3128432319, .int .u32 2399260650, .int .u32 1094795486, .int .u32 1571693091, .int .u32 2953011619, .int .u32 2518121116, .int .u32 3021012833, .int .u32 4060091821] := by kernel_rfl
theorem noteN_none' (k s : Int) (n : Nat) : noteN none k s n = none := by unfold noteN; split <;> rfl

set_option maxHeartbeats 1000000 in
theorem lives2_s (w : World) : Calls Try.prog 8 #[] w fun e w' => e = .returned (.bool true) ∧ Below w.heap.size w w' := by
  have H := (St.start_lay w []).ledNil 0 rfl |>.push_mk rfl
  have hcv := fun (w : World) (C : Array Value) (n c : Nat) => Lib.run_convert_bytes_const (P := Try.prog) w 22 5 C n c Try.underlying22 Try.underlying5
  have hl8 := laid4_length (l := abcW) (k := 8) (Nat.le_refl _)
  have HL8 := Lib.hid hl8
  clear hl8
  go_enter Try.func8, Try.ntmps8
  go_wp2_with fail
  refine absorb_calls (H.litAt 1 rfl w.heap.size rfl _ _ _ |>.push_mk rfl) ?_
  clear H
  intro w2 H
  generalize w.heap.size = g2 at H ⊢
  replace H : St w [] w2 (lay [led (.pointer none) none, .lit g2 5 (abcB.map vb) (3, 4)]) := H
  refine (sh2Fn_s (.pointer none) none 0 0 (some ⟨g2, 0, none⟩) 3 3 abcB H 0 2 rfl rfl (LW.none _ _) (by omega) (by omega) (fun w' X h => h.rdLit 1 rfl 1 3 rfl) (by omega) (by omega)).mono ?_
  rintro e w3 ⟨v3, rfl, H1⟩
  rw [noteN_none', upd_laid2 (by simp), abc_val] at H1
  replace H : St w [] w3 (lay [led (.pointer none) none, .lit g2 5 (abcB.map vb) (3, 4), .row 5 1 v3 32 ((laid4 abcW 8).map vb)]) := H1.push_mk rfl
  clear H1
  obtain ⟨A3, c3, rfl, -, -⟩ := row_form (H.row 2 rfl)
  go_wp2_with fail
  rw [← abcV]
  refine (wants_s abcW abcW_len w3).mono ?_
  rintro e w4 ⟨v4, rfl, ho, hb⟩
  unfold OwnB at ho
  rw [HL8.out] at ho
  replace H := (H.pushRow 3 rfl hb ho).push_mk rfl
  clear ho hb
  obtain ⟨A4, c4, rfl, -, -⟩ := row_form (H.row 3 rfl)
  go_wp2_with fail
  refine (sameBytes_yes A3 A4 _ _ c3 c4 _ _ _ (H.rd 2 rfl) (H.rd 3 rfl) (by omega) (by omega) rfl).mono ?_
  rintro e w5 ⟨rfl, hb⟩
  replace H := H.call hb
  go_wp2
  go_ret
  exact ⟨rfl, H.below⟩

set_option maxHeartbeats 1000000 in
theorem empty2_s (s v : Value) (hv : ∃ A n c, v = .slice A n c) (w : World) (h : Sh2No w s) : Calls Try.prog 36 #[s, v] w fun e w' => e = .returned (.bool true) ∧ Below w.heap.size w w' := by
  obtain ⟨A, n, c, rfl⟩ := hv
  have H0 := St.start_lay w []
  go_enter Try.func36, Try.ntmps36
  go_wp2_with fail
  refine (ledger_new H0 0 rfl).mono ?_
  rintro e w1 ⟨l, rfl, H1⟩
  have H := H1.push_mk rfl
  replace h := h.below H.below
  clear H0 H1
  go_wp2_with fail
  refine (sh2Sum_none l s h).mono ?_
  rintro e wx ⟨rfl, rfl⟩
  go_wp2_with fail
  refine (sh2Clone_none s h).mono ?_
  rintro e wx ⟨rfl, rfl⟩
  go_wp2_with fail
  refine (sh2Write_none l (.slice A n c) s h).mono ?_
  rintro e wx ⟨rfl, rfl⟩
  go_wp2_with fail
  refine (sh2Reset_none s h).mono ?_
  rintro e wx ⟨rfl, rfl⟩
  go_wp2_with fail
  refine (sh2Wipe_none l s h).mono ?_
  rintro e wx ⟨rfl, rfl⟩
  go_wp2_with fail
  refine (sh2Form_none s h).mono ?_
  rintro e wx ⟨rfl, rfl⟩
  go_wp2_with fail
  refine (sh2Len_none s h).mono ?_
  rintro e wx ⟨rfl, rfl⟩
  go_wp2_with fail
  refine (ledger_len_w H 0 rfl).mono ?_
  rintro e wx ⟨rfl, rfl⟩
  go_wp2
  go_ret
  exact ⟨rfl, H.below⟩

set_option maxHeartbeats 4000000 in
theorem sha256None_walk (A : Option Addr) (n c : Nat) (p : List UInt8) (w : World) (hA : Rd w 1 A n (p.map vb)) (hn0 : n ≤ 140737488351232) (hc : n ≤ c) :
    Calls Try.prog 7 #[.slice A n c] w fun e w' => e = .returned (.bool true) ∧ Below w.heap.size w w' := by
  by_cases hbig : 16384 < n
  · have hb : decide ((n : Int) > 16384) = true := by simp; omega
    clear hbig
    go_enter Try.func7, Try.ntmps7
    go_wp2
    go_ret
    exact ⟨rfl, Below.refl _ _⟩
  · have hb : decide ((n : Int) > 16384) = false := by simp; omega
    have hn : n ≤ 16384 := by omega
    clear hbig hn0
    have H := (St.start_lay w []).ledNil 0 rfl |>.push_mk rfl
    have hz0 := zero_sh
    go_enter Try.func7, Try.ntmps7
    go_wp2_with fail
    refine (sh2New_s H 1 rfl).mono ?_
    rintro e w1 ⟨g, rfl, H1⟩
    replace H := H1.push_mk rfl
    clear H1
    unfold lptr
    go_wp2_with fail
    refine (ledger_new H 2 rfl).mono ?_
    rintro e w2 ⟨l, rfl, H1⟩
    replace H := H1.push_mk rfl
    clear H1
    replace H : St w [] w2 (lay [led (.pointer none) none, .blk g 77 (sh2S []), led l (some [])]) := H
    go_wp2_with fail
    refine (sh2Write_s (.pointer none) none 0 0 g [] A n c p H 0 1 (by omega) rfl rfl (LW.none _ _) (by omega) (by omega) (fun w' X Y h => h.arg0 hA) hc (by rw [List.length_nil]; omega)).mono ?_
    rintro e w3 ⟨rfl, H1⟩
    rw [noteN_none', upd_laid2 (by simp), upd_laid2 (by simp), List.nil_append] at H1
    replace H : St w [] w3 (lay [led (.pointer none) none, .blk g 77 (sh2S p), led l (some [])]) := H1
    clear H1
    go_wp2_with fail
    refine (sh2Wipe_s l (some []) 0 0 g p H 2 1 (by omega) rfl rfl LW.nil (by omega) (by omega)).mono ?_
    rintro e w4 ⟨rfl, H1⟩
    rw [upd_laid2 (by simp), upd_laid2 (by simp)] at H1
    replace H : St w [] w4 (lay [led (.pointer none) none, .blk g 77 shZ, led l (some [((8, 104, 1) : RunT)])]) := H1
    clear H1
    go_wp2_with fail
    refine (ledger_runs_w 1 1 H 2 rfl (fun rs h => by injection h with h; subst h; exact ⟨by simp, by simp, by decide⟩) (by omega) 3 rfl).mono ?_
    rintro e w5 ⟨v5, rfl, H1⟩
    replace H := H1.push_mk rfl
    clear H1
    obtain ⟨A5, c5, rfl, -, -⟩ := row_shape (H.row 3 rfl)
    go_wp2_with fail
    refine absorb_calls (H.allocAt 4 rfl w5.heap.size rfl #[.int .u8 8, .int .i64 104, .int .i64 1] 45 |>.push_mk rfl) ?_
    clear H
    intro w6 H
    generalize w5.heap.size = gR at H ⊢
    refine (sameRuns_any A5 (some ⟨gR, 0, none⟩) c5 1 [(8, 104, 1)] [(8, 104, 1)] (H.rd 3 rfl) (H.rdBlk 4 rfl 3 1 rfl) (by simp) (by simp)).mono ?_
    rintro e w7 ⟨rfl, kd, rfl⟩
    replace H := H.drewN kd
    rw [decide_eq_true rfl]
    generalize w6.drewN kd = w7 at H ⊢
    go_wp2_with fail
    refine (lives2_s w7).mono ?_
    rintro e w8 ⟨rfl, hb2⟩
    replace H := H.call hb2
    clear hb2
    go_wp2_with fail
    refine (empty2_s (.pointer none) (.slice A n c) ⟨_, _, _, rfl⟩ w8 (.inl rfl)).mono ?_
    rintro e w9 ⟨rfl, hb2⟩
    replace H := H.call hb2
    clear hb2
    go_wp2_with fail
    refine absorb_calls (H.allocAt 5 rfl w9.heap.size rfl shZ.toArray 77 |>.push_mk rfl) ?_
    clear H
    intro wa H
    generalize w9.heap.size = gz at H ⊢
    refine (empty2_s (lptr gz) (.slice A n c) ⟨_, _, _, rfl⟩ wa (H.sh2No 5 rfl)).mono ?_
    rintro e wb ⟨rfl, hb2⟩
    replace H := H.call hb2
    clear hb2
    go_wp2_with fail
    refine (empty2_s (lptr g) (.slice A n c) ⟨_, _, _, rfl⟩ wb (H.sh2No 1 rfl)).mono ?_
    rintro e wc ⟨rfl, hb2⟩
    replace H := H.call hb2
    clear hb2
    go_wp2
    go_ret
    exact ⟨rfl, H.below⟩
end Go.Proofs.Ytcnphkmcgefjoaa
