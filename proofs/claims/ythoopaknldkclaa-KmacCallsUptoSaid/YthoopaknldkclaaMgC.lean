/- Texts of this claim, merged: LedW, KecP, Lay, Made, WLay, WLayLE, TakeA, TakeLE, KecB, KecF, SpP, SpA, OpA, OpE, KitO, SpW, SpC, SpQ, Held2, SpR, SpN, SpF, ShB. -/
import Derived.Test.YthoopaknldkclaaRows
import Derived.Laws.Cover3
import Derived.LoopN
import Derived.Test.YthoopaknldkclaaMgB
set_option linter.unusedVariables false

namespace Go.Proofs.Ythoopaknldkclaa
open Go.RowKit
set_option linter.unusedVariables false

/-- runs as a ledger has them: at most m runs, b events in all -/
def LW (r : Option (List RunT)) (m : Nat) (b : Int) : Prop := ∀ rs, r = some rs → (∀ x ∈ rs, 1 ≤ x.2.2) ∧ rs.length ≤ m ∧ total rs ≤ b

theorem LW.none (m : Nat) (b : Int) : LW none m b := fun _ h => by cases h

theorem LW.nil : LW (some []) 0 0 := fun rs h => by injection h with h; subst h; exact ⟨by simp, by simp, by simp [total]⟩

theorem LW.more {r : Option (List RunT)} {m m' : Nat} {b b' : Int} (h : LW r m b) (hm : m ≤ m') (hb : b ≤ b') : LW r m' b' := fun rs hr => ⟨(h rs hr).1, Nat.le_trans (h rs hr).2.1 hm, Int.le_trans (h rs hr).2.2 hb⟩

theorem LGood.lw {r : Option (List RunT)} {b : Int} (h : LGood r b) : LW r b.toNat b := fun rs hr => ⟨(h rs hr).1, by have := (h rs hr).length; omega, (h rs hr).2⟩

/-- n times the same event, none perhaps -/
def noteN (r : Option (List RunT)) (k s : Int) (n : Nat) : Option (List RunT) := if n = 0 then r else r.map fun rs => noted rs k s n

theorem noteN_zero (r : Option (List RunT)) (k s : Int) : noteN r k s 0 = r := rfl

theorem noteN_one (r : Option (List RunT)) (k s : Int) : noteN r k s 1 = r.map fun rs => noted rs k s 1 := rfl

theorem noted_concat (X : List RunT) (k' s' c k s n : Int) : noted (X ++ [(k', s', c)]) k s n = if k' = k ∧ s' = s then X ++ [(k, s, c + n)] else X ++ [(k', s', c)] ++ [(k, s, n)] := by
  unfold noted
  simp

theorem noted_noted (rs : List RunT) (k s a b : Int) : noted (noted rs k s a) k s b = noted rs k s (a + b) := by
  have key : ∀ (X : List RunT) (x : Int), noted (X ++ [(k, s, x)]) k s b = X ++ [(k, s, x + b)] := fun X x => by rw [noted_concat, if_pos ⟨rfl, rfl⟩]
  rcases List.eq_nil_or_concat rs with rfl | ⟨X, ⟨k', s', c⟩, rfl⟩
  · have := key [] a
    rw [noted_nil, noted_nil]
    simpa using this
  · rw [List.concat_eq_append, noted_concat, noted_concat]
    by_cases h : k' = k ∧ s' = s
    · rw [if_pos h, if_pos h, key, Int.add_assoc]
    · rw [if_neg h, if_neg h, key]

theorem noteN_noteN (r : Option (List RunT)) (k s : Int) (a b : Nat) : noteN (noteN r k s a) k s b = noteN r k s (a + b) := by
  unfold noteN
  by_cases ha : a = 0
  · subst ha; simp
  · by_cases hb : b = 0
    · subst hb; simp [ha]
    · rw [if_neg ha, if_neg hb, if_neg (by omega)]
      cases r with
      | none => rfl
      | some rs => simp [noted_noted]

theorem LW.noteN {r : Option (List RunT)} {m : Nat} {b : Int} (h : LW r m b) (k s : Int) (n : Nat) : LW (noteN r k s n) (m + 1) (b + n) := by
  unfold Go.Proofs.Ythoopaknldkclaa.noteN
  split
  · exact h.more (by omega) (by omega)
  · rename_i hn
    intro rs hrs
    cases r with
    | none => cases hrs
    | some rs0 =>
      simp at hrs
      subst hrs
      obtain ⟨h1, h2, h3⟩ := h rs0 rfl
      refine ⟨?_, by have := noted_length rs0 k s n; omega, by rw [total_noted]; omega⟩
      have g := (Runs.Good.noted (rs := rs0) (b := total rs0) ⟨h1, Int.le_refl _⟩ k s n (by omega)).1
      exact g

section
variable {w0 w : World} {F0 : List Nat} {E : Env}

set_option maxHeartbeats 400000 in
theorem ledger_note_w {l : Value} {r : Option (List RunT)} (m : Nat) (b k s : Int) (H : St w0 F0 w E) (i : Nat) (hi : E i = some (led l r)) (hg : LW r m b) (hm : m ≤ 1000000000000) (hb : b ≤ 4611686018427387903) :
    Calls Try.prog 76 #[l, .agg #[.int .u8 k, .int .i64 s]] w fun e w' => e = .returned (.tuple #[]) ∧ St w0 F0 w' (upd E i (led l (noteN r k s 1))) := by
  rw [noteN_one]
  cases r with
  | none =>
    obtain ⟨rfl, H1⟩ := H.openFact i hi
    go_enter Try.func76, Try.ntmps76
    go_wp2_with fail
    refine (noteTimes_none k s 1).mono ?_
    rintro e w1 ⟨rfl, hb1⟩
    go_wp2
    go_end0
    have H2 := (H.call ((Below.refl _ _).alloc (Nat.le_refl _) _)).call hb1
    exact ⟨rfl, by rw [← upd_id hi] at H2; exact H2⟩
  | some rs =>
    obtain ⟨g, rfl, H1⟩ := H.ledOpen i hi
    obtain ⟨h1, hl, h2⟩ := hg rs rfl
    have h0 : ∀ r ∈ rs, 0 ≤ r.2.2 := fun r hr => by have := h1 r hr; omega
    have H2 := H1.call ((Below.refl _ _).alloc (Nat.le_refl _) (.cells #[.int .u8 k, .int .i64 s] 56))
    obtain ⟨F, HF, -, -, hback⟩ := H2.frame1 i upd_same
    have hc := noteTimes_led g rs k s 1 HF (by omega) (by omega) h0 (by omega) (by omega)
    clear hl h0 h1 h2 HF H1 H2 H
    unfold lptr at hc ⊢
    have HC := Lib.hid hc
    have HB := Lib.hid hback
    clear hc hback
    go_enter Try.func76, Try.ntmps76
    go_wp2_with fail
    refine HC.out.mono ?_
    rintro e w1 ⟨rfl, hs⟩
    go_wp2
    go_end0
    have H3 := (HB.out _ _ hs).ledShut i upd_same
    simp only [upd_upd] at H3
    exact ⟨rfl, H3⟩

set_option maxHeartbeats 400000 in
theorem ledger_runs_w {l : Value} {r : Option (List RunT)} (m : Nat) (b : Int) (H : St w0 F0 w E) (i : Nat) (hi : E i = some (led l r)) (hg : LW r m b) (hm : m ≤ 1000000000) (k : Nat) (hk : E k = Option.none) :
    Calls Try.prog 18 #[l] w fun e w' => ∃ v, e = .returned v ∧ St w0 F0 w' (upd E k (runsO v (r.getD []))) := by
  cases r with
  | none =>
    obtain ⟨rfl, H1⟩ := H.openFact i hi
    go_enter Try.func18, Try.ntmps18
    go_wp2
    go_ret
    exact ⟨_, rfl, H.nilRow k hk _ _⟩
  | some rs =>
    obtain ⟨i0, hi0, hz0, hz1, hz2⟩ := info_parts run_info
    obtain ⟨g, A, c, rfl, hlt, c0, -, hr⟩ := H.ledRead i hi
    have hl := (hg rs rfl).2.1
    unfold lptr
    go_enter Try.func18, Try.ntmps18
    go_wp2_with (at_builtin; refine wpList_append_any _ rfl (.tmp 5) (.tmp 9) _ rfl w.heap.size 58 i0 _ 3 24 Try.underlying43 hi0 hz0 hz1 hz2 rfl (by omega) (.slice (some ⟨w.heap.size, 0, none⟩) 0 0) 0 [] rfl (World.ownsRow_made _ _ 0 (Nat.le_refl _) (by simp [maxLen]) rfl) A rs.length c (runsV rs) rfl (hr.below ((Below.refl _ _).alloc (Nat.le_refl _) _)) (runsV_one rs) (by simp only [maxLen]; omega) (by omega) (by simp) ?_; intro v1 w1 hown1 hg1 hat1)
    go_ret
    refine ⟨_, rfl, H.pushRow k hk (((Below.refl _ _).alloc (Nat.le_refl _) _).grown hg1 (by simp) (fun g hg => by simp [Value.ownBlock] at hg; omega)) ?_⟩
    have h := hown1
    rw [Nat.zero_add, List.nil_append] at h
    exact h

/-- how many events a ledger has -/
theorem ledger_len_w {l : Value} {rs : List RunT} (H : St w0 F0 w E) (i : Nat) (hi : E i = some (led l (some rs))) :
    Calls Try.prog 26 #[l] w fun e w' => e = .returned (.int .i64 (total rs)) ∧ w = w' := by
  obtain ⟨g, A, c, rfl, hlt, -, c1, -⟩ := H.ledRead i hi
  unfold lptr
  generalize total rs = t at c1 ⊢
  go_enter Try.func26, Try.ntmps26
  go_wp2
  go_ret
  exact ⟨rfl, rfl⟩

end

end Go.Proofs.Ythoopaknldkclaa

namespace Go.Proofs.Ythoopaknldkclaa
open Go.RowKit
set_option linter.unusedVariables false

theorem u64_size : (Try.prog.info? 121).map (·.size) = some 1 := by kernel_rfl

theorem u64_notAgg (w : World) : (isAgg 121).run Try.prog w = .ok false w := by simp [isAgg, run_underlying Try.underlying121]

theorem there_new (w : World) (cs : Array Value) (T : TypeId) (n : Nat) (h : n = cs.size) : (w.alloc (.cells cs T)).there w.heap.size 0 n := fun j hj => by
  rw [Nat.zero_add, World.cell?_alloc_at _ _ _ _ rfl, World.frozen?_alloc_at _ _ _ _ rfl]
  subst h
  simp [hj]

/-- the event of a permutation, in a ledger that may be none -/
abbrev kNote (r : Option (List RunT)) : Option (List RunT) := r.map fun rs => noted rs 3 200 1

section
variable {w0 w : World} {F0 : List Nat} {E : Env}

set_option maxHeartbeats 2000000 in
theorem permute_w (l : Value) (r : Option (List RunT)) (m : Nat) (b : Int) (s : List UInt64) (H : St w0 F0 w E) (i : Nat) (hi : E i = some (led l r)) (hg : LW r m b) (hm : m ≤ 1000000000000) (hb : b ≤ 4611686018427387903) (hs : s.length = 25) :
    Calls Try.prog 86 #[l, .agg (s.map u64v).toArray] w fun e w' => e = .returned (.agg ((kPerm s).map u64v).toArray) ∧ St w0 F0 w' (upd E i (led l (kNote r))) := by
  obtain ⟨F, HF, -, -, hback⟩ := H.frame1 i hi
  have HB := Lib.hid hback
  have HS := Lib.hid hs
  clear H hback hs
  go_enter Try.func86, Try.ntmps86
  go_wp2_with fail
  refine absorb_calls (HF.as1 |>.allocAt 1 rfl w.heap.size rfl _ _ |>.push_mk rfl |>.allocAt 2 rfl (w.heap.size + 1) (by simp) _ _ |>.push_mk rfl) ?_
  intro w1 H1
  clear HF
  generalize w.heap.size + 1 = g2 at H1 ⊢
  generalize w.heap.size = g1 at H1 ⊢
  refine (ledger_note_w m b 3 200 H1 0 rfl hg hm hb).mono ?_
  rintro e w2 ⟨rfl, H2⟩
  replace H2 := H2.upd_mk (by simp)
  go_wp2_with fail
  refine (constants_s _).mono ?_
  rintro e w3 ⟨rfl, hb3⟩
  have H3 := H2.call hb3
  clear H2 H1 hb3
  go_wp2
  go_loopw [14] (fun i wr => ∃ k : Nat, k ≤ 24 ∧ i = .int .i64 k ∧ St w F wr (lay [led l (kNote r), .blk g1 123 ((kPermTo s k).map u64v), .blk g2 123 ((List.replicate 25 0).map u64v)])) (fun i _ => 24 - (intOf i).toNat)
  case atStart => exact ⟨0, by omega, rfl, H3⟩
  case round =>
    clear H3
    clear hm hb hg
    obtain ⟨k, hk, rfl, Hk⟩ := hrel
    by_cases hlt : k < 24
    · have hz := u64_get (l := kConsts) (k := k) (by simpa [kConsts] using hlt)
      have hz2 := run_index_agg (P := Try.prog) 131 121 24 (kConsts.map u64v).toArray k (.int .u64 ((at64 kConsts k).toNat : Int)) Try.underlying131 u64_size u64_notAgg hlt (by simpa using hz)
      clear hz
      have hk1 : (k : Int) < 24 := by omega
      have HX : Hid ((kPermTo s k).length = 25) := by have := kPermTo_length s k; rw [HS.out] at this; exact this
      have HE : Hid (kPermTo s (k + 1) = kRound (kPermTo s k) (at64 kConsts k)) := rfl
      generalize kPermTo s k = X at *
      generalize at64 kConsts k = c at *
      go_wp2_with fail
      refine (theta_s g1 X Hk 1 rfl HX.out).mono ?_
      rintro e w4 ⟨rfl, H4⟩
      replace H4 := H4.upd_mk (by simp)
      clear Hk hz2
      have HTL : Hid ((kTheta X).length = 25) := by have := kTheta_length X; rw [HX.out] at this; exact this
      go_wp2_with (refine wpList_load_row rfl 123 (.tmp 3) rfl g1 rfl _ _ _ _ (H4.blk 1 rfl) Try.underlying123 rfl (by rw [state_size]; simp [HTL.out]) ?_)
      refine (walk_s _ HTL.out _).mono ?_
      rintro e w5 ⟨rfl, hb5⟩
      have H5 := H4.call hb5
      clear H4 hb5
      generalize hT : kTheta X = T at *
      have HT := Lib.hid hT
      clear hT
      have HBL : Hid ((kWalk T).length = 25) := kWalk_length T
      generalize hB : kWalk T = B at *
      have HBe := Lib.hid hB
      clear hB
      go_wp2_with (refine wpList_store_mid rfl 123 (.tmp 7) (.tmp 19) rfl w5.heap.size 0 (B.map u64v).toArray rfl rfl (there_new _ _ _ _ (by simp [HBL.out])) (by rw [state_size]; simp [HBL.out]) (all_oneCell_toArray (u64_one _)) ?_)
      refine absorb_wp (H5.allocAt 3 rfl w5.heap.size rfl _ _ |>.push_mk rfl |>.storeAll 3 rfl (vs := B.map u64v) (by simp [HBL.out]) |>.upd_mk (by simp)) ?_
      intro w6 H6
      clear H5
      generalize w5.heap.size = g3 at H6 ⊢
      go_loopw [20] (fun i wr => ∃ k : Nat, k ≤ 25 ∧ i = .int .i64 k ∧ St w F wr (lay [led l (kNote r), .blk g1 123 ((kChiTo B T k).map u64v), .blk g2 123 ((List.replicate 25 0).map u64v), .blk g3 123 (B.map u64v)])) (fun i _ => 25 - (intOf i).toNat)
      case atStart => exact ⟨0, by omega, rfl, H6⟩
      case round =>
        clear H6
        obtain ⟨m, hm, rfl, Hm⟩ := hrel
        by_cases hlm : m < 25
        · obtain ⟨u, hu⟩ : ∃ u, ((kChiTo B T m).map u64v)[m]? = some u := ⟨_, u64_get (by rw [kChiTo_length, HTL.out]; omega)⟩
          have a0 := Hm.cell 1 rfl hu
          have af := Hm.free 1 rfl m
          have b0 := Hm.cell 3 rfl (u64_get (k := m) (by rw [HBL.out]; omega))
          have b1 := Hm.cell 3 rfl (u64_get (k := m - m % 5 + (m + 1) % 5) (by rw [HBL.out]; omega))
          have b2 := Hm.cell 3 rfl (u64_get (k := m - m % 5 + (m + 2) % 5) (by rw [HBL.out]; omega))
          have hm1 : (m : Int) < 25 := by omega
          clear hu
          go_wp2
          refine region_quiet_tail 22 (by kernel_rfl) (by kernel_rfl) ?_
          simp only [List.take_succ_cons, List.take_zero, List.drop_succ_cons, List.drop_zero]
          repeat (go_big_quiet_step (fail))
          refine wpQuiet_nil ?_
          intro nq
          go_wp2
          go_roundw
          case rel => exact ⟨m + 1, by omega, by go_num, by rw [not64, and64, xor64]; exact by have h := ((Hm.drewN nq).store 1 rfl (o := m) (u := u64v (at64 B m ^^^ (~~~(at64 B (m - m % 5 + (m + 1) % 5)) &&& at64 B (m - m % 5 + (m + 2) % 5))))).upd_mk (by simp); rw [u64_set] at h; exact h⟩
          case measure => simp [intOf]; omega
        · obtain rfl : m = 25 := by omega
          have HCL : Hid ((kChiTo B T 25).length = 25) := by have := kChiTo_length B T 25; rw [HTL.out] at this; exact this
          have HF : Hid (kPermTo s (k + 1) = (kChiTo B T 25).set 0 (at64 (kChiTo B T 25) 0 ^^^ c)) := by
            have h := HE.out
            unfold kRound at h
            rw [HT.out, HBe.out] at h
            exact h
          clear HE
          generalize kChiTo B T 25 = D at *
          have a0 := Hm.cell 1 rfl (u64_get (k := 0) (by rw [HCL.out]; omega))
          have af := Hm.free 1 rfl 0
          go_wp2
          go_roundw
          case rel => exact ⟨k + 1, by omega, by go_num, by rw [xor64, HF.out]; exact by have h := (Hm.store 1 rfl (o := 0) (u := u64v (at64 D 0 ^^^ c))).upd_mk (by simp); rw [u64_set] at h; exact h.front 3⟩
          case measure => simp [intOf]; omega
    · obtain rfl : k = 24 := by omega
      have HPL : Hid ((kPermTo s 24).length = 25) := by have := kPermTo_length s 24; rw [HS.out] at this; exact this
      go_wp2_with (first | (refine wpList_load_row rfl 123 (.tmp 3) rfl g1 rfl _ _ _ _ (Hk.blk 1 rfl) Try.underlying123 rfl (by rw [state_size]; simp [HPL.out]) ?_) | (refine wpList_store_mid rfl 123 (.tmp 4) (.tmp 56) rfl g2 0 _ rfl rfl (by simpa [HPL.out] using Hk.there 2 rfl) (by rw [state_size]; simp [HPL.out]) (all_oneCell_toArray (u64_one _)) ?_))
      have H4 := (Hk.storeAll 2 rfl (vs := (kPermTo s 24).map u64v) (by simp [HPL.out])).upd_mk (by simp)
      exact bodyPost_ret (results_cell_row rfl _ _ g2 123 ((kPermTo s 24).map u64v).toArray _ _ rfl (H4.blk 2 rfl) Try.underlying123 rfl (by rw [state_size]; simp [HPL.out])) rfl ⟨rfl, HB.out _ _ (H4.to1 rfl)⟩

theorem permute_s (l : Value) (r : Option (List RunT)) (b : Int) (s : List UInt64) (H : St w0 F0 w E) (i : Nat) (hi : E i = some (led l r)) (hg : LGood r b) (hb : b ≤ 1000000) (hs : s.length = 25) :
    Calls Try.prog 86 #[l, .agg (s.map u64v).toArray] w fun e w' => e = .returned (.agg ((kPerm s).map u64v).toArray) ∧ St w0 F0 w' (upd E i (led l (kNote r))) :=
  permute_w l r b.toNat b s H i hi hg.lw (by omega) (by omega) hs

end

end Go.Proofs.Ythoopaknldkclaa

/- Words laid into bytes and taken out of them, in plain numbers. -/
namespace Go.Proofs.Ythoopaknldkclaa
/-- a word's n bytes, the lowest first -/
def leL (n x : Nat) : List UInt8 := (List.range n).map fun i => UInt8.ofNat (x / 256 ^ i)
def beL (n x : Nat) : List UInt8 := (leL n x).reverse
theorem leL_length (n x : Nat) : (leL n x).length = n := by simp [leL]
theorem beL_length (n x : Nat) : (beL n x).length = n := by simp [beL, leL]
theorem leL_succ (n x : Nat) : leL (n + 1) x = leL n x ++ [UInt8.ofNat (x / 256 ^ n)] := by simp [leL, List.range_succ]
theorem leL_get {n x i : Nat} (h : i < n) : (leL n x)[i]? = some (UInt8.ofNat (x / 256 ^ i)) := by simp [leL, h]
theorem beL_get {n x i : Nat} (h : i < n) : (beL n x)[i]? = some (UInt8.ofNat (x / 256 ^ (n - 1 - i))) := by
  unfold beL
  rw [List.getElem?_reverse (by rw [leL_length]; exact h), leL_length, leL_get (by omega)]
/-- the byte at a place, 0 where there is none -/
def byteAt (l : List UInt8) (at' : Int) : Nat := if 0 ≤ at' ∧ at' < l.length then (l.getD at'.toNat 0).toNat else 0
theorem byteAt_lt (l : List UInt8) (a : Int) : byteAt l a < 256 := by
  unfold byteAt; split
  · exact UInt8.toNat_lt _
  · omega
/-- the first n bytes from a place on, the highest first -/
def beTo (l : List UInt8) (a : Int) : Nat → Nat
  | 0 => 0
  | k + 1 => 256 * beTo l a k + byteAt l (a + k)
/-- the lowest first -/
def leTo (l : List UInt8) (a : Int) : Nat → Nat
  | 0 => 0
  | k + 1 => leTo l a k + byteAt l (a + k) * 256 ^ k
theorem beTo_lt (l : List UInt8) (a : Int) (k : Nat) : beTo l a k < 256 ^ k := by
  induction k with
  | zero => simp [beTo]
  | succ k ih => have := byteAt_lt l (a + k); rw [Nat.pow_succ]; unfold beTo; omega
theorem leTo_lt (l : List UInt8) (a : Int) (k : Nat) : leTo l a k < 256 ^ k := by
  induction k with
  | zero => simp [leTo]
  | succ k ih =>
    have := byteAt_lt l (a + k)
    unfold leTo
    rw [Nat.pow_succ]
    have h : (byteAt l (a + k) + 1) * 256 ^ k ≤ 256 * 256 ^ k := Nat.mul_le_mul_right _ this
    rw [Nat.add_mul, Nat.one_mul] at h
    omega
theorem byteAt_out (l : List UInt8) (a : Int) (h : a < 0 ∨ (l.length : Int) ≤ a) : byteAt l a = 0 := by
  unfold byteAt; rw [if_neg]; omega
theorem beTo_out (l : List UInt8) (a : Int) (n : Nat) (h : a + n ≤ 0 ∨ (l.length : Int) ≤ a) (k : Nat) (hk : k ≤ n) : beTo l a k = 0 := by
  induction k with
  | zero => rfl
  | succ k ih => unfold beTo; rw [ih (by omega), byteAt_out l _ (by omega)]
theorem leTo_out (l : List UInt8) (a : Int) (n : Nat) (h : a + n ≤ 0 ∨ (l.length : Int) ≤ a) (k : Nat) (hk : k ≤ n) : leTo l a k = 0 := by
  induction k with
  | zero => rfl
  | succ k ih => unfold leTo; rw [ih (by omega), byteAt_out l _ (by omega)]; omega
/-- the reference's way from the highest of n down: what it has gathered when i is still to come -/
def leDown (l : List UInt8) (a : Int) : Nat → Nat → Nat
  | _, 0 => 0
  | n, d + 1 => 256 * leDown l a n d + byteAt l (a + (n - 1 - d : Nat))
theorem leDown_eq (l : List UInt8) (a : Int) (n d : Nat) (h : d ≤ n) : leTo l a n = leTo l a (n - d) + leDown l a n d * 256 ^ (n - d) := by
  induction d with
  | zero => simp [leDown]
  | succ d ih =>
    rw [ih (by omega)]
    have e : n - d = (n - (d + 1)) + 1 := by omega
    rw [e]
    have e2 : n - 1 - d = n - (d + 1) := by omega
    rw [leDown, leTo, e2, Nat.add_mul, Nat.pow_succ, Nat.mul_comm (256 ^ (n - (d + 1))) 256, ← Nat.mul_assoc, Nat.mul_comm (leDown l a n d) 256]
    omega
theorem leDown_all (l : List UInt8) (a : Int) (n : Nat) : leDown l a n n = leTo l a n := by
  have := leDown_eq l a n n (Nat.le_refl _)
  rw [Nat.sub_self] at this
  simp [leTo] at this
  omega
theorem leDown_lt (l : List UInt8) (a : Int) (n d : Nat) : leDown l a n d < 256 ^ d := by
  induction d with
  | zero => simp [leDown]
  | succ d ih => have := byteAt_lt l (a + (n - 1 - d : Nat)); rw [Nat.pow_succ]; unfold leDown; omega
end Go.Proofs.Ythoopaknldkclaa

namespace Go.Proofs.Ythoopaknldkclaa
theorem zeros_step {l : List UInt8} {k n : Nat} {b : UInt8} (hk : k < n) (hb : l[k]? = some b) : (l.take k ++ List.replicate (n - k) 0).set k b = l.take (k + 1) ++ List.replicate (n - (k + 1)) 0 := by
  have hl : k < l.length := (List.getElem?_eq_some_iff.1 hb).1
  have e : n - k = (n - (k + 1)) + 1 := by omega
  have hm : min k l.length = k := by omega
  rw [List.set_append_right _ _ (by simp; omega), List.length_take, hm, Nat.sub_self, e, List.replicate_succ, List.set_cons_zero, List.take_add_one, hb]
  simp
end Go.Proofs.Ythoopaknldkclaa

namespace Go.Proofs.Ythoopaknldkclaa
open Go.RowKit
set_option maxRecDepth 100000
set_option linter.unusedVariables false

theorem byte_eq (x d : Nat) : (x : Int) / 2 ^ (8 * d) % 256 = ((UInt8.ofNat (x / 256 ^ d)).toNat : Int) := by
  have e : (x : Int) / 2 ^ (8 * d) = ((x / 256 ^ d : Nat) : Int) := by
    rw [show (256 : Nat) ^ d = 2 ^ (8 * d) by rw [Nat.pow_mul], Int.natCast_ediv, Int.natCast_pow]; rfl
  rw [e, UInt8.toNat_ofNat']
  rfl
theorem made_bytes {w : World} {base g n : Nat} (h : w.ownsRow base 5 1 (.slice (some ⟨g, 0, none⟩) n n) n (madeCells (Value.int .u8 0).cells (n * 1)).toList) : OwnB w base (.slice (some ⟨g, 0, none⟩) n n) (List.replicate n 0) := by
  unfold OwnB
  rw [List.length_replicate, List.map_replicate]
  rw [show (Value.int .u8 0).cells = #[.int .u8 0] from rfl, toList_madeCells_one, Nat.mul_one] at h
  exact h

end Go.Proofs.Ythoopaknldkclaa

namespace Go.Proofs.Ythoopaknldkclaa
open Go.RowKit
set_option linter.unusedVariables false

set_option maxRecDepth 100000 in
set_option maxHeartbeats 400000 in
theorem layLE_u64 (x : Nat) (w : World) (hx : x < 2 ^ 64) :
    Calls Try.prog 93 #[.int .u64 (x : Int)] w fun e w' => ∃ v, e = .returned v ∧ OwnB w' w.heap.size v (leL 8 x) ∧ Below w.heap.size w w' := by
  obtain ⟨i0, hi0, hz0, hz1, hz2⟩ := info_parts u8_info
  have HX := Lib.hid hx
  clear hx
  go_enter Try.func93, Try.ntmps93
  go_wp2_with (first | (go_at_call 101; refine (width_u64 _).mono ?_; rintro e w1 ⟨rfl, rfl⟩) | (at_make; refine wpList_make_full _ rfl (.tmp 6) (.tmp 6) 22 rfl w.heap.size 5 i0 (.int .u8 0) 1 Try.underlying22 hi0 hz0 hz1 .i64 .i64 _ _ 8 rfl rfl (by omega) (by omega) (by rw [hz2]; omega) (by simp only [maxLen]; omega) (Nat.le_refl _) ?_; intro w1 ho1 hg1))
  have ho1' := made_bytes ho1
  have hb1 : Below w.heap.size w w1 := (Below.refl _ _).grown hg1 (Nat.le_refl _) (fun _ h => by cases h)
  go_loopw [10] (fun i wr => ∃ k : Nat, k ≤ 8 ∧ i = .int .i64 k ∧ OwnB wr w.heap.size (.slice (some ⟨w.heap.size, 0, none⟩) 8 8) ((leL 8 x).take k ++ List.replicate (8 - k) 0) ∧ Below w.heap.size w wr) (fun i _ => 8 - (intOf i).toNat)
  case atStart => exact ⟨0, Nat.zero_le _, rfl, by simpa using ho1', hb1⟩
  case round =>
    clear ho1 hg1 hb1 ho1'
    obtain ⟨k, hk, rfl, ho, hbw⟩ := hrel
    by_cases hlt : k < 8
    · have hxy := leL_get (x := x) hlt
      have hst := ho.stored k (UInt8.ofNat (x / 256 ^ k))
      rw [zeros_step hlt hxy, ← byte_eq] at hst
      obtain ⟨z, -, hcz⟩ := ho.cellAt (k := k) (by simp only [List.length_append, List.length_take, leL_length, List.length_replicate]; omega)
      have hfz := ho.frozenAt k
      clear hxy
      go_wp2
      go_roundw
      case rel => exact ⟨k + 1, by omega, by go_num, hst.1, hbw.setCell (Nat.le_refl _) _⟩
      case measure => simp [intOf]; omega
    · have hkr : k = 8 := by omega
      subst hkr
      rw [Nat.sub_self, List.replicate_zero, List.append_nil, List.take_of_length_le (by rw [leL_length]; omega)] at ho
      go_wp2
      go_ret
      exact ⟨_, rfl, ho, hbw⟩

end Go.Proofs.Ythoopaknldkclaa

namespace Go.Proofs.Ythoopaknldkclaa
open Go.RowKit
set_option linter.unusedVariables false

theorem byteAt_in {l : List UInt8} {a : Int} {k : Nat} {x : UInt8} (ha : a = (k : Int)) (hx : l[k]? = some x) : byteAt l a = x.toNat := by
  obtain ⟨hk, rfl⟩ := List.getElem?_eq_some_iff.1 hx
  unfold byteAt
  rw [if_pos (by omega)]
  subst ha
  simp [List.getElem?_eq_getElem hk]

theorem within_yes (A : Option Addr) (n c N : Nat) (a : Int) (w : World) (hN : N ≤ 8) (h1 : -(N : Int) < a) (h2 : a < n) :
    Calls Try.prog 103 #[.slice A n c, .int .i64 a, .int .i64 (N : Int)] w fun e w' => e = .returned (.bool true) ∧ w = w' := by
  go_enter Try.func103, Try.ntmps103
  go_wp2
  go_ret
  exact ⟨by simp, rfl⟩
theorem within_no (A : Option Addr) (n c N : Nat) (a : Int) (w : World) (hN : N ≤ 8) (h : a ≤ -(N : Int) ∨ (n : Int) ≤ a) :
    Calls Try.prog 103 #[.slice A n c, .int .i64 a, .int .i64 (N : Int)] w fun e w' => e = .returned (.bool false) ∧ w = w' := by
  by_cases h1 : a ≤ -(N : Int)
  · go_enter Try.func103, Try.ntmps103
    go_wp2
    go_ret
    exact ⟨rfl, rfl⟩
  · have h2 : (n : Int) ≤ a := by omega
    go_enter Try.func103, Try.ntmps103
    go_wp2
    go_ret
    exact ⟨by simp; exact h2, rfl⟩
end Go.Proofs.Ythoopaknldkclaa

namespace Go.Proofs.Ythoopaknldkclaa
open Go.RowKit
set_option linter.unusedVariables false

theorem or_le_nat {y x k : Nat} (hy : y < 256 ^ k) : y ||| (x * 256 ^ k) = y + x * 256 ^ k := by
  have e : 256 ^ k = 2 ^ (8 * k) := by rw [Nat.pow_mul]
  rw [e] at hy ⊢
  rw [Nat.or_comm, Nat.mul_comm x, ← Nat.two_pow_add_eq_or_of_lt hy]
  omega
theorem or_le_32 {y x k : Nat} (hk : k < 4) (hy : y < 256 ^ k) (hx : x ≤ 255) : bits .or .u32 (y : Int) ((x : Int) * 2 ^ (8 * k) % 4294967296) = ((y + x * 256 ^ k : Nat) : Int) := by
  have e : 256 ^ k = 2 ^ (8 * k) := by rw [Nat.pow_mul]
  have hp : 256 ^ (k + 1) ≤ 256 ^ 4 := Nat.pow_le_pow_right (by omega) (by omega)
  rw [Nat.pow_succ] at hp
  have hm : x * 256 ^ k ≤ 255 * 256 ^ k := Nat.mul_le_mul_right _ hx
  have hB : (256 : Nat) ^ 4 = 4294967296 := by decide
  rw [hB] at hp
  have e2 : (x : Int) * 2 ^ (8 * k) = ((x * 256 ^ k : Nat) : Int) := by rw [e, Int.natCast_mul, Int.natCast_pow]; rfl
  rw [e2, Int.emod_eq_of_lt (by omega) (by omega), u32_or_nat _ _ (by omega) (by omega), or_le_nat hy]
theorem or_le_64 {y x k : Nat} (hk : k < 8) (hy : y < 256 ^ k) (hx : x ≤ 255) : bits .or .u64 (y : Int) (IntKind.u64.wrap ((x : Int) * 2 ^ (8 * k))) = ((y + x * 256 ^ k : Nat) : Int) := by
  have e : 256 ^ k = 2 ^ (8 * k) := by rw [Nat.pow_mul]
  have hp : 256 ^ (k + 1) ≤ 256 ^ 8 := Nat.pow_le_pow_right (by omega) (by omega)
  rw [Nat.pow_succ] at hp
  have hm : x * 256 ^ k ≤ 255 * 256 ^ k := Nat.mul_le_mul_right _ hx
  have hB : (256 : Nat) ^ 8 = 18446744073709551616 := by decide
  rw [hB] at hp
  have e2 : (x : Int) * 2 ^ (8 * k) = ((x * 256 ^ k : Nat) : Int) := by rw [e, Int.natCast_mul, Int.natCast_pow]; rfl
  rw [e2, IntWalk.u64_in _ (by omega), u64_or_nat _ _ (by omega) (by omega), or_le_nat hy]

set_option maxRecDepth 20000 in
set_option maxHeartbeats 400000 in
theorem takeLE_u64 (A : Option Addr) (n c : Nat) (l : List UInt8) (a : Int) (w : World) (h : Rd w 1 A n (l.map vb)) (hn : n ≤ 140737488355328) :
    Calls Try.prog 97 #[.slice A n c, .int .i64 a] w fun e w' => e = .returned (.int .u64 (leTo l a 8 : Nat)) ∧ w = w' := by
  have hl : l.length = n := by simpa using h.1
  have HL := Lib.hid hl
  clear hl
  by_cases hin : -(8 : Int) < a ∧ a < n
  · obtain ⟨hin1, hin2⟩ := hin
    go_enter Try.func97, Try.ntmps97
    go_wp2_with (first | (go_at_call 101; refine (width_u64 _).mono ?_; rintro e w1 ⟨rfl, rfl⟩) | (go_at_call 103; refine (within_yes A n c 8 a _ (by omega) (by omega) hin2).mono ?_; rintro e w1 ⟨rfl, rfl⟩))
    go_loop [5, 17] (fun y i => ∃ k : Nat, k ≤ 8 ∧ i = .int .i64 k ∧ y = .int .u64 (leTo l a k : Nat)) (fun _ i => 8 - (intOf i).toNat)
    case atStart => exact ⟨0, Nat.zero_le _, rfl, rfl⟩
    case round =>
      obtain ⟨k, hk, rfl, rfl⟩ := hrel
      by_cases hlt : k < 8
      · have hb := leTo_lt l a k
        have hp : 256 ^ k ≤ 72057594037927936 := Nat.le_trans (Nat.pow_le_pow_right (by omega) (show k ≤ 7 by omega)) (by decide)
        have hs : leTo l a (k + 1) = leTo l a k + byteAt l (a + k) * 256 ^ k := rfl
        have hb' : ((leTo l a k : Nat) : Int) ≤ 72057594037927935 := by omega
        have HS := Lib.hid hs
        have HB := Lib.hid hb
        clear hs hp hb
        by_cases h0 : a + k < 0
        · have hz : byteAt l (a + k) = 0 := byteAt_out l _ (.inl h0)
          have HZ := Lib.hid hz
          clear hz
          go_wp2
          go_round
          case rel => exact ⟨k + 1, by omega, by go_num, by rw [HS.out, HZ.out, Nat.zero_mul]; go_num⟩
          case measure => simp [intOf]; omega
        · by_cases h1 : a + k < n
          · obtain ⟨j, hj⟩ := Int.eq_ofNat_of_zero_le (by omega : 0 ≤ a + k)
            obtain ⟨p, x, rfl, hx, hc⟩ := h.byteAt (show j < n by omega)
            have hz : byteAt l (a + k) = x.toNat := byteAt_in hj hx
            have HZ := Lib.hid hz
            clear hz hx
            have hxb : (x.toNat : Int) ≤ 255 := by have := x.toNat_lt; omega
            have hjn : (j : Int) < n := by omega
            clear h0 h1
            go_wp2
            go_round
            case rel => exact ⟨k + 1, by omega, by go_num, by rw [HS.out, HZ.out, or_le_64 hlt HB.out (by omega)]⟩
            case measure => simp [intOf]; omega
          · have hz : byteAt l (a + k) = 0 := byteAt_out l _ (.inr (by have := HL.out; omega))
            have HZ := Lib.hid hz
            clear hz
            go_wp2
            go_round
            case rel => exact ⟨k + 1, by omega, by go_num, by rw [HS.out, HZ.out, Nat.zero_mul]; go_num⟩
            case measure => simp [intOf]; omega
      · have hkN : k = 8 := by omega
        subst hkN
        go_wp2
        go_ret
        exact ⟨rfl, rfl⟩
  · have hout : a + 8 ≤ 0 ∨ (l.length : Int) ≤ a := by have := HL.out; omega
    have hz := leTo_out l a 8 hout 8 (Nat.le_refl _)
    have HZ := Lib.hid hz
    have hno : a ≤ -((8 : Nat) : Int) ∨ (n : Int) ≤ a := by omega
    clear hz hout hin
    go_enter Try.func97, Try.ntmps97
    go_wp2_with (first | (go_at_call 101; refine (width_u64 _).mono ?_; rintro e w1 ⟨rfl, rfl⟩) | (go_at_call 103; refine (within_no A n c 8 a _ (by omega) hno).mono ?_; rintro e w1 ⟨rfl, rfl⟩))
    go_ret
    exact ⟨ret_int (by rw [HZ.out]; rfl), rfl⟩

end Go.Proofs.Ythoopaknldkclaa

namespace Go.Proofs.Ythoopaknldkclaa
open Go.RowKit
set_option linter.unusedVariables false

def kBytesTo (s : List UInt64) (k : Nat) : List UInt8 := (s.take k).flatMap (fun x => leL 8 x.toNat) ++ List.replicate (200 - 8 * k) 0
def kBytes (s : List UInt64) : List UInt8 := s.flatMap fun x => leL 8 x.toNat
def kFromTo (b : List UInt8) (k : Nat) : List UInt64 := (List.range k).map (fun (i : Nat) => UInt64.ofNat (leTo b (8 * i) 8)) ++ List.replicate (25 - k) 0
def kFrom (b : List UInt8) : List UInt64 := (List.range 25).map fun (i : Nat) => UInt64.ofNat (leTo b (8 * i) 8)
theorem flat_len (s : List UInt64) : (s.flatMap fun x => leL 8 x.toNat).length = 8 * s.length := by
  induction s with
  | nil => rfl
  | cons a s ih => rw [List.flatMap_cons, List.length_append, ih, leL_length, List.length_cons]; omega
theorem kBytesTo_length (s : List UInt64) (k : Nat) (hs : s.length = 25) (hk : k ≤ 25) : (kBytesTo s k).length = 200 := by
  unfold kBytesTo; rw [List.length_append, flat_len, List.length_take, List.length_replicate]; omega
theorem kBytesTo_succ (s : List UInt64) (k : Nat) (hs : s.length = 25) (hk : k < 25) : splice ((kBytesTo s k).map vb) (8 * k) ((leL 8 (at64 s k).toNat).map vb) = (kBytesTo s (k + 1)).map vb := by
  have hl : ((s.take k).flatMap (fun x => leL 8 x.toNat)).length = 8 * k := by rw [flat_len, List.length_take]; omega
  unfold splice
  rw [List.length_map, leL_length, ← List.map_take, ← List.map_drop, ← List.map_append, ← List.map_append]
  congr 1
  unfold kBytesTo
  rw [List.take_append_of_le_length (by omega), List.take_of_length_le (by omega), List.drop_append, List.drop_of_length_le (by omega), hl, List.nil_append,
    List.take_add_one, List.getElem?_eq_getElem (by omega), List.flatMap_append, List.append_assoc]
  congr 1
  simp [at64, hs, hk]
  omega
theorem kBytesTo_end (s : List UInt64) (hs : s.length = 25) : kBytesTo s 25 = kBytes s := by
  unfold kBytesTo kBytes
  rw [List.take_of_length_le (by omega)]; simp
theorem heap_alloc3 (w : World) (A B C : Obj) : (((w.alloc A).alloc B).alloc C).heap[w.heap.size]? = some A := by
  rw [heap_alloc_old _ _ (by simp; omega), heap_alloc_old _ _ (by simp), heap_alloc_new]
def zb (n : Nat) : List Value := List.replicate n (.int .u8 0)
theorem zb_length (n : Nat) : (zb n).length = n := by simp [zb]
theorem zero_bytes (w : World) : (zeroValue 109).run Try.prog w = .ok (.agg (zb 200).toArray) w := by kernel_rfl
theorem kBytesTo_zero (s : List UInt64) : (kBytesTo s 0).map vb = zb 200 := by
  unfold kBytesTo zb; rw [List.take_zero, List.flatMap_nil, List.nil_append, List.map_replicate]; rfl
theorem bytes_size : (Try.prog.info? 109).map (·.size) = some 200 := by kernel_rfl
theorem u8_size : (Try.prog.info? 5).map (·.size) = some 1 := by kernel_rfl

set_option maxRecDepth 100000 in
set_option maxHeartbeats 2000000 in
theorem bytes_s (s : List UInt64) (hs : s.length = 25) (w : World) :
    Calls Try.prog 85 #[.agg (s.map u64v).toArray] w fun e w' => e = .returned (.agg ((kBytes s).map vb).toArray) ∧ Below w.heap.size w w' := by
  have HS := Lib.hid hs
  have HE := Lib.hid (kBytesTo_end s hs)
  clear hs
  go_enter Try.func85, Try.ntmps85
  have hz0 := zero_bytes
  go_wp2_with (refine wpList_load_row rfl 123 (.tmp 1) rfl w.heap.size rfl 123 (s.map u64v).toArray (0, 0) _ (heap_alloc3 _ _ _ _) Try.underlying123 rfl (by rw [state_size]; simp [HS.out]) ?_)
  clear hz0
  refine absorb_wp (St.start_lay w [] |>.allocAt 0 rfl w.heap.size rfl _ _ |>.push_mk rfl |>.allocAt 1 rfl (w.heap.size + 1) (by simp) _ _ |>.push_mk rfl |>.allocAt 2 rfl (w.heap.size + 1 + 1) (by simp) _ _ |>.push_mk rfl) ?_
  intro w3 H3
  generalize w.heap.size + 1 + 1 = g3 at H3 ⊢
  generalize w.heap.size + 1 = g2 at H3 ⊢
  generalize w.heap.size = g1 at H3 ⊢
  go_loopw [7] (fun i wr => ∃ k : Nat, k ≤ 25 ∧ i = .int .i64 k ∧ St w [] wr (lay [.blk g1 123 (s.map u64v), .blk g2 109 (zb 200), .blk g3 109 ((kBytesTo s k).map vb)])) (fun i _ => 25 - (intOf i).toNat)
  case atStart => exact ⟨0, by omega, rfl, by rw [kBytesTo_zero]; exact H3⟩
  case round =>
    clear H3
    obtain ⟨k, hk, rfl, Hk⟩ := hrel
    by_cases hlt : k < 25
    · have hz := u64_get (l := s) (k := k) (by rw [HS.out]; exact hlt)
      have hz2 := run_index_agg (P := Try.prog) 123 121 25 (s.map u64v).toArray k (.int .u64 ((at64 s k).toNat : Int)) Try.underlying123 u64_size u64_notAgg hlt (by simpa using hz)
      have HL : Hid ((kBytesTo s k).length = 200) := kBytesTo_length s k HS.out (by omega)
      have HN := Lib.hid (kBytesTo_succ s k HS.out hlt)
      clear hz
      have hk1 : (k : Int) < 25 := by omega
      go_wp2
      clear hz2
      generalize at64 s k = x at *
      have hk2 : IntKind.i64.wrap (8 * (k : Int)) = 8 * (k : Int) := IntWalk.i64_in _ (by omega)
      have hk3 : (0 : Int) ≤ 8 * (k : Int) := by omega
      have hk4 : 8 * (k : Int) ≤ 200 := by omega
      have hk5 : (8 * (k : Int)).toNat = 8 * k := by omega
      go_region_held3 (fun _ => True) (trivial) ((first | (go_at_call 93; refine (layLE_u64 x.toNat _ x.toNat_lt).mono ?_; rintro e w4 ⟨v4, rfl, ho4, hb4⟩; obtain ⟨A4, n4, c4, rfl, hn4, hr4⟩ := ho4.shape; obtain rfl : n4 = 8 := (by rw [hn4.out, leL_length]); obtain ⟨ad4, rfl, -, hs4⟩ := hr4.2 (by omega)) | (refine step_copy_st rfl (.tmp 13) (.tmp 15) _ _ rfl 5 Try.underlying22 u8_size _ _ _ _ _ _ (by rfl) (by rfl) ((Hk.drew).call hb4) 2 g3 (8 * k) _ _ (by rfl) ((leL 8 x.toNat).map vb) (by rw [List.length_map, leL_length]; show 8 = min 8 (200 - 8 * k); omega) (fun _ => ⟨by rfl, ad4, by rfl, hs4⟩) (by rw [List.length_map, List.length_map, HL.out, leL_length]; omega) (vb_one _) ?_; intro w5 H5)))
      go_wp2
      go_roundw
      case rel => exact ⟨k + 1, by omega, by go_num, by have h := H5.upd_mk (by simp); rw [HN.out] at h; exact h⟩
      case measure => simp [intOf]; omega
    · obtain rfl : k = 25 := by omega
      have HL : Hid ((kBytesTo s 25).length = 200) := kBytesTo_length s 25 HS.out (by omega)
      go_wp2_with (first | (refine wpList_load_row rfl 109 (.tmp 3) rfl g3 rfl _ _ _ _ (Hk.blk 2 rfl) Try.underlying109 rfl (by rw [bytes_size]; simp [HL.out]) ?_) | (refine wpList_store_mid rfl 109 (.tmp 2) (.tmp 18) rfl g2 0 _ rfl rfl (by have h := Hk.there 1 rfl; simpa [HL.out, zb_length] using h) (by rw [bytes_size]; simp [HL.out]) (all_oneCell_toArray (vb_one _)) ?_))
      have H4 := (Hk.storeAll 1 rfl (vs := (kBytesTo s 25).map vb) (by simp [HL.out, zb_length])).upd_mk (by simp)
      exact bodyPost_ret (results_cell_row rfl _ _ g2 109 ((kBytesTo s 25).map vb).toArray _ _ rfl (H4.blk 1 rfl) Try.underlying109 rfl (by rw [bytes_size]; simp [HL.out])) rfl ⟨by rw [HE.out], H4.below⟩
end Go.Proofs.Ythoopaknldkclaa

namespace Go.Proofs.Ythoopaknldkclaa
open Go.RowKit
set_option linter.unusedVariables false

theorem kFromTo_length (b : List UInt8) (k : Nat) (hk : k ≤ 25) : (kFromTo b k).length = 25 := by simp [kFromTo]; omega
theorem kFromTo_succ (b : List UInt8) (k : Nat) (hk : k < 25) : (kFromTo b k).set k (UInt64.ofNat (leTo b (8 * k) 8)) = kFromTo b (k + 1) := by
  unfold kFromTo
  rw [List.set_append_right _ _ (by simp), List.range_succ, List.map_append, List.append_assoc, show 25 - k = (25 - (k + 1)) + 1 by omega, List.replicate_succ]
  simp
theorem kFrom_length (b : List UInt8) : (kFrom b).length = 25 := by simp [kFrom]
theorem kFromTo_end (b : List UInt8) : kFromTo b 25 = kFrom b := by simp [kFromTo, kFrom]
theorem le_back (b : List UInt8) (a : Int) : ((UInt64.ofNat (leTo b a 8)).toNat : Int) = ((leTo b a 8 : Nat) : Int) := by
  have h := leTo_lt b a 8
  rw [UInt64.toNat_ofNat', Nat.mod_eq_of_lt (by simpa using h)]
theorem takeLE_q (A : Option Addr) (n c : Nat) (b : List UInt8) (a : Int) (w : World) (y : UInt64) (h : Rd w 1 A n (b.map vb)) (hn : n ≤ 140737488355328) (hy : Hid (UInt64.ofNat (leTo b a 8) = y)) :
    Calls Try.prog 97 #[.slice A n c, .int .i64 a] w fun e w' => e = .returned (.int .u64 (y.toNat : Int)) ∧ w = w' := by
  refine (takeLE_u64 A n c b a w h hn).mono ?_
  rintro e w' ⟨rfl, rfl⟩
  rw [← hy.out, le_back]
  exact ⟨rfl, rfl⟩
theorem St.blkRd {w0 w : World} {F0 : List Nat} {E : Env} {g n : Nat} {T : TypeId} {cs : List Value} (H : St w0 F0 w E) (k : Nat) (hk : E k = some (.blk g T cs)) (hn : cs.length = n) : Rd w 1 (some ⟨g, 0, none⟩) n cs :=
  ⟨by omega, fun _ => ⟨_, rfl, H.lt k hk, fun j u hu => by rw [Addr.add_mid, Nat.zero_add]; exact H.cell k hk hu⟩⟩

set_option maxHeartbeats 2000000 in
theorem from_s (b : List UInt8) (hb : b.length = 200) (w : World) :
    Calls Try.prog 87 #[.agg (b.map vb).toArray] w fun e w' => e = .returned (.agg ((kFrom b).map u64v).toArray) ∧ Below w.heap.size w w' := by
  have HS := Lib.hid hb
  have HE := Lib.hid (kFromTo_end b)
  clear hb
  go_enter Try.func87, Try.ntmps87
  go_wp2
  refine absorb_wp (St.start_lay w [] |>.allocAt 0 rfl w.heap.size rfl _ _ |>.push_mk rfl |>.allocAt 1 rfl (w.heap.size + 1) (by simp) _ _ |>.push_mk rfl |>.allocAt 2 rfl (w.heap.size + 1 + 1) (by simp) _ _ |>.push_mk rfl) ?_
  intro w3 H3
  generalize w.heap.size + 1 + 1 = g3 at H3 ⊢
  generalize w.heap.size + 1 = g2 at H3 ⊢
  generalize w.heap.size = g1 at H3 ⊢
  go_loopw [5] (fun i wr => ∃ k : Nat, k ≤ 25 ∧ i = .int .i64 k ∧ St w [] wr (lay [.blk g1 109 (b.map vb), .blk g2 123 ((List.replicate 25 0).map u64v), .blk g3 123 ((kFromTo b k).map u64v)])) (fun i _ => 25 - (intOf i).toNat)
  case atStart => exact ⟨0, by omega, rfl, H3⟩
  case round =>
    clear H3
    obtain ⟨k, hk, rfl, Hk⟩ := hrel
    by_cases hlt : k < 25
    · have HL : Hid ((kFromTo b k).length = 25) := kFromTo_length b k (by omega)
      obtain ⟨y, hy, HN⟩ : ∃ y : UInt64, Hid (UInt64.ofNat (leTo b (8 * k) 8) = y) ∧ Hid ((kFromTo b k).set k y = kFromTo b (k + 1)) := ⟨_, rfl, kFromTo_succ b k hlt⟩
      have hk1 : (k : Int) < 25 := by omega
      obtain ⟨u, hu⟩ : ∃ u, ((kFromTo b k).map u64v)[k]? = some u := ⟨_, u64_get (by rw [HL.out]; omega)⟩
      have a0 := Hk.cell 2 rfl hu
      have af := Hk.free 2 rfl k
      clear hu
      go_wp2_with fail
      refine (takeLE_q _ _ _ b _ _ y (Hk.blkRd 0 rfl (by rw [List.length_map, HS.out])) (by omega) hy).mono ?_
      rintro e w4 ⟨rfl, rfl⟩
      go_wp2
      go_roundw
      case rel => exact ⟨k + 1, by omega, by go_num, by have h := (Hk.store 2 rfl (o := k) (u := u64v y)).upd_mk (by simp); rw [u64_set, HN.out] at h; exact h⟩
      case measure => simp [intOf]; omega
    · obtain rfl : k = 25 := by omega
      have HL : Hid ((kFromTo b 25).length = 25) := kFromTo_length b 25 (by omega)
      go_wp2_with (first | (refine wpList_load_row rfl 123 (.tmp 3) rfl g3 rfl _ _ _ _ (Hk.blk 2 rfl) Try.underlying123 rfl (by rw [state_size]; simp [HL.out]) ?_) | (refine wpList_store_mid rfl 123 (.tmp 2) (.tmp 15) rfl g2 0 _ rfl rfl (by have h := Hk.there 1 rfl; simpa [HL.out] using h) (by rw [state_size]; simp [HL.out]) (all_oneCell_toArray (u64_one _)) ?_))
      have H4 := (Hk.storeAll 1 rfl (vs := (kFromTo b 25).map u64v) (by simp [HL.out])).upd_mk (by simp)
      exact bodyPost_ret (results_cell_row rfl _ _ g2 123 ((kFromTo b 25).map u64v).toArray _ _ rfl (H4.blk 1 rfl) Try.underlying123 rfl (by rw [state_size]; simp [HL.out])) rfl ⟨by rw [HE.out], H4.below⟩
end Go.Proofs.Ythoopaknldkclaa

namespace Go.Proofs.Ythoopaknldkclaa
open Go.RowKit
set_option linter.unusedVariables false
set_option maxRecDepth 100000

def permB (b : List UInt8) : List UInt8 := kBytes (kPerm (kFrom b))

theorem permB_length (b : List UInt8) : (permB b).length = 200 := by
  unfold permB kBytes kPerm; rw [flat_len, kPermTo_length, kFrom_length]

attribute [local irreducible] permB kBytes kPerm kFrom

structure Sp where
  b : List UInt8
  r : Nat
  f : UInt8
  p : Nat
  s : Bool

structure Sp.Ok (x : Sp) : Prop where
  hb : x.b.length = 200
  r8 : 8 ≤ x.r
  r192 : x.r ≤ 192
  pr : x.p ≤ x.r
  op : x.s = false → x.p < x.r

def Sp.vs (x : Sp) : List Value := x.b.map vb ++ [.int .i64 x.r, .int .u8 (x.f.toNat : Int), .int .i64 x.p, .bool x.s]

def Sp.vsR (x : Sp) : List Value := x.b.map vb ++ [.int .i64 x.r, .int .u8 (x.f.toNat : Int), .int .i64 x.p, .bool x.s, .bool false]

def Sp.new (r : Nat) (f : UInt8) : Sp := ⟨List.replicate 200 0, r, f, 0, false⟩

theorem Sp.new_ok (r : Nat) (f : UInt8) (h : 8 ≤ r) (h' : r ≤ 192) : (Sp.new r f).Ok := ⟨by show (List.replicate 200 (0 : UInt8)).length = 200; rw [List.length_replicate], h, h', Nat.zero_le _, fun _ => by show 0 < r; omega⟩

def Sp.perm (x : Sp) : Sp := ⟨permB x.b, x.r, x.f, 0, x.s⟩

def xorAt (b : List UInt8) (k : Nat) (c : UInt8) : List UInt8 := b.set k (b.getD k 0 ^^^ c)

theorem xorAt_length (b : List UInt8) (k : Nat) (c : UInt8) : (xorAt b k c).length = b.length := by simp [xorAt]

def Sp.lay (x : Sp) (c : UInt8) : Sp := ⟨xorAt x.b x.p c, x.r, x.f, x.p + 1, x.s⟩

def Sp.put (x : Sp) (c : UInt8) : Sp := if x.p + 1 = x.r then (x.lay c).perm else x.lay c

def Sp.write (x : Sp) (l : List UInt8) : Sp := l.foldl Sp.put x

def Sp.ends (x : Sp) : Sp := ⟨xorAt (xorAt x.b x.p x.f) (x.r - 1) 128, x.r, x.f, x.p, x.s⟩

def Sp.close (x : Sp) : Sp := ⟨permB x.ends.b, x.r, x.f, 0, true⟩

def Sp.turn (x : Sp) : Sp := if x.p = x.r then x.perm else x

def Sp.go (x : Sp) (k : Nat) : Sp := ⟨x.b, x.r, x.f, x.p + k, x.s⟩

def Sp.get (x : Sp) : UInt8 := x.turn.b.getD x.turn.p 0

def Sp.after (x : Sp) : Nat → Sp
  | 0 => x
  | n + 1 => (x.after n).turn.go 1

def Sp.read (x : Sp) (n : Nat) : List UInt8 := (List.range n).map fun i => (x.after i).get

theorem Sp.write_nil (x : Sp) : x.write [] = x := rfl

theorem Sp.write_append (x : Sp) (l m : List UInt8) : x.write (l ++ m) = (x.write l).write m := List.foldl_append

theorem Sp.write_snoc (x : Sp) (l : List UInt8) (c : UInt8) : x.write (l ++ [c]) = (x.write l).put c := by rw [Sp.write_append]; rfl

theorem Sp.write_succ (x : Sp) {l : List UInt8} {k : Nat} {c : UInt8} (h : l[k]? = some c) : x.write (l.take (k + 1)) = (x.write (l.take k)).put c := by
  rw [List.take_add_one, h, Option.toList_some, Sp.write_snoc]

theorem Sp.put_eq (x : Sp) (c : UInt8) : x.put c = if x.p + 1 = x.r then (x.lay c).perm else x.lay c := rfl

theorem Sp.put_yes {x : Sp} (c : UInt8) (h : x.p + 1 = x.r) : x.put c = (x.lay c).perm := if_pos h

theorem Sp.put_no {x : Sp} (c : UInt8) (h : ¬ x.p + 1 = x.r) : x.put c = x.lay c := if_neg h

theorem Sp.put_r (x : Sp) (c : UInt8) : (x.put c).r = x.r ∧ (x.put c).f = x.f ∧ (x.put c).s = x.s := by
  by_cases h : x.p + 1 = x.r
  · rw [Sp.put_yes c h]; exact ⟨rfl, rfl, rfl⟩
  · rw [Sp.put_no c h]; exact ⟨rfl, rfl, rfl⟩

theorem Sp.write_r (l : List UInt8) : ∀ x : Sp, (x.write l).r = x.r ∧ (x.write l).f = x.f ∧ (x.write l).s = x.s := by
  induction l with
  | nil => intro x; exact ⟨rfl, rfl, rfl⟩
  | cons c l ih =>
    intro x
    obtain ⟨h1, h2, h3⟩ := ih (x.put c)
    obtain ⟨k1, k2, k3⟩ := Sp.put_r x c
    exact ⟨h1.trans k1, h2.trans k2, h3.trans k3⟩

theorem Sp.put_ok {x : Sp} (h : x.Ok) (c : UInt8) (hp : x.p < x.r) : (x.put c).Ok ∧ (x.put c).p < (x.put c).r := by
  by_cases he : x.p + 1 = x.r
  · rw [Sp.put_yes c he]
    have := h.r8
    exact ⟨⟨permB_length _, h.r8, h.r192, Nat.zero_le _, fun _ => by show 0 < x.r; omega⟩, by show 0 < x.r; omega⟩
  · rw [Sp.put_no c he]
    have h1 : x.p + 1 < x.r := by omega
    exact ⟨⟨by show (xorAt _ _ _).length = 200; rw [xorAt_length]; exact h.hb, h.r8, h.r192, by show x.p + 1 ≤ x.r; omega, fun _ => h1⟩, h1⟩

theorem Sp.write_ok (l : List UInt8) : ∀ {x : Sp}, x.Ok → x.p < x.r → (x.write l).Ok ∧ (x.write l).p < (x.write l).r := by
  induction l with
  | nil => intro x h hp; exact ⟨h, hp⟩
  | cons c l ih => intro x h hp; have := Sp.put_ok h c hp; exact ih this.1 this.2

theorem Sp.put_p (x : Sp) (c : UInt8) (hp : x.p < x.r) : (x.put c).p = (x.p + 1) % x.r := by
  by_cases h : x.p + 1 = x.r
  · rw [Sp.put_yes c h, h, Nat.mod_self]; rfl
  · rw [Sp.put_no c h, Nat.mod_eq_of_lt (by omega)]; rfl

theorem Sp.write_p (l : List UInt8) : ∀ {x : Sp}, x.p < x.r → (x.write l).p = (x.p + l.length) % x.r := by
  induction l with
  | nil => intro x hp; rw [Sp.write_nil, List.length_nil, Nat.add_zero, Nat.mod_eq_of_lt hp]
  | cons c l ih =>
    intro x hp
    have h1 := Sp.put_p x c hp
    have h2 := (Sp.put_r x c).1
    have h3 : (x.put c).p < (x.put c).r := by rw [h1, h2]; exact Nat.mod_lt _ (by omega)
    have h4 := ih h3
    rw [h1, h2] at h4
    show ((x.put c).write l).p = _
    rw [h4, List.length_cons, Nat.mod_add_mod]
    congr 1; omega

/-- how often a sponge is permuted: step by step -/
theorem count_succ (p r k : Nat) (hr : 0 < r) : (p + (k + 1)) / r = (p + k) / r + (if (p + k) % r + 1 = r then 1 else 0) := by
  have h1 := Nat.div_add_mod (p + k) r
  have h2 := Nat.mod_lt (p + k) hr
  split
  · rename_i h
    have : p + (k + 1) = r * ((p + k) / r + 1) := by rw [Nat.mul_add, Nat.mul_one]; omega
    rw [this, Nat.mul_div_cancel_left _ hr]
  · rename_i h
    have : p + (k + 1) = ((p + k) % r + 1) + r * ((p + k) / r) := by omega
    rw [this, Nat.add_mul_div_left _ _ hr, Nat.div_eq_of_lt (by omega)]
    omega

section
variable (b : List UInt8) (xs : List Value)

theorem sp_get {k : Nat} (j : Nat) (hb : b.length = 200) (hk : k = 200 + j) : (b.map vb ++ xs)[k]? = xs[j]? := by
  subst hk
  rw [List.getElem?_append_right (by simp [hb]), List.length_map, hb, Nat.add_sub_cancel_left]

theorem sp_at {k : Nat} (hb : b.length = 200) (hk : k < 200) : (b.map vb ++ xs)[k]? = some (vb (b.getD k 0)) := by
  rw [List.getElem?_append_left (by simp [hb]; exact hk), List.getElem?_map, List.getElem?_eq_getElem (by rw [hb]; exact hk)]
  simp [List.getD_eq_getElem?_getD, List.getElem?_eq_getElem (show k < b.length by rw [hb]; exact hk)]

theorem sp_set {k : Nat} (c : UInt8) (hb : b.length = 200) (hk : k < 200) : (b.map vb ++ xs).set k (vb c) = (b.set k c).map vb ++ xs := by
  rw [List.set_append_left _ _ (by simp [hb]; exact hk), List.map_set]

theorem sp_put {k : Nat} (j : Nat) (u : Value) (hb : b.length = 200) (hk : k = 200 + j) : (b.map vb ++ xs).set k u = b.map vb ++ xs.set j u := by
  subst hk
  rw [List.set_append_right _ _ (by simp [hb]), List.length_map, hb, Nat.add_sub_cancel_left]

theorem sp_front (B : List UInt8) (hb : b.length = 200) (hB : B.length = 200) : (b.map vb ++ xs).take 0 ++ B.map vb ++ (b.map vb ++ xs).drop (0 + (B.map vb).length) = B.map vb ++ xs := by
  rw [List.take_zero, List.nil_append, List.length_map, hB, Nat.zero_add, List.drop_left' (by rw [List.length_map, hb])]

end

theorem Sp.cells {x : Sp} (hb : x.b.length = 200) : x.vs[200]? = some (.int .i64 x.r) ∧ x.vs[201]? = some (.int .u8 (x.f.toNat : Int)) ∧ x.vs[202]? = some (.int .i64 x.p) ∧ x.vs[203]? = some (.bool x.s) :=
  ⟨(sp_get x.b _ 0 hb rfl).trans rfl, (sp_get x.b _ 1 hb rfl).trans rfl, (sp_get x.b _ 2 hb rfl).trans rfl, (sp_get x.b _ 3 hb rfl).trans rfl⟩

theorem Sp.cellsR {x : Sp} (hb : x.b.length = 200) : x.vsR[200]? = some (.int .i64 x.r) ∧ x.vsR[201]? = some (.int .u8 (x.f.toNat : Int)) ∧ x.vsR[202]? = some (.int .i64 x.p) ∧ x.vsR[203]? = some (.bool x.s) ∧ x.vsR[204]? = some (.bool false) :=
  ⟨(sp_get x.b _ 0 hb rfl).trans rfl, (sp_get x.b _ 1 hb rfl).trans rfl, (sp_get x.b _ 2 hb rfl).trans rfl, (sp_get x.b _ 3 hb rfl).trans rfl, (sp_get x.b _ 4 hb rfl).trans rfl⟩

theorem Sp.vs_length {x : Sp} (hb : x.b.length = 200) : x.vs.length = 204 := by unfold Sp.vs; rw [List.length_append, List.length_map, hb]; rfl

theorem Sp.vsR_length {x : Sp} (hb : x.b.length = 200) : x.vsR.length = 205 := by unfold Sp.vsR; rw [List.length_append, List.length_map, hb]; rfl

theorem xor8 (a b : UInt8) : UInt8.ofNat (a.toNat ^^^ b.toNat) = a ^^^ b := by
  apply UInt8.toNat_inj.1; rw [UInt8.toNat_xor, UInt8.toNat_ofNat']; exact Nat.mod_eq_of_lt (Nat.xor_lt_two_pow a.toNat_lt b.toNat_lt)

section
variable {w0 w : World} {F0 : List Nat} {E : Env}

theorem St.storeMid {g : Nat} {T : TypeId} {cs vs : List Value} (H : St w0 F0 w E) (k : Nat) (hk : E k = some (.blk g T cs)) (o : Nat) (hl : o + vs.length ≤ cs.length) : St w0 F0 (w.setCells g o vs) (upd E k (.blk g T (cs.take o ++ vs ++ cs.drop (o + vs.length)))) := by
  obtain ⟨F, ⟨h, e⟩, -, -, hc⟩ := H.change k hk
  subst e
  exact hc _ _ [g] ⟨setCells_heap vs w g o T cs h hl, rfl⟩ (setCells_low vs w g o) (by simp)

end

theorem upd_laid {L : List Own} {k : Nat} {A : Own} (h : k < L.length) : upd (lay L) k A = lay (L.set k A) := by
  funext i
  by_cases hi : i = k
  · subst hi; simp [upd, lay, List.getElem?_set_self h]
  · simp [upd, lay, hi, List.getElem?_set_ne (Ne.symm hi)]

theorem range_front {w : World} {g : Nat} {xs ys : List Value} (h : w.rangeAt g 0 (xs ++ ys)) : w.rangeAt g 0 xs := fun j v hv => by
  exact h j v (by rw [List.getElem?_append_left (List.getElem?_eq_some_iff.1 hv).1]; exact hv)

theorem there_front {w : World} {g n m : Nat} (h : w.there g 0 n) (hm : m ≤ n) : w.there g 0 m := fun j hj => h j (by omega)

end Go.Proofs.Ythoopaknldkclaa

namespace Go.Proofs.Ythoopaknldkclaa
open Go.RowKit
set_option linter.unusedVariables false
set_option maxRecDepth 100000

attribute [local irreducible] permB kBytes kPerm kFrom

theorem spNone_no (g : Nat) (r : Int) (w : World) (hc : w.cell? ⟨g, 200, none⟩ = some (.int .i64 r)) (hr : 1 ≤ r) :
    Calls Try.prog 72 #[lptr g] w fun e w' => e = .returned (.bool false) ∧ w = w' := by
  have h0 : (r == 0) = false := by simp; omega
  unfold lptr
  go_enter Try.func72, Try.ntmps72
  go_wp2
  go_ret
  exact ⟨rfl, rfl⟩

theorem spNone_nil (w : World) : Calls Try.prog 72 #[.pointer none] w fun e w' => e = .returned (.bool true) ∧ w = w' := by
  go_enter Try.func72, Try.ntmps72
  go_wp2
  go_ret
  exact ⟨rfl, rfl⟩

theorem spNone_yes (g : Nat) (w : World) (hc : w.cell? ⟨g, 200, none⟩ = some (.int .i64 0)) :
    Calls Try.prog 72 #[lptr g] w fun e w' => e = .returned (.bool true) ∧ w = w' := by
  unfold lptr
  go_enter Try.func72, Try.ntmps72
  go_wp2
  go_ret
  exact ⟨rfl, rfl⟩

/-- a slice as an array's pointer -/
theorem wpList_arrayAt {P : Program} {ops : Array Oper} {rest : List Oper} {o : Oper} {a : Act} {w : World} {Q : Exit → Act → World → Prop} (hgd : o.guard = none) (arr : TypeId) (x : Operand) (ho : o.op = .sliceToArrayPointer arr x)
    (e : TypeId) (n : Nat) (A : Option Addr) (len cap : Nat) (h : P.underlying arr = some (.array n e)) (hn : n ≤ len) (hx : a.eval x = .slice A len cap)
    (hk : wpList P ops Q rest (a.put o.dst (.pointer A)) w) : wpList P ops Q (o :: rest) a w :=
  wpList_plain hgd fun _ hK => by
    unfold Oper.wp execOp
    simp only [ho, hx, run_arrayAt w arr e n A len cap h hn, Sem.run_bind, Sem.run_pure, Result.andThen_ok]
    exact hK _ _ hk

section
variable {w0 w : World} {F0 : List Nat} {E : Env}

set_option maxHeartbeats 1000000 in
theorem spPermute_s (l : Value) (r : Option (List RunT)) (m : Nat) (b : Int) (g : Nat) (x : Sp) (H : St w0 F0 w E) (i j : Nat) (hij : i ≠ j) (hi : E i = some (led l r)) (hj : E j = some (.blk g 111 x.vs)) (hg : LW r m b) (hm : m ≤ 1000000000000) (hb : b ≤ 4611686018427387903) (hx : x.b.length = 200) :
    Calls Try.prog 73 #[lptr g, l] w fun e w' => e = .returned (.tuple #[]) ∧ St w0 F0 w' (upd (upd E i (led l (noteN r 3 200 1))) j (.blk g 111 x.perm.vs)) := by
  obtain ⟨F, HF, -, -, hback⟩ := H.frame2 i j hij hi hj
  have HB := Lib.hid hback
  replace HF := HF.as2
  clear H hback
  have HX := Lib.hid hx
  clear hx
  unfold lptr
  go_enter Try.func73, Try.ntmps73
  go_wp2_with (first | (refine wpList_arrayAt rfl 109 (.tmp 11) rfl 5 200 (some ⟨g, 0, none⟩) 200 200 Try.underlying109 (Nat.le_refl _) rfl ?_; refine wpList_load_mid rfl 109 (.tmp 12) rfl g 0 rfl (x.b.map vb) _ (range_front (HF.range 1 rfl)) Try.underlying109 rfl (by rw [bytes_size, List.length_map, HX.out]) ?_))
  refine (from_s x.b HX.out _).mono ?_
  rintro e w1 ⟨rfl, hb1⟩
  replace HF := HF.call hb1
  clear hb1
  go_wp2_with fail
  refine (permute_w l r m b (kFrom x.b) HF 0 rfl hg hm hb (kFrom_length _)).mono ?_
  rintro e w2 ⟨rfl, H2⟩
  replace H2 := H2.upd_mk (by simp)
  clear HF
  go_wp2_with fail
  refine (bytes_s _ (by unfold kPerm; rw [kPermTo_length, kFrom_length]) _).mono ?_
  rintro e w3 ⟨rfl, hb3⟩
  have H3 := H2.call hb3
  clear H2 hb3
  have HP : Hid (kBytes (kPerm (kFrom x.b)) = permB x.b) := by unfold Hid permB; rfl
  rw [HP.out]
  have HL := Lib.hid (permB_length x.b)
  clear HP
  have HE : Hid ((⟨permB x.b, x.r, x.f, 0, x.s⟩ : Sp) = x.perm) := by unfold Hid; rfl
  generalize permB x.b = B at HL HE
  have HT := H3.there 1 rfl
  rw [Sp.vs_length HX.out] at HT
  go_wp2_with (refine wpList_store_mid rfl 109 (.tmp 18) (.tmp 16) rfl g 0 (B.map vb).toArray rfl rfl (there_front HT (by simp [HL.out])) (by rw [bytes_size]; simp [HL.out]) (all_oneCell_toArray (vb_one _)) ?_; refine absorb_list (H3.storeMid 1 rfl 0 (vs := B.map vb) (by rw [Sp.vs_length HX.out, List.length_map, HL.out]; omega) |>.upd_mk (by simp)) ?_; clear H3 HT; intro w4 H4; (unfold Sp.vs at H4); rw [sp_front x.b _ B HX.out HL.out] at H4; have c4 := H4.cell 1 rfl (o := 202) ((sp_get B _ 2 HL.out rfl).trans rfl); have f4 := H4.free 1 rfl 202)
  go_end0
  refine ⟨rfl, ?_⟩
  have H5 := (H4.store 1 rfl (o := 202) (u := .int .i64 0)).upd_mk (by simp)
  rw [sp_put B _ 2 _ HL.out rfl] at H5
  rw [← HE.out]
  exact HB.out _ _ _ (H5.to2 rfl rfl)

end

end Go.Proofs.Ythoopaknldkclaa

namespace Go.Proofs.Ythoopaknldkclaa
open Go.RowKit
set_option linter.unusedVariables false

/-- the number that bytes are -/
def tk (l : List UInt8) : Nat := l.foldl (fun n b => 256 * n + b.toNat) 0
theorem tk_zero : tk [] = 0 := rfl
theorem tk_snoc (l : List UInt8) (b : UInt8) : tk (l ++ [b]) = 256 * tk l + b.toNat := by simp [tk]
theorem tk_from (l : List UInt8) : ∀ a, l.foldl (fun n b => 256 * n + b.toNat) a + 1 ≤ (a + 1) * 256 ^ l.length := by
  induction l with
  | nil => intro a; simp
  | cons b l ih =>
    intro a
    have h := ih (256 * a + b.toNat)
    have hb := b.toNat_lt
    rw [List.foldl_cons, List.length_cons, Nat.pow_succ]
    refine Nat.le_trans h ?_
    rw [Nat.mul_comm (256 ^ l.length), ← Nat.mul_assoc]
    exact Nat.mul_le_mul_right _ (by omega)
theorem tk_lt (l : List UInt8) : tk l < 256 ^ l.length := by
  have h := tk_from l 0
  unfold tk
  omega
theorem or_byte_64 {b x : Nat} (hb : b ≤ 72057594037927935) (hx : x ≤ 255) : bits .or .u64 ((b : Int) * 256) (x : Int) = ((256 * b + x : Nat) : Int) := by
  have e : (b : Int) * 256 = ((256 * b : Nat) : Int) := by omega
  rw [e, u64_or_nat _ _ (by omega) (by omega), Nat.two_pow_add_eq_or_of_lt (i := 8) (by omega)]

end Go.Proofs.Ythoopaknldkclaa

namespace Go.Proofs.Ythoopaknldkclaa
open Go.RowKit
set_option linter.unusedVariables false

end Go.Proofs.Ythoopaknldkclaa

namespace Go.Proofs.Ythoopaknldkclaa
open Go.RowKit
set_option linter.unusedVariables false

end Go.Proofs.Ythoopaknldkclaa

namespace Go.Proofs.Ythoopaknldkclaa
open Go.RowKit
set_option linter.unusedVariables false
set_option maxRecDepth 100000

attribute [local irreducible] permB kBytes kPerm kFrom

theorem xor8v (a b : UInt8) : bits .xor .u8 (a.toNat : Int) (b.toNat : Int) = ((a ^^^ b).toNat : Int) := by
  rw [u8_xor_nat _ _ a.toNat_lt b.toNat_lt, UInt8.toNat_xor]

section
variable {w0 w : World} {F0 : List Nat} {E : Env}

set_option maxHeartbeats 2000000 in
theorem spWrite_s (l : Value) (r : Option (List RunT)) (m : Nat) (b : Int) (g : Nat) (x : Sp) (A : Option Addr) (n c : Nat) (q : List UInt8) (H : St w0 F0 w E) (i j : Nat) (hij : i ≠ j) (hi : E i = some (led l r)) (hj : E j = some (.blk g 111 x.vs)) (hg : LW r m b) (hm : m ≤ 999999999999) (hb : b ≤ 4000000000000000000) (hx : x.Ok) (hs : x.s = false)
    (hR : ∀ w' X Y, St w0 F0 w' (upd (upd E i X) j Y) → Rd w' 1 A n (q.map vb)) (hn : n ≤ 281474976710656) :
    Calls Try.prog 47 #[lptr g, l, .slice A n c] w fun e w' => e = .returned (.int .i64 0) ∧ St w0 F0 w' (upd (upd E i (led l (noteN r 3 200 ((x.p + n) / x.r)))) j (.blk g 111 (x.write q).vs)) := by
  have hl : q.length = n := by have h := (hR w _ _ (by rw [upd_id hi, upd_id hj]; exact H)).1; simpa using h
  obtain ⟨F, HF, -, -, hback⟩ := H.frame2 i j hij hi hj
  have HB := Lib.hid hback
  have HR : Hid (∀ w' X Y, St w F w' (lay [X, Y]) → Rd w' 1 A n (q.map vb)) := fun w' X Y h => hR w' X Y (hback w' X Y (h.to2 rfl rfl))
  replace HF := HF.as2
  have HL := Lib.hid hl
  clear H hback hR hl
  obtain ⟨k1, k2, k3, k4⟩ := Sp.cells hx.hb
  have h8 := hx.r8
  have h192 := hx.r192
  have hop := hx.op hs
  have c0 := HF.cell 1 rfl k1
  have c3 := HF.cell 1 rfl k4
  rw [hs] at c3
  have HO := Lib.hid hx
  have HS := Lib.hid hs
  have HG := Lib.hid hg
  clear k1 k2 k3 k4 hx hs hg
  go_enter Try.func47, Try.ntmps47
  go_wp2_with fail
  refine (spNone_no g x.r w c0 (by omega)).mono ?_
  rintro e w1 ⟨rfl, rfl⟩
  unfold lptr
  go_wp2
  clear c0 c3
  go_loopw [19] (fun i wr => ∃ k : Nat, k ≤ n ∧ i = .int .i64 k ∧ St w F wr (lay [led l (noteN r 3 200 ((x.p + k) / x.r)), .blk g 111 (x.write (q.take k)).vs])) (fun i _ => n - (intOf i).toNat)
  case atStart => exact ⟨0, Nat.zero_le _, rfl, by rw [Nat.add_zero, Nat.div_eq_of_lt hop, noteN_zero, List.take_zero, Sp.write_nil]; exact HF⟩
  case round =>
    clear HF
    obtain ⟨k, hk, rfl, HF⟩ := hrel
    by_cases hlt : k < n
    · obtain ⟨v, hv⟩ : ∃ v, q[k]? = some v := ⟨_, List.getElem?_eq_getElem (by rw [HL.out]; exact hlt)⟩
      have hok := Sp.write_ok (q.take k) HO.out hop
      have hrr := Sp.write_r (q.take k) x
      have hpp := Sp.write_p (q.take k) hop
      have HN := Lib.hid (x.write_succ hv)
      rw [List.length_take, HL.out, Nat.min_eq_left hk] at hpp
      have HC := Lib.hid (count_succ x.p x.r k (by omega))
      obtain ⟨p, o, rfl, -, hcx⟩ := (HR.out _ _ _ HF).flat (by omega) (by omega)
      have a0 := hcx k (vb v) (by rw [List.getElem?_map, hv]; rfl)
      clear hcx hv
      generalize hy : x.write (q.take k) = y at HF hok hrr hpp HN
      clear hy
      obtain ⟨hy1, hy2⟩ := hok
      have HRR := Lib.hid hrr
      have HPP := Lib.hid hpp
      have hy192 : y.r ≤ 192 := hy1.r192
      clear hrr hpp
      obtain ⟨k1, k2, k3, k4⟩ := Sp.cells hy1.hb
      have b0 := HF.cell 1 rfl k1
      have b2 := HF.cell 1 rfl k3
      obtain ⟨u, hu⟩ : ∃ u, y.b.getD y.p 0 = u := ⟨_, rfl⟩
      have b3 := HF.cell 1 rfl (o := y.p) (sp_at y.b _ hy1.hb (by omega))
      rw [hu] at b3
      have HU := Lib.hid hu
      clear hu
      have f3 := HF.free 1 rfl y.p
      have hk1 : (k : Int) < n := by omega
      have hp1 : (y.p : Int) < 200 := by omega
      have hp2 : y.p < 200 := by omega
      have hp3 : y.p + 1 ≤ 200 := by omega
      go_wp2
      refine region_quiet_tail 14 (by kernel_rfl) (by kernel_rfl) ?_
      simp only [List.take_succ_cons, List.take_zero, List.drop_succ_cons, List.drop_zero]
      repeat (go_big_quiet_step (fail))
      refine wpQuiet_nil ?_
      intro nq
      rw [xor8v]
      go_upto_region 9 with (fail)
      have hD := ((HF.drewN nq).store 1 rfl (o := y.p) (u := vb (u ^^^ v))).upd_mk (by simp)
      unfold Sp.vs at hD
      rw [sp_set _ _ _ hy1.hb (by omega), show y.b.set y.p (u ^^^ v) = xorAt y.b y.p v by unfold xorAt; rw [HU.out]] at hD
      refine absorb_wp hD ?_
      clear hD HF b0 b2 b3 f3 a0 HU
      intro w4 H4
      have hL : Hid ((xorAt y.b y.p v).length = 200) := by unfold Hid; rw [xorAt_length, hy1.hb]
      have HQ : Hid ((⟨xorAt y.b y.p v, y.r, y.f, y.p + 1, y.s⟩ : Sp) = y.lay v) := by unfold Hid; rfl
      have HYB := Lib.hid hy1
      clear hy1
      generalize xorAt y.b y.p v = Bx at H4 hL HQ
      have c2 := H4.cell 1 rfl (o := 202) ((sp_get Bx _ 2 hL.out rfl).trans rfl)
      have f2 := H4.free 1 rfl 202
      go_upto_region 10 with (fail)
      have hD := (H4.store 1 rfl (o := 202) (u := .int .i64 ((y.p + 1 : Nat) : Int))).upd_mk (by simp)
      rw [sp_put Bx _ 2 _ hL.out rfl, Int.natCast_add] at hD
      refine absorb_wp hD ?_
      clear hD H4 c2 f2
      intro w5 H5
      rw [show ((y.p : Int) + ((1 : Nat) : Int)) = ((y.p + 1 : Nat) : Int) by rw [Int.natCast_add]] at H5
      replace H5 : St w F w5 (lay [led l (noteN r 3 200 ((x.p + k) / x.r)), .blk g 111 (⟨Bx, y.r, y.f, y.p + 1, y.s⟩ : Sp).vs]) := H5
      rw [HQ.out] at H5
      clear k1 k2 k3 k4
      have hzb : (y.lay v).b.length = 200 := by rw [← HQ.out]; exact hL.out
      obtain ⟨k1, -, k3, -⟩ := Sp.cells hzb
      have b0 : w5.cell? ⟨g, 200, none⟩ = some (.int .i64 y.r) := H5.cell 1 rfl k1
      have b2 := H5.cell 1 rfl (o := 202) (u := .int .i64 ((y.p : Int) + 1)) (by rw [k3, ← HQ.out]; simp)
      clear k1 k3 HQ hL
      have HZ := Lib.hid hzb
      clear hzb
      have HC2 : Hid ((x.p + (k + 1)) / x.r = (x.p + k) / x.r + if y.p + 1 = y.r then 1 else 0) := by unfold Hid; rw [HPP.out, HRR.out.1]; exact HC.out
      by_cases he : y.p + 1 = y.r
      · have he1 : ((y.p : Int) + 1 == (y.r : Int)) = true := by simp; omega
        have HP : Hid (y.put v = (y.lay v).perm) := Sp.put_yes v he
        have HCC : Hid ((x.p + (k + 1)) / x.r = (x.p + k) / x.r + 1) := by have h := HC2.out; rw [if_pos he] at h; exact h
        have hcnt : (x.p + k) / x.r ≤ 281474976710856 := Nat.le_trans (Nat.div_le_self _ _) (by omega)
        clear he HC HC2
        go_quiet (fail)
        go_wp2_with fail
        refine (spPermute_s l _ (m + 1) (b + ((x.p + k) / x.r : Nat)) g (y.lay v) (H5.drewN nq) 0 1 (by omega) rfl rfl (HG.out.noteN 3 200 _) (by omega) (by omega) HZ.out).mono ?_
        rintro e w6 ⟨rfl, H6⟩
        rw [upd_laid (by simp), upd_laid (by simp), noteN_noteN, ← HCC.out, ← HP.out, ← HN.out] at H6
        go_wp2
        go_roundw
        case rel => exact ⟨k + 1, by omega, by go_num, H6⟩
        case measure => simp [intOf]; omega
      · have he1 : ((y.p : Int) + 1 == (y.r : Int)) = false := by simp; omega
        have HP : Hid (y.put v = y.lay v) := Sp.put_no v he
        have HCC : Hid ((x.p + (k + 1)) / x.r = (x.p + k) / x.r) := by have h := HC2.out; rw [if_neg he] at h; exact h
        clear he HC HC2
        go_quiet (fail)
        go_wp2
        go_roundw
        case rel => exact ⟨k + 1, by omega, by go_num, by rw [HCC.out, HN.out, HP.out]; exact H5.drewN _⟩
        case measure => simp [intOf]; omega
    · obtain rfl : n = k := by omega
      go_wp2
      go_ret
      exact ⟨rfl, by rw [List.take_of_length_le (by rw [HL.out]; omega)] at HF; exact HB.out _ _ _ (HF.to2 rfl rfl)⟩

end

end Go.Proofs.Ythoopaknldkclaa

namespace Go.Proofs.Ythoopaknldkclaa
open Go.RowKit
set_option linter.unusedVariables false
set_option maxRecDepth 100000

attribute [local irreducible] permB kBytes kPerm kFrom

theorem Sp.ends_b {x : Sp} {R : Nat} (h : x.r = R + 1) : x.ends.b = xorAt (xorAt x.b x.p x.f) R 128 := by
  show xorAt (xorAt x.b x.p x.f) (x.r - 1) 128 = _
  rw [h, Nat.add_sub_cancel]

section
variable {w0 w : World} {F0 : List Nat} {E : Env}

set_option maxHeartbeats 2000000 in
theorem spClose_s (l : Value) (r : Option (List RunT)) (m : Nat) (b : Int) (g : Nat) (x : Sp) (H : St w0 F0 w E) (i j : Nat) (hij : i ≠ j) (hi : E i = some (led l r)) (hj : E j = some (.blk g 111 x.vs)) (hg : LW r m b) (hm : m ≤ 999999999999) (hb : b ≤ 4000000000000000000) (hx : x.Ok) (hs : x.s = false) :
    Calls Try.prog 75 #[lptr g, l] w fun e w' => e = .returned (.int .i64 0) ∧ St w0 F0 w' (upd (upd E i (led l (noteN r 3 200 1))) j (.blk g 111 x.close.vs)) := by
  obtain ⟨F, HF, -, -, hback⟩ := H.frame2 i j hij hi hj
  have HB := Lib.hid hback
  replace HF := HF.as2
  clear H hback
  obtain ⟨k1, k2, k3, k4⟩ := Sp.cells hx.hb
  have h8 := hx.r8
  have h192 := hx.r192
  have hop := hx.op hs
  obtain ⟨R, hR⟩ : ∃ R, x.r = R + 1 := ⟨x.r - 1, by omega⟩
  have HE := Lib.hid (Sp.ends_b hR)
  have HRR := Lib.hid hR
  have c0 := HF.cell 1 rfl k1
  have c1 := HF.cell 1 rfl k2
  have c2 := HF.cell 1 rfl k3
  have c3 := HF.cell 1 rfl k4
  rw [hs] at c3
  obtain ⟨u, hu⟩ : ∃ u, x.b.getD x.p 0 = u := ⟨_, rfl⟩
  have b3 := HF.cell 1 rfl (o := x.p) (sp_at x.b _ hx.hb (by omega))
  rw [hu] at b3
  have HU := Lib.hid hu
  have f3 := HF.free 1 rfl x.p
  have hR1 : R ≤ 191 := by omega
  have HX := Lib.hid hx.hb
  have hp1 : (x.p : Int) < 200 := by omega
  have hp2 : x.p < 200 := by omega
  clear k1 k2 k3 k4 hx hs hu hR
  go_enter Try.func75, Try.ntmps75
  go_wp2_with fail
  refine (spNone_no g x.r w c0 (by omega)).mono ?_
  rintro e w1 ⟨rfl, rfl⟩
  unfold lptr
  go_wp2
  refine region_quiet_tail 17 (by kernel_rfl) (by kernel_rfl) ?_
  simp only [List.take_succ_cons, List.take_zero, List.drop_succ_cons, List.drop_zero]
  repeat (go_big_quiet_step (fail))
  refine wpQuiet_nil ?_
  intro nq
  rw [xor8v]
  go_upto_region 6 with (fail)
  have hD := ((HF.drewN nq).store 1 rfl (o := x.p) (u := vb (u ^^^ x.f))).upd_mk (by simp)
  unfold Sp.vs at hD
  rw [sp_set _ _ _ HX.out (by omega), show x.b.set x.p (u ^^^ x.f) = xorAt x.b x.p x.f by unfold xorAt; rw [HU.out]] at hD
  refine absorb_wp hD ?_
  clear hD HF c0 c1 c2 c3 b3 f3 HU
  intro w4 H4
  have hL : Hid ((xorAt x.b x.p x.f).length = 200) := by unfold Hid; rw [xorAt_length, HX.out]
  generalize xorAt x.b x.p x.f = Bx at H4 hL HE
  obtain ⟨u2, hu⟩ : ∃ u2, Bx.getD R 0 = u2 := ⟨_, rfl⟩
  have b3 := H4.cell 1 rfl (o := R) (sp_at Bx _ hL.out (by omega))
  rw [hu] at b3
  have HU := Lib.hid hu
  clear hu
  have f3 := H4.free 1 rfl R
  have c0 := H4.cell 1 rfl (o := 200) ((sp_get Bx _ 0 hL.out rfl).trans rfl)
  rw [HRR.out, Int.natCast_add] at c0
  have hp3 : (R : Int) < 200 := by omega
  have hp4 : R < 200 := by omega
  have hw : IntKind.i64.wrap ((R : Int) + 1 - 1) = (R : Int) := by rw [Int.add_sub_cancel]; exact IntWalk.i64_in _ (by omega)
  refine region_quiet_tail 14 (by kernel_rfl) (by kernel_rfl) ?_
  simp only [List.take_succ_cons, List.take_zero, List.drop_succ_cons, List.drop_zero]
  repeat (go_big_quiet_step (fail))
  refine wpQuiet_nil ?_
  intro nq2
  rw [show bits .xor .u8 (u2.toNat : Int) 128 = ((u2 ^^^ 128).toNat : Int) from xor8v u2 128]
  clear hw
  go_upto_region 7 with (fail)
  have hD := ((H4.drewN nq2).store 1 rfl (o := R) (u := vb (u2 ^^^ 128))).upd_mk (by simp)
  rw [sp_set _ _ _ hL.out (by omega), show Bx.set R (u2 ^^^ 128) = xorAt Bx R 128 by unfold xorAt; rw [HU.out], ← HE.out] at hD
  refine absorb_wp hD ?_
  clear hD H4 c0 b3 f3 HU
  intro w5 H5
  have hL5 : Hid (x.ends.b.length = 200) := by unfold Hid; rw [HE.out, xorAt_length, hL.out]
  have HZ : Hid ((x.ends.perm).b = x.close.b) := by unfold Hid; rfl
  replace H5 : St w F w5 (lay [led l r, .blk g 111 x.ends.vs]) := H5
  go_wp2_with fail
  refine (spPermute_s l r m b g x.ends H5 0 1 (by omega) rfl rfl hg (by omega) (by omega) hL5.out).mono ?_
  rintro e w6 ⟨rfl, H6⟩
  rw [upd_laid (by simp), upd_laid (by simp)] at H6
  have hLp : Hid (x.ends.perm.b.length = 200) := permB_length x.ends.b
  have f6 := H6.free 1 rfl 203
  have c6 := H6.cell 1 rfl (o := 203) (Sp.cells hLp.out).2.2.2
  go_wp2
  go_ret
  have H7 := (H6.store 1 rfl (o := 203) (u := .bool true)).upd_mk (by simp)
  unfold Sp.vs at H7
  rw [sp_put _ _ 3 _ hLp.out rfl] at H7
  exact ⟨rfl, HB.out _ _ _ (H7.to2 rfl rfl)⟩

/-- shut already -/
theorem spClose_no (l : Value) (g : Nat) (x : Sp) (hcs : ∀ k u, x.vs[k]? = some u → w.cell? ⟨g, k, none⟩ = some u) (hx : x.Ok) (hs : x.s = true) :
    Calls Try.prog 75 #[lptr g, l] w fun e w' => e = .returned (.int .i64 180) ∧ w = w' := by
  obtain ⟨k1, k2, k3, k4⟩ := Sp.cells hx.hb
  have h8 := hx.r8
  have c0 := hcs _ _ k1
  have c3 := hcs _ _ k4
  rw [hs] at c3
  clear k1 k2 k3 k4 hx hs hcs
  go_enter Try.func75, Try.ntmps75
  go_wp2_with fail
  refine (spNone_no g x.r w c0 (by omega)).mono ?_
  rintro e w1 ⟨rfl, rfl⟩
  unfold lptr
  go_wp2
  go_ret
  exact ⟨rfl, rfl⟩

theorem spWrite_no (l : Value) (g : Nat) (x : Sp) (A : Option Addr) (n c : Nat) (hcs : ∀ k u, x.vs[k]? = some u → w.cell? ⟨g, k, none⟩ = some u) (hx : x.Ok) (hs : x.s = true) :
    Calls Try.prog 47 #[lptr g, l, .slice A n c] w fun e w' => e = .returned (.int .i64 180) ∧ w = w' := by
  obtain ⟨k1, k2, k3, k4⟩ := Sp.cells hx.hb
  have h8 := hx.r8
  have c0 := hcs _ _ k1
  have c3 := hcs _ _ k4
  rw [hs] at c3
  clear k1 k2 k3 k4 hx hs hcs
  go_enter Try.func47, Try.ntmps47
  go_wp2_with fail
  refine (spNone_no g x.r w c0 (by omega)).mono ?_
  rintro e w1 ⟨rfl, rfl⟩
  unfold lptr
  go_wp2
  go_ret
  exact ⟨rfl, rfl⟩

end

end Go.Proofs.Ythoopaknldkclaa

namespace Go.Proofs.Ythoopaknldkclaa
open Go.RowKit
set_option linter.unusedVariables false
set_option maxRecDepth 100000

attribute [local irreducible] permB kBytes kPerm kFrom

theorem Sp.turn_yes {x : Sp} (h : x.p = x.r) : x.turn = x.perm := if_pos h

theorem Sp.turn_no {x : Sp} (h : ¬ x.p = x.r) : x.turn = x := if_neg h

theorem Sp.turn_r (x : Sp) : x.turn.r = x.r ∧ x.turn.s = x.s ∧ x.turn.f = x.f := by
  by_cases h : x.p = x.r
  · rw [Sp.turn_yes h]; exact ⟨rfl, rfl, rfl⟩
  · rw [Sp.turn_no h]; exact ⟨rfl, rfl, rfl⟩

theorem Sp.turn_lt {x : Sp} (h : x.Ok) : x.turn.p < x.r ∧ x.turn.b.length = 200 := by
  have h8 := h.r8
  have hp := h.pr
  by_cases he : x.p = x.r
  · rw [Sp.turn_yes he]; exact ⟨by show 0 < x.r; omega, permB_length _⟩
  · rw [Sp.turn_no he]; exact ⟨by omega, h.hb⟩

theorem Sp.go_zero (x : Sp) : x.go 0 = x := rfl

theorem Sp.after_zero (x : Sp) : x.after 0 = x := rfl

theorem Sp.go_turn {x : Sp} {k : Nat} (h : x.p + k < x.r) : (x.go k).turn = x.go k := Sp.turn_no (by show ¬ x.p + k = x.r; omega)

theorem Sp.after_succ (x : Sp) (n : Nat) : x.after (n + 1) = (x.after n).turn.go 1 := rfl

theorem Sp.after_go {x : Sp} (t : Nat) (k : Nat) (h : (x.after t).turn.p + (k + 1) ≤ (x.after t).turn.r) : x.after (t + (k + 1)) = (x.after t).turn.go (k + 1) := by
  induction k with
  | zero => rfl
  | succ k ih =>
    have ih := ih (by omega)
    rw [show t + (k + 1 + 1) = (t + (k + 1)) + 1 by omega, Sp.after_succ, ih, Sp.go_turn (by omega)]
    rfl

theorem Sp.get_go {x : Sp} (t : Nat) (k : Nat) (h : (x.after t).turn.p + k < (x.after t).turn.r) : (x.after (t + k)).get = (x.after t).turn.b.getD ((x.after t).turn.p + k) 0 := by
  rcases Nat.eq_zero_or_pos k with h0 | h0
  · subst h0; rfl
  · obtain ⟨j, rfl⟩ : ∃ j, k = j + 1 := ⟨k - 1, by omega⟩
    rw [Sp.after_go t j (by omega)]
    unfold Sp.get
    rw [Sp.go_turn h]
    rfl

theorem Sp.read_length (x : Sp) (n : Nat) : (x.read n).length = n := by unfold Sp.read; rw [List.length_map, List.length_range]

theorem Sp.read_zero (x : Sp) : x.read 0 = [] := rfl

theorem Sp.read_more {x : Sp} (t k : Nat) (hk : (x.after t).turn.p + k ≤ (x.after t).turn.r) (hr : (x.after t).turn.r ≤ 192) (hb : (x.after t).turn.b.length = 200) :
    x.read (t + k) = x.read t ++ ((x.after t).turn.b.drop (x.after t).turn.p).take k := by
  apply List.ext_getElem?
  intro i
  unfold Sp.read
  by_cases h1 : i < t
  · rw [List.getElem?_append_left (by rw [List.length_map, List.length_range]; exact h1), List.getElem?_map, List.getElem?_map, List.getElem?_range (by omega), List.getElem?_range h1]
  · rw [List.getElem?_append_right (by rw [List.length_map, List.length_range]; omega), List.length_map, List.length_range, List.getElem?_map, List.getElem?_take]
    by_cases h2 : i < t + k
    · rw [List.getElem?_range h2, if_pos (by omega), List.getElem?_drop, List.getElem?_eq_getElem (by omega)]
      obtain ⟨j, rfl⟩ : ∃ j, i = t + j := ⟨i - t, by omega⟩
      rw [Option.map_some, Sp.get_go t j (by omega)]
      simp only [Nat.add_sub_cancel_left]
      rw [List.getD_eq_getElem?_getD, List.getElem?_eq_getElem (by omega), Option.getD_some]
    · rw [if_neg (by omega), List.getElem?_eq_none (by rw [List.length_range]; omega)]
      rfl

theorem Sp.turn_ok {x : Sp} (h : x.Ok) (hs : x.s = true) : x.turn.Ok := by
  have h1 := Sp.turn_lt h
  have h2 := Sp.turn_r x
  exact ⟨h1.2, by rw [h2.1]; exact h.r8, by rw [h2.1]; exact h.r192, by rw [h2.1]; omega, fun e => by rw [h2.2.1, hs] at e; cases e⟩

theorem Sp.go_ok {x : Sp} (h : x.Ok) (hs : x.s = true) {k : Nat} (hk : x.p + k ≤ x.r) : (x.go k).Ok :=
  ⟨h.hb, h.r8, h.r192, hk, fun e => by have : x.s = false := e; rw [hs] at this; cases this⟩

theorem Sp.after_ok {x : Sp} (h : x.Ok) (hs : x.s = true) : ∀ n, (x.after n).Ok ∧ (x.after n).r = x.r ∧ (x.after n).s = true ∧ (x.after n).f = x.f := by
  intro n
  induction n with
  | zero => exact ⟨h, rfl, hs, rfl⟩
  | succ n ih =>
    obtain ⟨h1, h2, h3, h4⟩ := ih
    have t1 := Sp.turn_lt h1
    obtain ⟨t2, t3, t4⟩ := Sp.turn_r (x.after n)
    rw [Sp.after_succ]
    exact ⟨Sp.go_ok (Sp.turn_ok h1 h3) (by rw [t3, h3]) (by rw [t2]; omega), t2.trans h2, by show (x.after n).turn.s = true; rw [t3, h3], t4.trans h4⟩

theorem Sp.close_ok {x : Sp} (h : x.Ok) : x.close.Ok ∧ x.close.s = true ∧ x.close.r = x.r ∧ x.close.p = 0 :=
  ⟨⟨permB_length _, h.r8, h.r192, Nat.zero_le _, fun e => by cases e⟩, rfl, rfl, rfl⟩

/-- how often it is permuted -/
theorem count_end {c r p p0 n : Nat} (h : c * r + p = p0 + n) (hp : p ≤ r) (h0 : n = 0 → c = 0) (h1 : 0 < n → 1 ≤ p) (hr : 0 < r) (hp0 : p0 ≤ r) : c = (p0 + n - 1) / r := by
  rcases Nat.eq_zero_or_pos n with hn | hn
  · have hc := h0 hn
    subst hc hn
    rw [Nat.div_eq_of_lt (by omega)]
  · have := h1 hn
    have e : p0 + n - 1 = (p - 1) + r * c := by rw [Nat.mul_comm]; omega
    rw [e, Nat.add_mul_div_left _ _ hr, Nat.div_eq_of_lt (by omega), Nat.zero_add]

theorem made0 {w : World} {base g n : Nat} (h : w.ownsRow base 5 1 (.slice (some ⟨g, 0, none⟩) n n) n (madeCells (Value.int .u8 0).cells (n * 1)).toList) : w.ownsRow base 5 1 (.slice (some ⟨g, 0, none⟩) n n) n ((List.replicate n (0 : UInt8)).map vb) := by
  rw [show (Value.int .u8 0).cells = #[.int .u8 0] from rfl, toList_madeCells_one, Nat.mul_one] at h
  rw [List.map_replicate]
  exact h

theorem splice_mid (a b cs : List UInt8) (n t : Nat) (ha : a.length = t) (hb : b.length = n - t) (hk : t + cs.length ≤ n) : splice ((a ++ b).map vb) t (cs.map vb) = (a ++ cs ++ b.drop cs.length).map vb := by
  unfold splice
  rw [List.length_map, ← List.map_take, ← List.map_drop, ← List.map_append, ← List.map_append, List.take_left' ha, List.append_assoc, ← List.drop_drop, List.drop_left' ha]

section
variable {w0 w : World} {F0 : List Nat} {E : Env}

/-- a list whose block has no more than it -/
theorem St.rowFull {g n : Nat} {e : TypeId} {xs : List Value} (H : St w0 F0 w E) (k : Nat) (hk : E k = some (.row e 1 (.slice (some ⟨g, 0, none⟩) n n) n xs)) : St w0 F0 w (upd E k (.blk g e xs)) := by
  obtain ⟨F, ⟨h, hF⟩, -, -, hc⟩ := H.change k hk
  refine hc w _ [g] ⟨?_, rfl⟩ (Low.refl _ _) (by intro g' hg'; left; rw [hF]; simpa [Value.ownBlock] using hg')
  rcases h.2 with ⟨hv, -⟩ | ⟨g', cap, cur, hv, -, hg, hn, -, hs, hx⟩
  · cases hv
  · injection hv with h1 h2 h3
    injection h1 with h1
    injection h1 with h1
    subst h1 h3
    rw [hg]
    have : cur.toList = xs := by rw [← hx, List.take_of_length_le (by simp; omega)]
    rw [← this]

theorem St.blkRow {g n : Nat} {e : TypeId} {xs : List Value} (H : St w0 F0 w E) (k : Nat) (hk : E k = some (.blk g e xs)) (hx : xs.length = n) (hn : n ≤ maxLen) : St w0 F0 w (upd E k (.row e 1 (.slice (some ⟨g, 0, none⟩) n n) n xs)) := by
  obtain ⟨F, ⟨h, hF⟩, -, -, hc⟩ := H.change k hk
  subst hF
  subst hx
  refine hc w _ [g] ⟨⟨(Nat.mul_one _).symm, .inr ⟨g, xs.length, xs.toArray, rfl, Nat.zero_le _, h, Nat.le_refl _, hn, by rw [Nat.mul_one]; exact List.size_toArray, by rw [Nat.mul_one]; exact List.take_length⟩⟩, by simp [Value.ownBlock]⟩ (Low.refl _ _) (by simp)

/-- a third piece, which is new, is handed up with the two -/
theorem St.two_more {w0 w w' : World} {F0 F : List Nat} {E : Env} {A B R A0 B0 : Own} {i j k : Nat} (hij : i ≠ j) (hi : E i = some A0) (hj : E j = some B0) (hk : E k = none)
    (hback : ∀ (w' : World) (A' B' : Own), St w F w' (two A' B') → St w0 F0 w' (upd (upd E i A') j B')) (H : St w F w' (lay [A, B, R])) : St w0 F0 w' (upd (upd (upd E i A) j B) k R) := by
  have hki : k ≠ i := fun e => by rw [e, hi] at hk; cases hk
  have hkj : k ≠ j := fun e => by rw [e, hj] at hk; cases hk
  have H1 := H.join 0 2 (by omega) rfl rfl
  have H2 : St w F w' (two (.sep A R) B) := H1.sub fun n C hC => by
    simp only [two, upd, Env.nil] at hC
    by_cases h1 : n = 1
    · subst h1; rw [if_pos rfl] at hC; rw [← hC]; rfl
    · rw [if_neg h1] at hC
      by_cases h0 : n = 0
      · subst h0; rw [if_pos rfl] at hC; rw [← hC]; rfl
      · rw [if_neg h0] at hC; cases hC
  have H3 := hback _ _ _ H2
  have H4 := H3.part (A := A) (B := R) i k (Ne.symm hki) (by simp [upd, hij]) (by simp [upd, hki, hkj, hk])
  refine H4.env fun n => ?_
  simp only [upd]
  by_cases h1 : n = k
  · simp [h1]
  · by_cases h2 : n = j
    · subst h2; simp [h1, Ne.symm hij]
    · by_cases h3 : n = i <;> simp [h1, h2, h3, hij]

end

end Go.Proofs.Ythoopaknldkclaa

namespace Go.Proofs.Ythoopaknldkclaa
open Go
section
variable {P : Program} {l : List Oper} {Q : Exit → Act → World → Prop} {md : Region.Mode} {S : World → Prop} {o : Oper} {rest : List Oper} {fuel : Nat} {listed : Array Bool} {a : Act} {w : World}
theorem takeM {ty : TypeId} {x : Operand} {d : TypeDesc} (i g off : Nat) (cs : List Value) (hS : ∀ w, S w → w.rangeAt g off cs) (hu : P.underlying ty = some d) (hl : (P.info? ty).map (·.size) = some cs.length)
    (hi : l.drop i = o :: rest) (hs : Region.noSelect l.toArray = true) (hf : Region.free md l.toArray listed i = true) (hr : (Region.ready md l.toArray listed).contains i = true)
    (hQ : ∀ c a w, Q (.panic c) (a.put o.dst (.agg cs.toArray)) w → Q (.panic c) a w) (hd : d.isRow = true) (hw : Region.wanted o (yielded l.toArray a.tmps) = true)
    (ho : o.op = .load ty x) (hx : a.eval x = .pointer (some ⟨g, off, none⟩)) (hSw : S w)
    (h : wpAnyH P md l.toArray Q S fuel (listed.setIfInBounds i true) (a.put o.dst (.agg cs.toArray)) w) : wpAnyH P md l.toArray Q S (fuel + 1) listed a w :=
  wpAnyH_take (drop_at hi) hs hf hr hQ (yieldsIf_load_mid hw ty x ho g off hx cs d hS hu hd hl) hSw h
/-- an operation that is not wanted -/
theorem takeSkip (i : Nat) (hi : l.drop i = o :: rest) (hs : Region.noSelect l.toArray = true) (hf : Region.free md l.toArray listed i = true) (hr : (Region.ready md l.toArray listed).contains i = true)
    (hQ : ∀ c a w, Q (.panic c) (a.put o.dst undef) w → Q (.panic c) a w) (hw : Region.wanted o (yielded l.toArray a.tmps) = false) (hSw : S w)
    (h : wpAnyH P md l.toArray Q S fuel (listed.setIfInBounds i true) (a.put o.dst undef) w) : wpAnyH P md l.toArray Q S (fuel + 1) listed a w :=
  wpAnyH_take (drop_at hi) hs hf hr hQ (.inr ⟨hw, rfl⟩) hSw h
theorem takeTwo {o' : Oper} {rest' : List Oper} (i j : Nat) (hi : l.drop i = o :: rest) (hj : l.drop j = o' :: rest') (hr : Region.ready md l.toArray listed = [i, j])
    (h : ∀ K' : Act → World → Prop, Shut (∀ a w, S w → (S w → wpAnyH P md l.toArray Q S fuel (listed.setIfInBounds i true) a w) → K' a w) → if Region.wanted o (yielded l.toArray a.tmps) = true then Oper.wp P o a w K' Q else K' (a.put o.dst undef) w)
    (h' : ∀ K' : Act → World → Prop, Shut (∀ a w, S w → (S w → wpAnyH P md l.toArray Q S fuel (listed.setIfInBounds j true) a w) → K' a w) → if Region.wanted o' (yielded l.toArray a.tmps) = true then Oper.wp P o' a w K' Q else K' (a.put o'.dst undef) w) :
    wpAnyH P md l.toArray Q S (fuel + 1) listed a w :=
  wpAnyH_ready hr (by simp) (AllReadyH.cons (drop_at hi) h (AllReadyH.cons (drop_at hj) h' AllReadyH.nil))
/-- an operation that reads nothing, its value found by the walk -/
theorem takeV (i : Nat) {v : Value} (hi : l.drop i = o :: rest) (hv : ∀ w, S w → (execOp a.eval o).run P w = .ok (.value v) w) (hs : Region.noSelect l.toArray = true) (hf : Region.free md l.toArray listed i = true) (hr : (Region.ready md l.toArray listed).contains i = true)
    (hQ : ∀ c a w, Q (.panic c) (a.put o.dst v) w → Q (.panic c) a w) (hw : Region.wanted o (yielded l.toArray a.tmps) = true) (hSw : S w)
    (h : wpAnyH P md l.toArray Q S fuel (listed.setIfInBounds i true) (a.put o.dst v) w) : wpAnyH P md l.toArray Q S (fuel + 1) listed a w :=
  wpAnyH_take (drop_at hi) hs hf hr hQ (.inl ⟨hw, hv⟩) hSw h
end
end Go.Proofs.Ythoopaknldkclaa

namespace Go.Proofs.Ythoopaknldkclaa
open Go.RowKit
set_option linter.unusedVariables false
set_option maxRecDepth 100000

attribute [local irreducible] permB kBytes kPerm kFrom

section
variable {w0 w : World} {F0 : List Nat} {E : Env}

/-- a sponge, shut -/
def Sp.shut (x : Sp) : Sp := if x.s = true then x else x.close

def Sp.shutN (x : Sp) : Nat := if x.s = true then 0 else 1

theorem Sp.shut_ok {x : Sp} (h : x.Ok) : x.shut.Ok ∧ x.shut.s = true ∧ x.shut.r = x.r := by
  unfold Sp.shut
  by_cases hs : x.s = true
  · rw [if_pos hs]; exact ⟨h, hs, rfl⟩
  · rw [if_neg hs]; have := Sp.close_ok h; exact ⟨this.1, this.2.1, this.2.2.1⟩

theorem chunk_at {b : List UInt8} {xs : List Value} {p d j : Nat} {v : Value} (h : (((b.drop p).take d).map vb)[j]? = some v) : (b.map vb ++ xs)[p + j]? = some v := by
  rw [List.getElem?_map, List.getElem?_take] at h
  by_cases hj : j < d
  · rw [if_pos hj, List.getElem?_drop] at h
    have hl : p + j < b.length := by
      rcases Nat.lt_or_ge (p + j) b.length with h1 | h1
      · exact h1
      · rw [List.getElem?_eq_none h1] at h; cases h
    rw [List.getElem?_append_left (by rw [List.length_map]; exact hl), List.getElem?_map]
    exact h
  · rw [if_neg hj] at h; cases h

theorem spread_end {w0 w : World} {F0 : List Nat} {x y : Sp} {t e n g gO : Nat} {A : Own} (h1 : x.after (t + e) = y.go e) (h2 : x.read (t + e) = x.read t ++ (y.b.drop y.p).take e) (hb : y.b.length = 200) (he : t + e ≤ n ∧ y.p + e ≤ 200)
    (H : St w0 F0 w (lay ([A, .blk g 111 y.vs, .blk gO 5 ((x.read t ++ List.replicate (n - t) 0).map vb)].set 2 (.blk gO 5 (splice ((x.read t ++ List.replicate (n - t) 0).map vb) t (((y.b.drop y.p).take e).map vb)))))) :
    St w0 F0 (w.setCell ⟨g, 202, none⟩ (.int .i64 ((y.p : Int) + (e : Int)))) (lay [A, .blk g 111 (x.after (t + e)).vs, .blk gO 5 ((x.read (t + e) ++ List.replicate (n - (t + e)) 0).map vb)]) := by
  have hl : ((y.b.drop y.p).take e).length = e := by rw [List.length_take, List.length_drop, hb]; omega
  rw [splice_mid _ _ _ n t (Sp.read_length x t) (List.length_replicate ..) (by rw [hl]; omega), hl, ← h2, List.drop_replicate, show n - t - e = n - (t + e) by omega] at H
  have H2 := (H.store 1 rfl (o := 202) (u := .int .i64 ((y.p : Int) + (e : Int)))).upd_mk (by simp)
  unfold Sp.vs at H2
  rw [sp_put _ _ 2 _ hb rfl, show ((y.p : Int) + (e : Int)) = ((y.p + e : Nat) : Int) by rw [Int.natCast_add]] at H2
  rw [h1, show ((y.p : Int) + (e : Int)) = ((y.p + e : Nat) : Int) by rw [Int.natCast_add]]
  exact H2

set_option maxHeartbeats 4000000 in
theorem spRead_s (l : Value) (r : Option (List RunT)) (m : Nat) (b : Int) (g : Nat) (x0 : Sp) (n : Nat) (N : Int) (hN : N = n) (H : St w0 F0 w E) (i j k0 : Nat) (hij : i ≠ j) (hi : E i = some (led l r)) (hj : E j = some (.blk g 111 x0.vs)) (hk : E k0 = none) (hg : LW r m b) (hm : m ≤ 999999999999) (hb : b ≤ 4000000000000000000) (hx0 : x0.Ok) (hn : n ≤ 65536) :
    Calls Try.prog 51 #[lptr g, l, .int .i64 N] w fun e w' => ∃ v, e = .returned (.tuple #[v, .int .i64 0]) ∧ St w0 F0 w' (upd (upd (upd E i (led l (noteN r 3 200 (x0.shutN + (x0.shut.p + n - 1) / x0.r)))) j (.blk g 111 (x0.shut.after n).vs)) k0 (.row 5 1 v n ((x0.shut.read n).map vb))) := by
  subst hN
  obtain ⟨i0, hi0, hz0, hz1, hz2⟩ := info_parts u8_info
  obtain ⟨F, HF, -, -, hback⟩ := H.frame2 i j hij hi hj
  have HB := Lib.hid hback
  have HKK := Lib.hid hk
  have HIJ := Lib.hid hij
  have HI := Lib.hid hi
  have HJ := Lib.hid hj
  replace HF := HF.as2
  clear H hback hi hj hk hij
  obtain ⟨k1, k2, k3, k4⟩ := Sp.cells hx0.hb
  have h8 := hx0.r8
  have c0 := HF.cell 1 rfl k1
  have c3 := HF.cell 1 rfl k4
  clear k1 k2 k3 k4
  obtain ⟨x, c0', hxe, hce, hxok, hxs, hcl⟩ : ∃ (x : Sp) (c0' : Nat), Hid (x0.shut = x) ∧ Hid (x0.shutN = c0') ∧ Hid x.Ok ∧ Hid (x.s = true) ∧ c0' ≤ 1 := ⟨_, _, rfl, rfl, (Sp.shut_ok hx0).1, (Sp.shut_ok hx0).2.1, by unfold Sp.shutN; split <;> omega⟩
  have hrr : Hid (x.r = x0.r) := by unfold Hid; rw [← hxe.out]; exact (Sp.shut_ok hx0).2.2
  have hnn : decide ((n : Int) < 0) = false := by simp
  have hnn2 : decide ((n : Int) > 65536) = false := by simp; omega
  have HX0 := Lib.hid hx0
  clear hx0
  rcases hs : x0.s with _ | _
  all_goals rw [hs] at c3
  have hS := Lib.hid hs
  have e1 : Hid (x = x0.close) := by unfold Hid; rw [← hxe.out]; unfold Sp.shut; rw [if_neg (by rw [hs]; decide)]
  have e2 : Hid (c0' = 1) := by unfold Hid; rw [← hce.out]; unfold Sp.shutN; rw [if_neg (by rw [hs]; decide)]
  clear hs
  go_enter Try.func51, Try.ntmps51
  go_wp2_with fail
  refine (spNone_no g x0.r w c0 (by omega)).mono ?_
  rintro e w1 ⟨rfl, rfl⟩
  unfold lptr
  go_wp2_with fail
  refine (spClose_s l r m b g x0 HF 0 1 (by omega) rfl rfl hg hm hb HX0.out hS.out).mono ?_
  rintro e w2 ⟨rfl, H2⟩
  rw [upd_laid (by simp), upd_laid (by simp)] at H2
  replace H2 : St w F w2 (lay [led l (noteN r 3 200 c0'), .blk g 111 x.vs]) := by rw [e1.out, e2.out]; exact H2
  clear c0 c3 HF
  go_upto_region 7 with (fail)
  refine absorb_wp (E := lay [led l (noteN r 3 200 c0'), .blk g 111 x.vs]) H2 ?_
  clear H2 hnn hnn2
  intro w2 H2
  rotate_left
  have e1 : Hid (x = x0) := by unfold Hid; rw [← hxe.out]; unfold Sp.shut; rw [if_pos hs]
  have e2 : Hid (c0' = 0) := by unfold Hid; rw [← hce.out]; unfold Sp.shutN; rw [if_pos hs]
  clear hs
  go_enter Try.func51, Try.ntmps51
  go_wp2_with fail
  refine (spNone_no g x0.r w c0 (by omega)).mono ?_
  rintro e w1 ⟨rfl, rfl⟩
  unfold lptr
  replace HF : St w F w (lay [led l (noteN r 3 200 c0'), .blk g 111 x.vs]) := by rw [e1.out, e2.out, noteN_zero]; exact HF
  go_upto_region 7 with (fail)
  refine absorb_wp (E := lay [led l (noteN r 3 200 c0'), .blk g 111 x.vs]) HF ?_
  clear HF hnn hnn2 c0 c3
  intro w2 H2
  rotate_left
  all_goals
    have hmk1 : i0.bytes * n ≤ 281474976710656 := by rw [hz2]; omega
    have hmk2 : n ≤ maxLen := by simp only [maxLen]; omega
    obtain ⟨w3, hrun, ho3, hg3⟩ := run_make_full (P := Try.prog) w2 w2.heap.size 22 5 i0 (.int .u8 0) 1 Try.underlying22 hi0 hz0 hz1 .i64 .i64 n hmk1 hmk2 (Nat.le_refl _)
    go_wp2
    try (rw [hrun]; go_wp2)
    clear hrun
    have hb3 : Below w2.heap.size w2 w3 := (Below.refl _ _).grown hg3 (Nat.le_refl _) (fun _ h => by cases h)
    have H3 := (((H2.pushRow 2 rfl hb3 (made0 ho3)).push_mk rfl).rowFull 2 rfl).upd_mk (by simp)
    clear ho3 hg3 hb3 H2 e1 e2
    generalize w2.heap.size = gO at H3 ⊢
    go_loopw [9] (fun i wr => ∃ t c : Nat, t ≤ n ∧ i = .int .i64 t ∧ Hid (c * x.r + (x.after t).p = x.p + t ∧ (t = 0 → c = 0) ∧ (0 < t → 1 ≤ (x.after t).p)) ∧ St w F wr (lay [led l (noteN r 3 200 (c0' + c)), .blk g 111 (x.after t).vs, .blk gO 5 ((x.read t ++ List.replicate (n - t) 0).map vb)])) (fun i _ => n - (intOf i).toNat)
    case atStart => exact ⟨0, 0, Nat.zero_le _, rfl, ⟨by rw [Sp.after_zero]; omega, fun _ => rfl, fun h => absurd h (by omega)⟩, H3⟩
    case round =>
      clear H3
      obtain ⟨t, c, ht, rfl, HC, H⟩ := hrel
      by_cases hlt : t < n
      · have hz := Sp.after_ok hxok.out hxs.out t
        have HZ : Hid ((x.after t).Ok ∧ (x.after t).r = x.r ∧ (x.after t).s = true) := ⟨hz.1, hz.2.1, hz.2.2.1⟩
        have hcb : c ≤ 65800 := by
          have h1 := HC.out.1
          have h2 := hxok.out.pr
          have h3 := hxok.out.r192
          have h4 := hxok.out.r8
          have : c * 1 ≤ c * x.r := Nat.mul_le_mul_left c (by omega)
          omega
        generalize hzz : x.after t = z at H HC HZ
        have HZZ := Lib.hid hzz
        clear hzz hz
        obtain ⟨k1, k2, k3, k4⟩ := Sp.cells HZ.out.1.hb
        have b0 := H.cell 1 rfl k1
        have b2 := H.cell 1 rfl k3
        have hk1 : (t : Int) < n := by omega
        clear k1 k2 k3 k4
        by_cases he : z.p = z.r
        have he1 : ((z.p : Int) == (z.r : Int)) = true := by simp; omega
        have HY := Lib.hid (Sp.turn_yes he)
        have hzp := HZ.out.1.hb
        have HCC : Hid ((c + 1) * x.r + z.turn.p = x.p + t ∧ 1 = 1) := by
          refine ⟨?_, rfl⟩
          have h1 := HC.out.1
          rw [HY.out]
          show (c + 1) * x.r + 0 = x.p + t
          rw [Nat.add_mul, Nat.one_mul, ← h1, he, HZ.out.2.1, Nat.add_zero]
        clear he
        go_wp2
        go_quiet (fail)
        go_wp2_with fail
        refine (spPermute_s l _ (m + 1) (b + ((c0' + c : Nat) : Int)) g z (H.drewN nq) 0 1 (by omega) rfl rfl (hg.noteN 3 200 _) (by omega) (by omega) hzp).mono ?_
        rintro e w6 ⟨rfl, H6⟩
        rw [upd_laid (by simp), upd_laid (by simp), noteN_noteN] at H6
        go_upto_region 12 with (fail)
        obtain ⟨c', HCY, hcb', H7⟩ : ∃ c', Hid (c' * x.r + z.turn.p = x.p + t) ∧ c' ≤ 65801 ∧ St w F w6 (lay [led l (noteN r 3 200 (c0' + c')), .blk g 111 z.turn.vs, .blk gO 5 ((x.read t ++ List.replicate (n - t) 0).map vb)]) := ⟨c + 1, HCC.out.1, by omega, by rw [HY.out]; exact H6⟩
        refine absorb_wp H7 ?_
        clear H6 H7 H HCC he1
        intro w7 H
        rotate_left
        have he1 : ((z.p : Int) == (z.r : Int)) = false := by simp; omega
        have HY := Lib.hid (Sp.turn_no he)
        go_wp2
        go_quiet (fail)
        go_upto_region 12 with (fail)
        obtain ⟨c', HCY, hcb', H7⟩ : ∃ c', Hid (c' * x.r + z.turn.p = x.p + t) ∧ c' ≤ 65801 ∧ St w F (wr.drewN nq) (lay [led l (noteN r 3 200 (c0' + c')), .blk g 111 z.turn.vs, .blk gO 5 ((x.read t ++ List.replicate (n - t) 0).map vb)]) := ⟨c, by unfold Hid; rw [HY.out]; exact HC.out.1, by omega, by rw [HY.out]; exact H.drewN _⟩
        refine absorb_wp H7 ?_
        clear H7 H he1
        intro w7 H
        rotate_left
        all_goals
          clear HY HC b0 b2
          have hz1 := Sp.turn_lt HZ.out.1
          have hz2 := Sp.turn_r z
          have hze := HZZ.out
          have HAG : ∀ k, z.turn.p + (k + 1) ≤ z.turn.r → x.after (t + (k + 1)) = z.turn.go (k + 1) := by
            intro k hk
            have := Sp.after_go (x := x) t k
            rw [hze] at this
            exact this hk
          have HRM : ∀ k, z.turn.p + k ≤ z.turn.r → z.turn.r ≤ 192 → z.turn.b.length = 200 → x.read (t + k) = x.read t ++ (z.turn.b.drop z.turn.p).take k := by
            intro k
            have := Sp.read_more (x := x) t k
            rw [hze] at this
            exact this
          rw [hz2.1] at HAG HRM
          have hzr := HZ.out.2.1
          have h192 := HZ.out.1.r192
          have h88 := HZ.out.1.r8
          have hr1 : z.turn.r = z.r := hz2.1
          rw [hzr] at HAG HRM hr1 h192 h88
          obtain ⟨hp1, hb2⟩ := hz1
          rw [hzr] at hp1
          generalize z.turn = y at H HCY HAG HRM hp1 hb2 hr1
          clear hz2 hze hzr HZ HZZ
          obtain ⟨D, hK⟩ : ∃ D, min (n - t) (x.r - y.p) = D + 1 := ⟨min (n - t) (x.r - y.p) - 1, by omega⟩
          have hAG := HAG D (by omega)
          have hRM := HRM (D + 1) (by omega) (by omega) hb2
          obtain ⟨e, hE⟩ : ∃ e, D + 1 = e := ⟨_, rfl⟩
          rw [hE] at hAG hRM hK
          have he1 : 1 ≤ e := by omega
          clear HAG HRM hE
          clear D
          have HAG1 := Lib.hid hAG
          have HRM1 := Lib.hid hRM
          obtain ⟨k1, -, k3, -⟩ := Sp.cells hb2
          rw [hr1] at k1
          have HR1 := Lib.hid hr1
          have HK := Lib.hid hK
          have HB2 := Lib.hid hb2
          have hK1 : e ≤ n - t := by omega
          have hK2 : y.p + e ≤ x.r := by omega
          clear hAG hRM hr1 hK hb2
          have hnt : ¬ n = t := by omega
          have hpp : y.p ≤ 200 := by omega
          have hpr : (y.p : Int) ≤ x.r := by omega
          have hrx : (x.r : Int) ≤ 200 := by omega
          replace H := H.drew
          refine wp_region_held_drew (S := fun w' : World => ∃ Z, St w F w' (lay [led l (noteN r 3 200 (c0' + c')), .blk g 111 y.vs, .blk gO 5 Z])) (by kernel_rfl) ?_ (fun hHeld => ?_)
          · exact ⟨_, H⟩
          refine takeV 0 rfl (by intro w h; clear h; go_simp; try with_reducible rfl) (by kernel_rfl) (by kernel_rfl) (by kernel_rfl) (by exact fun _ _ _ h => h) (by rfl) (by assumption) ?_
          try simp only [Act.put, List.setIfInBounds_toArray, List.set_cons_zero, List.set_cons_succ]
          refine takeV 1 rfl (by intro w h; clear h; go_simp; try with_reducible rfl) (by kernel_rfl) (by kernel_rfl) (by kernel_rfl) (by exact fun _ _ _ h => h) (by rfl) (by assumption) ?_
          try simp only [Act.put, List.setIfInBounds_toArray, List.set_cons_zero, List.set_cons_succ]
          refine takeV 2 rfl (by intro w h; clear h; go_simp; try with_reducible rfl) (by kernel_rfl) (by kernel_rfl) (by kernel_rfl) (by exact fun _ _ _ h => h) (by rfl) (by assumption) ?_
          try simp only [Act.put, List.setIfInBounds_toArray, List.set_cons_zero, List.set_cons_succ]
          refine takeV 3 rfl (by intro w h; clear h; go_simp; try with_reducible rfl) (by kernel_rfl) (by kernel_rfl) (by kernel_rfl) (by exact fun _ _ _ h => h) (by rfl) (by assumption) ?_
          try simp only [Act.put, List.setIfInBounds_toArray, List.set_cons_zero, List.set_cons_succ]
          refine takeV 4 rfl (by intro w h; clear h; go_simp; try with_reducible rfl) (by kernel_rfl) (by kernel_rfl) (by kernel_rfl) (by exact fun _ _ _ h => h) (by rfl) (by assumption) ?_
          try simp only [Act.put, List.setIfInBounds_toArray, List.set_cons_zero, List.set_cons_succ]
          refine takeV 5 rfl (by intro w h; clear h; go_simp; try with_reducible rfl) (by kernel_rfl) (by kernel_rfl) (by kernel_rfl) (by exact fun _ _ _ h => h) (by rfl) (by assumption) ?_
          try simp only [Act.put, List.setIfInBounds_toArray, List.set_cons_zero, List.set_cons_succ]
          refine takeV 6 rfl (by intro w h; clear h; go_simp; try with_reducible rfl) (by kernel_rfl) (by kernel_rfl) (by kernel_rfl) (by exact fun _ _ _ h => h) (by rfl) (by assumption) ?_
          try simp only [Act.put, List.setIfInBounds_toArray, List.set_cons_zero, List.set_cons_succ]
          refine takeV 7 rfl (by intro w h; clear h; go_simp; try with_reducible rfl) (by kernel_rfl) (by kernel_rfl) (by kernel_rfl) (by exact fun _ _ _ h => h) (by rfl) (by assumption) ?_
          try simp only [Act.put, List.setIfInBounds_toArray, List.set_cons_zero, List.set_cons_succ]
          refine takeV 8 rfl (by intro w h; clear h; go_simp; try with_reducible rfl) (by kernel_rfl) (by kernel_rfl) (by kernel_rfl) (by exact fun _ _ _ h => h) (by rfl) (by assumption) ?_
          try simp only [Act.put, List.setIfInBounds_toArray, List.set_cons_zero, List.set_cons_succ]
          refine takeV 9 rfl (by intro w h; have hc := (h.elim fun Z h => h.cell 1 rfl k3); clear h; go_simp; try with_reducible rfl) (by kernel_rfl) (by kernel_rfl) (by kernel_rfl) (by exact fun _ _ _ h => h) (by rfl) (by assumption) ?_
          try simp only [Act.put, List.setIfInBounds_toArray, List.set_cons_zero, List.set_cons_succ]
          refine takeV 10 rfl (by intro w h; clear h; go_simp; try with_reducible rfl) (by kernel_rfl) (by kernel_rfl) (by kernel_rfl) (by exact fun _ _ _ h => h) (by rfl) (by assumption) ?_
          try simp only [Act.put, List.setIfInBounds_toArray, List.set_cons_zero, List.set_cons_succ]
          refine takeV 11 rfl (by intro w h; clear h; go_simp; try with_reducible rfl) (by kernel_rfl) (by kernel_rfl) (by kernel_rfl) (by exact fun _ _ _ h => h) (by rfl) (by assumption) ?_
          try simp only [Act.put, List.setIfInBounds_toArray, List.set_cons_zero, List.set_cons_succ]
          refine takeV 12 rfl (by intro w h; clear h; go_simp; try with_reducible rfl) (by kernel_rfl) (by kernel_rfl) (by kernel_rfl) (by exact fun _ _ _ h => h) (by rfl) (by assumption) ?_
          try simp only [Act.put, List.setIfInBounds_toArray, List.set_cons_zero, List.set_cons_succ]
          refine takeV 13 rfl (by intro w h; have hc := (h.elim fun Z h => h.cell 1 rfl k1); clear h; go_simp; try with_reducible rfl) (by kernel_rfl) (by kernel_rfl) (by kernel_rfl) (by exact fun _ _ _ h => h) (by rfl) (by assumption) ?_
          try simp only [Act.put, List.setIfInBounds_toArray, List.set_cons_zero, List.set_cons_succ]
          refine takeV 14 rfl (by intro w h; clear h; go_simp; try with_reducible rfl) (by kernel_rfl) (by kernel_rfl) (by kernel_rfl) (by exact fun _ _ _ h => h) (by rfl) (by assumption) ?_
          try simp only [Act.put, List.setIfInBounds_toArray, List.set_cons_zero, List.set_cons_succ]
          refine take_call 15 rfl (by kernel_rfl) (fun K hK => ?_)
          refine step_copy_st rfl (.tmp 48) (.tmp 60) _ _ rfl 5 Try.underlying22 u8_size _ _ _ _ _ _ (by rfl) (by rfl) H 2 gO t _ _ (by rfl) (((y.b.drop y.p).take e).map vb) ?_ ?_ ?_ (vb_one _) ?_
          · rw [List.length_map, List.length_take, List.length_drop, HB2.out]; have := HK.out; show min e (200 - y.p) = min (x.r - y.p) (n - t); omega
          · exact fun _ => ⟨rfl, ⟨g, y.p, none⟩, by rw [if_neg (by omega)], fun j v hv => by rw [Addr.add_mid]; exact H.cell 1 rfl (chunk_at hv)⟩
          · rw [List.length_map, List.length_map, List.length_append, Sp.read_length, List.length_replicate, List.length_take, List.length_drop, HB2.out]; omega
          intro w5 H5
          replace H5 := H5.upd_mk (by simp)
          refine hK.out _ _ ?_ (fun hHeld => ?_)
          · exact ⟨_, H5⟩
          clear hK K
          try simp only [Act.put, List.setIfInBounds_toArray, List.set_cons_zero, List.set_cons_succ]
          rw [show (((y.b.drop y.p).take e).map vb).length = e by rw [List.length_map, List.length_take, List.length_drop, HB2.out]; omega]
          refine takeV 16 rfl (by intro w h; clear h; go_simp; try with_reducible rfl) (by kernel_rfl) (by kernel_rfl) (by kernel_rfl) (by exact fun _ _ _ h => h) (by rfl) (by assumption) ?_
          try simp only [Act.put, List.setIfInBounds_toArray, List.set_cons_zero, List.set_cons_succ]
          refine wpAnyH_done (by kernel_rfl) ?_ _
          have c2 := H5.cell 1 rfl k3
          have f2 := H5.free 1 rfl 202
          clear hHeld
          go_wp2
          go_roundw
          case rel => exact ⟨t + e, c', by omega, by go_num, ⟨by rw [HAG1.out]; show c' * x.r + (y.p + e) = _; have := HCY.out; omega, fun h => absurd h (by omega), fun _ => by rw [HAG1.out]; show 1 ≤ y.p + e; omega⟩, spread_end HAG1.out HRM1.out HB2.out (by omega) H5⟩
          case measure => simp [intOf]; omega
      · obtain rfl : n = t := by omega
        have hcc : Hid (c = (x.p + n - 1) / x.r) := count_end HC.out.1 (by have h := Sp.after_ok hxok.out hxs.out n; rw [← h.2.1]; exact h.1.pr) HC.out.2.1 HC.out.2.2 (by have := hxok.out.r8; omega) hxok.out.pr
        rw [Nat.sub_self, List.replicate_zero, List.append_nil] at H
        have H8 := (H.blkRow 2 rfl (n := n) (by rw [List.length_map, Sp.read_length]) (by simp only [maxLen]; omega)).upd_mk (by simp)
        rw [hcc.out, hrr.out, ← hxe.out, ← hce.out] at H8
        clear H HC
        go_wp2
        go_ret2
        exact ⟨_, rfl, St.two_more HIJ.out HI.out HJ.out HKK.out HB.out H8⟩

end

end Go.Proofs.Ythoopaknldkclaa

namespace Go.Proofs.Ythoopaknldkclaa
open Go.RowKit
set_option linter.unusedVariables false
set_option maxRecDepth 100000

attribute [local irreducible] permB kBytes kPerm kFrom

theorem zb_map : zb 200 = (List.replicate 200 (0 : UInt8)).map vb := by unfold zb; rw [List.map_replicate]; rfl

theorem zb200 : (List.replicate 200 (0 : UInt8)).length = 200 := List.length_replicate ..

theorem zbmap_len : ((List.replicate 200 (0 : UInt8)).map vb).length = 200 := by rw [List.length_map, zb200]

theorem step_append_grows {P : Program} (w : World) {ops : Array Oper} {o : Oper} {a : Act} {K : Act → World → Prop} {Q : Exit → Act → World → Prop} {X : Prop} (hg : o.guard = none) (s x : Operand) (t : TypeId) (hop : o.op = Op.call { callee := Callee.builtin Builtin.append, args := #[s, x], argTypes := #[t, t] })
    (e : TypeId) (i : TypeInfo) (z : Value) (size bytes : Nat) (h1 : P.underlying t = some (.slice e)) (h2 : P.info? e = some i) (h3 : i.zero = some z) (h4 : i.size = size) (h5 : i.bytes = bytes) (h6 : z.cells.size = size) (h7 : 0 < size)
    (b : Addr) (n cap : Nat) (olds : List Value) (hs : a.eval s = .slice (some b) n cap) (hlo : olds.length = n * size) (holds : ∀ j u, olds[j]? = some u → w.cell? (b.add j) = some u)
    (ad : Addr) (m c : Nat) (news : List Value) (hx : a.eval x = .slice (some ad) m c) (hn : news.length = m * size) (hc : ∀ j u, news[j]? = some u → w.cell? (ad.add j) = some u)
    (hfull : cap < n + m) (b1 : n + m ≤ maxLen) (b2 : (n + m) * bytes ≤ 140737488355328)
    (hK : ∀ v' w', w'.ownsRow w.heap.size e size v' (n + m) (olds ++ news) → w.grownBy w' none → K (a.put o.dst v') w') : if Region.wanted o (yielded ops a.tmps) = true then Oper.wp P o a w K Q else X := by
  rw [if_pos (by simp [Region.wanted, hg])]
  obtain ⟨v', w', hrun, r1, r2⟩ := run_append_arg_grows (P := P) w t o.type e i z size bytes h1 h2 h3 h4 h5 h6 h7 b n cap olds hlo holds ad m c news hn hc hfull b1 b2
  unfold Oper.wp
  simp [execOp, hop, resolve, invoke, builtin, hs, hx, hrun, Result.andThen]
  exact hK v' w' r1 r2

/-- a sponge's form -/
def Sp.form (x : Sp) : List UInt8 := x.b ++ [0, UInt8.ofNat x.p, if x.s = true then 1 else 0]

theorem Sp.form_length {x : Sp} (h : x.b.length = 200) : x.form.length = 203 := by unfold Sp.form; rw [List.length_append, h]; rfl

def spZero : List Value := (List.replicate 200 (0 : UInt8)).map vb ++ [.int .i64 0, .int .u8 0, .int .i64 0, .bool false]

def spZeroR : List Value := (List.replicate 200 (0 : UInt8)).map vb ++ [.int .i64 0, .int .u8 0, .int .i64 0, .bool false, .bool true]

theorem vs_one (x : Sp) : ∀ u ∈ x.vs, u.oneCell' = true := by
  intro u hu
  unfold Sp.vs at hu
  rcases List.mem_append.1 hu with h | h
  · exact vb_one _ u h
  · simp at h; rcases h with rfl | rfl | rfl | rfl <;> rfl

theorem vsR_one (x : Sp) : ∀ u ∈ x.vsR, u.oneCell' = true := by
  intro u hu
  unfold Sp.vsR at hu
  rcases List.mem_append.1 hu with h | h
  · exact vb_one _ u h
  · simp at h; rcases h with rfl | rfl | rfl | rfl | rfl <;> rfl

theorem below_front {xs : List Value} {n : Nat} (j : Nat) (v : Value) (h : (xs.take n)[j]? = some v) : xs[j]? = some v := by
  rw [List.getElem?_take] at h
  split at h
  · exact h
  · cases h

theorem zero_sp (w : World) : (zeroValue 111).run Try.prog w = .ok (.agg (zb 200 ++ [Value.int .i64 0, Value.int .u8 0, Value.int .i64 0, Value.bool false]).toArray) w := by kernel_rfl

theorem spZero_eq : (zb 200 ++ [Value.int .i64 0, Value.int .u8 0, Value.int .i64 0, Value.bool false]) = spZero := by rw [zb_map]; rfl

theorem spZero_one : ∀ u ∈ (zb 200 ++ [Value.int .i64 0, Value.int .u8 0, Value.int .i64 0, Value.bool false]), u.oneCell' = true := by
  rw [spZero_eq]
  intro u hu
  unfold spZero at hu
  rcases List.mem_append.1 hu with h | h
  · exact vb_one _ u h
  · simp at h; rcases h with rfl | rfl | rfl | rfl <;> rfl

theorem sp_size : (Try.prog.info? 111).map (·.size) = some 204 := by kernel_rfl

section
variable {w0 w : World} {F0 : List Nat} {E : Env}

theorem spNew_s (r : Int) (f : UInt8) (H : St w0 F0 w E) (k : Nat) (hk : E k = none) (h1 : 8 ≤ r) (h2 : r ≤ 192) (h3 : r % 8 = 0) :
    Calls Try.prog 70 #[.int .i64 r, .int .u8 (f.toNat : Int)] w fun e w' => ∃ g, e = .returned (.tuple #[lptr g, .int .i64 0]) ∧ St w0 F0 w' (upd E k (.blk g 111 (Sp.new r.toNat f).vs)) := by
  have hz0 := zero_sp
  have d1 : decide (r < 8) = false := by simp; omega
  have d2 : decide (r > 192) = false := by simp; omega
  have d3 : (r % 8 != 0) = false := by simp; omega
  have hr0 : 0 ≤ r := by omega
  have HR : Hid (((r.toNat : Nat) : Int) = r) := by unfold Hid; omega
  go_enter Try.func70, Try.ntmps70
  go_wp2
  go_ret2
  have e : ((zb 200 ++ [Value.int .i64 0, Value.int .u8 0, Value.int .i64 0, Value.bool false]).set 200 (Value.int .i64 r)).set 201 (Value.int .u8 (f.toNat : Int)) = (Sp.new r.toNat f).vs := by
    rw [zb_map, sp_put _ _ 0 _ zb200 rfl, sp_put _ _ 1 _ zb200 rfl]
    unfold Sp.new Sp.vs
    simp only [HR.out]
    rfl
  refine ⟨_, rfl, ?_⟩
  have H2 := H.alloc k hk (((zb 200 ++ [Value.int .i64 0, Value.int .u8 0, Value.int .i64 0, Value.bool false]).set 200 (Value.int .i64 r)).set 201 (Value.int .u8 (f.toNat : Int))).toArray 111
  rw [List.toList_toArray, e] at H2
  rw [← e]
  rw [← e] at H2
  exact H2

theorem spNew_no (r : Int) (f : UInt8) (h : r < 8 ∨ 192 < r ∨ r % 8 ≠ 0) :
    Calls Try.prog 70 #[.int .i64 r, .int .u8 (f.toNat : Int)] w fun e w' => e = .returned (.tuple #[.pointer none, .int .i64 2]) ∧ w = w' := by
  by_cases h1 : r < 8
  · have d1 : decide (r < 8) = true := by simp; omega
    clear h h1
    go_enter Try.func70, Try.ntmps70
    go_wp2
    go_ret2
    exact ⟨rfl, rfl⟩
  · by_cases h2 : 192 < r
    · have d1 : decide (r < 8) = false := by simp; omega
      have d2 : decide (r > 192) = true := by simp; omega
      clear h h1 h2
      go_enter Try.func70, Try.ntmps70
      go_wp2
      go_ret2
      exact ⟨rfl, rfl⟩
    · have d1 : decide (r < 8) = false := by simp; omega
      have d2 : decide (r > 192) = false := by simp; omega
      have d3 : (r % 8 != 0) = true := by simp; omega
      have hr0 : 0 ≤ r := by omega
      clear h h1 h2
      go_enter Try.func70, Try.ntmps70
      go_wp2
      go_ret2
      exact ⟨rfl, rfl⟩

set_option maxHeartbeats 1000000 in
theorem spClone_s (g : Nat) (x : Sp) (H : St w0 F0 w E) (j k : Nat) (hj : E j = some (.blk g 111 x.vs)) (hk : E k = none) (hx : x.Ok) :
    Calls Try.prog 49 #[lptr g] w fun e w' => ∃ g', e = .returned (.tuple #[lptr g', .int .i64 0]) ∧ St w0 F0 w' (upd E k (.blk g' 111 x.vs)) := by
  obtain ⟨k1, k2, k3, k4⟩ := Sp.cells hx.hb
  have h8 := hx.r8
  have c0 := H.cell j hj k1
  have HL := Lib.hid (Sp.vs_length hx.hb)
  clear k1 k2 k3 k4
  have hz0 := zero_sp
  have HH := Lib.hid H
  have HJ := Lib.hid hj
  have HK := Lib.hid hk
  clear hj hk hx
  go_enter Try.func49, Try.ntmps49
  go_wp2_with fail
  refine (spNone_no g x.r w c0 (by omega)).mono ?_
  rintro e w1 ⟨rfl, rfl⟩
  unfold lptr
  go_wp2_with (first | (refine wpList_load_row rfl 111 (.tmp 8) rfl g rfl _ _ _ _ (HH.out.blk j HJ.out) Try.underlying111 rfl (by rw [sp_size]; simp [HL.out]) ?_) | (refine wpList_store_mid rfl 111 (.tmp 4) (.tmp 9) rfl w.heap.size 0 x.vs.toArray rfl rfl (there_new _ _ _ _ (by simp [HL.out, zb_length])) (by rw [sp_size]; simp [HL.out]) (all_oneCell_toArray (vs_one x)) ?_; refine absorb_list (HH.out.alloc k HK.out (zb 200 ++ [Value.int .i64 0, Value.int .u8 0, Value.int .i64 0, Value.bool false]).toArray 111 |>.storeAll k upd_same (vs := x.vs) (by simp [HL.out, zb_length])) ?_; rw [upd_upd]; intro w4 H4))
  go_ret2
  exact ⟨_, rfl, H4⟩

set_option maxHeartbeats 1000000 in
theorem spWipe_s (l : Value) (r : Option (List RunT)) (m : Nat) (b : Int) (g : Nat) (x : Sp) (H : St w0 F0 w E) (i j : Nat) (hij : i ≠ j) (hi : E i = some (led l r)) (hj : E j = some (.blk g 111 x.vs)) (hg : LW r m b) (hm : m ≤ 999999999999) (hb : b ≤ 4000000000000000000) (hx : x.Ok) :
    Calls Try.prog 53 #[lptr g, l] w fun e w' => e = .returned (.int .i64 0) ∧ St w0 F0 w' (upd (upd E i (led l (noteN r 8 203 1))) j (.blk g 111 spZero)) := by
  obtain ⟨k1, k2, k3, k4⟩ := Sp.cells hx.hb
  have h8 := hx.r8
  have c0 := H.cell j hj k1
  have HL := Lib.hid (Sp.vs_length hx.hb)
  clear k1 k2 k3 k4
  have hz0 := zero_sp
  have HI := Lib.hid hi
  have HJ := Lib.hid hj
  have HG := Lib.hid hg
  have HIJ := Lib.hid hij
  clear hi hj hg hij hx
  go_enter Try.func53, Try.ntmps53
  go_wp2_with fail
  refine (spNone_no g x.r w c0 (by omega)).mono ?_
  rintro e w1 ⟨rfl, rfl⟩
  unfold lptr
  go_wp2_with fail
  refine (ledger_note_w m b 8 203 H i HI.out HG.out (by omega) (by omega)).mono ?_
  rintro e w3 ⟨rfl, H3⟩
  have HJ2 : Hid (upd E i (led l (noteN r 8 203 1)) j = some (.blk g 111 x.vs)) := by unfold Hid; rw [show upd E i (led l (noteN r 8 203 1)) j = E j from if_neg (Ne.symm HIJ.out)]; exact HJ.out
  go_wp2_with (refine wpList_store_mid rfl 111 (.tmp 12) (.tmp 11) rfl g 0 ((zb 200 ++ [Value.int .i64 0, Value.int .u8 0, Value.int .i64 0, Value.bool false])).toArray rfl rfl (by have h := H3.there j HJ2.out; rw [HL.out] at h; simpa [zb_length] using h) (by rw [sp_size]; simp [zb_length]) (all_oneCell_toArray spZero_one) ?_; refine absorb_list (H3.storeAll j HJ2.out (vs := (zb 200 ++ [Value.int .i64 0, Value.int .u8 0, Value.int .i64 0, Value.bool false])) (by simp [HL.out, zb_length])) ?_; rw [spZero_eq]; intro w4 H4)
  go_ret
  exact ⟨rfl, H4⟩

set_option maxHeartbeats 1000000 in
theorem spRate_s (g : Nat) (x : Sp) (H : St w0 F0 w E) (j : Nat) (hj : E j = some (.blk g 111 x.vs)) (hx : x.Ok) :
    Calls Try.prog 46 #[lptr g] w fun e w' => e = .returned (.int .i64 x.r) ∧ w = w' := by
  obtain ⟨k1, k2, k3, k4⟩ := Sp.cells hx.hb
  have h8 := hx.r8
  have c0 := H.cell j hj k1
  clear k1 k2 k3 k4 hx hj H
  go_enter Try.func46, Try.ntmps46
  unfold lptr
  go_wp2
  go_ret
  exact ⟨rfl, rfl⟩

end

end Go.Proofs.Ythoopaknldkclaa

namespace Go.Proofs.Ythoopaknldkclaa
open Go.RowKit
set_option linter.unusedVariables false
set_option maxRecDepth 100000

attribute [local irreducible] permB kBytes kPerm kFrom

section
variable {w0 w : World} {F0 : List Nat} {E : Env}

theorem St.drop {A : Own} {k : Nat} (hk : E k = none) (H : St w0 F0 w (upd E k A)) : St w0 F0 w E := H.sub fun n C hC => by
  have : n ≠ k := fun e => by rw [e, hk] at hC; cases hC
  rw [show upd E k A n = E n from if_neg this]; exact hC

set_option maxHeartbeats 2000000 in
theorem spForm_s (g : Nat) (x : Sp) (H : St w0 F0 w E) (j k : Nat) (hj : E j = some (.blk g 111 x.vs)) (hk : E k = none) (hx : x.Ok) :
    Calls Try.prog 52 #[lptr g] w fun e w' => ∃ v, e = .returned v ∧ St w0 F0 w' (upd E k (.row 5 1 v 203 (x.form.map vb))) := by
  obtain ⟨i0, hi0, hz0, hz1, hz2⟩ := info_parts u8_info
  obtain ⟨k1, k2, k3, k4⟩ := Sp.cells hx.hb
  have h8 := hx.r8
  have hp : x.p ≤ 192 := Nat.le_trans hx.pr hx.r192
  have c0 := H.cell j hj k1
  have HX := Lib.hid hx.hb
  have HJ := Lib.hid hj
  have HK := Lib.hid hk
  clear hj hk hx
  go_enter Try.func52, Try.ntmps52
  go_wp2_with fail
  refine (spNone_no g x.r w c0 (by omega)).mono ?_
  rintro e w1 ⟨rfl, rfl⟩
  unfold lptr
  have hp1 : (x.p : Int) ≤ 192 := by omega
  have hq1 : Hid (IntKind.u8.wrap ((x.p : Int) / 256) = 0) := by unfold Hid; rw [show (x.p : Int) / 256 = 0 by omega]; rfl
  have hq2 : Hid (IntKind.u8.wrap (x.p : Int) = ((UInt8.ofNat x.p).toNat : Int)) := by unfold Hid; rw [IntKind.wrap_u8, UInt8.toNat_ofNat']; omega
  have HF : Hid (x.form = x.b ++ [0, UInt8.ofNat x.p, if x.s = true then 1 else 0]) := by unfold Hid; rfl
  have c3 := H.cell j HJ.out k4
  go_wp2
  replace H := H.drew
  refine wp_region_held_drew (S := fun w' : World => St w0 F0 w' E) (by kernel_rfl) ?_ (fun hHeld => ?_)
  · exact H
  refine takeV 0 rfl (by intro w h; clear h; go_simp; try with_reducible rfl) (by kernel_rfl) (by kernel_rfl) (by kernel_rfl) (by exact fun _ _ _ h => h) (by rfl) (by assumption) ?_
  try simp only [Act.put, List.setIfInBounds_toArray, List.set_cons_zero, List.set_cons_succ]
  refine takeV 1 rfl (by intro w h; clear h; go_simp; try with_reducible rfl) (by kernel_rfl) (by kernel_rfl) (by kernel_rfl) (by exact fun _ _ _ h => h) (by rfl) (by assumption) ?_
  try simp only [Act.put, List.setIfInBounds_toArray, List.set_cons_zero, List.set_cons_succ]
  refine takeV 2 rfl (by intro w h; clear h; go_simp; try with_reducible rfl) (by kernel_rfl) (by kernel_rfl) (by kernel_rfl) (by exact fun _ _ _ h => h) (by rfl) (by assumption) ?_
  try simp only [Act.put, List.setIfInBounds_toArray, List.set_cons_zero, List.set_cons_succ]
  refine takeV 3 rfl (by intro w h; clear h; go_simp; try with_reducible rfl) (by kernel_rfl) (by kernel_rfl) (by kernel_rfl) (by exact fun _ _ _ h => h) (by rfl) (by assumption) ?_
  try simp only [Act.put, List.setIfInBounds_toArray, List.set_cons_zero, List.set_cons_succ]
  refine takeV 4 rfl (by intro w h; clear h; go_simp; try with_reducible rfl) (by kernel_rfl) (by kernel_rfl) (by kernel_rfl) (by exact fun _ _ _ h => h) (by rfl) (by assumption) ?_
  try simp only [Act.put, List.setIfInBounds_toArray, List.set_cons_zero, List.set_cons_succ]
  refine takeV 5 rfl (by intro w h; clear h; go_simp; try with_reducible rfl) (by kernel_rfl) (by kernel_rfl) (by kernel_rfl) (by exact fun _ _ _ h => h) (by rfl) (by assumption) ?_
  try simp only [Act.put, List.setIfInBounds_toArray, List.set_cons_zero, List.set_cons_succ]
  refine takeV 6 rfl (by intro w h; clear h; go_simp; try with_reducible rfl) (by kernel_rfl) (by kernel_rfl) (by kernel_rfl) (by exact fun _ _ _ h => h) (by rfl) (by assumption) ?_
  try simp only [Act.put, List.setIfInBounds_toArray, List.set_cons_zero, List.set_cons_succ]
  refine takeV 7 rfl (by intro w h; have hc := h.cell j HJ.out k3; clear h; go_simp; try with_reducible rfl) (by kernel_rfl) (by kernel_rfl) (by kernel_rfl) (by exact fun _ _ _ h => h) (by rfl) (by assumption) ?_
  try simp only [Act.put, List.setIfInBounds_toArray, List.set_cons_zero, List.set_cons_succ]
  refine takeV 8 rfl (by intro w h; clear h; go_simp; try with_reducible rfl) (by kernel_rfl) (by kernel_rfl) (by kernel_rfl) (by exact fun _ _ _ h => h) (by rfl) (by assumption) ?_
  try simp only [Act.put, List.setIfInBounds_toArray, List.set_cons_zero, List.set_cons_succ]
  refine takeV 9 rfl (by intro w h; clear h; go_simp; try with_reducible rfl) (by kernel_rfl) (by kernel_rfl) (by kernel_rfl) (by exact fun _ _ _ h => h) (by rfl) (by assumption) ?_
  try simp only [Act.put, List.setIfInBounds_toArray, List.set_cons_zero, List.set_cons_succ]
  refine takeV 10 rfl (by intro w h; clear h; go_simp; try with_reducible rfl) (by kernel_rfl) (by kernel_rfl) (by kernel_rfl) (by exact fun _ _ _ h => h) (by rfl) (by assumption) ?_
  try simp only [Act.put, List.setIfInBounds_toArray, List.set_cons_zero, List.set_cons_succ]
  refine takeV 11 rfl (by intro w h; clear h; go_simp; try with_reducible rfl) (by kernel_rfl) (by kernel_rfl) (by kernel_rfl) (by exact fun _ _ _ h => h) (by rfl) (by assumption) ?_
  try simp only [Act.put, List.setIfInBounds_toArray, List.set_cons_zero, List.set_cons_succ]
  refine takeV 12 rfl (by intro w h; clear h; go_simp; try with_reducible rfl) (by kernel_rfl) (by kernel_rfl) (by kernel_rfl) (by exact fun _ _ _ h => h) (by rfl) (by assumption) ?_
  try simp only [Act.put, List.setIfInBounds_toArray, List.set_cons_zero, List.set_cons_succ]
  refine takeV 13 rfl (by intro w h; have hc := h.cell j HJ.out k3; clear h; go_simp; try with_reducible rfl) (by kernel_rfl) (by kernel_rfl) (by kernel_rfl) (by exact fun _ _ _ h => h) (by rfl) (by assumption) ?_
  try simp only [Act.put, List.setIfInBounds_toArray, List.set_cons_zero, List.set_cons_succ]
  refine takeV 14 rfl (by intro w h; clear h; go_simp; try with_reducible rfl) (by kernel_rfl) (by kernel_rfl) (by kernel_rfl) (by exact fun _ _ _ h => h) (by rfl) (by assumption) ?_
  try simp only [Act.put, List.setIfInBounds_toArray, List.set_cons_zero, List.set_cons_succ]
  rw [hq1.out, hq2.out]
  generalize UInt8.ofNat x.p = P8 at HF
  refine take_call 15 rfl (by kernel_rfl) (fun K hK => ?_)
  go_simp
  have H4 := H.alloc k HK.out #[.int .u8 0, .int .u8 (P8.toNat : Int), .int .u8 0] 5
  refine hK.out _ _ (St.drop HK.out H4) (fun hHeld => ?_)
  clear hK K
  try simp only [Act.put, List.setIfInBounds_toArray, List.set_cons_zero, List.set_cons_succ]
  have hjk : upd E k (.blk w.drew.heap.size 5 [.int .u8 0, .int .u8 (P8.toNat : Int), .int .u8 0]) j = some (.blk g 111 x.vs) := by rw [show upd E k _ j = E j from if_neg fun e => by have := HJ.out; rw [e, HK.out] at this; cases this]; exact HJ.out
  refine take_call 16 rfl (by kernel_rfl) (fun K hK => ?_)
  refine step_append_grows _ (by rfl) (.tmp 9) (.tmp 21) _ (by rfl) 5 i0 (.int .u8 0) 1 1 Try.underlying22 hi0 hz0 hz1 hz2 rfl (by omega) ⟨g, 0, none⟩ 200 200 (x.b.map vb) (by rfl) (by rw [List.length_map, HX.out]) (fun i u hu => by rw [Addr.add_mid, Nat.zero_add]; exact H4.cell j hjk (by unfold Sp.vs; rw [List.getElem?_append_left (List.getElem?_eq_some_iff.1 hu).1]; exact hu)) ⟨_, 0, none⟩ 3 3 [.int .u8 0, .int .u8 (P8.toNat : Int), .int .u8 0] (by rfl) rfl (fun i u hu => by rw [Addr.add_mid, Nat.zero_add]; exact H4.cell k upd_same hu) (by omega) (by simp only [maxLen]; omega) (by omega) ?_
  intro v1 w5 hown hg2
  have H5 := (St.drop HK.out H4).pushRow k HK.out ((Below.refl _ _).grown hg2 (Nat.le_refl _) (fun _ h => by cases h)) hown
  refine hK.out _ _ (St.drop HK.out H5) (fun hHeld => ?_)
  clear hK K H4 hown hg2 hjk H
  try simp only [Act.put, List.setIfInBounds_toArray, List.set_cons_zero, List.set_cons_succ]
  refine takeV 17 rfl (by intro w h; clear h; go_simp; try with_reducible rfl) (by kernel_rfl) (by kernel_rfl) (by kernel_rfl) (by exact fun _ _ _ h => h) (by rfl) (by assumption) ?_
  try simp only [Act.put, List.setIfInBounds_toArray, List.set_cons_zero, List.set_cons_succ]
  refine wpAnyH_done (by kernel_rfl) ?_ _
  clear hHeld
  obtain ⟨A1, d1, rfl, hd1, ha1⟩ := row_form (H5.row k upd_same)
  obtain ⟨g1, rfl, -⟩ := ha1 (by omega)
  replace H5 : St w0 F0 w5 (upd E k (.row 5 1 (.slice (some ⟨g1, 0, none⟩) 203 d1) 203 (x.b.map vb ++ [.int .u8 0, .int .u8 (P8.toNat : Int), .int .u8 0]))) := H5
  rw [show (200 + 3 : Nat) = 203 from rfl]
  have c6 := (St.drop HK.out H5).cell j HJ.out k4
  have f1 := World.ownsRow.frozenAt (H5.row k upd_same) 202
  have f2 := World.ownsRow.cellAt (H5.row k upd_same) 202 (by omega)
  rw [sp_get x.b _ 2 HX.out rfl] at f2
  simp only [List.getElem?_cons_succ, List.getElem?_cons_zero] at f2
  clear ha1 k1 k2 k3 k4 c0 c3
  rcases hs : x.s with _ | _
  all_goals rw [hs] at c6
  · have HF2 : Hid (x.form.map vb = x.b.map vb ++ [.int .u8 0, .int .u8 (P8.toNat : Int), .int .u8 0]) := by unfold Hid; rw [HF.out, hs, List.map_append]; rfl
    clear hs HF
    go_wp2
    go_ret
    exact ⟨_, rfl, by rw [HF2.out]; exact H5⟩
  · have HF2 : Hid (x.form.map vb = x.b.map vb ++ [.int .u8 0, .int .u8 (P8.toNat : Int), .int .u8 1]) := by unfold Hid; rw [HF.out, hs, List.map_append]; rfl
    clear hs HF
    go_wp2
    go_ret
    have H6 := H5.rowStore k upd_same (o := 202) (u := .int .u8 1)
    rw [upd_upd, sp_put x.b _ 2 _ HX.out rfl] at H6
    exact ⟨_, rfl, by rw [HF2.out]; exact H6⟩

end

end Go.Proofs.Ythoopaknldkclaa

namespace Go.Proofs.Ythoopaknldkclaa
open Go.RowKit
set_option linter.unusedVariables false
set_option maxRecDepth 100000

attribute [local irreducible] permB kBytes kPerm kFrom

/-- a name and a custom ahead of a message -/
def prefixB (r : Nat) (x y : List UInt8) : List UInt8 := padI (strB x ++ strB y) (r : Int)

def beginSp (r : Nat) (x y : List UInt8) : Sp := if x.length + y.length = 0 then Sp.new r 31 else (Sp.new r 4).write (prefixB r x y)

def beginN (r : Nat) (x y : List UInt8) : Nat := if x.length + y.length = 0 then 0 else (prefixB r x y).length / r

theorem beginSp_ok {r : Nat} (x y : List UInt8) (h : 8 ≤ r) (h' : r ≤ 192) : (beginSp r x y).Ok ∧ (beginSp r x y).s = false ∧ (beginSp r x y).r = r ∧ (beginSp r x y).p < r := by
  unfold beginSp
  by_cases h0 : x.length + y.length = 0
  · rw [if_pos h0]; exact ⟨Sp.new_ok r 31 h h', rfl, rfl, by show 0 < r; omega⟩
  · rw [if_neg h0]
    have h1 := Sp.write_ok (prefixB r x y) (Sp.new_ok r 4 h h') (by show 0 < r; omega)
    have h2 := Sp.write_r (prefixB r x y) (Sp.new r 4)
    exact ⟨h1.1, h2.2.2, h2.1, by have := h1.2; rw [h2.1] at this; exact this⟩

/-- a second piece, which is new, is handed up with the one -/
theorem St.one_more {w0 w w' : World} {F0 F : List Nat} {E : Env} {A R A0 : Own} {i k : Nat} (hi : E i = some A0) (hk : E k = none)
    (hback : ∀ (w' : World) (A' : Own), St w F w' (one A') → St w0 F0 w' (upd E i A')) (H : St w F w' (lay [A, R])) : St w0 F0 w' (upd (upd E i A) k R) := by
  have hki : k ≠ i := fun e => by rw [e, hi] at hk; cases hk
  have H1 := H.join 0 1 (by omega) rfl rfl
  have H2 : St w F w' (one (.sep A R)) := H1.sub fun n C hC => by
    simp only [one, upd, Env.nil] at hC
    by_cases h0 : n = 0
    · subst h0; rw [if_pos rfl] at hC; rw [← hC]; rfl
    · rw [if_neg h0] at hC; cases hC
  have H3 := hback _ _ H2
  have H4 := H3.part (A := A) (B := R) i k (Ne.symm hki) (by simp [upd]) (by simp [upd, hki, hk])
  refine H4.env fun n => ?_
  simp only [upd]
  by_cases h1 : n = k
  · simp [h1]
  · by_cases h3 : n = i <;> simp [h1, h3]

theorem padI_le {l : List UInt8} {W : Int} (h : 1 ≤ W) (h' : W ≤ 256) (hl : l.length ≤ 10000000) : (padI l W).length ≤ 10001000 := by
  have hp : padOk W := ⟨h, h'⟩
  unfold padI
  rw [if_pos hp]
  unfold padB padN
  have h1 := leftB_le (n := W.toNat) (by omega)
  have h2 : (W.toNat - (leftB W.toNat ++ l).length % W.toNat) % W.toNat < W.toNat := Nat.mod_lt _ (by omega)
  simp only [List.length_append, List.length_replicate] at h2 ⊢
  generalize (W.toNat - ((leftB W.toNat).length + l.length) % W.toNat) % W.toNat = q at h2 ⊢
  omega

theorem strB_le {l : List UInt8} (hl : l.length ≤ 2000000) : (strB l).length ≤ 2000009 := by
  unfold strB
  have h1 := leftB_le (n := 8 * l.length) (by omega)
  rw [List.length_append]
  omega

section
variable {w0 w : World} {F0 : List Nat} {E : Env}

theorem shRate_s (S : Int) (R : Nat) (hS : (S = 128 ∧ R = 168) ∨ (S = 256 ∧ R = 136)) (w : World) : Calls Try.prog 69 #[.int .i64 S] w fun e w' => e = .returned (.int .i64 R) ∧ w = w' := by
  rcases hS with ⟨rfl, rfl⟩ | ⟨rfl, rfl⟩
  all_goals
    go_enter Try.func69, Try.ntmps69
    go_wp2
    go_ret
    exact ⟨rfl, rfl⟩

set_option maxHeartbeats 2000000 in
theorem shBegin_s (l : Value) (r : Option (List RunT)) (m : Nat) (b : Int) (S : Int) (R : Nat) (hS : (S = 128 ∧ R = 168) ∨ (S = 256 ∧ R = 136)) (A B : Option Addr) (n nc c d : Nat) (xs ys : List UInt8) (H : St w0 F0 w E) (i k : Nat) (hi : E i = some (led l r)) (hk : E k = none) (hg : LW r m b) (hm : m ≤ 999999999) (hb : b ≤ 1000000000000000000)
    (hA : ∀ w' X, St w0 F0 w' (upd E i X) → Rd w' 1 A n (xs.map vb)) (hB : ∀ w' X, St w0 F0 w' (upd E i X) → Rd w' 1 B nc (ys.map vb)) (hn : n ≤ 2000000) (hnc : nc ≤ 2000000) :
    Calls Try.prog 43 #[l, .int .i64 S, .slice A n c, .slice B nc d] w fun e w' => ∃ g, e = .returned (.tuple #[lptr g, .int .i64 0]) ∧ St w0 F0 w' (upd (upd E i (led l (noteN r 3 200 (beginN R xs ys)))) k (.blk g 111 (beginSp R xs ys).vs)) := by
  obtain ⟨i0, hi0, hz0, hz1, hz2⟩ := info_parts u8_info
  obtain ⟨F, HF, -, -, hback⟩ := H.frame1 i hi
  have HB := Lib.hid hback
  have HA : Hid (∀ w' X, St w F w' (one X) → Rd w' 1 A n (xs.map vb)) := fun w' X h => hA w' X (hback w' X h)
  have HBB : Hid (∀ w' X, St w F w' (one X) → Rd w' 1 B nc (ys.map vb)) := fun w' X h => hB w' X (hback w' X h)
  replace HF := HF.as1
  have HI := Lib.hid hi
  have HK := Lib.hid hk
  have hlx : xs.length = n := by have h := (HA.out w _ (HF.to1 rfl)).1; simpa using h
  have hly : ys.length = nc := by have h := (HBB.out w _ (HF.to1 rfl)).1; simpa using h
  have HX := Lib.hid hlx
  have HY := Lib.hid hly
  have HG := Lib.hid hg
  clear hback hA hB hi hk H hlx hly hg
  have hR1 : R ≤ 168 := by omega
  have hR2 : 136 ≤ R := by omega
  have hR8 : R % 8 = 0 := by rcases hS with ⟨-, rfl⟩ | ⟨-, rfl⟩ <;> rfl
  have HSP : Hid (beginSp R xs ys = if n + nc = 0 then Sp.new R 31 else (Sp.new R 4).write (prefixB R xs ys)) := by unfold Hid; rw [← HX.out, ← HY.out]; rfl
  have HSN : Hid (beginN R xs ys = if n + nc = 0 then 0 else (prefixB R xs ys).length / R) := by unfold Hid; rw [← HX.out, ← HY.out]; rfl
  have hRz : ((R : Int) == 0) = false := by simp; omega
  by_cases h0 : n + nc = 0
  · obtain rfl : n = 0 := by omega
    obtain rfl : nc = 0 := by omega
    have HSP2 : Hid (beginSp R xs ys = Sp.new R 31) := HSP.out
    have HSN2 : Hid (beginN R xs ys = 0) := HSN.out
    clear HSP HSN
    all_goals
      go_enter Try.func43, Try.ntmps43
      go_wp2_with fail
      refine (shRate_s S R hS _).mono ?_
      rintro e w1 ⟨rfl, rfl⟩
      go_wp2_with fail
      refine (spNew_s (R : Int) 31 HF 1 rfl (by omega) (by omega) (by omega)).mono ?_
      rintro e w2 ⟨g, rfl, H2⟩
      replace H2 := H2.push_mk rfl
      unfold lptr
      go_wp2
      go_ret2
      refine ⟨g, rfl, St.one_more HI.out HK.out HB.out ?_⟩
      rw [HSP2.out, HSN2.out, noteN_zero]
      exact H2
  · have HSP2 : Hid (beginSp R xs ys = (Sp.new R 4).write (prefixB R xs ys)) := by unfold Hid; rw [HSP.out, if_neg h0]
    have HSN2 : Hid (beginN R xs ys = (prefixB R xs ys).length / R) := by unfold Hid; rw [HSN.out, if_neg h0]
    clear HSP HSN
    have hzz : (((n : Int) == 0) = false) ∨ (((n : Int) == 0) = true ∧ ((nc : Int) == 0) = false) := by
      by_cases h1 : n = 0
      · right; exact ⟨by simp; omega, by simp; omega⟩
      · left; simp; omega
    clear h0
    rcases hzz with hq1 | ⟨hq1, hq2⟩
    all_goals
      go_enter Try.func43, Try.ntmps43
      go_wp2_with fail
      refine (shRate_s S R hS _).mono ?_
      rintro e w1 ⟨rfl, rfl⟩
      go_wp2_with fail
      refine (spNew_s (R : Int) 4 HF 1 rfl (by omega) (by omega) (by omega)).mono ?_
      rintro e w2 ⟨g, rfl, H2⟩
      replace H2 := H2.push_mk rfl
      rw [Int.toNat_natCast] at H2
      unfold lptr
      go_wp2_with fail
      refine (string_s A n c xs w2 (HA.out _ _ (H2.to1 rfl)) (by omega)).mono ?_
      rintro e w3 ⟨v1, rfl, ho1, hb1⟩
      replace H2 := (H2.pushOwnB 2 rfl ho1 hb1).push_mk rfl
      clear ho1 hb1
      go_wp2_with fail
      refine (string_s B nc d ys w3 (HBB.out _ _ (H2.to1 rfl)) (by omega)).mono ?_
      rintro e w4 ⟨v2, rfl, ho2, hb2⟩
      replace H2 := (H2.pushOwnB 3 rfl ho2 hb2).push_mk rfl
      clear ho2 hb2
      have hs1 := strB_le (l := xs) (by rw [HX.out]; exact hn)
      have hs2 := strB_le (l := ys) (by rw [HY.out]; exact hnc)
      have HPB : Hid (prefixB R xs ys = padI (strB xs ++ strB ys) (R : Int)) := by unfold Hid; rfl
      generalize strB xs = s1 at H2 hs1 HPB
      generalize strB ys = s2 at H2 hs2 HPB
      obtain ⟨A1, d1, rfl, -⟩ := row_form (H2.row 2 rfl)
      obtain ⟨A2, d2, rfl, -⟩ := row_form (H2.row 3 rfl)
      go_wp2_with (at_builtin; refine wpList_append_any _ rfl (.tmp 40) (.tmp 42) _ rfl 0 5 i0 (.int .u8 0) 1 1 Try.underlying22 hi0 hz0 hz1 hz2 rfl (by omega) (.slice A1 s1.length d1) s1.length (s1.map vb) rfl (H2.row 2 rfl) A2 s2.length d2 (s2.map vb) rfl (H2.rd 3 rfl) (vb_one _) (by simp only [maxLen]; omega) (by omega) (Nat.zero_le _) ?_; intro v5 w5 hown5 hg5 hat5)
      have H5 := (H2.grow 2 rfl hown5 hg5 hat5).upd_mk (by simp)
      clear hown5 hg5 hat5 H2
      replace H5 : St w F w5 (lay [led l r, .blk g 111 (Sp.new R 4).vs, .row 5 1 v5 (s1.length + s2.length) (s1.map vb ++ s2.map vb), .row 5 1 (.slice A2 s2.length d2) s2.length (s2.map vb)]) := H5
      obtain ⟨A5, d5, rfl, -⟩ := row_form (H5.row 2 rfl)
      have HL12 : Hid ((s1 ++ s2).length = s1.length + s2.length) := List.length_append
      have hr5 := H5.rd 2 rfl
      rw [← List.map_append] at hr5
      go_wp2_with fail
      refine (pad_s A5 (s1.length + s2.length) d5 (s1 ++ s2) (R : Int) w5 hr5 (by omega)).mono ?_
      rintro e w6 ⟨v6, rfl, ho6, hb6⟩
      clear hr5
      rw [← HPB.out] at ho6
      replace H5 := (H5.pushOwnB 4 rfl ho6 hb6).push_mk rfl
      clear ho6 hb6
      have hpl : (prefixB R xs ys).length ≤ 10001000 := by rw [HPB.out]; exact padI_le (by omega) (by omega) (by rw [HL12.out]; omega)
      have hpe : padE (R : Int) = 0 := if_pos (show padOk (R : Int) from ⟨by omega, by omega⟩)
      rw [hpe]
      clear hpe
      generalize prefixB R xs ys = pf at H5 hpl HSP2 HSN2
      obtain ⟨A6, d6, rfl, -⟩ := row_form (H5.row 4 rfl)
      replace H5 : St w F w6 (lay [led l r, .blk g 111 (Sp.new R 4).vs, .row 5 1 (.slice A5 (s1.length + s2.length) d5) (s1.length + s2.length) (s1.map vb ++ s2.map vb), .row 5 1 (.slice A2 s2.length d2) s2.length (s2.map vb), .row 5 1 (.slice A6 pf.length d6) pf.length (pf.map vb)]) := H5
      go_wp2_with fail
      refine (spWrite_s l r m b g (Sp.new R 4) A6 pf.length d6 pf H5 0 1 (by omega) rfl rfl HG.out (by omega) (by omega) (Sp.new_ok _ _ (by omega) (by omega)) rfl (fun w' X Y h => h.rd 4 rfl) (by omega)).mono ?_
      rintro e w7 ⟨rfl, H7⟩
      rw [upd_laid (by simp), upd_laid (by simp)] at H7
      replace H7 := H7.front 2
      go_wp2
      go_ret2
      refine ⟨g, rfl, St.one_more HI.out HK.out HB.out ?_⟩
      rw [HSP2.out, HSN2.out]
      rw [show (Sp.new R 4).p = 0 from rfl, show (Sp.new R 4).r = R from rfl, Nat.zero_add] at H7
      exact H7

end

end Go.Proofs.Ythoopaknldkclaa
