/- SHA-512: the digest of what a state has taken; its form; a copy; back to the beginning, walked. -/
import Derived.Test.YthieegmmbjjcbaaSh5W
import Derived.Test.YthieegmmbjjcbaaWLay
namespace Go.Proofs.Ythieegmmbjjcbaa
open Go.RowKit
set_option linter.unusedVariables false
set_option maxRecDepth 100000

/-- words as bytes -/
def laid8 (l : List UInt64) (k : Nat) : List UInt8 := ((l.take k).map fun x => beL 8 x.toNat).flatten
theorem laid8_succ {l : List UInt64} {k : Nat} (hk : k < l.length) : laid8 l (k + 1) = laid8 l k ++ beL 8 (at64 l k).toNat := by
  unfold laid8
  rw [List.take_add_one, List.getElem?_eq_getElem hk, List.map_append, List.flatten_append]
  simp [at64, hk]
theorem laid8_length {l : List UInt64} {k : Nat} (hk : k ≤ l.length) : (laid8 l k).length = 8 * k := by
  induction k with
  | zero => rfl
  | succ k ih => rw [laid8_succ (by omega), List.length_append, ih (by omega), beL_length]; omega
theorem h85_ix (h : List UInt64) (hh : h.length = 8) (k : Nat) (hk : k < 8) (w : World) : (Instr.index 69 (.agg (h.map u64v).toArray) (.int .i64 (k : Int))).run Try.prog w = .ok (.int .u64 ((at64 h k).toNat : Int)) w :=
  run_index_agg (P := Try.prog) 69 68 8 (h.map u64v).toArray k _ Try.underlying69 u64_size u64_notAgg hk (by have := u64_get (l := h) (k := k) (by omega); simpa using this) w

def padZ5 (n : Nat) : Nat := (239 - n % 128) % 128
def padM5 (n : Nat) : List UInt8 := (128 :: List.replicate (padZ5 n + 8) 0) ++ beL 8 (8 * n)
theorem padM5_length (n : Nat) : (padM5 n).length = 17 + padZ5 n := by
  unfold padM5
  rw [List.length_append, List.length_cons, List.length_replicate, beL_length]; omega
def dig5 (M : List UInt8) : List UInt8 := laid8 (h5 (M ++ padM5 M.length)) 8
theorem dig5_length (M : List UInt8) : (dig5 M).length = 64 := laid8_length (by rw [h5_length]; omega)
def lastN5 (n : Nat) : Nat := (n + (17 + padZ5 n)) / 128 - n / 128
theorem lastN5_le (n : Nat) : lastN5 n ≤ 2 := by
  unfold lastN5 padZ5
  omega
theorem made0' {w : World} {base g n : Nat} (h : w.ownsRow base 5 1 (.slice (some ⟨g, 0, none⟩) n n) n (madeCells (Value.int .u8 0).cells (n * 1)).toList) : w.ownsRow base 5 1 (.slice (some ⟨g, 0, none⟩) n n) n ((List.replicate n (0 : UInt8)).map vb) := by
  rw [show (Value.int .u8 0).cells = #[.int .u8 0] from rfl, toList_madeCells_one, Nat.mul_one] at h
  rw [List.map_replicate]
  exact h
attribute [local irreducible] comp5 hTo

section
variable {w0 w w' : World} {F0 : List Nat} {E : Env}

theorem St.newRow' {w w' : World} {E : Env} {e : TypeId} {size n : Nat} {v : Value} {xs : List Value} (H : St w [] w' E) (k : Nat) (hk : E k = some (.row e size v n xs)) : w'.ownsRow w.heap.size e size v n xs := by
  obtain ⟨F, ⟨h, eF⟩, hF, -⟩ := H.change k hk
  exact ownsRow_base h fun g hg => by have := hF g (by rw [eF]; exact hg); simpa using this
theorem St.rowFull2 {g n : Nat} {e : TypeId} {xs : List Value} (H : St w0 F0 w E) (k : Nat) (hk : E k = some (.row e 1 (.slice (some ⟨g, 0, none⟩) n n) n xs)) : St w0 F0 w (upd E k (.blk g e xs)) := by
  obtain ⟨F, ⟨h, hF⟩, -, -, hc⟩ := H.change k hk
  refine hc w _ [g] ⟨?_, rfl⟩ (Low.refl _ _) (by intro g' hg'; left; rw [hF]; simpa [Value.ownBlock] using hg')
  rcases h.2 with ⟨hv, -⟩ | ⟨g', cap, cur, hv, -, hg, hn, -, hs, hx⟩
  · cases hv
  · injection hv with h1 h2 h3
    injection h1 with h1
    injection h1 with h1
    subst h1 h3
    rw [hg]
    have : cur.toList = xs := by rw [← hx, List.take_of_length_le (by simp; omega)]
    rw [← this]
theorem St.blkRow2 {g n : Nat} {e : TypeId} {xs : List Value} (H : St w0 F0 w E) (k : Nat) (hk : E k = some (.blk g e xs)) (hx : xs.length = n) (hn : n ≤ maxLen) : St w0 F0 w (upd E k (.row e 1 (.slice (some ⟨g, 0, none⟩) n n) n xs)) := by
  obtain ⟨F, ⟨h, hF⟩, -, -, hc⟩ := H.change k hk
  subst hF
  subst hx
  refine hc w _ [g] ⟨⟨(Nat.mul_one _).symm, .inr ⟨g, xs.length, xs.toArray, rfl, Nat.zero_le _, h, Nat.le_refl _, hn, by rw [Nat.mul_one]; exact List.size_toArray, by rw [Nat.mul_one]; exact List.take_length⟩⟩, by simp [Value.ownBlock]⟩ (Low.refl _ _) (by simp)
theorem St.two_more2 {w0 w w' : World} {F0 F : List Nat} {E : Env} {A B R A0 B0 : Own} {i j k : Nat} (hij : i ≠ j) (hi : E i = some A0) (hj : E j = some B0) (hk : E k = none)
    (hback : ∀ (w' : World) (A' B' : Own), St w F w' (two A' B') → St w0 F0 w' (upd (upd E i A') j B')) (H : St w F w' (lay [A, B, R])) : St w0 F0 w' (upd (upd (upd E i A) j B) k R) := by
  have hki : k ≠ i := fun e => by rw [e, hi] at hk; cases hk
  have hkj : k ≠ j := fun e => by rw [e, hj] at hk; cases hk
  have H1 := H.join 0 2 (by omega) rfl rfl
  have H2 : St w F w' (two (.sep A R) B) := H1.sub fun n C hC => by
    simp only [two, upd, Env.nil] at hC
    by_cases h1 : n = 1
    · subst h1; rw [if_pos rfl] at hC; rw [← hC]; rfl
    · rw [if_neg h1] at hC
      by_cases h0 : n = 0
      · subst h0; rw [if_pos rfl] at hC; rw [← hC]; rfl
      · rw [if_neg h0] at hC; cases hC
  have H3 := hback _ _ _ H2
  have H4 := H3.part (A := A) (B := R) i k (Ne.symm hki) (by simp [upd, hij]) (by simp [upd, hki, hkj, hk])
  refine H4.env fun n => ?_
  simp only [upd]
  by_cases h1 : n = k
  · simp [h1]
  · by_cases h2 : n = j
    · subst h2; simp [h1, Ne.symm hij]
    · by_cases h3 : n = i <;> simp [h1, h2, h3, hij]

theorem St.permS {w0 w : World} {F0 : List Nat} {L L' : List Own} (H : St w0 F0 w (lay L)) (p : List Nat) (n : Nat) (hn : L'.length = n) (hp : ∀ i, i < n → ∀ j, j < n → p.getD i 0 = p.getD j 0 → i = j) (h : ∀ i, i < n → L[p.getD i 0]? = L'[i]?) : St w0 F0 w (lay L') := by
  obtain ⟨lo, Fs, h1, h2⟩ := H
  have hl : ∀ i A, lay L' i = some A → i < n ∧ lay L (p.getD i 0) = some A := by
    intro i A hA
    have hi : i < n := by rw [← hn]; exact (List.getElem?_eq_some_iff.1 hA).1
    exact ⟨hi, (h i hi).trans hA⟩
  exact ⟨lo, fun k => Fs (p.getD k 0), fun i A hA => h1 _ A (hl i A hA).2, fun i j A B hij hA hB => h2 _ _ A B (fun e => hij (hp i (hl i A hA).1 j (hl j B hB).1 e)) (hl i A hA).2 (hl j B hB).2⟩

theorem St.one_more2 {w0 w w' : World} {F0 F : List Nat} {E : Env} {A R A0 : Own} {i k : Nat} (hi : E i = some A0) (hk : E k = none)
    (hback : ∀ (w' : World) (A' : Own), St w F w' (one A') → St w0 F0 w' (upd E i A')) (H : St w F w' (lay [A, R])) : St w0 F0 w' (upd (upd E i A) k R) := by
  have hki : k ≠ i := fun e => by rw [e, hi] at hk; cases hk
  have H1 := H.join 0 1 (by omega) rfl rfl
  have H2 : St w F w' (one (.sep A R)) := H1.sub fun n C hC => by
    simp only [one, upd, Env.nil] at hC
    by_cases h0 : n = 0
    · subst h0; rw [if_pos rfl] at hC; rw [← hC]; rfl
    · rw [if_neg h0] at hC; cases hC
  have H3 := hback _ _ H2
  have H4 := H3.part (A := A) (B := R) i k (Ne.symm hki) (by simp [upd]) (by simp [upd, hki, hk])
  refine H4.env fun n => ?_
  simp only [upd]
  by_cases h1 : n = k
  · simp [h1]
  · by_cases h3 : n = i <;> simp [h1, h3]

set_option maxHeartbeats 8000000 in
theorem s5Sum_s (l : Value) (r : Option (List RunT)) (m : Nat) (c : Int) (g : Nat) (M : List UInt8) (H : St w0 F0 w E) (i j k0 : Nat) (hij : i ≠ j) (hi : E i = some (led l r)) (hj : E j = some (.blk g 73 (s5S M))) (hk : E k0 = none) (hg : LW r m c) (hm : m ≤ 999999999) (hc : c ≤ 400000000000000000) (hn : M.length ≤ 281474976710000) :
    Calls Try.prog 23 #[lptr g, l] w fun e w' => ∃ v, e = .returned (.tuple #[v, .int .i64 0]) ∧ St w0 F0 w' (upd (upd (upd E i (led l (noteN r 2 128 (lastN5 M.length)))) j (.blk g 73 (s5S M))) k0 (.row 5 1 v 64 ((dig5 M).map vb))) := by
  obtain ⟨i0, hi0, hz0, hz1, hz2⟩ := info_parts u8_info
  have HI0 := Lib.hid (⟨hi0, hz0, hz1, hz2⟩ : _ ∧ _ ∧ _ ∧ _)
  clear hi0 hz0 hz1 hz2
  obtain ⟨F, HF, -, -, hback⟩ := H.frame2 i j hij hi hj
  have HB := Lib.hid hback
  have HKK := Lib.hid hk
  have HIJ := Lib.hid hij
  have HI := Lib.hid hi
  have HJ := Lib.hid hj
  have HG := Lib.hid hg
  replace HF := HF.as2
  clear H hback hi hj hk hij hg
  have hzz := zero_s5
  have c0 := HF.cell 1 rfl (o := 0) s5Vs_made
  go_enter Try.func23, Try.ntmps23
  go_wp2_with fail
  refine (s5Is_yes g w c0).mono ?_
  rintro e w1 ⟨rfl, rfl⟩
  unfold lptr
  go_wp2_with (first | (with_reducible refine hold_store 73 (.tmp 6) (.tmp 16) (by rfl) ?_) | (refine wpList_load_row rfl 73 (.tmp 15) rfl g rfl _ _ _ _ (HF.blk 1 rfl) Try.underlying73 rfl (by rw [s5_size]; simp [s5S_length]) ?_))
  refine Lib.hid ?_
  refine absorb_list (HF.allocAt 2 rfl w.heap.size rfl s5Z.toArray 73 |>.push_mk rfl) ?_
  clear HF c0
  intro w3 H
  generalize w.heap.size = gt at H ⊢
  refine wpList_store_mid rfl 73 (.tmp 6) (.tmp 16) rfl gt 0 (s5S M).toArray rfl rfl (by have ht := H.there 2 rfl; rw [List.size_toArray, s5S_length]; exact ht) (by rw [s5_size, List.size_toArray, s5S_length]) (all_oneCell_toArray (s5S_one M)) ?_
  replace H := (H.storeAll 2 rfl (vs := s5S M) (by rw [s5S_length]; rfl)).upd_mk (by simp)
  replace H : St w F (w3.setCells gt 0 (s5S M)) (lay [led l r, .blk g 73 (s5S M), .blk gt 73 (s5S M)]) := H
  show wpList Try.prog _ _ [] _ (w3.setCells gt 0 (s5S M))
  generalize w3.setCells gt 0 (s5S M) = w4 at H ⊢
  have c9 := H.cell 1 rfl (s5Vs_n (n := M.length) (b := w5' M) (h5_length M))
  obtain ⟨Z, hZ⟩ : ∃ Z, padZ5 M.length = Z := ⟨_, rfl⟩
  have hZb : Z ≤ 127 := by rw [← hZ]; unfold padZ5; omega
  have HZ := Lib.hid hZ
  clear hZ
  go_wp2_with (at_make; refine hold_here' ?_)
  refine Lib.hid ?_
  obtain ⟨hi0, hz0, hz1, hz2⟩ := HI0.out
  rw [show (1 + (239 - (M.length : Int)) % 128 + 8) = ((1 + Z + 8 : Nat) : Int) by rw [← HZ.out]; unfold padZ5; omega]
  refine wpList_make_full _ rfl (.tmp 26) (.tmp 26) 22 rfl w4.heap.size 5 i0 (.int .u8 0) 1 Try.underlying22 hi0 hz0 hz1 .i64 .i64 _ _ (1 + Z + 8) rfl rfl rfl rfl (by rw [hz2]; omega) (by simp only [maxLen]; omega) (Nat.le_refl _) ?_
  intro w6 ho6 hg6
  have hb6 : Below w4.heap.size w4 w6 := (Below.refl _ _).grown hg6 (Nat.le_refl _) (fun _ h => by cases h)
  replace H := (((H.pushRow 3 rfl hb6 (made0' ho6)).push_mk rfl).rowFull2 3 rfl).upd_mk (by simp)
  clear ho6 hg6 hb6 c9 hi0 hz0 hz1 hz2
  generalize w4.heap.size = gp at H ⊢
  replace H : St w F w6 (lay [led l r, .blk g 73 (s5S M), .blk gt 73 (s5S M), .blk gp 5 ((List.replicate (1 + Z + 8) (0 : UInt8)).map vb)]) := H
  have z0 := H.cell 3 rfl (o := 0) (u := .int .u8 0) (by rw [List.getElem?_map, List.getElem?_replicate, if_pos (by omega)]; rfl)
  have f0 := H.free 3 rfl 0
  have hz1 : (0 : Int) < 1 + (Z : Int) + 8 := by omega
  have hz2 : 0 < 1 + Z + 8 := by omega
  have H2 := (H.store 3 rfl (o := 0) (u := .int .u8 128)).upd_mk (by simp)
  have hset : ((List.replicate (1 + Z + 8) (0 : UInt8)).map vb).set 0 (.int .u8 128) = ((128 :: List.replicate (Z + 8) 0 : List UInt8)).map vb := by
    rw [show 1 + Z + 8 = (Z + 8) + 1 by omega, List.replicate_succ, List.map_cons, List.set_cons_zero]; rfl
  replace H2 : St w F (w6.setCell ⟨gp, 0, none⟩ (.int .u8 128)) (lay [led l r, .blk g 73 (s5S M), .blk gt 73 (s5S M), .blk gp 5 (((List.replicate (1 + Z + 8) (0 : UInt8)).map vb).set 0 (.int .u8 128))]) := H2
  rw [hset] at H2
  replace H2 := (H2.blkRow2 3 rfl (n := 1 + Z + 8) (by rw [List.length_map, List.length_cons, List.length_replicate]; omega) (by simp only [maxLen]; omega)).upd_mk (by simp)
  clear H hset
  go_upto_region 6 with fail
  replace H2 : St w F (w6.setCell ⟨gp, 0, none⟩ (.int .u8 128)) (lay [led l r, .blk g 73 (s5S M), .blk gt 73 (s5S M), .row 5 1 (.slice (some ⟨gp, 0, none⟩) (1 + Z + 8) (1 + Z + 8)) (1 + Z + 8) ((128 :: List.replicate (Z + 8) 0 : List UInt8).map vb)]) := H2
  clear z0 f0
  generalize w6.setCell ⟨gp, 0, none⟩ (.int .u8 128) = w7 at H2 ⊢
  have c9 := H2.cell 1 rfl (s5Vs_n (n := M.length) (b := w5' M) (h5_length M))
  go_wp2_with fail
  rw [show (8 * (M.length : Int)) = ((8 * M.length : Nat) : Int) by omega]
  refine (lay_u64 (8 * M.length) w7 (by omega)).mono ?_
  rintro e w5 ⟨v3, rfl, ho, hb⟩
  replace H := (H2.pushRow 4 rfl hb ho).push_mk rfl
  rw [beL_length] at H
  clear ho hb c9 H2
  obtain ⟨A3, c3, rfl, -, -⟩ := row_form (H.row 4 rfl)
  go_wp2_with (at_builtin; refine hold_here' ?_)
  refine Lib.hid ?_
  obtain ⟨hi0, hz0, hz1', hz2'⟩ := HI0.out
  refine wpList_append_any _ rfl (.tmp 30) (.tmp 36) _ rfl 0 5 i0 _ 1 1 Try.underlying22 hi0 hz0 hz1' hz2' rfl (by omega) (.slice (some ⟨gp, 0, none⟩) (1 + Z + 8) (1 + Z + 8)) (1 + Z + 8) (((128 :: List.replicate (Z + 8) 0 : List UInt8)).map vb) rfl (H.row 3 rfl) A3 8 c3 ((beL 8 (8 * M.length)).map vb) rfl (H.rd 4 rfl) (vb_one _) (by simp only [maxLen]; omega) (by omega) (by omega) ?_
  intro v7 w8 hown6 hg6 hat6
  replace H := ((H.grow 3 rfl hown6 hg6 hat6).upd_mk (by simp)).front 4
  clear hown6 hg6 hat6 hi0 hz0 hz1' hz2'
  have hpm : (128 :: List.replicate (Z + 8) 0 : List UInt8) ++ beL 8 (8 * M.length) = padM5 M.length := by unfold padM5; rw [HZ.out]
  replace H : St w F w8 (lay [led l r, .blk g 73 (s5S M), .blk gt 73 (s5S M), .row 5 1 v7 (1 + Z + 8 + 8) ((padM5 M.length).map vb)]) := by rw [← hpm, List.map_append]; exact H
  obtain ⟨A4, c4, rfl, hc4, -⟩ := row_form (H.row 3 rfl)
  have hln : lastN5 M.length = (M.length + (1 + Z + 8 + 8)) / 128 - M.length / 128 := by unfold lastN5; rw [HZ.out, show 17 + Z = 1 + Z + 8 + 8 by omega]
  have HLN := Lib.hid hln
  clear hpm hln
  go_wp2_with fail
  refine (s5Write_s l r m c gt M A4 (1 + Z + 8 + 8) c4 (padM5 M.length) H 0 2 (by omega) rfl rfl HG.out hm hc (fun w' X Y h => h.rd 3 rfl) hc4 (by omega)).mono ?_
  rintro e w9 ⟨rfl, H8⟩
  rw [← HLN.out, upd_laid5 (by simp), upd_laid5 (by simp)] at H8
  clear H
  have H : St w F w9 (lay [led l (noteN r 2 128 (lastN5 M.length)), .blk g 73 (s5S M), .blk gt 73 (s5S (M ++ padM5 M.length))]) := H8.front 3
  clear H8
  have HHL : Hid ((h5 (M ++ padM5 M.length)).length = 8) := h5_length _
  have HDG : Hid (laid8 (h5 (M ++ padM5 M.length)) 8 = dig5 M) := rfl
  have hr := s5_front (h := h5 (M ++ padM5 M.length)) H 2 rfl HHL.out
  generalize h5 (M ++ padM5 M.length) = hh at HHL HDG hr
  go_wp2_with (refine wpList_load_mid rfl 69 (.tmp 41) rfl gt 1 rfl (hh.map u64v) _ hr Try.underlying69 rfl (by rw [a8_size, List.length_map, HHL.out]) ?_)
  replace H := (H.nilRow 3 rfl 5 1).push_mk rfl
  replace H : St w F w9 (lay [led l (noteN r 2 128 (lastN5 M.length)), .blk g 73 (s5S M), .blk gt 73 (s5S (M ++ padM5 M.length)), .row 5 1 (.slice none 0 0) (8 * 0) ((laid8 hh 0).map vb)]) := H
  clear hr
  go_loopw [8, 43] (fun v i wr => ∃ k : Nat, k ≤ 8 ∧ i = .int .i64 k ∧ St w F wr (lay [led l (noteN r 2 128 (lastN5 M.length)), .blk g 73 (s5S M), .blk gt 73 (s5S (M ++ padM5 M.length)), .row 5 1 v (8 * k) ((laid8 hh k).map vb)])) (fun _ i _ => 8 - (intOf i).toNat)
  case atStart => exact ⟨0, by omega, rfl, H⟩
  case round =>
    clear H
    obtain ⟨k, hk, rfl, H⟩ := hrel
    obtain ⟨AV, cV, rfl, -, -⟩ := row_form (H.row 3 rfl)
    by_cases hlt : k < 8
    · have hk1 : (k : Int) < 8 := by omega
      have hi := h85_ix hh HHL.out k hlt
      have HS := Lib.hid (laid8_succ (l := hh) (k := k) (by rw [HHL.out]; exact hlt))
      generalize at64 hh k = x at hi HS
      go_wp2_with fail
      refine (lay_u64 x.toNat wr x.toNat_lt).mono ?_
      rintro e w2 ⟨v2, rfl, ho, hb⟩
      replace H := (H.pushRow 4 rfl hb ho).push_mk rfl
      clear ho hb
      rw [beL_length] at H
      obtain ⟨A2, c2, rfl, -, -⟩ := row_form (H.row 4 rfl)
      go_wp2_with (at_builtin; refine hold_here' ?_)
      refine Lib.hid ?_
      obtain ⟨hi0, hz0, hz1, hz2⟩ := HI0.out
      refine wpList_append_any _ rfl (.tmp 46) (.tmp 48) _ rfl 0 5 i0 _ 1 1 Try.underlying22 hi0 hz0 hz1 hz2 rfl (by omega) (.slice AV (8 * k) cV) (8 * k) ((laid8 hh k).map vb) rfl (H.row 3 rfl) A2 8 c2 ((beL 8 x.toNat).map vb) rfl (H.rd 4 rfl) (vb_one _) (by simp only [maxLen]; omega) (by omega) (by omega) ?_
      intro v6 w6 hown6 hg6 hat6
      replace H := ((H.grow 3 rfl hown6 hg6 hat6).upd_mk (by simp)).front 4
      clear hown6 hg6 hat6 hi0 hz0 hz1 hz2
      have H7 : St w F w6 (lay [led l (noteN r 2 128 (lastN5 M.length)), .blk g 73 (s5S M), .blk gt 73 (s5S (M ++ padM5 M.length)), .row 5 1 v6 (8 * (k + 1)) ((laid8 hh (k + 1)).map vb)]) := by rw [HS.out, List.map_append]; exact H
      clear H
      go_wp2
      go_roundw
      case rel => exact ⟨k + 1, by omega, by go_num, H7⟩
      case measure => simp [intOf]; omega
    · obtain rfl : k = 8 := by omega
      rw [HDG.out] at H
      obtain H10 : St w F wr (lay [led l (noteN r 2 128 (lastN5 M.length)), .blk g 73 (s5S M), .row 5 1 (.slice AV 64 cV) 64 ((dig5 M).map vb)]) := H.permS [0, 1, 3] 3 rfl (by decide) (fun i hi => by
      match i, hi with
      | 0, _ => rfl
      | 1, _ => rfl
      | 2, _ => rfl)
      clear H
      go_wp2
      go_ret2
      exact ⟨_, rfl, St.two_more2 HIJ.out HI.out HJ.out HKK.out HB.out H10⟩
end
end Go.Proofs.Ythieegmmbjjcbaa
