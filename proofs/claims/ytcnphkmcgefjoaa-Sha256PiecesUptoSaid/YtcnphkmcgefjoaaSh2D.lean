/- SHA-256: the digest of what a state has taken, walked. -/
import Derived.Test.YtcnphkmcgefjoaaSh2W
namespace Go.Proofs.Ytcnphkmcgefjoaa
open Go.RowKit
set_option linter.unusedVariables false
set_option maxRecDepth 100000

theorem St.two_more2 {w0 w w' : World} {F0 F : List Nat} {E : Env} {A B R A0 B0 : Own} {i j k : Nat} (hij : i ≠ j) (hi : E i = some A0) (hj : E j = some B0) (hk : E k = none)
    (hback : ∀ (w' : World) (A' B' : Own), St w F w' (two A' B') → St w0 F0 w' (upd (upd E i A') j B')) (H : St w F w' (lay [A, B, R])) : St w0 F0 w' (upd (upd (upd E i A) j B) k R) := by
  have hki : k ≠ i := fun e => by rw [e, hi] at hk; cases hk
  have hkj : k ≠ j := fun e => by rw [e, hj] at hk; cases hk
  have H1 := H.join 0 2 (by omega) rfl rfl
  have H2 : St w F w' (two (.sep A R) B) := H1.sub fun n C hC => by
    simp only [two, upd, Env.nil] at hC
    by_cases h1 : n = 1
    · subst h1; rw [if_pos rfl] at hC; rw [← hC]; rfl
    · rw [if_neg h1] at hC
      by_cases h0 : n = 0
      · subst h0; rw [if_pos rfl] at hC; rw [← hC]; rfl
      · rw [if_neg h0] at hC; cases hC
  have H3 := hback _ _ _ H2
  have H4 := H3.part (A := A) (B := R) i k (Ne.symm hki) (by simp [upd, hij]) (by simp [upd, hki, hkj, hk])
  refine H4.env fun n => ?_
  simp only [upd]
  by_cases h1 : n = k
  · simp [h1]
  · by_cases h2 : n = j
    · subst h2; simp [h1, Ne.symm hij]
    · by_cases h3 : n = i <;> simp [h1, h2, h3, hij]

theorem made0' {w : World} {base g n : Nat} (h : w.ownsRow base 5 1 (.slice (some ⟨g, 0, none⟩) n n) n (madeCells (Value.int .u8 0).cells (n * 1)).toList) : w.ownsRow base 5 1 (.slice (some ⟨g, 0, none⟩) n n) n ((List.replicate n (0 : UInt8)).map vb) := by
  rw [show (Value.int .u8 0).cells = #[.int .u8 0] from rfl, toList_madeCells_one, Nat.mul_one] at h
  rw [List.map_replicate]
  exact h

section
variable {w0 w w' : World} {F0 : List Nat} {E : Env}

theorem St.rowFull2 {g n : Nat} {e : TypeId} {xs : List Value} (H : St w0 F0 w E) (k : Nat) (hk : E k = some (.row e 1 (.slice (some ⟨g, 0, none⟩) n n) n xs)) : St w0 F0 w (upd E k (.blk g e xs)) := by
  obtain ⟨F, ⟨h, hF⟩, -, -, hc⟩ := H.change k hk
  refine hc w _ [g] ⟨?_, rfl⟩ (Low.refl _ _) (by intro g' hg'; left; rw [hF]; simpa [Value.ownBlock] using hg')
  rcases h.2 with ⟨hv, -⟩ | ⟨g', cap, cur, hv, -, hg, hn, -, hs, hx⟩
  · cases hv
  · injection hv with h1 h2 h3
    injection h1 with h1
    injection h1 with h1
    subst h1 h3
    rw [hg]
    have : cur.toList = xs := by rw [← hx, List.take_of_length_le (by simp; omega)]
    rw [← this]

theorem St.blkRow2 {g n : Nat} {e : TypeId} {xs : List Value} (H : St w0 F0 w E) (k : Nat) (hk : E k = some (.blk g e xs)) (hx : xs.length = n) (hn : n ≤ maxLen) : St w0 F0 w (upd E k (.row e 1 (.slice (some ⟨g, 0, none⟩) n n) n xs)) := by
  obtain ⟨F, ⟨h, hF⟩, -, -, hc⟩ := H.change k hk
  subst hF
  subst hx
  refine hc w _ [g] ⟨⟨(Nat.mul_one _).symm, .inr ⟨g, xs.length, xs.toArray, rfl, Nat.zero_le _, h, Nat.le_refl _, hn, by rw [Nat.mul_one]; exact List.size_toArray, by rw [Nat.mul_one]; exact List.take_length⟩⟩, by simp [Value.ownBlock]⟩ (Low.refl _ _) (by simp)

end

theorem St.permS {w0 w : World} {F0 : List Nat} {L L' : List Own} (H : St w0 F0 w (lay L)) (p : List Nat) (n : Nat) (hn : L'.length = n) (hp : ∀ i, i < n → ∀ j, j < n → p.getD i 0 = p.getD j 0 → i = j) (h : ∀ i, i < n → L[p.getD i 0]? = L'[i]?) : St w0 F0 w (lay L') := by
  obtain ⟨lo, Fs, h1, h2⟩ := H
  have hl : ∀ i A, lay L' i = some A → i < n ∧ lay L (p.getD i 0) = some A := by
    intro i A hA
    have hi : i < n := by rw [← hn]; exact (List.getElem?_eq_some_iff.1 hA).1
    exact ⟨hi, (h i hi).trans hA⟩
  exact ⟨lo, fun k => Fs (p.getD k 0), fun i A hA => h1 _ A (hl i A hA).2, fun i j A B hij hA hB => h2 _ _ A B (fun e => hij (hp i (hl i A hA).1 j (hl j B hB).1 e)) (hl i A hA).2 (hl j B hB).2⟩

attribute [local irreducible] comp2 hTo

def padZ (n : Nat) : Nat := (119 - n % 64) % 64
def padM (n : Nat) : List UInt8 := (128 :: List.replicate (padZ n) 0) ++ beL 8 (8 * n)
theorem padM_length (n : Nat) : (padM n).length = 9 + padZ n := by
  unfold padM
  rw [List.length_append, List.length_cons, List.length_replicate, beL_length]; omega
def dig2 (M : List UInt8) : List UInt8 := laid4 (h2 (M ++ padM M.length)) 8
theorem dig2_length (M : List UInt8) : (dig2 M).length = 32 := laid4_length (by rw [h2_length]; omega)
def lastN (n : Nat) : Nat := (n + (9 + padZ n)) / 64 - n / 64
theorem lastN_le (n : Nat) : lastN n ≤ 2 := by
  unfold lastN padZ
  omega

section
variable {w0 w : World} {F0 : List Nat} {E : Env}

set_option maxHeartbeats 8000000 in
theorem sh2Sum_s (l : Value) (r : Option (List RunT)) (m : Nat) (c : Int) (g : Nat) (M : List UInt8) (H : St w0 F0 w E) (i j k0 : Nat) (hij : i ≠ j) (hi : E i = some (led l r)) (hj : E j = some (.blk g 77 (sh2S M))) (hk : E k0 = none) (hg : LW r m c) (hm : m ≤ 999999999) (hc : c ≤ 400000000000000000) (hn : M.length ≤ 281474976710000) :
    Calls Try.prog 25 #[lptr g, l] w fun e w' => ∃ v, e = .returned (.tuple #[v, .int .i64 0]) ∧ St w0 F0 w' (upd (upd (upd E i (led l (noteN r 1 64 (lastN M.length)))) j (.blk g 77 (sh2S M))) k0 (.row 5 1 v 32 ((dig2 M).map vb))) := by
  obtain ⟨i0, hi0, hz0, hz1, hz2⟩ := info_parts u8_info
  have HI0 := Lib.hid (⟨hi0, hz0, hz1, hz2⟩ : _ ∧ _ ∧ _ ∧ _)
  clear hi0 hz0 hz1 hz2
  obtain ⟨F, HF, -, -, hback⟩ := H.frame2 i j hij hi hj
  have HB := Lib.hid hback
  have HKK := Lib.hid hk
  have HIJ := Lib.hid hij
  have HI := Lib.hid hi
  have HJ := Lib.hid hj
  have HG := Lib.hid hg
  replace HF := HF.as2
  clear H hback hi hj hk hij hg
  have hzz := zero_sh
  have c0 := HF.cell 1 rfl (shVs_made (h2_length M) (w2_length M))
  have c8 := HF.cell 1 rfl (shVs_n (n := M.length) (b := w2' M) (h2_length M))
  go_enter Try.func25, Try.ntmps25
  go_wp2_with fail
  refine (sh2None_no g w c0).mono ?_
  rintro e w1 ⟨rfl, rfl⟩
  unfold lptr
  go_wp2_with (first | (with_reducible refine hold_store 77 (.tmp 6) (.tmp 13) (by rfl) ?_) | (refine wpList_load_row rfl 77 (.tmp 12) rfl g rfl _ _ _ _ (HF.blk 1 rfl) Try.underlying77 rfl (by rw [sh_size]; simp [sh2S_length]) ?_))
  refine Lib.hid ?_
  refine absorb_list (HF.allocAt 2 rfl w.heap.size rfl shZ.toArray 77 |>.push_mk rfl) ?_
  clear HF c0 c8
  intro w3 H
  generalize w.heap.size = gt at H ⊢
  refine wpList_store_mid rfl 77 (.tmp 6) (.tmp 13) rfl gt 0 (sh2S M).toArray rfl rfl (by have ht := H.there 2 rfl; rw [List.size_toArray, sh2S_length]; exact ht) (by rw [sh_size, List.size_toArray, sh2S_length]) (all_oneCell_toArray (sh2S_one M)) ?_
  replace H := (H.storeAll 2 rfl (vs := sh2S M) (by rw [sh2S_length]; rfl)).upd_mk (by simp)
  replace H : St w F (w3.setCells gt 0 (sh2S M)) (lay [led l r, .blk g 77 (sh2S M), .blk gt 77 (sh2S M)]) := H
  show wpList Try.prog _ _ [] _ (w3.setCells gt 0 (sh2S M))
  generalize w3.setCells gt 0 (sh2S M) = w4 at H ⊢
  have c8 := H.cell 1 rfl (shVs_n (n := M.length) (b := w2' M) (h2_length M))
  go_wp2_with fail
  rw [show (8 * (M.length : Int)) = ((8 * M.length : Nat) : Int) by omega]
  refine (lay_u64 (8 * M.length) w4 (by omega)).mono ?_
  rintro e w5 ⟨v3, rfl, ho, hb⟩
  replace H := (H.pushRow 3 rfl hb ho).push_mk rfl
  rw [beL_length] at H
  clear ho hb c8
  obtain ⟨A3, c3, rfl, -, -⟩ := row_form (H.row 3 rfl)
  have c8 := H.cell 1 rfl (shVs_n (n := M.length) (b := w2' M) (h2_length M))
  go_wp2_with (at_make; refine hold_here' ?_)
  refine Lib.hid ?_
  obtain ⟨hi0, hz0, hz1, hz2⟩ := HI0.out
  obtain ⟨Z, hZ⟩ : ∃ Z, padZ M.length = Z := ⟨_, rfl⟩
  have hZb : Z ≤ 63 := by rw [← hZ]; unfold padZ; omega
  rw [show (1 + (119 - (M.length : Int)) % 64) = ((1 + Z : Nat) : Int) by rw [← hZ]; unfold padZ; omega]
  have HZ := Lib.hid hZ
  clear hZ
  refine wpList_make_full _ rfl (.tmp 28) (.tmp 28) 22 rfl w5.heap.size 5 i0 (.int .u8 0) 1 Try.underlying22 hi0 hz0 hz1 .i64 .i64 _ _ (1 + Z) rfl rfl rfl rfl (by rw [hz2]; omega) (by simp only [maxLen]; omega) (Nat.le_refl _) ?_
  intro w6 ho6 hg6
  have hb6 : Below w5.heap.size w5 w6 := (Below.refl _ _).grown hg6 (Nat.le_refl _) (fun _ h => by cases h)
  replace H := (((H.pushRow 4 rfl hb6 (made0' ho6)).push_mk rfl).rowFull2 4 rfl).upd_mk (by simp)
  clear ho6 hg6 hb6 c8
  generalize w5.heap.size = gp at H ⊢
  replace H : St w F w6 (lay [led l r, .blk g 77 (sh2S M), .blk gt 77 (sh2S M), .row 5 1 (.slice A3 8 c3) 8 ((beL 8 (8 * M.length)).map vb), .blk gp 5 ((List.replicate (1 + Z) (0 : UInt8)).map vb)]) := H
  clear hi0 hz0 hz1 hz2
  have z0 := H.cell 4 rfl (o := 0) (u := .int .u8 0) (by rw [List.getElem?_map, List.getElem?_replicate, if_pos (by omega)]; rfl)
  have f0 := H.free 4 rfl 0
  have hz1 : (0 : Int) < 1 + (Z : Int) := by omega
  have hz2 : 0 < 1 + Z := by omega
  have H2 := (H.store 4 rfl (o := 0) (u := .int .u8 128)).upd_mk (by simp)
  have hset : ((List.replicate (1 + Z) (0 : UInt8)).map vb).set 0 (.int .u8 128) = ((128 :: List.replicate Z 0 : List UInt8)).map vb := by
    rw [Nat.add_comm, List.replicate_succ, List.map_cons, List.set_cons_zero]; rfl
  replace H2 : St w F (w6.setCell ⟨gp, 0, none⟩ (.int .u8 128)) (lay [led l r, .blk g 77 (sh2S M), .blk gt 77 (sh2S M), .row 5 1 (.slice A3 8 c3) 8 ((beL 8 (8 * M.length)).map vb), .blk gp 5 (((List.replicate (1 + Z) (0 : UInt8)).map vb).set 0 (.int .u8 128))]) := H2
  rw [hset] at H2
  replace H2 := (H2.blkRow2 4 rfl (n := 1 + Z) (by rw [List.length_map, List.length_cons, List.length_replicate, Nat.add_comm]) (by simp only [maxLen]; omega)).upd_mk (by simp)
  clear H hset
  go_wp2_with (at_builtin; refine hold_here' ?_)
  refine Lib.hid ?_
  obtain ⟨hi0, hz0, hz1', hz2'⟩ := HI0.out
  refine wpList_append_any _ rfl (.tmp 33) (.tmp 34) _ rfl 0 5 i0 _ 1 1 Try.underlying22 hi0 hz0 hz1' hz2' rfl (by omega) (.slice (some ⟨gp, 0, none⟩) (1 + Z) (1 + Z)) (1 + Z) (((128 :: List.replicate Z 0 : List UInt8)).map vb) rfl (H2.row 4 rfl) A3 8 c3 ((beL 8 (8 * M.length)).map vb) rfl (H2.rd 3 rfl) (vb_one _) (by simp only [maxLen]; omega) (by omega) (by omega) ?_
  intro v7 w7 hown6 hg6 hat6
  have H := (H2.grow 4 rfl hown6 hg6 hat6).upd_mk (by simp)
  clear hown6 hg6 hat6 hi0 hz0 hz1' hz2' H2 z0 f0
  have hpm : (128 :: List.replicate Z 0 : List UInt8) ++ beL 8 (8 * M.length) = padM M.length := by unfold padM; rw [HZ.out]
  rw [← List.map_append, hpm] at H
  obtain ⟨A4, c4, rfl, hc4, -⟩ := row_form (H.row 4 rfl)
  replace H : St w F w7 (lay [led l r, .blk g 77 (sh2S M), .blk gt 77 (sh2S M), .row 5 1 (.slice A3 8 c3) 8 ((beL 8 (8 * M.length)).map vb), .row 5 1 (.slice A4 (1 + Z + 8) c4) (1 + Z + 8) ((padM M.length).map vb)]) := H
  have hln : lastN M.length = (M.length + (1 + Z + 8)) / 64 - M.length / 64 := by unfold lastN; rw [HZ.out, show 9 + Z = 1 + Z + 8 by omega]
  have HLN := Lib.hid hln
  clear hpm hln
  go_wp2_with fail
  refine (sh2Put_s l r m c gt M A4 (1 + Z + 8) c4 (padM M.length) H 0 2 (by omega) rfl rfl HG.out hm hc (fun w' X Y h => h.rd 4 rfl) hc4 (by omega)).mono ?_
  rintro e w8 ⟨rfl, H8⟩
  rw [← HLN.out, upd_laid2 (by simp), upd_laid2 (by simp)] at H8
  clear H
  replace H8 : St w F w8 (lay [led l (noteN r 1 64 (lastN M.length)), .blk g 77 (sh2S M), .blk gt 77 (sh2S (M ++ padM M.length)), .row 5 1 (.slice A3 8 c3) 8 ((beL 8 (8 * M.length)).map vb), .row 5 1 (.slice A4 (1 + Z + 8) c4) (1 + Z + 8) ((padM M.length).map vb)]) := H8
  go_wp2_with fail
  refine (sh2Words_s gt (h2 (M ++ padM M.length)) _ _ H8 2 rfl (h2_length _)).mono ?_
  rintro e w9 ⟨v9, rfl, ho, hb⟩
  unfold OwnB at ho
  rw [laid4_length (by rw [h2_length]; omega)] at ho
  have H9 := (H8.pushRow 5 rfl hb ho).push_mk rfl
  clear ho hb H8
  have H10 : St w F w9 (lay [led l (noteN r 1 64 (lastN M.length)), .blk g 77 (sh2S M), .row 5 1 v9 32 ((dig2 M).map vb)]) := H9.permS [0, 1, 5] 3 rfl (by decide) (fun i hi => by
    match i, hi with
    | 0, _ => rfl
    | 1, _ => rfl
    | 2, _ => rfl)
  clear H9
  go_wp2
  go_ret2
  exact ⟨_, rfl, St.two_more2 HIJ.out HI.out HJ.out HKK.out HB.out H10⟩
end
end Go.Proofs.Ytcnphkmcgefjoaa
