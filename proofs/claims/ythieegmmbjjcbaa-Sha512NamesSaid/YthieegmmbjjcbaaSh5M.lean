/- The document's SHA-512: the words behind whole blocks; numbers; the digest; what is recorded, walked. -/
import Derived.Test.YthieegmmbjjcbaaSh5K
import Derived.Test.YthieegmmbjjcbaaSh5V
import Derived.Test.YthieegmmbjjcbaaBSt
namespace Go.Proofs.Ythieegmmbjjcbaa
open Go.RowKit
set_option linter.unusedVariables false
set_option maxRecDepth 100000

theorem wpQuiet_load_mid {P : Program} {ops : Array Oper} {C : World → Prop} {Q : Act → Prop} {a : Act} {op : Oper} {rest : List Oper} (ty : TypeId) (x : Operand) (ho : op.op = .load ty x) (hg : op.guard = none)
    (b o : Nat) (hx : a.eval x = .pointer (some ⟨b, o, none⟩)) (cs : List Value) (d : TypeDesc) (hS : ∀ w, C w → w.rangeAt b o cs)
    (hu : P.underlying ty = some d) (hd : d.isRow = true) (hi : (P.info? ty).map (·.size) = some cs.length) (h : wpQuiet P ops C Q rest (a.put op.dst (.agg cs.toArray))) : wpQuiet P ops C Q (op :: rest) a :=
  wpQuiet_step fun K hK => by
    rw [if_pos (by simp [Region.wanted, hg])]
    refine ⟨_, fun w hC => ?_, hK _ h⟩
    unfold Oper.quietAt execOp
    simp only [ho, hx, run_loadAt_mid w b o ty cs d (hS w hC) hu hd hi, Sem.run_bind, Sem.run_pure, Result.andThen_ok]
    exact ⟨rfl, rfl⟩

def hT5 (p : List UInt8) (k : Nat) : List UInt64 := hTo 128 comp5 hBeg5 p k
def blk5 (p : List UInt8) (a : Nat) : List UInt8 := (p.drop a).take 128
theorem hT5_zero (p : List UInt8) : hT5 p 0 = hBeg5 := rfl
theorem hT5_succ (p : List UInt8) (k : Nat) : hT5 p (k + 1) = comp5 (hT5 p k) (blk5 p (128 * k)) := rfl
theorem hT5_length (p : List UInt8) (k : Nat) : (hT5 p k).length = 8 := by
  cases k with
  | zero => rfl
  | succ k => exact comp5_length _ _
theorem hT5_all (p : List UInt8) : hT5 p (p.length / 128) = h5 p := rfl

attribute [local irreducible] comp5 hTo hT5 blk5

theorem Rd.blk5_at {w : World} {b o n c a : Nat} {p : List UInt8} (h : Rd w 1 (some ⟨b, o, none⟩) n (p.map vb)) (ha : a + 128 ≤ n) (hc : n ≤ c) : Rd w 1 (some ⟨b, o + a, none⟩) 128 ((blk5 p a).map vb) := by
  have h1 := Rd.drop_if (x := a) h (by omega) hc
  rw [if_neg (by omega)] at h1
  have h2 := h1.take (k := 128) (by omega)
  unfold blk5
  exact h2

set_option maxHeartbeats 4000000 in
theorem refWords_s (A : Option Addr) (n c : Nat) (p : List UInt8) (w : World) (hA : Rd w 1 A n (p.map vb)) (hc : n ≤ c) (hn : n ≤ 140737488355328) :
    Calls Try.prog 44 #[.slice A n c] w fun e w' => e = .returned (.agg ((h5 p).map u64v).toArray) ∧ Below w.heap.size w w' := by
  have hl : p.length = n := by simpa using hA.1
  have HL := Lib.hid hl
  have HAA := Lib.hid hA
  clear hl hA
  have H0 := St.start_lay w []
  go_enter Try.func44, Try.ntmps44
  go_upto_region 1 with fail
  refine absorb_wp (H0.allocAt 0 rfl w.heap.size rfl _ _ |>.push_mk rfl) ?_
  clear H0
  intro w1 H
  generalize w.heap.size = gr at H ⊢
  replace H : St w [] w1 (lay [.blk gr 69 (List.replicate 8 (.int .u64 0))]) := H
  go_wp2_with fail
  refine (refBegin_s w1).mono ?_
  rintro e w2 ⟨rfl, hb2⟩
  replace H := H.call hb2
  clear hb2
  go_wp2_with (with_reducible refine hold_store 69 (.tmp 3) (.tmp 5) (by rfl) ?_)
  refine Lib.hid ?_
  refine absorb_list (H.allocAt 1 rfl w2.heap.size rfl _ _ |>.push_mk rfl) ?_
  clear H
  intro w3 H
  generalize w2.heap.size = gh at H ⊢
  replace H : St w [] w3 (lay [.blk gr 69 (List.replicate 8 (.int .u64 0)), .blk gh 69 (List.replicate 8 (.int .u64 0))]) := H
  refine wpList_store_mid rfl 69 (.tmp 3) (.tmp 5) rfl gh 0 (hBeg5.map u64v).toArray rfl rfl (by have ht := H.there 1 rfl; exact ht) (by rw [a8_size]; rfl) (all_oneCell_toArray (u64_one _)) ?_
  replace H := (H.storeAll 1 rfl (vs := hBeg5.map u64v) rfl).upd_mk (by simp)
  generalize w3.setCells gh 0 (hBeg5.map u64v) = w4 at H ⊢
  replace H : St w [] w4 (lay [.blk gr 69 (List.replicate 8 (.int .u64 0)), .blk gh 69 ((hT5 p 0).map u64v)]) := by rw [hT5_zero]; exact H
  go_wp2
  go_loopw [4] (fun i wr => ∃ k : Nat, 128 * k ≤ n ∧ i = .int .i64 ((128 * k : Nat) : Int) ∧ St w [] wr (lay [.blk gr 69 (List.replicate 8 (.int .u64 0)), .blk gh 69 ((hT5 p k).map u64v)])) (fun i _ => 140737488356000 - (intOf i).toNat)
  case atStart => exact ⟨0, by omega, rfl, H⟩
  case round =>
    clear H
    obtain ⟨k, hk, rfl, H⟩ := hrel
    have HHL := Lib.hid (hT5_length p k)
    by_cases hlt : 128 * k + 128 ≤ n
    · have hgo : ((128 * k : Nat) : Int) + 128 ≤ (n : Int) := by omega
      have hkb : ((128 * k : Nat) : Int) ≤ 140737488355328 := by omega
      have HS := Lib.hid (hT5_succ p k)
      generalize hT5 p k = h at H HHL HS
      obtain ⟨a, ha⟩ : ∃ a, 128 * k = a := ⟨_, rfl⟩
      have HAE := Lib.hid ha
      rw [ha] at HS hgo hkb hlt ⊢
      clear ha hk
      obtain ⟨b, o, rfl, -, -⟩ := HAA.out.flat (by omega) (by omega)
      have hca : ¬ c = a := by omega
      have hgc : ((a : Int) + 128) ≤ (c : Int) := by omega
      have hga : (0 : Int) ≤ (a : Int) := by omega
      have hgl : ((a : Int)) ≤ (a : Int) + 128 := by omega
      have HCL : Hid ((comp5 h (blk5 p a)).length = 8) := comp5_length _ _
      have HRH : Hid (∀ nq, (wr.drewN nq).rangeAt gh 0 (h.map u64v)) := fun nq k v hv => by rw [Nat.zero_add]; exact (H.drewN nq).cell 1 rfl hv
      go_upto_region 5 with fail
      refine region_quiet_tail 6 (by kernel_rfl) (by kernel_rfl) ?_
      simp only [List.take_succ_cons, List.take_zero, List.drop_succ_cons, List.drop_zero]
      refine wpQuiet_load_mid 69 (.tmp 3) rfl rfl gh 0 (by rfl) (h.map u64v) _ (by rintro _ ⟨nq, rfl⟩; exact HRH.out nq) Try.underlying69 rfl (by rw [a8_size, List.length_map, HHL.out]) ?_
      try simp only [Act.put, List.setIfInBounds_toArray, List.set_cons_zero, List.set_cons_succ]
      iterate 5 (go_big_quiet_step (fail))
      refine wpQuiet_nil ?_
      intro nq
      replace H := H.drewN nq
      generalize wr.drewN nq = w5 at H ⊢
      clear HRH
      go_wp2_with fail
      refine (refComp_s h HHL.out (some ⟨b, o + a, none⟩) 128 (c - a) (blk5 p a) w5 (Rd.blk5_at (HAA.out.below H.below) hlt hc) rfl).mono ?_
      rintro e w6 ⟨rfl, hb2⟩
      replace H := H.call hb2
      clear hb2
      go_wp2_with (with_reducible refine hold_store 69 (.tmp 3) (.tmp 19) (by rfl) ?_)
      refine Lib.hid ?_
      refine wpList_store_mid rfl 69 (.tmp 3) (.tmp 19) rfl gh 0 ((comp5 h (blk5 p a)).map u64v).toArray rfl rfl (by have ht := H.there 1 rfl; rw [List.length_map, HHL.out] at ht; rw [List.size_toArray, List.length_map, HCL.out]; exact ht) (by rw [a8_size]; simp [HCL.out]) (all_oneCell_toArray (u64_one _)) ?_
      have H2 := (H.storeAll 1 rfl (vs := (comp5 h (blk5 p a)).map u64v) (by rw [List.length_map, HCL.out, List.length_map, HHL.out])).upd_mk (by simp)
      show wpList Try.prog _ _ [] _ (w6.setCells gh 0 ((comp5 h (blk5 p a)).map u64v))
      generalize w6.setCells gh 0 ((comp5 h (blk5 p a)).map u64v) = w7 at H2 ⊢
      replace H2 : St w [] w7 (lay [.blk gr 69 (List.replicate 8 (.int .u64 0)), .blk gh 69 ((hT5 p (k + 1)).map u64v)]) := by rw [HS.out]; exact H2
      clear H HS HCL HHL
      simp only [Act.put]
      go_wp2
      go_roundw
      case rel => exact ⟨k + 1, by have := HAE.out; omega, by rw [← HAE.out]; go_num, H2⟩
      case measure => simp [intOf]; omega
    · have hgo : ¬ (((128 * k : Nat) : Int) + 128 ≤ (n : Int)) := by omega
      have hkb : ((128 * k : Nat) : Int) ≤ 140737488355328 := by omega
      have HE : Hid (hT5 p k = h5 p) := by
        unfold Hid
        rw [← hT5_all, HL.out]
        congr 1
        omega
      rw [HE.out] at H HHL
      go_upto_region 6 with fail
      go_wp2_with (first | (with_reducible refine hold_store 69 (.tmp 2) (.tmp 20) (by rfl) ?_) | (refine wpList_load_row rfl 69 (.tmp 3) rfl gh rfl _ _ _ _ (H.blk 1 rfl) Try.underlying69 rfl (by rw [a8_size]; simp [HHL.out]) ?_))
      refine Lib.hid ?_
      refine wpList_store_mid rfl 69 (.tmp 2) (.tmp 20) rfl gr 0 ((h5 p).map u64v).toArray rfl rfl (by have ht := H.there 0 rfl; rw [List.length_replicate] at ht; rw [List.size_toArray, List.length_map, HHL.out]; exact ht) (by rw [a8_size]; simp [HHL.out]) (all_oneCell_toArray (u64_one _)) ?_
      have H4 := (H.storeAll 0 rfl (vs := (h5 p).map u64v) (by rw [List.length_map, HHL.out, List.length_replicate])).upd_mk (by simp)
      show wpList Try.prog _ _ [] _ (wr.setCells gr 0 ((h5 p).map u64v))
      simp only [Act.put]
      go_wp2
      exact bodyPost_ret (results_cell_row rfl _ _ gr 69 ((h5 p).map u64v).toArray _ _ rfl (H4.blk 0 rfl) Try.underlying69 rfl (by rw [a8_size]; simp [HHL.out])) rfl ⟨rfl, H4.below⟩

theorem beL_take (n x k : Nat) (hk : k < n) : (beL n x).take (k + 1) = (beL n x).take k ++ [UInt8.ofNat (x / 256 ^ (n - 1 - k))] := by
  rw [List.take_add_one, beL_get hk]; rfl

set_option maxHeartbeats 4000000 in
theorem number_s (x : Nat) (w : World) (hx : x < 2 ^ 64) :
    Calls Try.prog 42 #[.int .u64 (x : Int)] w fun e w' => ∃ v, e = .returned v ∧ OwnB w' w.heap.size v (beL 8 x) ∧ Below w.heap.size w w' := by
  obtain ⟨i0, hi0, hz0, hz1, hz2⟩ := info_parts u8_info
  have HI := Lib.hid (⟨hi0, hz0, hz1, hz2⟩ : _ ∧ _ ∧ _ ∧ _)
  clear hi0 hz0 hz1 hz2 hx
  have H := (St.start_lay w []).nilRow 0 rfl 5 1 |>.push_mk rfl
  go_enter Try.func42, Try.ntmps42
  go_wp2
  go_loopw [3, 4] (fun v i wr => ∃ j : Nat, j ≤ 8 ∧ i = .int .i64 (7 - (j : Int)) ∧ St w [] wr (lay [.row 5 1 v j (((beL 8 x).take j).map vb)])) (fun _ i _ => (intOf i + 1).toNat)
  case atStart => exact ⟨0, by omega, rfl, H⟩
  case round =>
    clear H
    obtain ⟨j, hj, rfl, H⟩ := hrel
    obtain ⟨AV, cV, rfl, -, -⟩ := row_form (H.row 0 rfl)
    have hj9 : j = 0 ∨ j = 1 ∨ j = 2 ∨ j = 3 ∨ j = 4 ∨ j = 5 ∨ j = 6 ∨ j = 7 ∨ j = 8 := by omega
    rcases hj9 with rfl | rfl | rfl | rfl | rfl | rfl | rfl | rfl | rfl
    · rw [show (7 - ((0 : Nat) : Int)) = 7 from rfl]
      have hbe : Value.int .u8 ((x : Int) / 72057594037927936 % 256) = vb (UInt8.ofNat (x / 256 ^ (8 - 1 - 0))) := by unfold vb; rw [← byte_eq]; simp
      have HT := Lib.hid (beL_take 8 x 0 (by omega))
      go_wp2_with (at_builtin; refine hold_here' ?_)
      refine Lib.hid ?_
      refine absorb_list (H.allocAt 1 rfl wr.heap.size rfl #[.int .u8 ((x : Int) / 72057594037927936 % 256)] 5 |>.push_mk rfl) ?_
      clear H
      intro w5 H
      generalize wr.heap.size = gN at H ⊢
      obtain ⟨hi0, hz0, hz1, hz2⟩ := HI.out
      refine wpList_append_any _ rfl (.tmp 9) (.tmp 16) _ rfl 0 5 i0 _ 1 1 Try.underlying22 hi0 hz0 hz1 hz2 rfl (by omega) (.slice AV 0 cV) 0 (((beL 8 x).take 0).map vb) rfl (H.row 0 rfl) (some ⟨gN, 0, none⟩) 1 1 [.int .u8 ((x : Int) / 72057594037927936 % 256)] rfl (H.rdBlk 1 rfl 1 1 rfl) (by intro u hu; simp at hu; subst hu; rfl) (by simp only [maxLen]; omega) (by omega) (by omega) ?_
      intro v6 w6 hown6 hg6 hat6
      replace H := ((H.grow 0 rfl hown6 hg6 hat6).upd_mk (by simp)).front 1
      clear hown6 hg6 hat6 hi0 hz0 hz1 hz2
      have H7 : St w [] w6 (lay [.row 5 1 v6 1 (((beL 8 x).take 1).map vb)]) := by
        rw [HT.out, List.map_append, List.map_cons, List.map_nil, ← hbe]; exact H
      clear H hbe
      go_wp2
      go_roundw
      case rel => exact ⟨1, by omega, by first | rfl | go_num, H7⟩
      case measure => simp [intOf]
    · rw [show (7 - ((1 : Nat) : Int)) = 6 from rfl]
      have hbe : Value.int .u8 ((x : Int) / 281474976710656 % 256) = vb (UInt8.ofNat (x / 256 ^ (8 - 1 - 1))) := by unfold vb; rw [← byte_eq]; simp
      have HT := Lib.hid (beL_take 8 x 1 (by omega))
      go_wp2_with (at_builtin; refine hold_here' ?_)
      refine Lib.hid ?_
      refine absorb_list (H.allocAt 1 rfl wr.heap.size rfl #[.int .u8 ((x : Int) / 281474976710656 % 256)] 5 |>.push_mk rfl) ?_
      clear H
      intro w5 H
      generalize wr.heap.size = gN at H ⊢
      obtain ⟨hi0, hz0, hz1, hz2⟩ := HI.out
      refine wpList_append_any _ rfl (.tmp 9) (.tmp 16) _ rfl 0 5 i0 _ 1 1 Try.underlying22 hi0 hz0 hz1 hz2 rfl (by omega) (.slice AV 1 cV) 1 (((beL 8 x).take 1).map vb) rfl (H.row 0 rfl) (some ⟨gN, 0, none⟩) 1 1 [.int .u8 ((x : Int) / 281474976710656 % 256)] rfl (H.rdBlk 1 rfl 1 1 rfl) (by intro u hu; simp at hu; subst hu; rfl) (by simp only [maxLen]; omega) (by omega) (by omega) ?_
      intro v6 w6 hown6 hg6 hat6
      replace H := ((H.grow 0 rfl hown6 hg6 hat6).upd_mk (by simp)).front 1
      clear hown6 hg6 hat6 hi0 hz0 hz1 hz2
      have H7 : St w [] w6 (lay [.row 5 1 v6 2 (((beL 8 x).take 2).map vb)]) := by
        rw [HT.out, List.map_append, List.map_cons, List.map_nil, ← hbe]; exact H
      clear H hbe
      go_wp2
      go_roundw
      case rel => exact ⟨2, by omega, by first | rfl | go_num, H7⟩
      case measure => simp [intOf]
    · rw [show (7 - ((2 : Nat) : Int)) = 5 from rfl]
      have hbe : Value.int .u8 ((x : Int) / 1099511627776 % 256) = vb (UInt8.ofNat (x / 256 ^ (8 - 1 - 2))) := by unfold vb; rw [← byte_eq]; simp
      have HT := Lib.hid (beL_take 8 x 2 (by omega))
      go_wp2_with (at_builtin; refine hold_here' ?_)
      refine Lib.hid ?_
      refine absorb_list (H.allocAt 1 rfl wr.heap.size rfl #[.int .u8 ((x : Int) / 1099511627776 % 256)] 5 |>.push_mk rfl) ?_
      clear H
      intro w5 H
      generalize wr.heap.size = gN at H ⊢
      obtain ⟨hi0, hz0, hz1, hz2⟩ := HI.out
      refine wpList_append_any _ rfl (.tmp 9) (.tmp 16) _ rfl 0 5 i0 _ 1 1 Try.underlying22 hi0 hz0 hz1 hz2 rfl (by omega) (.slice AV 2 cV) 2 (((beL 8 x).take 2).map vb) rfl (H.row 0 rfl) (some ⟨gN, 0, none⟩) 1 1 [.int .u8 ((x : Int) / 1099511627776 % 256)] rfl (H.rdBlk 1 rfl 1 1 rfl) (by intro u hu; simp at hu; subst hu; rfl) (by simp only [maxLen]; omega) (by omega) (by omega) ?_
      intro v6 w6 hown6 hg6 hat6
      replace H := ((H.grow 0 rfl hown6 hg6 hat6).upd_mk (by simp)).front 1
      clear hown6 hg6 hat6 hi0 hz0 hz1 hz2
      have H7 : St w [] w6 (lay [.row 5 1 v6 3 (((beL 8 x).take 3).map vb)]) := by
        rw [HT.out, List.map_append, List.map_cons, List.map_nil, ← hbe]; exact H
      clear H hbe
      go_wp2
      go_roundw
      case rel => exact ⟨3, by omega, by first | rfl | go_num, H7⟩
      case measure => simp [intOf]
    · rw [show (7 - ((3 : Nat) : Int)) = 4 from rfl]
      have hbe : Value.int .u8 ((x : Int) / 4294967296 % 256) = vb (UInt8.ofNat (x / 256 ^ (8 - 1 - 3))) := by unfold vb; rw [← byte_eq]; simp
      have HT := Lib.hid (beL_take 8 x 3 (by omega))
      go_wp2_with (at_builtin; refine hold_here' ?_)
      refine Lib.hid ?_
      refine absorb_list (H.allocAt 1 rfl wr.heap.size rfl #[.int .u8 ((x : Int) / 4294967296 % 256)] 5 |>.push_mk rfl) ?_
      clear H
      intro w5 H
      generalize wr.heap.size = gN at H ⊢
      obtain ⟨hi0, hz0, hz1, hz2⟩ := HI.out
      refine wpList_append_any _ rfl (.tmp 9) (.tmp 16) _ rfl 0 5 i0 _ 1 1 Try.underlying22 hi0 hz0 hz1 hz2 rfl (by omega) (.slice AV 3 cV) 3 (((beL 8 x).take 3).map vb) rfl (H.row 0 rfl) (some ⟨gN, 0, none⟩) 1 1 [.int .u8 ((x : Int) / 4294967296 % 256)] rfl (H.rdBlk 1 rfl 1 1 rfl) (by intro u hu; simp at hu; subst hu; rfl) (by simp only [maxLen]; omega) (by omega) (by omega) ?_
      intro v6 w6 hown6 hg6 hat6
      replace H := ((H.grow 0 rfl hown6 hg6 hat6).upd_mk (by simp)).front 1
      clear hown6 hg6 hat6 hi0 hz0 hz1 hz2
      have H7 : St w [] w6 (lay [.row 5 1 v6 4 (((beL 8 x).take 4).map vb)]) := by
        rw [HT.out, List.map_append, List.map_cons, List.map_nil, ← hbe]; exact H
      clear H hbe
      go_wp2
      go_roundw
      case rel => exact ⟨4, by omega, by first | rfl | go_num, H7⟩
      case measure => simp [intOf]
    · rw [show (7 - ((4 : Nat) : Int)) = 3 from rfl]
      have hbe : Value.int .u8 ((x : Int) / 16777216 % 256) = vb (UInt8.ofNat (x / 256 ^ (8 - 1 - 4))) := by unfold vb; rw [← byte_eq]; simp
      have HT := Lib.hid (beL_take 8 x 4 (by omega))
      go_wp2_with (at_builtin; refine hold_here' ?_)
      refine Lib.hid ?_
      refine absorb_list (H.allocAt 1 rfl wr.heap.size rfl #[.int .u8 ((x : Int) / 16777216 % 256)] 5 |>.push_mk rfl) ?_
      clear H
      intro w5 H
      generalize wr.heap.size = gN at H ⊢
      obtain ⟨hi0, hz0, hz1, hz2⟩ := HI.out
      refine wpList_append_any _ rfl (.tmp 9) (.tmp 16) _ rfl 0 5 i0 _ 1 1 Try.underlying22 hi0 hz0 hz1 hz2 rfl (by omega) (.slice AV 4 cV) 4 (((beL 8 x).take 4).map vb) rfl (H.row 0 rfl) (some ⟨gN, 0, none⟩) 1 1 [.int .u8 ((x : Int) / 16777216 % 256)] rfl (H.rdBlk 1 rfl 1 1 rfl) (by intro u hu; simp at hu; subst hu; rfl) (by simp only [maxLen]; omega) (by omega) (by omega) ?_
      intro v6 w6 hown6 hg6 hat6
      replace H := ((H.grow 0 rfl hown6 hg6 hat6).upd_mk (by simp)).front 1
      clear hown6 hg6 hat6 hi0 hz0 hz1 hz2
      have H7 : St w [] w6 (lay [.row 5 1 v6 5 (((beL 8 x).take 5).map vb)]) := by
        rw [HT.out, List.map_append, List.map_cons, List.map_nil, ← hbe]; exact H
      clear H hbe
      go_wp2
      go_roundw
      case rel => exact ⟨5, by omega, by first | rfl | go_num, H7⟩
      case measure => simp [intOf]
    · rw [show (7 - ((5 : Nat) : Int)) = 2 from rfl]
      have hbe : Value.int .u8 ((x : Int) / 65536 % 256) = vb (UInt8.ofNat (x / 256 ^ (8 - 1 - 5))) := by unfold vb; rw [← byte_eq]; simp
      have HT := Lib.hid (beL_take 8 x 5 (by omega))
      go_wp2_with (at_builtin; refine hold_here' ?_)
      refine Lib.hid ?_
      refine absorb_list (H.allocAt 1 rfl wr.heap.size rfl #[.int .u8 ((x : Int) / 65536 % 256)] 5 |>.push_mk rfl) ?_
      clear H
      intro w5 H
      generalize wr.heap.size = gN at H ⊢
      obtain ⟨hi0, hz0, hz1, hz2⟩ := HI.out
      refine wpList_append_any _ rfl (.tmp 9) (.tmp 16) _ rfl 0 5 i0 _ 1 1 Try.underlying22 hi0 hz0 hz1 hz2 rfl (by omega) (.slice AV 5 cV) 5 (((beL 8 x).take 5).map vb) rfl (H.row 0 rfl) (some ⟨gN, 0, none⟩) 1 1 [.int .u8 ((x : Int) / 65536 % 256)] rfl (H.rdBlk 1 rfl 1 1 rfl) (by intro u hu; simp at hu; subst hu; rfl) (by simp only [maxLen]; omega) (by omega) (by omega) ?_
      intro v6 w6 hown6 hg6 hat6
      replace H := ((H.grow 0 rfl hown6 hg6 hat6).upd_mk (by simp)).front 1
      clear hown6 hg6 hat6 hi0 hz0 hz1 hz2
      have H7 : St w [] w6 (lay [.row 5 1 v6 6 (((beL 8 x).take 6).map vb)]) := by
        rw [HT.out, List.map_append, List.map_cons, List.map_nil, ← hbe]; exact H
      clear H hbe
      go_wp2
      go_roundw
      case rel => exact ⟨6, by omega, by first | rfl | go_num, H7⟩
      case measure => simp [intOf]
    · rw [show (7 - ((6 : Nat) : Int)) = 1 from rfl]
      have hbe : Value.int .u8 ((x : Int) / 256 % 256) = vb (UInt8.ofNat (x / 256 ^ (8 - 1 - 6))) := by unfold vb; rw [← byte_eq]; simp
      have HT := Lib.hid (beL_take 8 x 6 (by omega))
      go_wp2_with (at_builtin; refine hold_here' ?_)
      refine Lib.hid ?_
      refine absorb_list (H.allocAt 1 rfl wr.heap.size rfl #[.int .u8 ((x : Int) / 256 % 256)] 5 |>.push_mk rfl) ?_
      clear H
      intro w5 H
      generalize wr.heap.size = gN at H ⊢
      obtain ⟨hi0, hz0, hz1, hz2⟩ := HI.out
      refine wpList_append_any _ rfl (.tmp 9) (.tmp 16) _ rfl 0 5 i0 _ 1 1 Try.underlying22 hi0 hz0 hz1 hz2 rfl (by omega) (.slice AV 6 cV) 6 (((beL 8 x).take 6).map vb) rfl (H.row 0 rfl) (some ⟨gN, 0, none⟩) 1 1 [.int .u8 ((x : Int) / 256 % 256)] rfl (H.rdBlk 1 rfl 1 1 rfl) (by intro u hu; simp at hu; subst hu; rfl) (by simp only [maxLen]; omega) (by omega) (by omega) ?_
      intro v6 w6 hown6 hg6 hat6
      replace H := ((H.grow 0 rfl hown6 hg6 hat6).upd_mk (by simp)).front 1
      clear hown6 hg6 hat6 hi0 hz0 hz1 hz2
      have H7 : St w [] w6 (lay [.row 5 1 v6 7 (((beL 8 x).take 7).map vb)]) := by
        rw [HT.out, List.map_append, List.map_cons, List.map_nil, ← hbe]; exact H
      clear H hbe
      go_wp2
      go_roundw
      case rel => exact ⟨7, by omega, by first | rfl | go_num, H7⟩
      case measure => simp [intOf]
    · rw [show (7 - ((7 : Nat) : Int)) = 0 from rfl]
      have hbe : Value.int .u8 ((x : Int) % 256) = vb (UInt8.ofNat (x / 256 ^ (8 - 1 - 7))) := by unfold vb; rw [← byte_eq]; simp
      have HT := Lib.hid (beL_take 8 x 7 (by omega))
      go_wp2_with (at_builtin; refine hold_here' ?_)
      refine Lib.hid ?_
      refine absorb_list (H.allocAt 1 rfl wr.heap.size rfl #[.int .u8 ((x : Int) % 256)] 5 |>.push_mk rfl) ?_
      clear H
      intro w5 H
      generalize wr.heap.size = gN at H ⊢
      obtain ⟨hi0, hz0, hz1, hz2⟩ := HI.out
      refine wpList_append_any _ rfl (.tmp 9) (.tmp 16) _ rfl 0 5 i0 _ 1 1 Try.underlying22 hi0 hz0 hz1 hz2 rfl (by omega) (.slice AV 7 cV) 7 (((beL 8 x).take 7).map vb) rfl (H.row 0 rfl) (some ⟨gN, 0, none⟩) 1 1 [.int .u8 ((x : Int) % 256)] rfl (H.rdBlk 1 rfl 1 1 rfl) (by intro u hu; simp at hu; subst hu; rfl) (by simp only [maxLen]; omega) (by omega) (by omega) ?_
      intro v6 w6 hown6 hg6 hat6
      replace H := ((H.grow 0 rfl hown6 hg6 hat6).upd_mk (by simp)).front 1
      clear hown6 hg6 hat6 hi0 hz0 hz1 hz2
      have H7 : St w [] w6 (lay [.row 5 1 v6 8 (((beL 8 x).take 8).map vb)]) := by
        rw [HT.out, List.map_append, List.map_cons, List.map_nil, ← hbe]; exact H
      clear H hbe
      go_wp2
      go_roundw
      case rel => exact ⟨8, by omega, by first | rfl | go_num, H7⟩
      case measure => simp [intOf]
    · rw [show (7 - ((8 : Nat) : Int)) = -1 from rfl]
      rw [List.take_of_length_le (by rw [beL_length]; omega)] at H
      go_wp2
      go_ret
      exact ⟨_, rfl, (by unfold OwnB; rw [beL_length]; exact H.newRow' 0 rfl), H.below⟩

set_option maxHeartbeats 4000000 in
theorem refLaid_s (h : List UInt64) (hh : h.length = 8) (w : World) :
    Calls Try.prog 43 #[.agg (h.map u64v).toArray] w fun e w' => ∃ v, e = .returned v ∧ OwnB w' w.heap.size v (laid8 h 8) ∧ Below w.heap.size w w' := by
  obtain ⟨i0, hi0, hz0, hz1, hz2⟩ := info_parts u8_info
  have HI := Lib.hid (⟨hi0, hz0, hz1, hz2⟩ : _ ∧ _ ∧ _ ∧ _)
  clear hi0 hz0 hz1 hz2
  have HH := Lib.hid hh
  clear hh
  have H := (St.start_lay w []).nilRow 0 rfl 5 1 |>.push_mk rfl
  go_enter Try.func43, Try.ntmps43
  go_upto_region 1 with fail
  refine absorb_wp (H.allocAt 1 rfl w.heap.size rfl _ _ |>.push_mk rfl) ?_
  clear H
  intro w1 H
  generalize w.heap.size = gb at H ⊢
  replace H : St w [] w1 (lay [.row 5 1 (.slice none 0 0) (8 * 0) ((laid8 h 0).map vb), .blk gb 69 (h.map u64v)]) := H
  go_wp2
  go_loopw [3, 4] (fun v i wr => ∃ k : Nat, k ≤ 8 ∧ i = .int .i64 k ∧ St w [] wr (lay [.row 5 1 v (8 * k) ((laid8 h k).map vb), .blk gb 69 (h.map u64v)])) (fun _ i _ => 8 - (intOf i).toNat)
  case atStart => exact ⟨0, by omega, rfl, H⟩
  case round =>
    clear H
    obtain ⟨k, hk, rfl, H⟩ := hrel
    obtain ⟨AV, cV, rfl, -, -⟩ := row_form (H.row 0 rfl)
    by_cases hlt : k < 8
    · have hk1 : (k : Int) < 8 := by omega
      have a0 := H.cell 1 rfl (u64_get (l := h) (k := k) (by rw [HH.out]; exact hlt))
      have HS := Lib.hid (laid8_succ (l := h) (k := k) (by rw [HH.out]; exact hlt))
      generalize at64 h k = x at a0 HS
      go_wp2_with fail
      refine (number_s x.toNat wr x.toNat_lt).mono ?_
      rintro e w2 ⟨v2, rfl, ho, hb⟩
      replace H := (H.pushRow 2 rfl hb ho).push_mk rfl
      clear ho hb a0
      rw [beL_length] at H
      obtain ⟨A2, c2, rfl, -, -⟩ := row_form (H.row 2 rfl)
      go_wp2_with (at_builtin; refine hold_here' ?_)
      refine Lib.hid ?_
      obtain ⟨hi0, hz0, hz1, hz2⟩ := HI.out
      refine wpList_append_any _ rfl (.tmp 9) (.tmp 13) _ rfl 0 5 i0 _ 1 1 Try.underlying22 hi0 hz0 hz1 hz2 rfl (by omega) (.slice AV (8 * k) cV) (8 * k) ((laid8 h k).map vb) rfl (H.row 0 rfl) A2 8 c2 ((beL 8 x.toNat).map vb) rfl (H.rd 2 rfl) (vb_one _) (by simp only [maxLen]; omega) (by omega) (by omega) ?_
      intro v6 w6 hown6 hg6 hat6
      replace H := ((H.grow 0 rfl hown6 hg6 hat6).upd_mk (by simp)).front 2
      clear hown6 hg6 hat6 hi0 hz0 hz1 hz2
      have H7 : St w [] w6 (lay [.row 5 1 v6 (8 * (k + 1)) ((laid8 h (k + 1)).map vb), .blk gb 69 (h.map u64v)]) := by rw [HS.out, List.map_append]; exact H
      clear H
      go_wp2
      go_roundw
      case rel => exact ⟨k + 1, by omega, by go_num, H7⟩
      case measure => simp [intOf]; omega
    · obtain rfl : k = 8 := by omega
      go_wp2
      go_ret
      exact ⟨_, rfl, (by unfold OwnB; rw [laid8_length (by rw [HH.out]; omega)]; exact H.newRow' 0 rfl), H.below⟩

theorem padZ5_key (n t : Nat) (ht : t ≤ padZ5 n) : (n + 1 + t) % 128 = 112 ↔ t = padZ5 n := by
  unfold padZ5 at *
  omega

attribute [local irreducible] h5 padM5 laid8

theorem dig5_eq (p : List UInt8) (n : Nat) (h : p.length = n) : laid8 (h5 (p ++ padM5 n)) 8 = dig5 p := by unfold dig5; rw [h]

set_option maxHeartbeats 8000000 in
theorem refDigest_s (A : Option Addr) (n c : Nat) (p : List UInt8) (w : World) (hA : Rd w 1 A n (p.map vb)) (hn : n ≤ 140737488354000) :
    Calls Try.prog 34 #[.slice A n c] w fun e w' => ∃ v, e = .returned v ∧ OwnB w' w.heap.size v (dig5 p) ∧ Below w.heap.size w w' := by
  have hl : p.length = n := by simpa using hA.1
  have HL := Lib.hid hl
  have HD := Lib.hid (dig5_eq p n hl)
  have HDL : Hid ((dig5 p).length = 64) := dig5_length p
  clear hl
  obtain ⟨i0, hi0, hz0, hz1, hz2⟩ := info_parts u8_info
  have HI := Lib.hid (⟨hi0, hz0, hz1, hz2⟩ : _ ∧ _ ∧ _ ∧ _)
  have H := (St.start_lay w []).nilRow 0 rfl 5 1 |>.push_mk rfl
  have hZb : padZ5 n ≤ 127 := by unfold padZ5; omega
  go_enter Try.func34, Try.ntmps34
  go_wp2_with (at_builtin; refine hold_here' ?_)
  refine Lib.hid ?_
  refine wpList_append_any _ rfl (.tmp 4) (.tmp 5) _ rfl 0 5 i0 _ 1 1 Try.underlying22 hi0 hz0 hz1 hz2 rfl (by omega) (.slice none 0 0) 0 [] rfl (H.row 0 rfl) A n c (p.map vb) rfl (H.arg0 hA) (vb_one _) (by simp only [maxLen]; omega) (by omega) (by omega) ?_
  intro v6 w6 hown6 hg6 hat6
  replace H := ((H.grow 0 rfl hown6 hg6 hat6).upd_mk (by simp))
  clear hown6 hg6 hat6
  replace H : St w [] w6 (lay [.row 5 1 v6 n (p.map vb)]) := by rw [Nat.zero_add, List.nil_append] at H; exact H
  obtain ⟨AV, cV, rfl, -, -⟩ := row_form (H.row 0 rfl)
  go_wp2_with (at_builtin; refine hold_here' ?_)
  refine Lib.hid ?_
  refine absorb_list (H.allocAt 1 rfl w6.heap.size rfl #[.int .u8 128] 5 |>.push_mk rfl) ?_
  clear H
  intro w7 H
  generalize w6.heap.size = gN at H ⊢
  refine wpList_append_any _ rfl (.tmp 7) (.tmp 8) _ rfl 0 5 i0 _ 1 1 Try.underlying22 hi0 hz0 hz1 hz2 rfl (by omega) (.slice AV n cV) n (p.map vb) rfl (H.row 0 rfl) (some ⟨gN, 0, none⟩) 1 1 [.int .u8 128] rfl (H.rdBlk 1 rfl 1 1 rfl) (by intro u hu; simp at hu; subst hu; rfl) (by simp only [maxLen]; omega) (by omega) (by omega) ?_
  intro v8 w8 hown6 hg6 hat6
  replace H := ((H.grow 0 rfl hown6 hg6 hat6).upd_mk (by simp)).front 1
  clear hown6 hg6 hat6 hi0 hz0 hz1 hz2 hA
  replace H : St w [] w8 (lay [.row 5 1 v8 (n + 1) ((p ++ [128]).map vb)]) := by rw [List.map_append]; exact H
  go_wp2
  go_loopw [3] (fun v wr => ∃ t : Nat, t ≤ padZ5 n ∧ St w [] wr (lay [.row 5 1 v (n + 1 + t) ((p ++ 128 :: List.replicate t 0).map vb)]) ) (fun v _ => match v with | .slice _ k _ => 140737488356000 - k | _ => 0)
  case atStart => exact ⟨0, Nat.zero_le _, H⟩
  case round =>
    clear H
    obtain ⟨t, ht, H⟩ := hrel
    obtain ⟨AV, cV, rfl, -, -⟩ := row_form (H.row 0 rfl)
    have hkey := padZ5_key n t ht
    by_cases hz : t = padZ5 n
    · have e1 : (((n + 1 + t : Nat) : Int) % 128 != 112) = false := by have := hkey.2 hz; simp; omega
      have HP : Hid (p ++ 128 :: List.replicate t 0 ++ List.replicate 8 0 ++ beL 8 (8 * n) = p ++ padM5 n) := by
        unfold Hid padM5; rw [← hz, ← List.replicate_append_replicate]; simp
      obtain ⟨Y, hY⟩ : ∃ Y, p ++ 128 :: List.replicate t 0 = Y := ⟨_, rfl⟩
      have hYl : Y.length = n + 1 + t := by rw [← hY, List.length_append, HL.out, List.length_cons, List.length_replicate]; omega
      have htb : t ≤ 127 := by omega
      rw [hY] at H HP
      obtain ⟨N, hN⟩ : ∃ N, n + 1 + t = N := ⟨_, rfl⟩
      have hNb : N ≤ 140737488354200 := by omega
      rw [hN] at H e1 hYl ⊢
      have HYL := Lib.hid hYl
      clear hkey hz hY ht hYl hN hZb
      go_wp2_with (at_builtin; refine hold_here' ?_)
      refine Lib.hid ?_
      obtain ⟨hi0, hz0, hz1, hz2⟩ := HI.out
      obtain ⟨v4, w4, hr4, ho4, hg4, ha4⟩ := run_append_zeros (P := Try.prog) wr 0 22 3 22 5 i0 (.int .u8 0) .i64 Try.underlying22 Try.underlying3 hi0 hz0 hz1 hz2 rfl rfl (.slice AV N cV) N (Y.map vb) (H.row 0 rfl) 8 (by omega) (Nat.zero_le _)
      refine Go.Lib.wpList_append_run wr rfl (.tmp 17) (.const (.int .i64 8)) 22 3 rfl (.slice AV N cV) (.int .i64 ((8 : Nat) : Int)) rfl rfl v4 w4 hr4 ?_
      replace H := (H.grow 0 rfl ho4 hg4 ha4).upd_mk (by simp)
      clear hr4 ho4 hg4 ha4 e1
      replace H : St w [] w4 (lay [.row 5 1 v4 (N + 8) ((Y ++ List.replicate 8 0).map vb)]) := by rw [List.map_append, List.map_replicate]; exact H
      obtain ⟨A4, c4, rfl, -, -⟩ := row_form (H.row 0 rfl)
      clear hi0 hz0 hz1 hz2
      go_wp2_with fail
      rw [show (8 * (n : Int)) = ((8 * n : Nat) : Int) by omega]
      refine (number_s (8 * n) w4 (by omega)).mono ?_
      rintro e w5 ⟨v5, rfl, ho, hb⟩
      replace H := (H.pushRow 1 rfl hb ho).push_mk rfl
      rw [beL_length] at H
      clear ho hb
      obtain ⟨A5, c5, rfl, -, -⟩ := row_form (H.row 1 rfl)
      go_wp2_with (at_builtin; refine hold_here' ?_)
      refine Lib.hid ?_
      obtain ⟨hi0, hz0, hz1, hz2⟩ := HI.out
      refine wpList_append_any _ rfl (.tmp 19) (.tmp 24) _ rfl 0 5 i0 _ 1 1 Try.underlying22 hi0 hz0 hz1 hz2 rfl (by omega) (.slice A4 (N + 8) c4) (N + 8) ((Y ++ List.replicate 8 0).map vb) rfl (H.row 0 rfl) A5 8 c5 ((beL 8 (8 * n)).map vb) rfl (H.rd 1 rfl) (vb_one _) (by simp only [maxLen]; omega) (by omega) (by omega) ?_
      intro v6 w6 hown6 hg6 hat6
      replace H := ((H.grow 0 rfl hown6 hg6 hat6).upd_mk (by simp)).front 1
      clear hown6 hg6 hat6 hi0 hz0 hz1 hz2
      replace H : St w [] w6 (lay [.row 5 1 v6 (N + 8 + 8) ((p ++ padM5 n).map vb)]) := by rw [← HP.out, List.map_append]; exact H
      obtain ⟨A6, c6, rfl, hc6, -⟩ := row_form (H.row 0 rfl)
      go_wp2_with fail
      refine (refWords_s A6 (N + 8 + 8) c6 (p ++ padM5 n) w6 (H.rd 0 rfl) hc6 (by omega)).mono ?_
      rintro e w9 ⟨rfl, hb⟩
      replace H := H.call hb
      clear hb
      go_wp2_with fail
      refine (refLaid_s (h5 (p ++ padM5 n)) (h5_length _) w9).mono ?_
      rintro e wa ⟨va, rfl, ho, hb⟩
      unfold OwnB at ho
      rw [HD.out, HDL.out] at ho
      replace H := (H.pushRow 1 rfl hb ho).push_mk rfl
      clear ho hb
      go_wp2
      go_ret
      exact ⟨_, rfl, (by unfold OwnB; rw [HDL.out]; exact H.newRow' 1 rfl), H.below⟩
    · have e1 : (((n + 1 + t : Nat) : Int) % 128 != 112) = true := by
        have : ¬ (n + 1 + t) % 128 = 112 := fun h => hz (hkey.1 h)
        simp; omega
      have ht2 : t + 1 ≤ padZ5 n := by omega
      clear hkey hz
      go_wp2_with (at_builtin; refine hold_here' ?_)
      refine Lib.hid ?_
      refine absorb_list (H.allocAt 1 rfl wr.heap.size rfl #[.int .u8 0] 5 |>.push_mk rfl) ?_
      clear H
      intro w5 H
      generalize wr.heap.size = gN at H ⊢
      obtain ⟨hi0, hz0, hz1, hz2⟩ := HI.out
      refine wpList_append_any _ rfl (.tmp 14) (.tmp 15) _ rfl 0 5 i0 _ 1 1 Try.underlying22 hi0 hz0 hz1 hz2 rfl (by omega) (.slice AV (n + 1 + t) cV) (n + 1 + t) ((p ++ 128 :: List.replicate t 0).map vb) rfl (H.row 0 rfl) (some ⟨gN, 0, none⟩) 1 1 [.int .u8 0] rfl (H.rdBlk 1 rfl 1 1 rfl) (by intro u hu; simp at hu; subst hu; rfl) (by simp only [maxLen]; omega) (by omega) (by omega) ?_
      intro v6 w6 hown6 hg6 hat6
      replace H := ((H.grow 0 rfl hown6 hg6 hat6).upd_mk (by simp)).front 1
      clear hown6 hg6 hat6 hi0 hz0 hz1 hz2
      have H7 : St w [] w6 (lay [.row 5 1 v6 (n + 1 + (t + 1)) ((p ++ 128 :: List.replicate (t + 1) 0).map vb)]) := by
        have e : (p ++ 128 :: List.replicate (t + 1) 0).map vb = (p ++ 128 :: List.replicate t 0).map vb ++ [.int .u8 0] := by rw [List.replicate_succ']; simp
        rw [e]; exact H
      obtain ⟨A7, c7, rfl, -, -⟩ := row_form (H7.row 0 rfl)
      clear H
      go_wp2
      go_roundw
      case rel => exact ⟨t + 1, ht2, H7⟩
      case measure => show 140737488356000 - (n + 1 + (t + 1)) < 140737488356000 - (n + 1 + t); omega

theorem refLast_s (n : Nat) (w : World) (hn : n ≤ 140737488355328) : Calls Try.prog 33 #[.int .i64 (n : Int)] w fun e w' => e = .returned (.int .i64 ((if n % 128 < 112 then 1 else 2 : Nat) : Int)) ∧ w = w' := by
  by_cases h : n % 128 < 112
  · have h1 : (n : Int) % 128 < 112 := by omega
    rw [if_pos h]
    clear h
    go_enter Try.func33, Try.ntmps33
    go_wp2
    go_ret
    exact ⟨rfl, rfl⟩
  · have h1 : ¬ (n : Int) % 128 < 112 := by omega
    rw [if_neg h]
    clear h
    go_enter Try.func33, Try.ntmps33
    go_wp2
    go_ret
    exact ⟨rfl, rfl⟩

theorem last_eq5 (n : Nat) : n / 128 + (if n % 128 < 112 then 1 else 2) = allN5 n := by
  unfold allN5 lastN5 padZ5
  split <;> omega

section
variable {w0 w : World} {F0 : List Nat} {E : Env}

set_option maxHeartbeats 1000000 in
theorem refBlocks_s (l : Value) (r : Option (List RunT)) (m : Nat) (c : Int) (k : Nat) (N : Int) (hN : N = k) (H : St w0 F0 w E) (i : Nat) (hi : E i = some (ledR l r)) (hg : LW r m c) (hm : m ≤ 99999999) (hc : c + k ≤ 4000000000000000000) (hk : k ≤ 4000000000000000000) :
    Calls Try.prog 32 #[l, .int .i64 N] w fun e w' => e = .returned (.tuple #[]) ∧ St w0 F0 w' (upd E i (ledR l (noteN r 2 128 k))) := by
  have HN := Lib.hid hN
  have HI := Lib.hid hi
  have HG := Lib.hid hg
  clear hN hi hg
  go_enter Try.func32, Try.ntmps32
  go_wp2_with fail
  refine (refNoteTimes_w m c 2 128 k N HN.out H i HI.out HG.out (by omega) (by omega) (by omega)).mono ?_
  rintro e w1 ⟨rfl, H1⟩
  go_wp2
  go_end0
  exact ⟨rfl, H1⟩

set_option maxHeartbeats 1000000 in
theorem refSum_s (l : Value) (r : Option (List RunT)) (m : Nat) (c : Int) (A : Option Addr) (n cA : Nat) (p : List UInt8) (H : St w0 F0 w E) (i k0 : Nat) (hi : E i = some (ledR l r)) (hk : E k0 = none) (hg : LW r m c) (hm : m ≤ 99999999) (hc : c ≤ 300000000000000000)
    (hR : ∀ w' X, St w0 F0 w' (upd E i X) → Rd w' 1 A n (p.map vb)) (hn : n ≤ 140737488354000) :
    Calls Try.prog 11 #[l, .slice A n cA] w fun e w' => ∃ v, e = .returned v ∧ St w0 F0 w' (upd (upd E i (ledR l (noteN r 2 128 (allN5 n)))) k0 (.row 5 1 v 64 ((dig5 p).map vb))) := by
  have hl : p.length = n := by have h := (hR w _ (by rw [upd_id hi]; exact H)).1; simpa using h
  obtain ⟨F, HF, -, -, hback⟩ := H.frame1 i hi
  have HB := Lib.hid hback
  have HR0 : Hid (∀ w' X, St w F w' (lay [X]) → Rd w' 1 A n (p.map vb)) := fun w' X h => hR w' X (hback w' X (h.to1 rfl))
  have HI := Lib.hid hi
  have HK := Lib.hid hk
  have HG := Lib.hid hg
  have HDL : Hid ((dig5 p).length = 64) := dig5_length p
  have hAL := last_eq5 n
  obtain ⟨L, hL⟩ : ∃ L, (if n % 128 < 112 then 1 else 2 : Nat) = L := ⟨_, rfl⟩
  have hLb : L ≤ 2 := by rw [← hL]; split <;> omega
  rw [hL] at hAL
  have HLL := Lib.hid hL
  have hqq : ((n : Int) / 128 + (L : Int)) = ((allN5 n : Nat) : Int) := by omega
  have hKb : allN5 n ≤ n + 2 := by omega
  generalize allN5 n = K at hAL hKb hqq ⊢
  have HQQ := Lib.hid hqq
  have H : St w F w (lay [ledR l r]) := HF.as1
  clear hback hi hk hR hg hAL hqq hl hL HF
  go_enter Try.func11, Try.ntmps11
  go_wp2_with fail
  refine (refLast_s n w (by omega)).mono ?_
  rintro e w1 ⟨rfl, rfl⟩
  rw [HLL.out]
  go_wp2_with fail
  refine (refBlocks_s l r m c K _ (by exact HQQ.out) H 0 rfl HG.out (by omega) (by omega) (by omega)).mono ?_
  rintro e w2 ⟨rfl, H1⟩
  rw [upd_laid5 (by simp)] at H1
  clear H
  have H : St w F w2 (lay [ledR l (noteN r 2 128 K)]) := H1
  clear H1
  go_wp2_with fail
  refine (refDigest_s A n cA p w2 (HR0.out _ _ H) hn).mono ?_
  rintro e w4 ⟨v4, rfl, ho, hb⟩
  unfold OwnB at ho
  rw [HDL.out] at ho
  replace H : St w F w4 (lay [ledR l (noteN r 2 128 K), .row 5 1 v4 64 ((dig5 p).map vb)]) := (H.pushRow 1 rfl hb ho).push_mk rfl
  clear ho hb
  go_wp2
  go_ret
  exact ⟨_, rfl, St.one_more2 HI.out HK.out HB.out H⟩
end
end Go.Proofs.Ythieegmmbjjcbaa
