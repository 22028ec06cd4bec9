/- Texts of this claim, merged: KecP, KitB, Heap, Lay, Made, WLay, WLayLE, TakeA, TakeLE, KecB, KecF, SpP, SpA, OpA, OpE, Apart, Held, KitO, SpW, SpC, SpQ. -/
import Derived.Test.YtgjlclihgpahbaaRows
import Derived.Laws.Cover3
import Derived.LoopN
import Derived.Deep.RegionHeld3
import Derived.StillTail
import Derived.Test.YtgjlclihgpahbaaMgA
set_option linter.unusedVariables false

namespace Go.Proofs.Ytgjlclihgpahbaa
open Go.RowKit
set_option linter.unusedVariables false

theorem u64_size : (Try.prog.info? 91).map (·.size) = some 1 := by kernel_rfl

theorem u64_notAgg (w : World) : (isAgg 91).run Try.prog w = .ok false w := by simp [isAgg, run_underlying Try.underlying91]

theorem there_new (w : World) (cs : Array Value) (T : TypeId) (n : Nat) (h : n = cs.size) : (w.alloc (.cells cs T)).there w.heap.size 0 n := fun j hj => by
  rw [Nat.zero_add, World.cell?_alloc_at _ _ _ _ rfl, World.frozen?_alloc_at _ _ _ _ rfl]
  subst h
  simp [hj]

/-- the event of a permutation, in a ledger that may be none -/
abbrev kNote (r : Option (List RunT)) : Option (List RunT) := r.map fun rs => noted rs 3 200 1

section
variable {w0 w : World} {F0 : List Nat} {E : Env}

set_option maxHeartbeats 2000000 in
theorem permute_w (l : Value) (r : Option (List RunT)) (m : Nat) (b : Int) (s : List UInt64) (H : St w0 F0 w E) (i : Nat) (hi : E i = some (led l r)) (hg : LW r m b) (hm : m ≤ 1000000000000) (hb : b ≤ 4611686018427387903) (hs : s.length = 25) :
    Calls Try.prog 52 #[l, .agg (s.map u64v).toArray] w fun e w' => e = .returned (.agg ((kPerm s).map u64v).toArray) ∧ St w0 F0 w' (upd E i (led l (kNote r))) := by
  obtain ⟨F, HF, -, -, hback⟩ := H.frame1 i hi
  have HB := Lib.hid hback
  have HS := Lib.hid hs
  clear H hback hs
  go_enter Try.func52, Try.ntmps52
  go_wp2_with fail
  refine absorb_calls (HF.as1 |>.allocAt 1 rfl w.heap.size rfl _ _ |>.push_mk rfl |>.allocAt 2 rfl (w.heap.size + 1) (by simp) _ _ |>.push_mk rfl) ?_
  intro w1 H1
  clear HF
  generalize w.heap.size + 1 = g2 at H1 ⊢
  generalize w.heap.size = g1 at H1 ⊢
  refine (ledger_note_w m b 3 200 H1 0 rfl hg hm hb).mono ?_
  rintro e w2 ⟨rfl, H2⟩
  replace H2 := H2.upd_mk (by simp)
  go_wp2_with fail
  refine (constants_s _).mono ?_
  rintro e w3 ⟨rfl, hb3⟩
  have H3 := H2.call hb3
  clear H2 H1 hb3
  go_wp2
  go_loopw [14] (fun i wr => ∃ k : Nat, k ≤ 24 ∧ i = .int .i64 k ∧ St w F wr (lay [led l (kNote r), .blk g1 93 ((kPermTo s k).map u64v), .blk g2 93 ((List.replicate 25 0).map u64v)])) (fun i _ => 24 - (intOf i).toNat)
  case atStart => exact ⟨0, by omega, rfl, H3⟩
  case round =>
    clear H3
    clear hm hb hg
    obtain ⟨k, hk, rfl, Hk⟩ := hrel
    by_cases hlt : k < 24
    · have hz := u64_get (l := kConsts) (k := k) (by simpa [kConsts] using hlt)
      have hz2 := run_index_agg (P := Try.prog) 101 91 24 (kConsts.map u64v).toArray k (.int .u64 ((at64 kConsts k).toNat : Int)) Try.underlying101 u64_size u64_notAgg hlt (by simpa using hz)
      clear hz
      have hk1 : (k : Int) < 24 := by omega
      have HX : Hid ((kPermTo s k).length = 25) := by have := kPermTo_length s k; rw [HS.out] at this; exact this
      have HE : Hid (kPermTo s (k + 1) = kRound (kPermTo s k) (at64 kConsts k)) := rfl
      generalize kPermTo s k = X at *
      generalize at64 kConsts k = c at *
      go_wp2_with fail
      refine (theta_s g1 X Hk 1 rfl HX.out).mono ?_
      rintro e w4 ⟨rfl, H4⟩
      replace H4 := H4.upd_mk (by simp)
      clear Hk hz2
      have HTL : Hid ((kTheta X).length = 25) := by have := kTheta_length X; rw [HX.out] at this; exact this
      go_wp2_with (refine wpList_load_row rfl 93 (.tmp 3) rfl g1 rfl _ _ _ _ (H4.blk 1 rfl) Try.underlying93 rfl (by rw [state_size]; simp [HTL.out]) ?_)
      refine (walk_s _ HTL.out _).mono ?_
      rintro e w5 ⟨rfl, hb5⟩
      have H5 := H4.call hb5
      clear H4 hb5
      generalize hT : kTheta X = T at *
      have HT := Lib.hid hT
      clear hT
      have HBL : Hid ((kWalk T).length = 25) := kWalk_length T
      generalize hB : kWalk T = B at *
      have HBe := Lib.hid hB
      clear hB
      go_wp2_with (refine wpList_store_mid rfl 93 (.tmp 7) (.tmp 19) rfl w5.heap.size 0 (B.map u64v).toArray rfl rfl (there_new _ _ _ _ (by simp [HBL.out])) (by rw [state_size]; simp [HBL.out]) (all_oneCell_toArray (u64_one _)) ?_)
      refine absorb_wp (H5.allocAt 3 rfl w5.heap.size rfl _ _ |>.push_mk rfl |>.storeAll 3 rfl (vs := B.map u64v) (by simp [HBL.out]) |>.upd_mk (by simp)) ?_
      intro w6 H6
      clear H5
      generalize w5.heap.size = g3 at H6 ⊢
      go_loopw [20] (fun i wr => ∃ k : Nat, k ≤ 25 ∧ i = .int .i64 k ∧ St w F wr (lay [led l (kNote r), .blk g1 93 ((kChiTo B T k).map u64v), .blk g2 93 ((List.replicate 25 0).map u64v), .blk g3 93 (B.map u64v)])) (fun i _ => 25 - (intOf i).toNat)
      case atStart => exact ⟨0, by omega, rfl, H6⟩
      case round =>
        clear H6
        obtain ⟨m, hm, rfl, Hm⟩ := hrel
        by_cases hlm : m < 25
        · obtain ⟨u, hu⟩ : ∃ u, ((kChiTo B T m).map u64v)[m]? = some u := ⟨_, u64_get (by rw [kChiTo_length, HTL.out]; omega)⟩
          have a0 := Hm.cell 1 rfl hu
          have af := Hm.free 1 rfl m
          have b0 := Hm.cell 3 rfl (u64_get (k := m) (by rw [HBL.out]; omega))
          have b1 := Hm.cell 3 rfl (u64_get (k := m - m % 5 + (m + 1) % 5) (by rw [HBL.out]; omega))
          have b2 := Hm.cell 3 rfl (u64_get (k := m - m % 5 + (m + 2) % 5) (by rw [HBL.out]; omega))
          have hm1 : (m : Int) < 25 := by omega
          clear hu
          go_wp2
          refine region_quiet_tail 22 (by kernel_rfl) (by kernel_rfl) ?_
          simp only [List.take_succ_cons, List.take_zero, List.drop_succ_cons, List.drop_zero]
          repeat (go_big_quiet_step (fail))
          refine wpQuiet_nil ?_
          intro nq
          go_wp2
          go_roundw
          case rel => exact ⟨m + 1, by omega, by go_num, by rw [not64, and64, xor64]; exact by have h := ((Hm.drewN nq).store 1 rfl (o := m) (u := u64v (at64 B m ^^^ (~~~(at64 B (m - m % 5 + (m + 1) % 5)) &&& at64 B (m - m % 5 + (m + 2) % 5))))).upd_mk (by simp); rw [u64_set] at h; exact h⟩
          case measure => simp [intOf]; omega
        · obtain rfl : m = 25 := by omega
          have HCL : Hid ((kChiTo B T 25).length = 25) := by have := kChiTo_length B T 25; rw [HTL.out] at this; exact this
          have HF : Hid (kPermTo s (k + 1) = (kChiTo B T 25).set 0 (at64 (kChiTo B T 25) 0 ^^^ c)) := by
            have h := HE.out
            unfold kRound at h
            rw [HT.out, HBe.out] at h
            exact h
          clear HE
          generalize kChiTo B T 25 = D at *
          have a0 := Hm.cell 1 rfl (u64_get (k := 0) (by rw [HCL.out]; omega))
          have af := Hm.free 1 rfl 0
          go_wp2
          go_roundw
          case rel => exact ⟨k + 1, by omega, by go_num, by rw [xor64, HF.out]; exact by have h := (Hm.store 1 rfl (o := 0) (u := u64v (at64 D 0 ^^^ c))).upd_mk (by simp); rw [u64_set] at h; exact h.front 3⟩
          case measure => simp [intOf]; omega
    · obtain rfl : k = 24 := by omega
      have HPL : Hid ((kPermTo s 24).length = 25) := by have := kPermTo_length s 24; rw [HS.out] at this; exact this
      go_wp2_with (first | (refine wpList_load_row rfl 93 (.tmp 3) rfl g1 rfl _ _ _ _ (Hk.blk 1 rfl) Try.underlying93 rfl (by rw [state_size]; simp [HPL.out]) ?_) | (refine wpList_store_mid rfl 93 (.tmp 4) (.tmp 56) rfl g2 0 _ rfl rfl (by simpa [HPL.out] using Hk.there 2 rfl) (by rw [state_size]; simp [HPL.out]) (all_oneCell_toArray (u64_one _)) ?_))
      have H4 := (Hk.storeAll 2 rfl (vs := (kPermTo s 24).map u64v) (by simp [HPL.out])).upd_mk (by simp)
      exact bodyPost_ret (results_cell_row rfl _ _ g2 93 ((kPermTo s 24).map u64v).toArray _ _ rfl (H4.blk 2 rfl) Try.underlying93 rfl (by rw [state_size]; simp [HPL.out])) rfl ⟨rfl, HB.out _ _ (H4.to1 rfl)⟩

theorem permute_s (l : Value) (r : Option (List RunT)) (b : Int) (s : List UInt64) (H : St w0 F0 w E) (i : Nat) (hi : E i = some (led l r)) (hg : LGood r b) (hb : b ≤ 1000000) (hs : s.length = 25) :
    Calls Try.prog 52 #[l, .agg (s.map u64v).toArray] w fun e w' => e = .returned (.agg ((kPerm s).map u64v).toArray) ∧ St w0 F0 w' (upd E i (led l (kNote r))) :=
  permute_w l r b.toNat b s H i hi hg.lw (by omega) (by omega) hs

end

end Go.Proofs.Ytgjlclihgpahbaa

namespace Go.Proofs.Ytgjlclihgpahbaa
open Go.RowKit

set_option maxHeartbeats 400000 in
theorem sameBytes_any (A B : Option Addr) (n m c d : Nat) (xs ys : List UInt8) (w : World) (ha : Rd w 1 A n (xs.map vb)) (hb : Rd w 1 B m (ys.map vb)) (hn : n ≤ 9223372036854775807) (hm : m ≤ 9223372036854775807) :
    Calls Try.prog 11 #[.slice A n c, .slice B m d] w fun e w' => e = .returned (.bool (decide (xs = ys))) ∧ ∃ k, w' = w.drewN k := by
  have hlx : xs.length = n := by simpa using ha.1
  have hly : ys.length = m := by simpa using hb.1
  have Hx := Lib.hid hlx
  have Hy := Lib.hid hly
  clear hlx hly
  by_cases hnm : n = m
  · subst hnm
    have h0 : ((n : Int) != n) = false := by simp
    go_enter Try.func11, Try.ntmps11
    go_wp2
    go_loopw [5] (fun i wr => ∃ k q : Nat, k ≤ n ∧ i = .int .i64 k ∧ wr = w.drewN q ∧ Hid (xs.take k = ys.take k)) (fun i _ => n - (intOf i).toNat)
    case atStart => exact ⟨0, 0, Nat.zero_le _, rfl, rfl, rfl⟩
    case round =>
      obtain ⟨k, q, hk, rfl, rfl, hpre⟩ := hrel
      by_cases hlt : k < n
      · obtain ⟨p, x, rfl, hx, hcx⟩ := ha.byteAt hlt
        obtain ⟨p', y, rfl, hy, hcy⟩ := hb.byteAt hlt
        have HX := Lib.hid hx
        have HY := Lib.hid hy
        clear hx hy
        go_wp2
        go_quiet (fail)
        by_cases hxy : x = y
        · subst hxy
          have h2 : ((x.toNat : Int) != (x.toNat : Int)) = false := by simp
          go_wp2
          go_roundw
          case rel => exact ⟨k + 1, q + nq, by omega, by go_num, by simp, take_succ_eq hpre.out HX.out HY.out⟩
          case measure => simp [intOf]; omega
        · have h2 : ((x.toNat : Int) != (y.toNat : Int)) = true := by
            simp only [bne_iff_ne, ne_eq]
            intro h; exact hxy (UInt8.toNat_inj.1 (by omega))
          go_wp2
          go_ret
          refine ⟨ret_bool ?_, q + nq, by simp⟩
          symm; simp only [decide_eq_false_iff_not]
          rintro rfl
          have a := HX.out
          have b := HY.out
          rw [a] at b
          exact hxy (Option.some.inj b)
      · go_wp2
        go_ret
        refine ⟨ret_bool ?_, q, rfl⟩
        symm; simp only [decide_eq_true_eq]
        have h := hpre.out
        have a := Hx.out
        have b := Hy.out
        rwa [List.take_of_length_le (by omega), List.take_of_length_le (by omega)] at h
  · have h0 : ((n : Int) != m) = true := by simp only [bne_iff_ne, ne_eq]; omega
    go_enter Try.func11, Try.ntmps11
    go_wp2
    go_ret
    refine ⟨ret_bool ?_, 0, rfl⟩
    symm; simp only [decide_eq_false_iff_not]
    rintro rfl
    exact hnm (Hx.out.symm.trans Hy.out)

theorem u8_info : (Try.prog.info? 5).map (fun i => (i.zero, i.size, i.bytes)) = some (some (.int .u8 0), 1, 1) := by kernel_rfl

/-- A slice of bytes in memory from 'base' on: nil and empty, or a row's beginning. -/
def OwnB (w : World) (base : Nat) (v : Value) (l : List UInt8) : Prop := w.ownsRow base 5 1 v l.length (l.map vb)

theorem OwnB.of_push {w : World} {base : Nat} {v : Value} {l : List UInt8} {b : UInt8} (h : w.ownsRow base 5 1 v (l.length + 1) (l.map vb ++ [vb b])) : OwnB w base v (l ++ [b]) := by
  simpa [OwnB] using h
theorem OwnB.push_at {w : World} {base k : Nat} {v : Value} {l : List UInt8} {b : UInt8} (hk : l.length = k) (h : w.ownsRow base 5 1 v (k + 1) (l.map vb ++ [.int .u8 (b.toNat : Int)])) : OwnB w base v (l ++ [b]) := by
  subst hk; exact OwnB.of_push h
theorem OwnB.below {w w' : World} {base : Nat} {v : Value} {l : List UInt8} (h : OwnB w base v l) (hb : Below w.heap.size w w') : OwnB w' base v l :=
  h.kept (row := none) ⟨hb.os, hb.tape, hb.output, hb.size, fun k hk _ => hb.block k hk⟩ (by cases hv : v.ownBlock <;> simp)
theorem OwnB.more {w : World} {base base' : Nat} {v : Value} {l : List UInt8} (h : OwnB w base v l) (hb : base' ≤ base) : OwnB w base' v l := by
  refine ⟨h.1, ?_⟩
  rcases h.2 with hn | ⟨g, cap, cur, h1, h2, h3⟩
  · exact .inl hn
  · exact .inr ⟨g, cap, cur, h1, Nat.le_trans hb h2, h3⟩
theorem OwnB.shape {w : World} {base : Nat} {v : Value} {l : List UInt8} (h : OwnB w base v l) : ∃ A n c, v = .slice A n c ∧ Hid (n = l.length) ∧ Rd w 1 A n (l.map vb) := by
  rcases h.2 with ⟨rfl, hn⟩ | ⟨g, cap, cur, rfl, h2, h3⟩
  · have : l = [] := List.length_eq_zero_iff.1 hn
    subst this
    exact ⟨none, 0, 0, rfl, rfl, Rd.none_⟩
  · exact ⟨_, _, _, rfl, rfl, Rd.of_own h⟩
theorem OwnB.cellAt {w : World} {base g n c : Nat} {l : List UInt8} (h : OwnB w base (.slice (some ⟨g, 0, none⟩) n c) l) {k : Nat} (hk : k < l.length) :
    ∃ x, l[k]? = some x ∧ w.cell? ⟨g, k, none⟩ = some (.int .u8 (x.toNat : Int)) := by
  have hn : n = l.length := by
    rcases h.2 with ⟨h', _⟩ | ⟨g', cap', cur, h', _⟩
    · cases h'
    · injection h'
  subst hn
  have hc := World.ownsRow.cellAt h k (by omega)
  rw [List.getElem?_map, List.getElem?_eq_getElem hk] at hc
  exact ⟨l[k], List.getElem?_eq_getElem hk, hc⟩
theorem OwnB.frozenAt {w : World} {base g n c : Nat} {l : List UInt8} (h : OwnB w base (.slice (some ⟨g, 0, none⟩) n c) l) (k : Nat) : w.frozen? ⟨g, k, none⟩ = false := by
  have hn : n = l.length := by
    rcases h.2 with ⟨h', _⟩ | ⟨g', cap', cur, h', _⟩
    · cases h'
    · injection h'
  subst hn
  exact World.ownsRow.frozenAt h k
theorem OwnB.stored {w : World} {base g n c : Nat} {l : List UInt8} (h : OwnB w base (.slice (some ⟨g, 0, none⟩) n c) l) (k : Nat) (x : UInt8) :
    OwnB (w.setCell ⟨g, k, none⟩ (.int .u8 (x.toNat : Int))) base (.slice (some ⟨g, 0, none⟩) n c) (l.set k x) ∧ w.grownBy (w.setCell ⟨g, k, none⟩ (.int .u8 (x.toNat : Int))) (some g) := by
  have hn : n = l.length := by
    rcases h.2 with ⟨h', _⟩ | ⟨g', cap', cur, h', _⟩
    · cases h'
    · injection h'
  subst hn
  have hs := World.ownsRow.stored h k (vb x)
  exact ⟨by unfold OwnB; rw [List.length_set, List.map_set]; exact hs.1, hs.2⟩
theorem grownBy_trans {a b c : World} {row : Option Nat} (h : a.grownBy b row) (k : b.grownBy c row) : a.grownBy c row :=
  ⟨k.os.trans h.os, k.tape.trans h.tape, k.output.trans h.output, Nat.le_trans h.size k.size, fun i hi hn => (k.block i (Nat.lt_of_lt_of_le hi h.size) hn).trans (h.block i hi hn)⟩
theorem grownBy_drewN {a b : World} {row : Option Nat} (h : a.grownBy b row) (n : Nat) : a.grownBy (b.drewN n) row := ⟨h.os, h.tape, h.output, h.size, h.block⟩
theorem grownBy_drew {a b : World} {row : Option Nat} (h : a.grownBy b row) : a.grownBy b.drew row := ⟨h.os, h.tape, h.output, h.size, h.block⟩

theorem vb_one (l : List UInt8) : ∀ u ∈ l.map vb, u.oneCell' = true := by
  intro u hu
  obtain ⟨b, -, rfl⟩ := List.mem_map.1 hu
  rfl

set_option maxHeartbeats 400000 in
theorem copyBytes_any (A : Option Addr) (n c : Nat) (l : List UInt8) (w : World) (h : Rd w 1 A n (l.map vb)) (hn : n ≤ 140737488355328) :
    Calls Try.prog 34 #[.slice A n c] w fun e w' => ∃ v, e = .returned v ∧ OwnB w' w.heap.size v l ∧ Below w.heap.size w w' := by
  obtain ⟨i0, hi0, hz0, hz1, hz2⟩ := info_parts u8_info
  have hl : n = l.length := by simpa using h.1.symm
  subst hl
  go_enter Try.func34, Try.ntmps34
  go_wp2_with (at_builtin; refine wpList_append_any _ rfl (.tmp 4) (.tmp 5) _ rfl w.heap.size 5 i0 _ 1 1 Try.underlying27 hi0 hz0 hz1 hz2 rfl (by omega) (.slice none 0 0) 0 [] rfl ⟨by simp, .inl ⟨rfl, rfl⟩⟩ A l.length c (l.map vb) rfl h (vb_one l) (by simp only [maxLen]; omega) (by omega) (Nat.le_refl _) ?_; intro v1 w1 hown1 hg1 hat1; have hbw1 : Below w.heap.size w w1 := (Below.refl _ _).grown hg1 (Nat.le_refl _) (by simp [Value.ownBlock]))
  go_ret
  exact ⟨v1, rfl, by simpa [OwnB] using hown1, hbw1⟩

/-- The marks behind a lent list. -/
def markB (k i : Nat) : UInt8 := UInt8.ofNat (7 * k + i + 1)
def marksB (k s n : Nat) : List UInt8 := (List.range n).map fun i => markB k (s + i)
theorem markB_toNat (k i : Nat) : ((markB k i).toNat : Int) = (7 * (k : Int) + i + 1) % 256 := by
  unfold markB; rw [UInt8.toNat_ofNat']; omega
theorem marksB_succ (k s n : Nat) : marksB k s (n + 1) = marksB k s n ++ [markB k (s + n)] := by
  simp [marksB, List.range_succ]
theorem marksB_length (k s n : Nat) : (marksB k s n).length = n := by simp [marksB]

set_option maxHeartbeats 400000 in
theorem markB_any (k i : Nat) (w : World) (h1 : k ≤ 100000) (h3 : i ≤ 1000000000000000000) :
    Calls Try.prog 49 #[.int .i64 (k : Int), .int .i64 (i : Int)] w fun e w' => e = .returned (vb (markB k i)) ∧ w = w' := by
  have hm := markB_toNat k i
  unfold vb
  have HM := Lib.hid hm
  clear hm
  go_enter Try.func49, Try.ntmps49
  go_wp2
  go_ret
  exact ⟨by rw [HM.out]; rfl, rfl⟩

theorem markB_at {a b : Int} (k i : Nat) (ha : a = (k : Int)) (hb : b = (i : Int)) (w : World) (h1 : k ≤ 100000) (h3 : i ≤ 1000000000000000000) :
    Calls Try.prog 49 #[.int .i64 a, .int .i64 b] w fun e w' => e = .returned (vb (markB k i)) ∧ w = w' := by
  subst ha; subst hb; exact markB_any k i w h1 h3

set_option maxRecDepth 100000 in
set_option maxHeartbeats 400000 in
theorem lentBytes_any (A : Option Addr) (n c : Nat) (l : List UInt8) (w : World) (h : Rd w 1 A n (l.map vb)) (hn : n ≤ 140737488355320) :
    Calls Try.prog 36 #[.slice A n c] w fun e w' => ∃ v, e = .returned v ∧ OwnB w' w.heap.size v (l ++ marksB 7 0 6) ∧ Below w.heap.size w w' := by
  obtain ⟨i0, hi0, hz0, hz1, hz2⟩ := info_parts u8_info
  have hl : l.length = n := by simpa using h.1
  have HL := Lib.hid hl
  clear hl
  go_enter Try.func36, Try.ntmps36
  go_wp2_with (go_at_call 34; refine (copyBytes_any A n c l _ h (by omega)).mono ?_; rintro e w1 ⟨v1, rfl, ho1, hb1⟩)
  go_loopw [3, 4] (fun v i wr => ∃ k : Nat, k ≤ 6 ∧ i = .int .i64 k ∧ OwnB wr w.heap.size v (l ++ marksB 7 0 k) ∧ Below w.heap.size w wr) (fun _ i _ => 6 - (intOf i).toNat)
  case atStart => exact ⟨0, Nat.zero_le _, rfl, by simpa [marksB] using ho1, hb1⟩
  case round =>
    obtain ⟨k, hk, rfl, ho, hb⟩ := hrel
    by_cases hlt : k < 6
    · have hz : w.heap.size ≤ wr.heap.size := hb.size
      have hm : (l ++ marksB 7 0 k).length ≤ n + 6 := by have := HL.out; simp [marksB_length]; omega
      go_wp2_with (first | (go_at_call 49; refine (markB_any 7 k _ (by omega) (by omega)).mono ?_; rintro e w2 ⟨rfl, rfl⟩) | (at_builtin; refine wpList_append_own _ rfl (.tmp 11) (.tmp 14) 27 rfl w.heap.size 5 i0 (.int .u8 0) 1 1 Try.underlying27 hi0 hz0 hz1 hz2 rfl (by decide) _ _ _ rfl (ho.alloc _) ⟨wr.heap.size, 0, none⟩ 1 1 [vb (markB 7 k)] rfl rfl (cell_one_new _ _ _) (by simp [Value.oneCell']) (by simp only [maxLen]; omega) (by omega) (by simp; omega) ?_; intro v2 w2 ho2 hg2 hnil))
      have hb2 : Below w.heap.size w w2 := (hb.alloc hz _).grown hg2 (by simp; omega) (fun g hg => (ho.lt g hg).1)
      go_roundw
      case rel => exact ⟨k + 1, by omega, by go_num, by rw [marksB_succ, ← List.append_assoc]; simpa using OwnB.of_push ho2, hb2⟩
      case measure => simp [intOf]; omega
    · have hk6 : k = 6 := by omega
      subst hk6
      go_wp2
      go_ret
      exact ⟨_, rfl, ho, hb⟩

set_option maxHeartbeats 400000 in
theorem keptBytes_any (A B : Option Addr) (n m c d : Nat) (xs ys : List UInt8) (w : World) (ha : Rd w 1 A n (xs.map vb)) (hb : Rd w 1 B m (ys.map vb)) (hn : n ≤ 9223372036854775807) (hm : m ≤ 140737488355320) :
    Calls Try.prog 38 #[.slice A n c, .slice B m d] w fun e w' => e = .returned (.bool (decide (xs = ys ++ marksB 7 0 6))) ∧ Below w.heap.size w w' := by
  have hly : ys.length = m := by simpa using hb.1
  have HY := Lib.hid hly
  clear hly
  go_enter Try.func38, Try.ntmps38
  go_wp2_with fail
  refine (lentBytes_any B m d ys _ hb hm).mono ?_
  rintro e w1 ⟨v1, rfl, ho1, hb1⟩
  obtain ⟨A1, n1, c1, rfl, hn1, hr1⟩ := ho1.shape
  have hlen : n1 ≤ 9223372036854775807 := by rw [hn1.out, List.length_append, HY.out, marksB_length]; omega
  go_wp2_with fail
  refine (sameBytes_any A A1 n _ c c1 xs _ w1 (ha.below hb1) hr1 hn hlen).mono ?_
  rintro e w2 ⟨rfl, q, rfl⟩
  go_wp2
  go_ret
  exact ⟨rfl, bdrewN hb1 q⟩

theorem sameBytes_yes (A B : Option Addr) (n m c d : Nat) (xs ys : List UInt8) (w : World) (ha : Rd w 1 A n (xs.map vb)) (hb : Rd w 1 B m (ys.map vb)) (hn : n ≤ 9223372036854775807) (hm : m ≤ 9223372036854775807) (h : xs = ys) :
    Calls Try.prog 11 #[.slice A n c, .slice B m d] w fun e w' => e = .returned (.bool true) ∧ Below w.heap.size w w' :=
  (sameBytes_any A B n m c d xs ys w ha hb hn hm).mono fun _ _ h' => ⟨by rw [h'.1, decide_eq_true h], by obtain ⟨k, rfl⟩ := h'.2; exact bdrewN (Below.refl _ _) k⟩
theorem sameBytes_quiet (A B : Option Addr) (n m c d : Nat) (xs ys : List UInt8) (w : World) (ha : Rd w 1 A n (xs.map vb)) (hb : Rd w 1 B m (ys.map vb)) (hn : n ≤ 9223372036854775807) (hm : m ≤ 9223372036854775807) (h : xs = ys) :
    Calls Try.prog 11 #[.slice A n c, .slice B m d] w fun e w' => e = .returned (.bool true) ∧ ∃ k, w' = w.drewN k :=
  (sameBytes_any A B n m c d xs ys w ha hb hn hm).mono fun _ _ h' => ⟨by rw [h'.1, decide_eq_true h], h'.2⟩
theorem keptBytes_yes (A B : Option Addr) (n m c d : Nat) (xs ys : List UInt8) (w : World) (ha : Rd w 1 A n (xs.map vb)) (hb : Rd w 1 B m (ys.map vb)) (hn : n ≤ 9223372036854775807) (hm : m ≤ 140737488355320) (h : xs = ys ++ marksB 7 0 6) :
    Calls Try.prog 38 #[.slice A n c, .slice B m d] w fun e w' => e = .returned (.bool true) ∧ Below w.heap.size w w' :=
  (keptBytes_any A B n m c d xs ys w ha hb hn hm).mono fun _ _ h' => ⟨by rw [h'.1, decide_eq_true h], h'.2⟩

theorem over_step {l : List UInt8} {k m : Nat} (hk : k < l.length) : (marksB m 0 k ++ l.drop k).set k (markB m (0 + k)) = marksB m 0 (k + 1) ++ l.drop (k + 1) := by
  rw [marksB_succ, List.set_append_right _ _ (by simp [marksB_length]), marksB_length, Nat.sub_self, List.drop_eq_getElem_cons hk, List.set_cons_zero, List.append_assoc, List.singleton_append]

set_option maxHeartbeats 400000 in
theorem overBytes_any (base g c n : Nat) (l : List UInt8) (w : World) (h : OwnB w base (.slice (some ⟨g, 0, none⟩) n c) l) (HL : Hid (n = l.length)) (hn : n ≤ 140737488355328) :
    Calls Try.prog 39 #[.slice (some ⟨g, 0, none⟩) n c] w fun e w' => e = .returned (.tuple #[]) ∧ OwnB w' base (.slice (some ⟨g, 0, none⟩) n c) (marksB 9 0 n) ∧ w.grownBy w' (some g) := by
  go_enter Try.func39, Try.ntmps39
  go_wp2
  go_loopw [2] (fun i wr => ∃ k : Nat, k ≤ n ∧ i = .int .i64 k ∧ OwnB wr base (.slice (some ⟨g, 0, none⟩) n c) (marksB 9 0 k ++ l.drop k) ∧ w.grownBy wr (some g)) (fun i _ => n - (intOf i).toNat)
  case atStart => exact ⟨0, Nat.zero_le _, rfl, by simpa [marksB] using h, World.grownBy.refl _ _⟩
  case round =>
    obtain ⟨k, hk, rfl, ho, hg⟩ := hrel
    by_cases hlt : k < n
    · have hlk : k < (marksB 9 0 k ++ l.drop k).length := by have := HL.out; simp [marksB_length]; omega
      obtain ⟨x, -, hcell⟩ := ho.cellAt hlk
      have hfr := ho.frozenAt k
      obtain ⟨h1, h2⟩ := ho.stored k (markB 9 (0 + k))
      rw [over_step (by have := HL.out; omega), Nat.zero_add] at h1
      rw [Nat.zero_add] at h2
      go_wp2_with (go_at_call 49; refine (markB_any 9 k _ (by omega) (by omega)).mono ?_; rintro e w2 ⟨rfl, rfl⟩)
      go_roundw
      case rel => exact ⟨k + 1, by omega, by go_num, h1, grownBy_trans hg h2⟩
      case measure => simp [intOf]; omega
    · have hkn : k = n := by omega
      go_wp2
      go_end0
      refine ⟨rfl, ?_, hg⟩
      subst hkn
      rwa [List.drop_of_length_le (by have := HL.out; omega), List.append_nil] at ho
end Go.Proofs.Ytgjlclihgpahbaa

namespace Go.Proofs.Ytgjlclihgpahbaa
open Go.RowKit

theorem OwnB.len_eq {w : World} {base n c : Nat} {A : Option Addr} {l : List UInt8} (h : OwnB w base (.slice A n c) l) : n = l.length := by
  rcases h.2 with ⟨h', h2⟩ | ⟨g', cap', cur, h', _⟩
  · injection h' with _ h3; omega
  · injection h'
theorem OwnB.form {w : World} {base n c : Nat} {A : Option Addr} {l : List UInt8} (h : OwnB w base (.slice A n c) l) (hn : 0 < n) : ∃ g, A = some ⟨g, 0, none⟩ ∧ base ≤ g ∧ g < w.heap.size := by
  rcases h.2 with ⟨h', h2⟩ | ⟨g', cap', cur, h', hb, hg, _⟩
  · injection h' with _ h3; omega
  · injection h' with h4 _; exact ⟨g', h4, hb, (Array.getElem?_eq_some_iff.1 hg).1⟩
theorem OwnB.lt {w : World} {base : Nat} {v : Value} {l : List UInt8} (h : OwnB w base v l) : ∀ g, v.ownBlock = some g → base ≤ g ∧ g < w.heap.size := World.ownsRow.lt h
theorem OwnB.kept {w w' : World} {base : Nat} {v : Value} {l : List UInt8} {row : Option Nat} (h : OwnB w base v l) (hg : w.grownBy w' row) (hne : v.ownBlock = none ∨ v.ownBlock ≠ row) : OwnB w' base v l := World.ownsRow.kept h hg hne
theorem OwnB.drewN {w : World} {base : Nat} {v : Value} {l : List UInt8} (h : OwnB w base v l) (n : Nat) : OwnB (w.drewN n) base v l := h
theorem OwnB.alloc {w : World} {base : Nat} {v : Value} {l : List UInt8} (h : OwnB w base v l) (o : Obj) : OwnB (w.alloc o) base v l := World.ownsRow.alloc h o

theorem OwnB.lent {w : World} {base n : Nat} {v : Value} {l : List UInt8} (h : OwnB w base v (l ++ marksB 7 0 6)) (hn : l.length = n) : ∃ g c, v = .slice (some ⟨g, 0, none⟩) (n + 6) c ∧ n + 6 ≤ c ∧ base ≤ g ∧ g < w.heap.size := by
  rcases h.2 with ⟨rfl, h0⟩ | ⟨g, cap, cur, rfl, hb, hg, hnc, _⟩
  · rw [List.length_append, marksB_length] at h0; omega
  · rw [List.length_append, marksB_length, hn] at hnc ⊢
    exact ⟨g, cap, rfl, hnc, hb, (Array.getElem?_eq_some_iff.1 hg).1⟩
theorem OwnB.front {w : World} {base g n c : Nat} {l m : List UInt8} (h : OwnB w base (.slice (some ⟨g, 0, none⟩) n c) (l ++ m)) : OwnB w base (.slice (some ⟨g, 0, none⟩) l.length c) l := by
  rcases h.2 with ⟨h', _⟩ | ⟨g', cap, cur, h', hb, hg, hnc, hcm, hs, htk⟩
  · cases h'
  injection h' with e1 e2 e3
  injection e1 with e1
  injection e1 with e1
  subst e1 e2 e3
  rw [List.length_append] at hnc htk
  refine ⟨by simp, .inr ⟨g, c, cur, rfl, hb, hg, by omega, hcm, hs, ?_⟩⟩
  have : (cur.toList.take ((l.length + m.length) * 1)).take (l.length * 1) = ((l ++ m).map vb).take (l.length * 1) := by rw [htk]
  rw [List.take_take, Nat.min_eq_left (by omega)] at this
  rw [this, List.map_append, Nat.mul_one]
  exact List.take_left' (by simp)

/-- Two owned rows on one block: after the longer one has been gone on with in place, the shorter one is as it was. -/
theorem OwnB.same_block {w w' : World} {base : Nat} {v u : Value} {l m : List UInt8} {b : Nat} (hv : OwnB w base v l) (hu : OwnB w' base u m) (hg : w.heap[b]? ≠ none)
    (hvb : v.ownBlock = some b) (hub : u.ownBlock = some b) (hcap : ∀ n n' c c', v = .slice (some ⟨b, 0, none⟩) n c → u = .slice (some ⟨b, 0, none⟩) n' c' → c = c') (hpre : l = m.take l.length) : OwnB w' base v l := by
  rcases hv.2 with ⟨rfl, _⟩ | ⟨g, cap, cur, rfl, hb, hgg, hnc, hcm, hsz, htk⟩
  · simp [Value.ownBlock] at hvb
  rcases hu.2 with ⟨rfl, _⟩ | ⟨g', cap', cur', rfl, hb', hgg', hnc', hcm', hsz', htk'⟩
  · simp [Value.ownBlock] at hub
  simp [Value.ownBlock] at hvb hub
  subst hvb
  subst hub
  have hc := hcap _ _ _ _ rfl rfl
  subst hc
  refine ⟨by simp, .inr ⟨g', cap, cur', rfl, hb, hgg', hnc, hcm, hsz', ?_⟩⟩
  have h1 : l.length ≤ m.length := by rw [hpre]; simp [List.length_take]; omega
  have h2 : (cur'.toList.take (m.length * 1)).take (l.length * 1) = (m.map vb).take (l.length * 1) := by rw [htk']
  rw [List.take_take, Nat.min_eq_left (by omega)] at h2
  rw [h2, Nat.mul_one, ← List.map_take, ← hpre]

/-- What an append onto an owned row leaves: the same row gone on with, or a new one. -/
theorem append_two {P : Program} (w : World) (base : Nat) (t ty e : TypeId) (i : TypeInfo) (z : Value) (bytes : Nat) (ht : P.underlying t = some (.slice e)) (hi : P.info? e = some i) (hz : i.zero = some z)
    (hsize : i.size = 1) (hby : i.bytes = bytes) (hzs : z.cells.size = 1)
    (v : Value) (n : Nat) (xs : List Value) (hown : w.ownsRow base e 1 v n xs)
    (a : Addr) (m c : Nat) (news : List Value) (hm : 0 < m) (hl : news.length = m * 1) (hnews : ∀ j u, news[j]? = some u → w.cell? (a.add j) = some u) (h1 : ∀ u ∈ news, u.oneCell' = true)
    (h63 : n + m ≤ maxLen) (hbytes : (n + m) * bytes ≤ 140737488355328) (hbase : base ≤ w.heap.size) :
    ∃ v' w', (Builtin.append_ #[t, t] ty #[v, .slice (some a) m c]).run P w = .ok v' w' ∧ w'.ownsRow base e 1 v' (n + m) (xs ++ news) ∧
      ((∃ g cap, v = .slice (some ⟨g, 0, none⟩) n cap ∧ v' = .slice (some ⟨g, 0, none⟩) (n + m) cap ∧ w.grownBy w' (some g)) ∨
       (v'.ownBlock = some w.heap.size ∧ Below w.heap.size w w')) := by
  subst hby
  have hsmall : n + m ≤ 9223372036854775807 := by simp only [maxLen] at h63; omega
  have hlen : (xs ++ news).length = (n + m) * 1 := by rw [List.length_append, hown.1, hl, Nat.add_mul]
  have grown : ∀ (old : Nat), old < n + m →
      (w.drew.alloc (.cells (xs.toArray ++ news.toArray ++ Builtin.zeroCells z.cells (grownCap w (n + m) old e - (n + m))) e)).ownsRow base e 1
        (.slice (some ⟨w.heap.size, 0, none⟩) (n + m) (grownCap w (n + m) old e)) (n + m) (xs ++ news) := by
    intro old ho
    have hge := grownCap_ge w (n + m) old e
    have hcm : grownCap w (n + m) old e ≤ maxLen := grownCap_le_maxLen w (n + m) old e h63
    refine ⟨hlen, .inr ⟨w.heap.size, _, _, rfl, hbase, heap_alloc_new w.drew _, hge, hcm, ?_, ?_⟩⟩
    · simp only [Array.size_append, List.size_toArray, size_zeroCells, hzs, hown.1, hl]
      omega
    · simp only [Array.toList_append, List.append_assoc]
      rw [← List.append_assoc, ← hlen]
      exact List.take_left
  have hbel : ∀ o, Below w.heap.size w (w.drew.alloc o) := fun o => (Below.refl _ _).drew.alloc (Nat.le_refl _) _
  rcases hown.2 with ⟨rfl, rfl⟩ | ⟨g, cap, cur, rfl, hbg, hg, hnc, hcm, hcs, htake⟩
  · have hx : xs = [] := List.eq_nil_of_length_eq_zero (by simpa using hown.1)
    subst hx
    have hr := run_append_nil (P := P) w t ty e i z ht hi hz a m c news (by rw [hsize]; exact hl) hnews (by omega) (by omega) (by have hb := hbytes; simp only [Nat.zero_add] at hb; omega)
    have hgr := grown 0 (by omega)
    simp only [Nat.zero_add, List.nil_append, Array.empty_append] at hgr ⊢
    exact ⟨_, _, hr, hgr, .inr ⟨rfl, hbel _⟩⟩
  · by_cases hroom : n + m ≤ cap
    · have hfit : n * i.size + news.length ≤ cur.size := by rw [hsize, hl, hcs, ← Nat.add_mul]; exact Nat.mul_le_mul_right _ hroom
      have hr := run_append_room (P := P) w t ty e i ht hi g n cap cur hg a m c news (by rw [hsize]; exact hl) hnews h1 hroom hfit
      refine ⟨_, _, hr, ⟨hlen, .inr ⟨g, cap, _, rfl, hbg, setRow_heap w g cur _ e _ hg, hroom, hcm, ?_, ?_⟩⟩, .inl ⟨g, cap, rfl, rfl, ⟨rfl, rfl, rfl, by simp, fun k _ hk => setRow_other w g k _ (fun e => hk (by simp [e]))⟩⟩⟩
      · simp only [List.size_toArray, List.length_append, List.length_take, List.length_drop, Array.length_toList]
        rw [hsize]
        omega
      · rw [hsize, htake, ← hlen]
        exact List.take_left
    · have holds : ∀ j u, xs[j]? = some u → w.cell? ((⟨g, 0, none⟩ : Addr).add j) = some u := hown.cells (g := g) rfl
      have hr := run_append_grow (P := P) w t ty e i z ht hi hz ⟨g, 0, none⟩ n cap xs (by rw [hsize]; exact hown.1) holds a m c news (by rw [hsize]; exact hl) hnews (by omega) (by omega) (growslice_fits (by omega) hbytes)
      exact ⟨_, _, hr, grown cap (by omega), .inr ⟨rfl, hbel _⟩⟩

theorem wp_append_two {P : Program} (w : World) {o : Oper} {a : Act} {K : Act → World → Prop} {Q : Exit → Act → World → Prop} (s x : Operand) (t : TypeId)
    (ho : o.op = .call { callee := .builtin .append, args := #[s, x], argTypes := #[t, t] })
    (base : Nat) (e : TypeId) (i : TypeInfo) (z : Value) (bytes : Nat) (ht : P.underlying t = some (.slice e)) (hi : P.info? e = some i) (hz : i.zero = some z)
    (hsize : i.size = 1) (hby : i.bytes = bytes) (hzs : z.cells.size = 1)
    (v : Value) (n : Nat) (xs : List Value) (hs : a.eval s = v) (hown : w.ownsRow base e 1 v n xs)
    (ad : Addr) (m c : Nat) (news : List Value) (hx : a.eval x = .slice (some ad) m c) (hm : 0 < m) (hl : news.length = m * 1) (hnews : ∀ j u, news[j]? = some u → w.cell? (ad.add j) = some u) (h1 : ∀ u ∈ news, u.oneCell' = true)
    (h63 : n + m ≤ maxLen) (hbytes : (n + m) * bytes ≤ 140737488355328) (hbase : base ≤ w.heap.size)
    (h : ∀ v' w', w'.ownsRow base e 1 v' (n + m) (xs ++ news) → ((∃ g cap, v = .slice (some ⟨g, 0, none⟩) n cap ∧ v' = .slice (some ⟨g, 0, none⟩) (n + m) cap ∧ w.grownBy w' (some g)) ∨
       (v'.ownBlock = some w.heap.size ∧ Below w.heap.size w w')) → K (a.put o.dst v') w') : o.wp P a w K Q := by
  obtain ⟨v', w', hr, h2, h3⟩ := append_two (P := P) w base t o.type e i z bytes ht hi hz hsize hby hzs v n xs hown ad m c news hm hl hnews h1 h63 hbytes hbase
  unfold Oper.wp execOp
  simp only [ho, resolve, invoke, builtin, Sem.run_bind, Sem.run_pure, Result.andThen_ok, List.map_toArray, List.map_cons, List.map_nil, hs, hx, hr]
  exact h v' w' h2 h3

theorem wpList_append_two {P : Program} (w : World) {ops : Array Oper} {rest : List Oper} {o : Oper} {a : Act} {Q : Exit → Act → World → Prop} (hgd : o.guard = none) (s x : Operand) (t : TypeId)
    (ho : o.op = .call { callee := .builtin .append, args := #[s, x], argTypes := #[t, t] })
    (base : Nat) (e : TypeId) (i : TypeInfo) (z : Value) (bytes : Nat) (ht : P.underlying t = some (.slice e)) (hi : P.info? e = some i) (hz : i.zero = some z)
    (hsize : i.size = 1) (hby : i.bytes = bytes) (hzs : z.cells.size = 1)
    (v : Value) (n : Nat) (xs : List Value) (hs : a.eval s = v) (hown : w.ownsRow base e 1 v n xs)
    (ad : Addr) (m c : Nat) (news : List Value) (hx : a.eval x = .slice (some ad) m c) (hm : 0 < m) (hl : news.length = m * 1) (hnews : ∀ j u, news[j]? = some u → w.cell? (ad.add j) = some u) (h1 : ∀ u ∈ news, u.oneCell' = true)
    (h63 : n + m ≤ maxLen) (hbytes : (n + m) * bytes ≤ 140737488355328) (hbase : base ≤ w.heap.size)
    (h : ∀ v' w', w'.ownsRow base e 1 v' (n + m) (xs ++ news) → ((∃ g cap, v = .slice (some ⟨g, 0, none⟩) n cap ∧ v' = .slice (some ⟨g, 0, none⟩) (n + m) cap ∧ w.grownBy w' (some g)) ∨
       (v'.ownBlock = some w.heap.size ∧ Below w.heap.size w w')) → wpList P ops Q rest (a.put o.dst v') w') : wpList P ops Q (o :: rest) a w :=
  wpList_plain hgd fun _ hK => wp_append_two w s x t ho base e i z bytes ht hi hz hsize hby hzs v n xs hs hown ad m c news hx hm hl hnews h1 h63 hbytes hbase fun v' w' h2 h3 => hK _ _ (h v' w' h2 h3)

theorem two_grown {w w' : World} {n m : Nat} {v v' : Value}
    (hcase : (∃ g cap, v = .slice (some ⟨g, 0, none⟩) n cap ∧ v' = .slice (some ⟨g, 0, none⟩) (n + m) cap ∧ w.grownBy w' (some g)) ∨ (v'.ownBlock = some w.heap.size ∧ Below w.heap.size w w')) : w.grownBy w' v.ownBlock := by
  rcases hcase with ⟨g, cap, rfl, rfl, hg⟩ | ⟨_, hb⟩
  · exact hg
  · exact ⟨hb.os, hb.tape, hb.output, hb.size, fun k hk _ => hb.block k hk⟩
theorem OwnB.of_mark {w : World} {base a n : Nat} {v : Value} (h : w.ownsRow base 5 1 v (n + 1) ((marksB a 0 n).map vb ++ [vb (markB a n)])) : OwnB w base v (marksB a 0 (n + 1)) := by
  rw [marksB_succ, Nat.zero_add]
  apply OwnB.of_push
  rw [marksB_length]
  exact h

/-- Families: index j < N has some owned slices; different indexes never share a block. -/
structure Fam (w : World) (base : Nat) (N : Nat) (F : Nat → List (Value × List UInt8)) : Prop where
  own : ∀ j, j < N → ∀ p ∈ F j, OwnB w base p.1 p.2
  apart : ∀ i j, i < N → j < N → i ≠ j → ∀ p ∈ F i, ∀ q ∈ F j, p.1.ownBlock = none ∨ p.1.ownBlock ≠ q.1.ownBlock

theorem Fam.congr {w : World} {base N : Nat} {F G : Nat → List (Value × List UInt8)} (h : Fam w base N F) (hFG : ∀ j, j < N → G j = F j) : Fam w base N G :=
  ⟨fun j hj p hp => h.own j hj p (by rwa [← hFG j hj]), fun i j hi hj hne p hp q hq => h.apart i j hi hj hne p (by rwa [← hFG i hi]) q (by rwa [← hFG j hj])⟩
theorem Fam.below {w w' : World} {base N : Nat} {F : Nat → List (Value × List UInt8)} (h : Fam w base N F) (hb : Below w.heap.size w w') : Fam w' base N F :=
  ⟨fun j hj p hp => (h.own j hj p hp).below hb, h.apart⟩
theorem Fam.alloc {w : World} {base N : Nat} {F : Nat → List (Value × List UInt8)} (h : Fam w base N F) (o : Obj) : Fam (w.alloc o) base N F :=
  ⟨fun j hj p hp => (h.own j hj p hp).alloc o, h.apart⟩
theorem Fam.drewN {w : World} {base N : Nat} {F : Nat → List (Value × List UInt8)} (h : Fam w base N F) (n : Nat) : Fam (w.drewN n) base N F := ⟨h.own, h.apart⟩
theorem Fam.kept {w w' : World} {base N : Nat} {F : Nat → List (Value × List UInt8)} {row : Option Nat} (h : Fam w base N F) (hg : w.grownBy w' row) (hne : ∀ j, j < N → ∀ p ∈ F j, p.1.ownBlock = none ∨ p.1.ownBlock ≠ row) : Fam w' base N F :=
  ⟨fun j hj p hp => (h.own j hj p hp).kept hg (hne j hj p hp), h.apart⟩

theorem Fam.drew {w : World} {base N : Nat} {F : Nat → List (Value × List UInt8)} (h : Fam w base N F) : Fam w.drew base N F := ⟨h.own, h.apart⟩
theorem Fam.dup {w : World} {base N k : Nat} {p : Value × List UInt8} {F : Nat → List (Value × List UInt8)} (h : Fam w base N F) (hF : F k = [p]) : Fam w base N (fun j => if j = k then [p, p] else F j) := by
  have hm : ∀ j q, q ∈ (if j = k then [p, p] else F j) → q ∈ F j := by
    intro j q hq
    by_cases hj : j = k
    · subst hj; simp at hq; subst hq; rw [hF]; simp
    · simpa [hj] using hq
  exact ⟨fun j hj q hq => h.own j hj q (hm j q hq), fun i j hi hj hne q hq r hr => h.apart i j hi hj hne q (hm i q hq) r (hm j r hr)⟩
theorem rows_ne {w : World} {b b' : Nat} {e e' : TypeId} {v u : Value} {n m : Nat} {xs ys : List Value} (h : w.ownsRow b e 1 v n xs) (h' : w.ownsRow b' e' 1 u m ys) (hne : e ≠ e') : v.ownBlock = none ∨ v.ownBlock ≠ u.ownBlock := by
  rcases h.2 with ⟨rfl, _⟩ | ⟨g, cap, cur, rfl, _, hg, _⟩
  · exact .inl rfl
  rcases h'.2 with ⟨rfl, _⟩ | ⟨g', cap', cur', rfl, _, hg', _⟩
  · exact .inr (by simp [Value.ownBlock])
  · refine .inr (fun e => ?_)
    have : g = g' := by simpa [Value.ownBlock] using e
    subst this
    rw [hg] at hg'
    injection hg' with hg'
    injection hg' with _ h2
    exact hne h2

/-- A store into the only slice of index k. -/
theorem Fam.store {w : World} {base N k g n c : Nat} {l : List UInt8} {F : Nat → List (Value × List UInt8)} (h : Fam w base N F) (hk : k < N) (hF : F k = [(.slice (some ⟨g, 0, none⟩) n c, l)]) (i : Nat) (b : UInt8) :
    Fam (w.setCell ⟨g, i, none⟩ (.int .u8 (b.toNat : Int))) base N (fun j => if j = k then [(.slice (some ⟨g, 0, none⟩) n c, l.set i b)] else F j) := by
  have hmem : ((.slice (some ⟨g, 0, none⟩) n c, l) : Value × List UInt8) ∈ F k := by rw [hF]; simp
  have ho : OwnB w base (.slice (some ⟨g, 0, none⟩) n c) l := h.own k hk _ hmem
  obtain ⟨h1, h2⟩ := ho.stored i b
  refine ⟨fun j hj p hp => ?_, fun i' j hi hj hne p hp q hq => ?_⟩
  · by_cases hjk : j = k
    · simp only [hjk, if_true, List.mem_singleton] at hp
      subst hp
      exact h1
    · simp only [hjk, if_false] at hp
      exact (h.own j hj p hp).kept h2 (h.apart j k hj hk hjk p hp _ hmem)
  · by_cases hik : i' = k
    · have hjk : j ≠ k := fun e => hne (hik.trans e.symm)
      simp only [hik, if_true, List.mem_singleton] at hp
      simp only [hjk, if_false] at hq
      subst hp
      exact h.apart k j hk hj (fun e => hjk e.symm) _ hmem q hq
    · simp only [hik, if_false] at hp
      by_cases hjk : j = k
      · simp only [hjk, if_true, List.mem_singleton] at hq
        subst hq
        exact h.apart i' k hi hk hik p hp (_, l) hmem
      · simp only [hjk, if_false] at hq
        exact h.apart i' j hi hj hne p hp q hq

/-- An append onto one of the slices of index k: a second one of that index, no longer than it, stays. -/
theorem Fam.append {w w' : World} {base N k n m : Nat} {v v' v0 : Value} {l0 l l' : List UInt8} {F : Nat → List (Value × List UInt8)} (h : Fam w base N F) (hk : k < N) (hF : F k = [(v0, l0), (v, l)])
    (hl0 : l0.length ≤ l.length) (hpre : l0 = l.take l0.length) (hpre' : l = l'.take l.length) (hown : OwnB w' base v' l')
    (hcase : (∃ g cap, v = .slice (some ⟨g, 0, none⟩) n cap ∧ v' = .slice (some ⟨g, 0, none⟩) (n + m) cap ∧ w.grownBy w' (some g)) ∨ (v'.ownBlock = some w.heap.size ∧ Below w.heap.size w w')) :
    Fam w' base N (fun j => if j = k then [(v0, l0), (v', l')] else F j) := by
  have ho0 : OwnB w base v0 l0 := h.own k hk (v0, l0) (by rw [hF]; simp)
  have ho1 : OwnB w base v l := h.own k hk (v, l) (by rw [hF]; simp)
  have hlt : ∀ j, j < N → ∀ p ∈ F j, p.1.ownBlock ≠ some w.heap.size := fun j hj p hp e => by
    have := ((h.own j hj p hp).lt _ e).2
    omega
  have hblk : v'.ownBlock = v.ownBlock ∨ v'.ownBlock = some w.heap.size := by
    rcases hcase with ⟨g, cap, rfl, rfl, _⟩ | ⟨h1, _⟩
    · exact .inl rfl
    · exact .inr h1
  have hold : ∀ j, j < N → j ≠ k → ∀ p ∈ F j, OwnB w' base p.1 p.2 := by
    intro j hj hjk p hp
    rcases hcase with ⟨g, cap, rfl, rfl, hg⟩ | ⟨_, hb⟩
    · exact (h.own j hj p hp).kept hg (h.apart j k hj hk hjk p hp (.slice (some ⟨g, 0, none⟩) n cap, l) (by rw [hF]; simp))
    · exact (h.own j hj p hp).below hb
  have h0' : OwnB w' base v0 l0 := by
    rcases hcase with ⟨g, cap, hv, hv', hg⟩ | ⟨_, hb⟩
    · by_cases hb0 : v0.ownBlock = some g
      · refine OwnB.same_block (b := g) ho0 hown ?_ hb0 (by rw [hv']; rfl) ?_ ?_
        · intro e
          have := (ho0.lt g hb0).2
          rw [Array.getElem?_eq_none_iff] at e
          omega
        · intro n0 n1 c0 c1 e0 e1
          subst hv
          rw [hv'] at e1
          rcases ho0.2 with ⟨h', _⟩ | ⟨g0, cap0, cur0, h', _, hgg0, _, _, hs0, _⟩
          · rw [h'] at hb0; simp [Value.ownBlock] at hb0
          rcases ho1.2 with ⟨h1', _⟩ | ⟨g1, cap1, cur1, h1', _, hgg1, _, _, hs1, _⟩
          · cases h1'
          injection h1' with e2 e3 e4
          injection e2 with e2
          injection e2 with e2
          rw [e0] at h'
          injection h' with f2 f3 f4
          injection f2 with f2
          injection f2 with f2
          injection e1 with _ _ e5
          subst e2 f2
          rw [hgg0] at hgg1
          injection hgg1 with hgg1
          injection hgg1 with hgg1
          subst hgg1
          omega
        · rw [hpre]
          have e : l.take l0.length = (l'.take l.length).take l0.length := by rw [← hpre']
          rw [List.length_take, Nat.min_eq_left hl0, e, List.take_take, Nat.min_eq_left hl0]
      · exact ho0.kept hg (.inr hb0)
    · exact ho0.below hb
  refine ⟨fun j hj p hp => ?_, fun i j hi hj hne p hp q hq => ?_⟩
  · by_cases hjk : j = k
    · simp only [hjk, if_true, List.mem_cons, List.not_mem_nil, or_false] at hp
      rcases hp with rfl | rfl
      · exact h0'
      · exact hown
    · simp only [hjk, if_false] at hp
      exact hold j hj hjk p hp
  · by_cases hik : i = k
    · have hjk : j ≠ k := fun e => hne (hik.trans e.symm)
      simp only [hik, if_true, List.mem_cons, List.not_mem_nil, or_false] at hp
      simp only [hjk, if_false] at hq
      rcases hp with rfl | rfl
      · exact h.apart k j hk hj (fun e => hjk e.symm) (v0, l0) (by rw [hF]; simp) q hq
      · rcases hblk with e | e
        · simp only [e]
          exact h.apart k j hk hj (fun e => hjk e.symm) (v, l) (by rw [hF]; simp) q hq
        · simp only [e]
          exact .inr (fun e' => hlt j hj q hq e'.symm)
    · simp only [hik, if_false] at hp
      by_cases hjk : j = k
      · simp only [hjk, if_true, List.mem_cons, List.not_mem_nil, or_false] at hq
        rcases hq with rfl | rfl
        · exact h.apart i k hi hk hik p hp (v0, l0) (by rw [hF]; simp)
        · rcases hblk with e | e
          · simp only [e]
            exact h.apart i k hi hk hik p hp (v, l) (by rw [hF]; simp)
          · simp only [e]
            exact .inr (hlt i hi p hp)
      · simp only [hjk, if_false] at hq
        exact h.apart i j hi hj hne p hp q hq

/-- A list of owned slices, no two on one block. -/
structure Hp (w : World) (base : Nat) (ps : List (Value × List UInt8)) : Prop where
  own : ∀ (i : Nat) p, ps[i]? = some p → OwnB w base p.1 p.2
  apart : ∀ (i j : Nat) p q, i ≠ j → ps[i]? = some p → ps[j]? = some q → p.1.ownBlock = none ∨ p.1.ownBlock ≠ q.1.ownBlock
theorem Hp.nil (w : World) (base : Nat) : Hp w base [] := ⟨fun i p h => by simp at h, fun i j p q _ h => by simp at h⟩
theorem Hp.below {w w' : World} {base : Nat} {ps : List (Value × List UInt8)} (h : Hp w base ps) (hb : Below w.heap.size w w') : Hp w' base ps := ⟨fun i p hp => (h.own i p hp).below hb, h.apart⟩
theorem Hp.push {w w' : World} {base : Nat} {ps : List (Value × List UInt8)} {v : Value} {l : List UInt8} (h : Hp w base ps) (hb : Below w.heap.size w w') (ho : OwnB w' w.heap.size v l) (hs : base ≤ w.heap.size) : Hp w' base (ps ++ [(v, l)]) := by
  have key : ∀ (i : Nat) p, (ps ++ [(v, l)])[i]? = some p → ps[i]? = some p ∨ (i = ps.length ∧ p = (v, l)) := by
    intro i p hp
    rcases Nat.lt_or_ge i ps.length with hi | hi
    · rw [List.getElem?_append_left hi] at hp; exact .inl hp
    · rw [List.getElem?_append_right hi] at hp
      have : i - ps.length = 0 := by
        rcases Nat.eq_zero_or_pos (i - ps.length) with h0 | h0
        · exact h0
        · rw [List.getElem?_eq_none (by simp; omega)] at hp; cases hp
      rw [this] at hp
      simp only [List.getElem?_cons_zero, Option.some.injEq] at hp
      exact .inr ⟨by omega, hp.symm⟩
  have hnew : ∀ (i : Nat) p, ps[i]? = some p → v.ownBlock = none ∨ v.ownBlock ≠ p.1.ownBlock := by
    intro i p hp
    cases hv : v.ownBlock with
    | none => exact .inl rfl
    | some g =>
      refine .inr (fun e => ?_)
      have h1 := (ho.lt g hv).1
      have h2 := ((h.own i p hp).lt g e.symm).2
      omega
  have hnew' : ∀ (i : Nat) p, ps[i]? = some p → p.1.ownBlock = none ∨ p.1.ownBlock ≠ v.ownBlock := by
    intro i p hp
    cases hv : p.1.ownBlock with
    | none => exact .inl rfl
    | some g =>
      refine .inr (fun e => ?_)
      have h1 := (ho.lt g e.symm).1
      have h2 := ((h.own i p hp).lt g hv).2
      omega
  refine ⟨fun i p hp => ?_, fun i j p q hij hp hq => ?_⟩
  · rcases key i p hp with h1 | ⟨_, rfl⟩
    · exact (h.own i p h1).below hb
    · exact ho.more hs
  · rcases key i p hp with h1 | ⟨e1, rfl⟩
    · rcases key j q hq with h2 | ⟨e2, rfl⟩
      · exact h.apart i j p q hij h1 h2
      · exact hnew' i p h1
    · rcases key j q hq with h2 | ⟨e2, rfl⟩
      · exact hnew j q h2
      · exact absurd (e1.trans e2.symm) hij
theorem Hp.over {w w' : World} {base g i : Nat} {ps : List (Value × List UInt8)} {v : Value} {l l' : List UInt8} (h : Hp w base ps) (hi : ps[i]? = some (v, l)) (hv : v.ownBlock = some g) (hg : w.grownBy w' (some g)) (ho : OwnB w' base v l') : Hp w' base (ps.set i (v, l')) := by
  have hlt : i < ps.length := (List.getElem?_eq_some_iff.1 hi).1
  have key : ∀ (j : Nat) p, (ps.set i (v, l'))[j]? = some p → (j ≠ i ∧ ps[j]? = some p) ∨ (j = i ∧ p = (v, l')) := by
    intro j p hp
    by_cases hj : j = i
    · subst hj; rw [List.getElem?_set_self hlt] at hp; injection hp with hp; exact .inr ⟨rfl, hp.symm⟩
    · rw [List.getElem?_set_ne (fun e => hj e.symm)] at hp; exact .inl ⟨hj, hp⟩
  refine ⟨fun j p hp => ?_, fun j k p q hjk hp hq => ?_⟩
  · rcases key j p hp with ⟨hne, h1⟩ | ⟨_, rfl⟩
    · exact (h.own j p h1).kept hg (by have := h.apart j i p _ hne h1 hi; rwa [hv] at this)
    · exact ho
  · rcases key j p hp with ⟨h1, h2⟩ | ⟨rfl, rfl⟩
    · rcases key k q hq with ⟨h3, h4⟩ | ⟨rfl, rfl⟩
      · exact h.apart j k p q hjk h2 h4
      · exact h.apart j k p (v, l) hjk h2 hi
    · rcases key k q hq with ⟨h3, h4⟩ | ⟨e, _⟩
      · exact h.apart j k (v, l) q hjk hi h4
      · exact absurd e.symm hjk
/-- Some of them. -/
theorem Hp.sel {w : World} {base : Nat} {ps qs : List (Value × List UInt8)} (h : Hp w base ps) (is : List Nat) (hn : is.Nodup) (hq : qs.map some = is.map fun i => ps[i]?) : Hp w base qs := by
  have key : ∀ (j : Nat) p, qs[j]? = some p → ∃ i, is[j]? = some i ∧ ps[i]? = some p := by
    intro j p hp
    have h1 : (qs.map some)[j]? = some (some p) := by rw [List.getElem?_map, hp]; rfl
    rw [hq, List.getElem?_map] at h1
    cases hi : is[j]? with
    | none => rw [hi] at h1; cases h1
    | some i => rw [hi] at h1; injection h1 with h1; exact ⟨i, rfl, h1⟩
  refine ⟨fun j p hp => ?_, fun j k p q hjk hp hq' => ?_⟩
  · obtain ⟨i, _, h1⟩ := key j p hp
    exact h.own i p h1
  · obtain ⟨i, hi, h1⟩ := key j p hp
    obtain ⟨i', hi', h2⟩ := key k q hq'
    refine h.apart i i' p q (fun e => hjk ?_) h1 h2
    subst e
    exact (List.getElem?_inj (List.getElem?_eq_some_iff.1 hi).1 hn).1 (hi.trans hi'.symm)

/-- The state of a call: what was there when it began is as it was; its own slices of bytes. -/
structure OSt (w0 w : World) (ps : List (Value × List UInt8)) : Prop where
  low : Below w0.heap.size w0 w
  hp : Hp w w0.heap.size ps
theorem OSt.start (w : World) : OSt w w [] := ⟨Below.refl _ _, Hp.nil _ _⟩
section
variable {w0 w w' : World} {ps : List (Value × List UInt8)}
theorem OSt.call (h : OSt w0 w ps) (hb : Below w.heap.size w w') : OSt w0 w' ps := ⟨h.low.trans (hb.mono h.low.size), h.hp.below hb⟩
theorem OSt.name (h : OSt w0 w ps) : ∃ qs, qs = ps ∧ OSt w0 w qs := ⟨ps, rfl, h⟩
theorem OSt.drewN (h : OSt w0 w ps) (n : Nat) : OSt w0 (w.drewN n) ps := h.call (bdrewN (Below.refl _ _) n)
theorem OSt.drew (h : OSt w0 w ps) : OSt w0 w.drew ps := h.call (Below.refl _ _).drew
theorem OSt.push {v : Value} {l : List UInt8} (h : OSt w0 w ps) (ho : OwnB w' w.heap.size v l) (hb : Below w.heap.size w w') : OSt w0 w' (ps ++ [(v, l)]) := ⟨h.low.trans (hb.mono h.low.size), h.hp.push hb ho h.low.size⟩
theorem OSt.arg {size n : Nat} {A : Option Addr} {xs : List Value} (h : OSt w0 w ps) (hr : Rd w0 size A n xs) : Rd w size A n xs := hr.below h.low
theorem OSt.get {v : Value} {l : List UInt8} (h : OSt w0 w ps) (i : Nat) (hi : ps[i]? = some (v, l)) : OwnB w w0.heap.size v l := h.hp.own i _ hi
theorem OSt.rd {A : Option Addr} {n c : Nat} {l : List UInt8} (h : OSt w0 w ps) (i : Nat) (hi : ps[i]? = some (.slice A n c, l)) : Rd w 1 A n (l.map vb) := by
  have ho := h.get i hi
  have hn := ho.len_eq
  subst hn
  exact Rd.of_own ho
theorem OSt.pre {g N c n : Nat} {l m : List UInt8} (h : OSt w0 w ps) (i : Nat) (hi : ps[i]? = some (.slice (some ⟨g, 0, none⟩) N c, l ++ m)) (hn : l.length = n) : Rd w 1 (some ⟨g, 0, none⟩) n (l.map vb) := by
  subst hn
  exact Rd.of_own (h.get i hi).front
theorem OSt.overs {g n c N : Nat} {l : List UInt8} {w2 : World} (h : OSt w0 w ps) (i : Nat) (hi : ps[i]? = some (.slice (some ⟨g, 0, none⟩) n c, l)) (ho : OwnB w2 w0.heap.size (.slice (some ⟨g, 0, none⟩) n c) (marksB 9 0 N)) (hg : w.grownBy w2 (some g)) : OSt w0 w2 (ps.set i (.slice (some ⟨g, 0, none⟩) n c, marksB 9 0 N)) := by
  have ho1 := h.get i hi
  exact ⟨h.low.grown hg h.low.size (fun k e => by injection e with e; subst e; exact (ho1.lt _ rfl).1), h.hp.over hi rfl hg ho⟩
theorem OSt.over {v : Value} {l l' : List UInt8} {g : Nat} (h : OSt w0 w ps) (i : Nat) (hi : ps[i]? = some (v, l)) (hv : v.ownBlock = some g) (hg : w.grownBy w' (some g)) (ho : OwnB w' w0.heap.size v l') : OSt w0 w' (ps.set i (v, l')) :=
  ⟨h.low.grown hg h.low.size (fun k e => by injection e with e; subst e; exact ((h.get i hi).lt _ hv).1), h.hp.over hi hv hg ho⟩
end
end Go.Proofs.Ytgjlclihgpahbaa

/- Words laid into bytes and taken out of them, in plain numbers. -/
namespace Go.Proofs.Ytgjlclihgpahbaa
/-- a word's n bytes, the lowest first -/
def leL (n x : Nat) : List UInt8 := (List.range n).map fun i => UInt8.ofNat (x / 256 ^ i)
def beL (n x : Nat) : List UInt8 := (leL n x).reverse
theorem leL_length (n x : Nat) : (leL n x).length = n := by simp [leL]
theorem beL_length (n x : Nat) : (beL n x).length = n := by simp [beL, leL]
theorem leL_succ (n x : Nat) : leL (n + 1) x = leL n x ++ [UInt8.ofNat (x / 256 ^ n)] := by simp [leL, List.range_succ]
theorem leL_get {n x i : Nat} (h : i < n) : (leL n x)[i]? = some (UInt8.ofNat (x / 256 ^ i)) := by simp [leL, h]
theorem beL_get {n x i : Nat} (h : i < n) : (beL n x)[i]? = some (UInt8.ofNat (x / 256 ^ (n - 1 - i))) := by
  unfold beL
  rw [List.getElem?_reverse (by rw [leL_length]; exact h), leL_length, leL_get (by omega)]
/-- the byte at a place, 0 where there is none -/
def byteAt (l : List UInt8) (at' : Int) : Nat := if 0 ≤ at' ∧ at' < l.length then (l.getD at'.toNat 0).toNat else 0
theorem byteAt_lt (l : List UInt8) (a : Int) : byteAt l a < 256 := by
  unfold byteAt; split
  · exact UInt8.toNat_lt _
  · omega
/-- the first n bytes from a place on, the highest first -/
def beTo (l : List UInt8) (a : Int) : Nat → Nat
  | 0 => 0
  | k + 1 => 256 * beTo l a k + byteAt l (a + k)
/-- the lowest first -/
def leTo (l : List UInt8) (a : Int) : Nat → Nat
  | 0 => 0
  | k + 1 => leTo l a k + byteAt l (a + k) * 256 ^ k
theorem beTo_lt (l : List UInt8) (a : Int) (k : Nat) : beTo l a k < 256 ^ k := by
  induction k with
  | zero => simp [beTo]
  | succ k ih => have := byteAt_lt l (a + k); rw [Nat.pow_succ]; unfold beTo; omega
theorem leTo_lt (l : List UInt8) (a : Int) (k : Nat) : leTo l a k < 256 ^ k := by
  induction k with
  | zero => simp [leTo]
  | succ k ih =>
    have := byteAt_lt l (a + k)
    unfold leTo
    rw [Nat.pow_succ]
    have h : (byteAt l (a + k) + 1) * 256 ^ k ≤ 256 * 256 ^ k := Nat.mul_le_mul_right _ this
    rw [Nat.add_mul, Nat.one_mul] at h
    omega
theorem byteAt_out (l : List UInt8) (a : Int) (h : a < 0 ∨ (l.length : Int) ≤ a) : byteAt l a = 0 := by
  unfold byteAt; rw [if_neg]; omega
theorem beTo_out (l : List UInt8) (a : Int) (n : Nat) (h : a + n ≤ 0 ∨ (l.length : Int) ≤ a) (k : Nat) (hk : k ≤ n) : beTo l a k = 0 := by
  induction k with
  | zero => rfl
  | succ k ih => unfold beTo; rw [ih (by omega), byteAt_out l _ (by omega)]
theorem leTo_out (l : List UInt8) (a : Int) (n : Nat) (h : a + n ≤ 0 ∨ (l.length : Int) ≤ a) (k : Nat) (hk : k ≤ n) : leTo l a k = 0 := by
  induction k with
  | zero => rfl
  | succ k ih => unfold leTo; rw [ih (by omega), byteAt_out l _ (by omega)]; omega
/-- the reference's way from the highest of n down: what it has gathered when i is still to come -/
def leDown (l : List UInt8) (a : Int) : Nat → Nat → Nat
  | _, 0 => 0
  | n, d + 1 => 256 * leDown l a n d + byteAt l (a + (n - 1 - d : Nat))
theorem leDown_eq (l : List UInt8) (a : Int) (n d : Nat) (h : d ≤ n) : leTo l a n = leTo l a (n - d) + leDown l a n d * 256 ^ (n - d) := by
  induction d with
  | zero => simp [leDown]
  | succ d ih =>
    rw [ih (by omega)]
    have e : n - d = (n - (d + 1)) + 1 := by omega
    rw [e]
    have e2 : n - 1 - d = n - (d + 1) := by omega
    rw [leDown, leTo, e2, Nat.add_mul, Nat.pow_succ, Nat.mul_comm (256 ^ (n - (d + 1))) 256, ← Nat.mul_assoc, Nat.mul_comm (leDown l a n d) 256]
    omega
theorem leDown_all (l : List UInt8) (a : Int) (n : Nat) : leDown l a n n = leTo l a n := by
  have := leDown_eq l a n n (Nat.le_refl _)
  rw [Nat.sub_self] at this
  simp [leTo] at this
  omega
theorem leDown_lt (l : List UInt8) (a : Int) (n d : Nat) : leDown l a n d < 256 ^ d := by
  induction d with
  | zero => simp [leDown]
  | succ d ih => have := byteAt_lt l (a + (n - 1 - d : Nat)); rw [Nat.pow_succ]; unfold leDown; omega
end Go.Proofs.Ytgjlclihgpahbaa

namespace Go.Proofs.Ytgjlclihgpahbaa
theorem zeros_step {l : List UInt8} {k n : Nat} {b : UInt8} (hk : k < n) (hb : l[k]? = some b) : (l.take k ++ List.replicate (n - k) 0).set k b = l.take (k + 1) ++ List.replicate (n - (k + 1)) 0 := by
  have hl : k < l.length := (List.getElem?_eq_some_iff.1 hb).1
  have e : n - k = (n - (k + 1)) + 1 := by omega
  have hm : min k l.length = k := by omega
  rw [List.set_append_right _ _ (by simp; omega), List.length_take, hm, Nat.sub_self, e, List.replicate_succ, List.set_cons_zero, List.take_add_one, hb]
  simp
end Go.Proofs.Ytgjlclihgpahbaa

namespace Go.Proofs.Ytgjlclihgpahbaa
open Go.RowKit
set_option maxRecDepth 100000
set_option linter.unusedVariables false

theorem byte_eq (x d : Nat) : (x : Int) / 2 ^ (8 * d) % 256 = ((UInt8.ofNat (x / 256 ^ d)).toNat : Int) := by
  have e : (x : Int) / 2 ^ (8 * d) = ((x / 256 ^ d : Nat) : Int) := by
    rw [show (256 : Nat) ^ d = 2 ^ (8 * d) by rw [Nat.pow_mul], Int.natCast_ediv, Int.natCast_pow]; rfl
  rw [e, UInt8.toNat_ofNat']
  rfl
theorem made_bytes {w : World} {base g n : Nat} (h : w.ownsRow base 5 1 (.slice (some ⟨g, 0, none⟩) n n) n (madeCells (Value.int .u8 0).cells (n * 1)).toList) : OwnB w base (.slice (some ⟨g, 0, none⟩) n n) (List.replicate n 0) := by
  unfold OwnB
  rw [List.length_replicate, List.map_replicate]
  rw [show (Value.int .u8 0).cells = #[.int .u8 0] from rfl, toList_madeCells_one, Nat.mul_one] at h
  exact h

end Go.Proofs.Ytgjlclihgpahbaa

namespace Go.Proofs.Ytgjlclihgpahbaa
open Go.RowKit
set_option linter.unusedVariables false

set_option maxRecDepth 100000 in
set_option maxHeartbeats 400000 in
theorem layLE_u64 (x : Nat) (w : World) (hx : x < 2 ^ 64) :
    Calls Try.prog 58 #[.int .u64 (x : Int)] w fun e w' => ∃ v, e = .returned v ∧ OwnB w' w.heap.size v (leL 8 x) ∧ Below w.heap.size w w' := by
  obtain ⟨i0, hi0, hz0, hz1, hz2⟩ := info_parts u8_info
  have HX := Lib.hid hx
  clear hx
  go_enter Try.func58, Try.ntmps58
  go_wp2_with (first | (go_at_call 67; refine (width_u64 _).mono ?_; rintro e w1 ⟨rfl, rfl⟩) | (at_make; refine wpList_make_full _ rfl (.tmp 6) (.tmp 6) 27 rfl w.heap.size 5 i0 (.int .u8 0) 1 Try.underlying27 hi0 hz0 hz1 .i64 .i64 _ _ 8 rfl rfl (by omega) (by omega) (by rw [hz2]; omega) (by simp only [maxLen]; omega) (Nat.le_refl _) ?_; intro w1 ho1 hg1))
  have ho1' := made_bytes ho1
  have hb1 : Below w.heap.size w w1 := (Below.refl _ _).grown hg1 (Nat.le_refl _) (fun _ h => by cases h)
  go_loopw [10] (fun i wr => ∃ k : Nat, k ≤ 8 ∧ i = .int .i64 k ∧ OwnB wr w.heap.size (.slice (some ⟨w.heap.size, 0, none⟩) 8 8) ((leL 8 x).take k ++ List.replicate (8 - k) 0) ∧ Below w.heap.size w wr) (fun i _ => 8 - (intOf i).toNat)
  case atStart => exact ⟨0, Nat.zero_le _, rfl, by simpa using ho1', hb1⟩
  case round =>
    clear ho1 hg1 hb1 ho1'
    obtain ⟨k, hk, rfl, ho, hbw⟩ := hrel
    by_cases hlt : k < 8
    · have hxy := leL_get (x := x) hlt
      have hst := ho.stored k (UInt8.ofNat (x / 256 ^ k))
      rw [zeros_step hlt hxy, ← byte_eq] at hst
      obtain ⟨z, -, hcz⟩ := ho.cellAt (k := k) (by simp only [List.length_append, List.length_take, leL_length, List.length_replicate]; omega)
      have hfz := ho.frozenAt k
      clear hxy
      go_wp2
      go_roundw
      case rel => exact ⟨k + 1, by omega, by go_num, hst.1, hbw.setCell (Nat.le_refl _) _⟩
      case measure => simp [intOf]; omega
    · have hkr : k = 8 := by omega
      subst hkr
      rw [Nat.sub_self, List.replicate_zero, List.append_nil, List.take_of_length_le (by rw [leL_length]; omega)] at ho
      go_wp2
      go_ret
      exact ⟨_, rfl, ho, hbw⟩

end Go.Proofs.Ytgjlclihgpahbaa

namespace Go.Proofs.Ytgjlclihgpahbaa
open Go.RowKit
set_option linter.unusedVariables false

theorem byteAt_in {l : List UInt8} {a : Int} {k : Nat} {x : UInt8} (ha : a = (k : Int)) (hx : l[k]? = some x) : byteAt l a = x.toNat := by
  obtain ⟨hk, rfl⟩ := List.getElem?_eq_some_iff.1 hx
  unfold byteAt
  rw [if_pos (by omega)]
  subst ha
  simp [List.getElem?_eq_getElem hk]

theorem within_yes (A : Option Addr) (n c N : Nat) (a : Int) (w : World) (hN : N ≤ 8) (h1 : -(N : Int) < a) (h2 : a < n) :
    Calls Try.prog 69 #[.slice A n c, .int .i64 a, .int .i64 (N : Int)] w fun e w' => e = .returned (.bool true) ∧ w = w' := by
  go_enter Try.func69, Try.ntmps69
  go_wp2
  go_ret
  exact ⟨by simp, rfl⟩
theorem within_no (A : Option Addr) (n c N : Nat) (a : Int) (w : World) (hN : N ≤ 8) (h : a ≤ -(N : Int) ∨ (n : Int) ≤ a) :
    Calls Try.prog 69 #[.slice A n c, .int .i64 a, .int .i64 (N : Int)] w fun e w' => e = .returned (.bool false) ∧ w = w' := by
  by_cases h1 : a ≤ -(N : Int)
  · go_enter Try.func69, Try.ntmps69
    go_wp2
    go_ret
    exact ⟨rfl, rfl⟩
  · have h2 : (n : Int) ≤ a := by omega
    go_enter Try.func69, Try.ntmps69
    go_wp2
    go_ret
    exact ⟨by simp; exact h2, rfl⟩
end Go.Proofs.Ytgjlclihgpahbaa

namespace Go.Proofs.Ytgjlclihgpahbaa
open Go.RowKit
set_option linter.unusedVariables false

theorem or_le_nat {y x k : Nat} (hy : y < 256 ^ k) : y ||| (x * 256 ^ k) = y + x * 256 ^ k := by
  have e : 256 ^ k = 2 ^ (8 * k) := by rw [Nat.pow_mul]
  rw [e] at hy ⊢
  rw [Nat.or_comm, Nat.mul_comm x, ← Nat.two_pow_add_eq_or_of_lt hy]
  omega
theorem or_le_32 {y x k : Nat} (hk : k < 4) (hy : y < 256 ^ k) (hx : x ≤ 255) : bits .or .u32 (y : Int) ((x : Int) * 2 ^ (8 * k) % 4294967296) = ((y + x * 256 ^ k : Nat) : Int) := by
  have e : 256 ^ k = 2 ^ (8 * k) := by rw [Nat.pow_mul]
  have hp : 256 ^ (k + 1) ≤ 256 ^ 4 := Nat.pow_le_pow_right (by omega) (by omega)
  rw [Nat.pow_succ] at hp
  have hm : x * 256 ^ k ≤ 255 * 256 ^ k := Nat.mul_le_mul_right _ hx
  have hB : (256 : Nat) ^ 4 = 4294967296 := by decide
  rw [hB] at hp
  have e2 : (x : Int) * 2 ^ (8 * k) = ((x * 256 ^ k : Nat) : Int) := by rw [e, Int.natCast_mul, Int.natCast_pow]; rfl
  rw [e2, Int.emod_eq_of_lt (by omega) (by omega), u32_or_nat _ _ (by omega) (by omega), or_le_nat hy]
theorem or_le_64 {y x k : Nat} (hk : k < 8) (hy : y < 256 ^ k) (hx : x ≤ 255) : bits .or .u64 (y : Int) (IntKind.u64.wrap ((x : Int) * 2 ^ (8 * k))) = ((y + x * 256 ^ k : Nat) : Int) := by
  have e : 256 ^ k = 2 ^ (8 * k) := by rw [Nat.pow_mul]
  have hp : 256 ^ (k + 1) ≤ 256 ^ 8 := Nat.pow_le_pow_right (by omega) (by omega)
  rw [Nat.pow_succ] at hp
  have hm : x * 256 ^ k ≤ 255 * 256 ^ k := Nat.mul_le_mul_right _ hx
  have hB : (256 : Nat) ^ 8 = 18446744073709551616 := by decide
  rw [hB] at hp
  have e2 : (x : Int) * 2 ^ (8 * k) = ((x * 256 ^ k : Nat) : Int) := by rw [e, Int.natCast_mul, Int.natCast_pow]; rfl
  rw [e2, IntWalk.u64_in _ (by omega), u64_or_nat _ _ (by omega) (by omega), or_le_nat hy]

set_option maxRecDepth 20000 in
set_option maxHeartbeats 400000 in
theorem takeLE_u64 (A : Option Addr) (n c : Nat) (l : List UInt8) (a : Int) (w : World) (h : Rd w 1 A n (l.map vb)) (hn : n ≤ 140737488355328) :
    Calls Try.prog 62 #[.slice A n c, .int .i64 a] w fun e w' => e = .returned (.int .u64 (leTo l a 8 : Nat)) ∧ w = w' := by
  have hl : l.length = n := by simpa using h.1
  have HL := Lib.hid hl
  clear hl
  by_cases hin : -(8 : Int) < a ∧ a < n
  · obtain ⟨hin1, hin2⟩ := hin
    go_enter Try.func62, Try.ntmps62
    go_wp2_with (first | (go_at_call 67; refine (width_u64 _).mono ?_; rintro e w1 ⟨rfl, rfl⟩) | (go_at_call 69; refine (within_yes A n c 8 a _ (by omega) (by omega) hin2).mono ?_; rintro e w1 ⟨rfl, rfl⟩))
    go_loop [5, 17] (fun y i => ∃ k : Nat, k ≤ 8 ∧ i = .int .i64 k ∧ y = .int .u64 (leTo l a k : Nat)) (fun _ i => 8 - (intOf i).toNat)
    case atStart => exact ⟨0, Nat.zero_le _, rfl, rfl⟩
    case round =>
      obtain ⟨k, hk, rfl, rfl⟩ := hrel
      by_cases hlt : k < 8
      · have hb := leTo_lt l a k
        have hp : 256 ^ k ≤ 72057594037927936 := Nat.le_trans (Nat.pow_le_pow_right (by omega) (show k ≤ 7 by omega)) (by decide)
        have hs : leTo l a (k + 1) = leTo l a k + byteAt l (a + k) * 256 ^ k := rfl
        have hb' : ((leTo l a k : Nat) : Int) ≤ 72057594037927935 := by omega
        have HS := Lib.hid hs
        have HB := Lib.hid hb
        clear hs hp hb
        by_cases h0 : a + k < 0
        · have hz : byteAt l (a + k) = 0 := byteAt_out l _ (.inl h0)
          have HZ := Lib.hid hz
          clear hz
          go_wp2
          go_round
          case rel => exact ⟨k + 1, by omega, by go_num, by rw [HS.out, HZ.out, Nat.zero_mul]; go_num⟩
          case measure => simp [intOf]; omega
        · by_cases h1 : a + k < n
          · obtain ⟨j, hj⟩ := Int.eq_ofNat_of_zero_le (by omega : 0 ≤ a + k)
            obtain ⟨p, x, rfl, hx, hc⟩ := h.byteAt (show j < n by omega)
            have hz : byteAt l (a + k) = x.toNat := byteAt_in hj hx
            have HZ := Lib.hid hz
            clear hz hx
            have hxb : (x.toNat : Int) ≤ 255 := by have := x.toNat_lt; omega
            have hjn : (j : Int) < n := by omega
            clear h0 h1
            go_wp2
            go_round
            case rel => exact ⟨k + 1, by omega, by go_num, by rw [HS.out, HZ.out, or_le_64 hlt HB.out (by omega)]⟩
            case measure => simp [intOf]; omega
          · have hz : byteAt l (a + k) = 0 := byteAt_out l _ (.inr (by have := HL.out; omega))
            have HZ := Lib.hid hz
            clear hz
            go_wp2
            go_round
            case rel => exact ⟨k + 1, by omega, by go_num, by rw [HS.out, HZ.out, Nat.zero_mul]; go_num⟩
            case measure => simp [intOf]; omega
      · have hkN : k = 8 := by omega
        subst hkN
        go_wp2
        go_ret
        exact ⟨rfl, rfl⟩
  · have hout : a + 8 ≤ 0 ∨ (l.length : Int) ≤ a := by have := HL.out; omega
    have hz := leTo_out l a 8 hout 8 (Nat.le_refl _)
    have HZ := Lib.hid hz
    have hno : a ≤ -((8 : Nat) : Int) ∨ (n : Int) ≤ a := by omega
    clear hz hout hin
    go_enter Try.func62, Try.ntmps62
    go_wp2_with (first | (go_at_call 67; refine (width_u64 _).mono ?_; rintro e w1 ⟨rfl, rfl⟩) | (go_at_call 69; refine (within_no A n c 8 a _ (by omega) hno).mono ?_; rintro e w1 ⟨rfl, rfl⟩))
    go_ret
    exact ⟨ret_int (by rw [HZ.out]; rfl), rfl⟩

end Go.Proofs.Ytgjlclihgpahbaa

namespace Go.Proofs.Ytgjlclihgpahbaa
open Go.RowKit
set_option linter.unusedVariables false

def kBytesTo (s : List UInt64) (k : Nat) : List UInt8 := (s.take k).flatMap (fun x => leL 8 x.toNat) ++ List.replicate (200 - 8 * k) 0
def kBytes (s : List UInt64) : List UInt8 := s.flatMap fun x => leL 8 x.toNat
def kFromTo (b : List UInt8) (k : Nat) : List UInt64 := (List.range k).map (fun (i : Nat) => UInt64.ofNat (leTo b (8 * i) 8)) ++ List.replicate (25 - k) 0
def kFrom (b : List UInt8) : List UInt64 := (List.range 25).map fun (i : Nat) => UInt64.ofNat (leTo b (8 * i) 8)
theorem flat_len (s : List UInt64) : (s.flatMap fun x => leL 8 x.toNat).length = 8 * s.length := by
  induction s with
  | nil => rfl
  | cons a s ih => rw [List.flatMap_cons, List.length_append, ih, leL_length, List.length_cons]; omega
theorem kBytesTo_length (s : List UInt64) (k : Nat) (hs : s.length = 25) (hk : k ≤ 25) : (kBytesTo s k).length = 200 := by
  unfold kBytesTo; rw [List.length_append, flat_len, List.length_take, List.length_replicate]; omega
theorem kBytesTo_succ (s : List UInt64) (k : Nat) (hs : s.length = 25) (hk : k < 25) : splice ((kBytesTo s k).map vb) (8 * k) ((leL 8 (at64 s k).toNat).map vb) = (kBytesTo s (k + 1)).map vb := by
  have hl : ((s.take k).flatMap (fun x => leL 8 x.toNat)).length = 8 * k := by rw [flat_len, List.length_take]; omega
  unfold splice
  rw [List.length_map, leL_length, ← List.map_take, ← List.map_drop, ← List.map_append, ← List.map_append]
  congr 1
  unfold kBytesTo
  rw [List.take_append_of_le_length (by omega), List.take_of_length_le (by omega), List.drop_append, List.drop_of_length_le (by omega), hl, List.nil_append,
    List.take_add_one, List.getElem?_eq_getElem (by omega), List.flatMap_append, List.append_assoc]
  congr 1
  simp [at64, hs, hk]
  omega
theorem kBytesTo_end (s : List UInt64) (hs : s.length = 25) : kBytesTo s 25 = kBytes s := by
  unfold kBytesTo kBytes
  rw [List.take_of_length_le (by omega)]; simp
theorem heap_alloc3 (w : World) (A B C : Obj) : (((w.alloc A).alloc B).alloc C).heap[w.heap.size]? = some A := by
  rw [heap_alloc_old _ _ (by simp; omega), heap_alloc_old _ _ (by simp), heap_alloc_new]
def zb (n : Nat) : List Value := List.replicate n (.int .u8 0)
theorem zb_length (n : Nat) : (zb n).length = n := by simp [zb]
theorem zero_bytes (w : World) : (zeroValue 69).run Try.prog w = .ok (.agg (zb 200).toArray) w := by kernel_rfl
theorem kBytesTo_zero (s : List UInt64) : (kBytesTo s 0).map vb = zb 200 := by
  unfold kBytesTo zb; rw [List.take_zero, List.flatMap_nil, List.nil_append, List.map_replicate]; rfl
theorem bytes_size : (Try.prog.info? 69).map (·.size) = some 200 := by kernel_rfl
theorem u8_size : (Try.prog.info? 5).map (·.size) = some 1 := by kernel_rfl

set_option maxRecDepth 100000 in
set_option maxHeartbeats 2000000 in
theorem bytes_s (s : List UInt64) (hs : s.length = 25) (w : World) :
    Calls Try.prog 51 #[.agg (s.map u64v).toArray] w fun e w' => e = .returned (.agg ((kBytes s).map vb).toArray) ∧ Below w.heap.size w w' := by
  have HS := Lib.hid hs
  have HE := Lib.hid (kBytesTo_end s hs)
  clear hs
  go_enter Try.func51, Try.ntmps51
  have hz0 := zero_bytes
  go_wp2_with (refine wpList_load_row rfl 93 (.tmp 1) rfl w.heap.size rfl 93 (s.map u64v).toArray (0, 0) _ (heap_alloc3 _ _ _ _) Try.underlying93 rfl (by rw [state_size]; simp [HS.out]) ?_)
  clear hz0
  refine absorb_wp (St.start_lay w [] |>.allocAt 0 rfl w.heap.size rfl _ _ |>.push_mk rfl |>.allocAt 1 rfl (w.heap.size + 1) (by simp) _ _ |>.push_mk rfl |>.allocAt 2 rfl (w.heap.size + 1 + 1) (by simp) _ _ |>.push_mk rfl) ?_
  intro w3 H3
  generalize w.heap.size + 1 + 1 = g3 at H3 ⊢
  generalize w.heap.size + 1 = g2 at H3 ⊢
  generalize w.heap.size = g1 at H3 ⊢
  go_loopw [7] (fun i wr => ∃ k : Nat, k ≤ 25 ∧ i = .int .i64 k ∧ St w [] wr (lay [.blk g1 93 (s.map u64v), .blk g2 69 (zb 200), .blk g3 69 ((kBytesTo s k).map vb)])) (fun i _ => 25 - (intOf i).toNat)
  case atStart => exact ⟨0, by omega, rfl, by rw [kBytesTo_zero]; exact H3⟩
  case round =>
    clear H3
    obtain ⟨k, hk, rfl, Hk⟩ := hrel
    by_cases hlt : k < 25
    · have hz := u64_get (l := s) (k := k) (by rw [HS.out]; exact hlt)
      have hz2 := run_index_agg (P := Try.prog) 93 91 25 (s.map u64v).toArray k (.int .u64 ((at64 s k).toNat : Int)) Try.underlying93 u64_size u64_notAgg hlt (by simpa using hz)
      have HL : Hid ((kBytesTo s k).length = 200) := kBytesTo_length s k HS.out (by omega)
      have HN := Lib.hid (kBytesTo_succ s k HS.out hlt)
      clear hz
      have hk1 : (k : Int) < 25 := by omega
      go_wp2
      clear hz2
      generalize at64 s k = x at *
      have hk2 : IntKind.i64.wrap (8 * (k : Int)) = 8 * (k : Int) := IntWalk.i64_in _ (by omega)
      have hk3 : (0 : Int) ≤ 8 * (k : Int) := by omega
      have hk4 : 8 * (k : Int) ≤ 200 := by omega
      have hk5 : (8 * (k : Int)).toNat = 8 * k := by omega
      go_region_held3 (fun _ => True) (trivial) ((first | (go_at_call 58; refine (layLE_u64 x.toNat _ x.toNat_lt).mono ?_; rintro e w4 ⟨v4, rfl, ho4, hb4⟩; obtain ⟨A4, n4, c4, rfl, hn4, hr4⟩ := ho4.shape; obtain rfl : n4 = 8 := (by rw [hn4.out, leL_length]); obtain ⟨ad4, rfl, -, hs4⟩ := hr4.2 (by omega)) | (refine step_copy_st rfl (.tmp 13) (.tmp 15) _ _ rfl 5 Try.underlying27 u8_size _ _ _ _ _ _ (by rfl) (by rfl) ((Hk.drew).call hb4) 2 g3 (8 * k) _ _ (by rfl) ((leL 8 x.toNat).map vb) (by rw [List.length_map, leL_length]; show 8 = min 8 (200 - 8 * k); omega) (fun _ => ⟨by rfl, ad4, by rfl, hs4⟩) (by rw [List.length_map, List.length_map, HL.out, leL_length]; omega) (vb_one _) ?_; intro w5 H5)))
      go_wp2
      go_roundw
      case rel => exact ⟨k + 1, by omega, by go_num, by have h := H5.upd_mk (by simp); rw [HN.out] at h; exact h⟩
      case measure => simp [intOf]; omega
    · obtain rfl : k = 25 := by omega
      have HL : Hid ((kBytesTo s 25).length = 200) := kBytesTo_length s 25 HS.out (by omega)
      go_wp2_with (first | (refine wpList_load_row rfl 69 (.tmp 3) rfl g3 rfl _ _ _ _ (Hk.blk 2 rfl) Try.underlying69 rfl (by rw [bytes_size]; simp [HL.out]) ?_) | (refine wpList_store_mid rfl 69 (.tmp 2) (.tmp 18) rfl g2 0 _ rfl rfl (by have h := Hk.there 1 rfl; simpa [HL.out, zb_length] using h) (by rw [bytes_size]; simp [HL.out]) (all_oneCell_toArray (vb_one _)) ?_))
      have H4 := (Hk.storeAll 1 rfl (vs := (kBytesTo s 25).map vb) (by simp [HL.out, zb_length])).upd_mk (by simp)
      exact bodyPost_ret (results_cell_row rfl _ _ g2 69 ((kBytesTo s 25).map vb).toArray _ _ rfl (H4.blk 1 rfl) Try.underlying69 rfl (by rw [bytes_size]; simp [HL.out])) rfl ⟨by rw [HE.out], H4.below⟩
end Go.Proofs.Ytgjlclihgpahbaa

namespace Go.Proofs.Ytgjlclihgpahbaa
open Go.RowKit
set_option linter.unusedVariables false

theorem kFromTo_length (b : List UInt8) (k : Nat) (hk : k ≤ 25) : (kFromTo b k).length = 25 := by simp [kFromTo]; omega
theorem kFromTo_succ (b : List UInt8) (k : Nat) (hk : k < 25) : (kFromTo b k).set k (UInt64.ofNat (leTo b (8 * k) 8)) = kFromTo b (k + 1) := by
  unfold kFromTo
  rw [List.set_append_right _ _ (by simp), List.range_succ, List.map_append, List.append_assoc, show 25 - k = (25 - (k + 1)) + 1 by omega, List.replicate_succ]
  simp
theorem kFrom_length (b : List UInt8) : (kFrom b).length = 25 := by simp [kFrom]
theorem kFromTo_end (b : List UInt8) : kFromTo b 25 = kFrom b := by simp [kFromTo, kFrom]
theorem le_back (b : List UInt8) (a : Int) : ((UInt64.ofNat (leTo b a 8)).toNat : Int) = ((leTo b a 8 : Nat) : Int) := by
  have h := leTo_lt b a 8
  rw [UInt64.toNat_ofNat', Nat.mod_eq_of_lt (by simpa using h)]
theorem takeLE_q (A : Option Addr) (n c : Nat) (b : List UInt8) (a : Int) (w : World) (y : UInt64) (h : Rd w 1 A n (b.map vb)) (hn : n ≤ 140737488355328) (hy : Hid (UInt64.ofNat (leTo b a 8) = y)) :
    Calls Try.prog 62 #[.slice A n c, .int .i64 a] w fun e w' => e = .returned (.int .u64 (y.toNat : Int)) ∧ w = w' := by
  refine (takeLE_u64 A n c b a w h hn).mono ?_
  rintro e w' ⟨rfl, rfl⟩
  rw [← hy.out, le_back]
  exact ⟨rfl, rfl⟩
theorem St.blkRd {w0 w : World} {F0 : List Nat} {E : Env} {g n : Nat} {T : TypeId} {cs : List Value} (H : St w0 F0 w E) (k : Nat) (hk : E k = some (.blk g T cs)) (hn : cs.length = n) : Rd w 1 (some ⟨g, 0, none⟩) n cs :=
  ⟨by omega, fun _ => ⟨_, rfl, H.lt k hk, fun j u hu => by rw [Addr.add_mid, Nat.zero_add]; exact H.cell k hk hu⟩⟩

set_option maxHeartbeats 2000000 in
theorem from_s (b : List UInt8) (hb : b.length = 200) (w : World) :
    Calls Try.prog 53 #[.agg (b.map vb).toArray] w fun e w' => e = .returned (.agg ((kFrom b).map u64v).toArray) ∧ Below w.heap.size w w' := by
  have HS := Lib.hid hb
  have HE := Lib.hid (kFromTo_end b)
  clear hb
  go_enter Try.func53, Try.ntmps53
  go_wp2
  refine absorb_wp (St.start_lay w [] |>.allocAt 0 rfl w.heap.size rfl _ _ |>.push_mk rfl |>.allocAt 1 rfl (w.heap.size + 1) (by simp) _ _ |>.push_mk rfl |>.allocAt 2 rfl (w.heap.size + 1 + 1) (by simp) _ _ |>.push_mk rfl) ?_
  intro w3 H3
  generalize w.heap.size + 1 + 1 = g3 at H3 ⊢
  generalize w.heap.size + 1 = g2 at H3 ⊢
  generalize w.heap.size = g1 at H3 ⊢
  go_loopw [5] (fun i wr => ∃ k : Nat, k ≤ 25 ∧ i = .int .i64 k ∧ St w [] wr (lay [.blk g1 69 (b.map vb), .blk g2 93 ((List.replicate 25 0).map u64v), .blk g3 93 ((kFromTo b k).map u64v)])) (fun i _ => 25 - (intOf i).toNat)
  case atStart => exact ⟨0, by omega, rfl, H3⟩
  case round =>
    clear H3
    obtain ⟨k, hk, rfl, Hk⟩ := hrel
    by_cases hlt : k < 25
    · have HL : Hid ((kFromTo b k).length = 25) := kFromTo_length b k (by omega)
      obtain ⟨y, hy, HN⟩ : ∃ y : UInt64, Hid (UInt64.ofNat (leTo b (8 * k) 8) = y) ∧ Hid ((kFromTo b k).set k y = kFromTo b (k + 1)) := ⟨_, rfl, kFromTo_succ b k hlt⟩
      have hk1 : (k : Int) < 25 := by omega
      obtain ⟨u, hu⟩ : ∃ u, ((kFromTo b k).map u64v)[k]? = some u := ⟨_, u64_get (by rw [HL.out]; omega)⟩
      have a0 := Hk.cell 2 rfl hu
      have af := Hk.free 2 rfl k
      clear hu
      go_wp2_with fail
      refine (takeLE_q _ _ _ b _ _ y (Hk.blkRd 0 rfl (by rw [List.length_map, HS.out])) (by omega) hy).mono ?_
      rintro e w4 ⟨rfl, rfl⟩
      go_wp2
      go_roundw
      case rel => exact ⟨k + 1, by omega, by go_num, by have h := (Hk.store 2 rfl (o := k) (u := u64v y)).upd_mk (by simp); rw [u64_set, HN.out] at h; exact h⟩
      case measure => simp [intOf]; omega
    · obtain rfl : k = 25 := by omega
      have HL : Hid ((kFromTo b 25).length = 25) := kFromTo_length b 25 (by omega)
      go_wp2_with (first | (refine wpList_load_row rfl 93 (.tmp 3) rfl g3 rfl _ _ _ _ (Hk.blk 2 rfl) Try.underlying93 rfl (by rw [state_size]; simp [HL.out]) ?_) | (refine wpList_store_mid rfl 93 (.tmp 2) (.tmp 15) rfl g2 0 _ rfl rfl (by have h := Hk.there 1 rfl; simpa [HL.out] using h) (by rw [state_size]; simp [HL.out]) (all_oneCell_toArray (u64_one _)) ?_))
      have H4 := (Hk.storeAll 1 rfl (vs := (kFromTo b 25).map u64v) (by simp [HL.out])).upd_mk (by simp)
      exact bodyPost_ret (results_cell_row rfl _ _ g2 93 ((kFromTo b 25).map u64v).toArray _ _ rfl (H4.blk 1 rfl) Try.underlying93 rfl (by rw [state_size]; simp [HL.out])) rfl ⟨by rw [HE.out], H4.below⟩
end Go.Proofs.Ytgjlclihgpahbaa

namespace Go.Proofs.Ytgjlclihgpahbaa
open Go.RowKit
set_option linter.unusedVariables false
set_option maxRecDepth 100000

def permB (b : List UInt8) : List UInt8 := kBytes (kPerm (kFrom b))

theorem permB_length (b : List UInt8) : (permB b).length = 200 := by
  unfold permB kBytes kPerm; rw [flat_len, kPermTo_length, kFrom_length]

attribute [local irreducible] permB kBytes kPerm kFrom

structure Sp where
  b : List UInt8
  r : Nat
  f : UInt8
  p : Nat
  s : Bool

structure Sp.Ok (x : Sp) : Prop where
  hb : x.b.length = 200
  r8 : 8 ≤ x.r
  r192 : x.r ≤ 192
  pr : x.p ≤ x.r
  op : x.s = false → x.p < x.r

def Sp.vs (x : Sp) : List Value := x.b.map vb ++ [.int .i64 x.r, .int .u8 (x.f.toNat : Int), .int .i64 x.p, .bool x.s]

def Sp.vsR (x : Sp) : List Value := x.b.map vb ++ [.int .i64 x.r, .int .u8 (x.f.toNat : Int), .int .i64 x.p, .bool x.s, .bool false]

def Sp.new (r : Nat) (f : UInt8) : Sp := ⟨List.replicate 200 0, r, f, 0, false⟩

theorem Sp.new_ok (r : Nat) (f : UInt8) (h : 8 ≤ r) (h' : r ≤ 192) : (Sp.new r f).Ok := ⟨by show (List.replicate 200 (0 : UInt8)).length = 200; rw [List.length_replicate], h, h', Nat.zero_le _, fun _ => by show 0 < r; omega⟩

def Sp.perm (x : Sp) : Sp := ⟨permB x.b, x.r, x.f, 0, x.s⟩

def xorAt (b : List UInt8) (k : Nat) (c : UInt8) : List UInt8 := b.set k (b.getD k 0 ^^^ c)

theorem xorAt_length (b : List UInt8) (k : Nat) (c : UInt8) : (xorAt b k c).length = b.length := by simp [xorAt]

def Sp.lay (x : Sp) (c : UInt8) : Sp := ⟨xorAt x.b x.p c, x.r, x.f, x.p + 1, x.s⟩

def Sp.put (x : Sp) (c : UInt8) : Sp := if x.p + 1 = x.r then (x.lay c).perm else x.lay c

def Sp.write (x : Sp) (l : List UInt8) : Sp := l.foldl Sp.put x

def Sp.ends (x : Sp) : Sp := ⟨xorAt (xorAt x.b x.p x.f) (x.r - 1) 128, x.r, x.f, x.p, x.s⟩

def Sp.close (x : Sp) : Sp := ⟨permB x.ends.b, x.r, x.f, 0, true⟩

def Sp.turn (x : Sp) : Sp := if x.p = x.r then x.perm else x

def Sp.go (x : Sp) (k : Nat) : Sp := ⟨x.b, x.r, x.f, x.p + k, x.s⟩

def Sp.get (x : Sp) : UInt8 := x.turn.b.getD x.turn.p 0

def Sp.after (x : Sp) : Nat → Sp
  | 0 => x
  | n + 1 => (x.after n).turn.go 1

def Sp.read (x : Sp) (n : Nat) : List UInt8 := (List.range n).map fun i => (x.after i).get

theorem Sp.write_nil (x : Sp) : x.write [] = x := rfl

theorem Sp.write_append (x : Sp) (l m : List UInt8) : x.write (l ++ m) = (x.write l).write m := List.foldl_append

theorem Sp.write_snoc (x : Sp) (l : List UInt8) (c : UInt8) : x.write (l ++ [c]) = (x.write l).put c := by rw [Sp.write_append]; rfl

theorem Sp.write_succ (x : Sp) {l : List UInt8} {k : Nat} {c : UInt8} (h : l[k]? = some c) : x.write (l.take (k + 1)) = (x.write (l.take k)).put c := by
  rw [List.take_add_one, h, Option.toList_some, Sp.write_snoc]

theorem Sp.put_eq (x : Sp) (c : UInt8) : x.put c = if x.p + 1 = x.r then (x.lay c).perm else x.lay c := rfl

theorem Sp.put_yes {x : Sp} (c : UInt8) (h : x.p + 1 = x.r) : x.put c = (x.lay c).perm := if_pos h

theorem Sp.put_no {x : Sp} (c : UInt8) (h : ¬ x.p + 1 = x.r) : x.put c = x.lay c := if_neg h

theorem Sp.put_r (x : Sp) (c : UInt8) : (x.put c).r = x.r ∧ (x.put c).f = x.f ∧ (x.put c).s = x.s := by
  by_cases h : x.p + 1 = x.r
  · rw [Sp.put_yes c h]; exact ⟨rfl, rfl, rfl⟩
  · rw [Sp.put_no c h]; exact ⟨rfl, rfl, rfl⟩

theorem Sp.write_r (l : List UInt8) : ∀ x : Sp, (x.write l).r = x.r ∧ (x.write l).f = x.f ∧ (x.write l).s = x.s := by
  induction l with
  | nil => intro x; exact ⟨rfl, rfl, rfl⟩
  | cons c l ih =>
    intro x
    obtain ⟨h1, h2, h3⟩ := ih (x.put c)
    obtain ⟨k1, k2, k3⟩ := Sp.put_r x c
    exact ⟨h1.trans k1, h2.trans k2, h3.trans k3⟩

theorem Sp.put_ok {x : Sp} (h : x.Ok) (c : UInt8) (hp : x.p < x.r) : (x.put c).Ok ∧ (x.put c).p < (x.put c).r := by
  by_cases he : x.p + 1 = x.r
  · rw [Sp.put_yes c he]
    have := h.r8
    exact ⟨⟨permB_length _, h.r8, h.r192, Nat.zero_le _, fun _ => by show 0 < x.r; omega⟩, by show 0 < x.r; omega⟩
  · rw [Sp.put_no c he]
    have h1 : x.p + 1 < x.r := by omega
    exact ⟨⟨by show (xorAt _ _ _).length = 200; rw [xorAt_length]; exact h.hb, h.r8, h.r192, by show x.p + 1 ≤ x.r; omega, fun _ => h1⟩, h1⟩

theorem Sp.write_ok (l : List UInt8) : ∀ {x : Sp}, x.Ok → x.p < x.r → (x.write l).Ok ∧ (x.write l).p < (x.write l).r := by
  induction l with
  | nil => intro x h hp; exact ⟨h, hp⟩
  | cons c l ih => intro x h hp; have := Sp.put_ok h c hp; exact ih this.1 this.2

theorem Sp.put_p (x : Sp) (c : UInt8) (hp : x.p < x.r) : (x.put c).p = (x.p + 1) % x.r := by
  by_cases h : x.p + 1 = x.r
  · rw [Sp.put_yes c h, h, Nat.mod_self]; rfl
  · rw [Sp.put_no c h, Nat.mod_eq_of_lt (by omega)]; rfl

theorem Sp.write_p (l : List UInt8) : ∀ {x : Sp}, x.p < x.r → (x.write l).p = (x.p + l.length) % x.r := by
  induction l with
  | nil => intro x hp; rw [Sp.write_nil, List.length_nil, Nat.add_zero, Nat.mod_eq_of_lt hp]
  | cons c l ih =>
    intro x hp
    have h1 := Sp.put_p x c hp
    have h2 := (Sp.put_r x c).1
    have h3 : (x.put c).p < (x.put c).r := by rw [h1, h2]; exact Nat.mod_lt _ (by omega)
    have h4 := ih h3
    rw [h1, h2] at h4
    show ((x.put c).write l).p = _
    rw [h4, List.length_cons, Nat.mod_add_mod]
    congr 1; omega

/-- how often a sponge is permuted: step by step -/
theorem count_succ (p r k : Nat) (hr : 0 < r) : (p + (k + 1)) / r = (p + k) / r + (if (p + k) % r + 1 = r then 1 else 0) := by
  have h1 := Nat.div_add_mod (p + k) r
  have h2 := Nat.mod_lt (p + k) hr
  split
  · rename_i h
    have : p + (k + 1) = r * ((p + k) / r + 1) := by rw [Nat.mul_add, Nat.mul_one]; omega
    rw [this, Nat.mul_div_cancel_left _ hr]
  · rename_i h
    have : p + (k + 1) = ((p + k) % r + 1) + r * ((p + k) / r) := by omega
    rw [this, Nat.add_mul_div_left _ _ hr, Nat.div_eq_of_lt (by omega)]
    omega

section
variable (b : List UInt8) (xs : List Value)

theorem sp_get {k : Nat} (j : Nat) (hb : b.length = 200) (hk : k = 200 + j) : (b.map vb ++ xs)[k]? = xs[j]? := by
  subst hk
  rw [List.getElem?_append_right (by simp [hb]), List.length_map, hb, Nat.add_sub_cancel_left]

theorem sp_at {k : Nat} (hb : b.length = 200) (hk : k < 200) : (b.map vb ++ xs)[k]? = some (vb (b.getD k 0)) := by
  rw [List.getElem?_append_left (by simp [hb]; exact hk), List.getElem?_map, List.getElem?_eq_getElem (by rw [hb]; exact hk)]
  simp [List.getD_eq_getElem?_getD, List.getElem?_eq_getElem (show k < b.length by rw [hb]; exact hk)]

theorem sp_set {k : Nat} (c : UInt8) (hb : b.length = 200) (hk : k < 200) : (b.map vb ++ xs).set k (vb c) = (b.set k c).map vb ++ xs := by
  rw [List.set_append_left _ _ (by simp [hb]; exact hk), List.map_set]

theorem sp_put {k : Nat} (j : Nat) (u : Value) (hb : b.length = 200) (hk : k = 200 + j) : (b.map vb ++ xs).set k u = b.map vb ++ xs.set j u := by
  subst hk
  rw [List.set_append_right _ _ (by simp [hb]), List.length_map, hb, Nat.add_sub_cancel_left]

theorem sp_front (B : List UInt8) (hb : b.length = 200) (hB : B.length = 200) : (b.map vb ++ xs).take 0 ++ B.map vb ++ (b.map vb ++ xs).drop (0 + (B.map vb).length) = B.map vb ++ xs := by
  rw [List.take_zero, List.nil_append, List.length_map, hB, Nat.zero_add, List.drop_left' (by rw [List.length_map, hb])]

end

theorem Sp.cells {x : Sp} (hb : x.b.length = 200) : x.vs[200]? = some (.int .i64 x.r) ∧ x.vs[201]? = some (.int .u8 (x.f.toNat : Int)) ∧ x.vs[202]? = some (.int .i64 x.p) ∧ x.vs[203]? = some (.bool x.s) :=
  ⟨(sp_get x.b _ 0 hb rfl).trans rfl, (sp_get x.b _ 1 hb rfl).trans rfl, (sp_get x.b _ 2 hb rfl).trans rfl, (sp_get x.b _ 3 hb rfl).trans rfl⟩

theorem Sp.cellsR {x : Sp} (hb : x.b.length = 200) : x.vsR[200]? = some (.int .i64 x.r) ∧ x.vsR[201]? = some (.int .u8 (x.f.toNat : Int)) ∧ x.vsR[202]? = some (.int .i64 x.p) ∧ x.vsR[203]? = some (.bool x.s) ∧ x.vsR[204]? = some (.bool false) :=
  ⟨(sp_get x.b _ 0 hb rfl).trans rfl, (sp_get x.b _ 1 hb rfl).trans rfl, (sp_get x.b _ 2 hb rfl).trans rfl, (sp_get x.b _ 3 hb rfl).trans rfl, (sp_get x.b _ 4 hb rfl).trans rfl⟩

theorem Sp.vs_length {x : Sp} (hb : x.b.length = 200) : x.vs.length = 204 := by unfold Sp.vs; rw [List.length_append, List.length_map, hb]; rfl

theorem Sp.vsR_length {x : Sp} (hb : x.b.length = 200) : x.vsR.length = 205 := by unfold Sp.vsR; rw [List.length_append, List.length_map, hb]; rfl

theorem xor8 (a b : UInt8) : UInt8.ofNat (a.toNat ^^^ b.toNat) = a ^^^ b := by
  apply UInt8.toNat_inj.1; rw [UInt8.toNat_xor, UInt8.toNat_ofNat']; exact Nat.mod_eq_of_lt (Nat.xor_lt_two_pow a.toNat_lt b.toNat_lt)

section
variable {w0 w : World} {F0 : List Nat} {E : Env}

theorem St.storeMid {g : Nat} {T : TypeId} {cs vs : List Value} (H : St w0 F0 w E) (k : Nat) (hk : E k = some (.blk g T cs)) (o : Nat) (hl : o + vs.length ≤ cs.length) : St w0 F0 (w.setCells g o vs) (upd E k (.blk g T (cs.take o ++ vs ++ cs.drop (o + vs.length)))) := by
  obtain ⟨F, ⟨h, e⟩, -, -, hc⟩ := H.change k hk
  subst e
  exact hc _ _ [g] ⟨setCells_heap vs w g o T cs h hl, rfl⟩ (setCells_low vs w g o) (by simp)

end

theorem upd_laid {L : List Own} {k : Nat} {A : Own} (h : k < L.length) : upd (lay L) k A = lay (L.set k A) := by
  funext i
  by_cases hi : i = k
  · subst hi; simp [upd, lay, List.getElem?_set_self h]
  · simp [upd, lay, hi, List.getElem?_set_ne (Ne.symm hi)]

theorem range_front {w : World} {g : Nat} {xs ys : List Value} (h : w.rangeAt g 0 (xs ++ ys)) : w.rangeAt g 0 xs := fun j v hv => by
  exact h j v (by rw [List.getElem?_append_left (List.getElem?_eq_some_iff.1 hv).1]; exact hv)

theorem there_front {w : World} {g n m : Nat} (h : w.there g 0 n) (hm : m ≤ n) : w.there g 0 m := fun j hj => h j (by omega)

end Go.Proofs.Ytgjlclihgpahbaa

namespace Go.Proofs.Ytgjlclihgpahbaa
open Go.RowKit
set_option linter.unusedVariables false
set_option maxRecDepth 100000

attribute [local irreducible] permB kBytes kPerm kFrom

theorem spNone_no (g : Nat) (r : Int) (w : World) (hc : w.cell? ⟨g, 200, none⟩ = some (.int .i64 r)) (hr : 1 ≤ r) :
    Calls Try.prog 32 #[lptr g] w fun e w' => e = .returned (.bool false) ∧ w = w' := by
  have h0 : (r == 0) = false := by simp; omega
  unfold lptr
  go_enter Try.func32, Try.ntmps32
  go_wp2
  go_ret
  exact ⟨rfl, rfl⟩

theorem spNone_nil (w : World) : Calls Try.prog 32 #[.pointer none] w fun e w' => e = .returned (.bool true) ∧ w = w' := by
  go_enter Try.func32, Try.ntmps32
  go_wp2
  go_ret
  exact ⟨rfl, rfl⟩

theorem spNone_yes (g : Nat) (w : World) (hc : w.cell? ⟨g, 200, none⟩ = some (.int .i64 0)) :
    Calls Try.prog 32 #[lptr g] w fun e w' => e = .returned (.bool true) ∧ w = w' := by
  unfold lptr
  go_enter Try.func32, Try.ntmps32
  go_wp2
  go_ret
  exact ⟨rfl, rfl⟩

/-- a slice as an array's pointer -/
theorem wpList_arrayAt {P : Program} {ops : Array Oper} {rest : List Oper} {o : Oper} {a : Act} {w : World} {Q : Exit → Act → World → Prop} (hgd : o.guard = none) (arr : TypeId) (x : Operand) (ho : o.op = .sliceToArrayPointer arr x)
    (e : TypeId) (n : Nat) (A : Option Addr) (len cap : Nat) (h : P.underlying arr = some (.array n e)) (hn : n ≤ len) (hx : a.eval x = .slice A len cap)
    (hk : wpList P ops Q rest (a.put o.dst (.pointer A)) w) : wpList P ops Q (o :: rest) a w :=
  wpList_plain hgd fun _ hK => by
    unfold Oper.wp execOp
    simp only [ho, hx, run_arrayAt w arr e n A len cap h hn, Sem.run_bind, Sem.run_pure, Result.andThen_ok]
    exact hK _ _ hk

section
variable {w0 w : World} {F0 : List Nat} {E : Env}

set_option maxHeartbeats 1000000 in
theorem spPermute_s (l : Value) (r : Option (List RunT)) (m : Nat) (b : Int) (g : Nat) (x : Sp) (H : St w0 F0 w E) (i j : Nat) (hij : i ≠ j) (hi : E i = some (led l r)) (hj : E j = some (.blk g 71 x.vs)) (hg : LW r m b) (hm : m ≤ 1000000000000) (hb : b ≤ 4611686018427387903) (hx : x.b.length = 200) :
    Calls Try.prog 33 #[lptr g, l] w fun e w' => e = .returned (.tuple #[]) ∧ St w0 F0 w' (upd (upd E i (led l (noteN r 3 200 1))) j (.blk g 71 x.perm.vs)) := by
  obtain ⟨F, HF, -, -, hback⟩ := H.frame2 i j hij hi hj
  have HB := Lib.hid hback
  replace HF := HF.as2
  clear H hback
  have HX := Lib.hid hx
  clear hx
  unfold lptr
  go_enter Try.func33, Try.ntmps33
  go_wp2_with (first | (refine wpList_arrayAt rfl 69 (.tmp 11) rfl 5 200 (some ⟨g, 0, none⟩) 200 200 Try.underlying69 (Nat.le_refl _) rfl ?_; refine wpList_load_mid rfl 69 (.tmp 12) rfl g 0 rfl (x.b.map vb) _ (range_front (HF.range 1 rfl)) Try.underlying69 rfl (by rw [bytes_size, List.length_map, HX.out]) ?_))
  refine (from_s x.b HX.out _).mono ?_
  rintro e w1 ⟨rfl, hb1⟩
  replace HF := HF.call hb1
  clear hb1
  go_wp2_with fail
  refine (permute_w l r m b (kFrom x.b) HF 0 rfl hg hm hb (kFrom_length _)).mono ?_
  rintro e w2 ⟨rfl, H2⟩
  replace H2 := H2.upd_mk (by simp)
  clear HF
  go_wp2_with fail
  refine (bytes_s _ (by unfold kPerm; rw [kPermTo_length, kFrom_length]) _).mono ?_
  rintro e w3 ⟨rfl, hb3⟩
  have H3 := H2.call hb3
  clear H2 hb3
  have HP : Hid (kBytes (kPerm (kFrom x.b)) = permB x.b) := by unfold Hid permB; rfl
  rw [HP.out]
  have HL := Lib.hid (permB_length x.b)
  clear HP
  have HE : Hid ((⟨permB x.b, x.r, x.f, 0, x.s⟩ : Sp) = x.perm) := by unfold Hid; rfl
  generalize permB x.b = B at HL HE
  have HT := H3.there 1 rfl
  rw [Sp.vs_length HX.out] at HT
  go_wp2_with (refine wpList_store_mid rfl 69 (.tmp 18) (.tmp 16) rfl g 0 (B.map vb).toArray rfl rfl (there_front HT (by simp [HL.out])) (by rw [bytes_size]; simp [HL.out]) (all_oneCell_toArray (vb_one _)) ?_; refine absorb_list (H3.storeMid 1 rfl 0 (vs := B.map vb) (by rw [Sp.vs_length HX.out, List.length_map, HL.out]; omega) |>.upd_mk (by simp)) ?_; clear H3 HT; intro w4 H4; (unfold Sp.vs at H4); rw [sp_front x.b _ B HX.out HL.out] at H4; have c4 := H4.cell 1 rfl (o := 202) ((sp_get B _ 2 HL.out rfl).trans rfl); have f4 := H4.free 1 rfl 202)
  go_end0
  refine ⟨rfl, ?_⟩
  have H5 := (H4.store 1 rfl (o := 202) (u := .int .i64 0)).upd_mk (by simp)
  rw [sp_put B _ 2 _ HL.out rfl] at H5
  rw [← HE.out]
  exact HB.out _ _ _ (H5.to2 rfl rfl)

end

end Go.Proofs.Ytgjlclihgpahbaa

namespace Go.Proofs.Ytgjlclihgpahbaa
open Go.RowKit
set_option linter.unusedVariables false

/-- the number that bytes are -/
def tk (l : List UInt8) : Nat := l.foldl (fun n b => 256 * n + b.toNat) 0
theorem tk_zero : tk [] = 0 := rfl
theorem tk_snoc (l : List UInt8) (b : UInt8) : tk (l ++ [b]) = 256 * tk l + b.toNat := by simp [tk]
theorem tk_from (l : List UInt8) : ∀ a, l.foldl (fun n b => 256 * n + b.toNat) a + 1 ≤ (a + 1) * 256 ^ l.length := by
  induction l with
  | nil => intro a; simp
  | cons b l ih =>
    intro a
    have h := ih (256 * a + b.toNat)
    have hb := b.toNat_lt
    rw [List.foldl_cons, List.length_cons, Nat.pow_succ]
    refine Nat.le_trans h ?_
    rw [Nat.mul_comm (256 ^ l.length), ← Nat.mul_assoc]
    exact Nat.mul_le_mul_right _ (by omega)
theorem tk_lt (l : List UInt8) : tk l < 256 ^ l.length := by
  have h := tk_from l 0
  unfold tk
  omega
theorem or_byte_64 {b x : Nat} (hb : b ≤ 72057594037927935) (hx : x ≤ 255) : bits .or .u64 ((b : Int) * 256) (x : Int) = ((256 * b + x : Nat) : Int) := by
  have e : (b : Int) * 256 = ((256 * b : Nat) : Int) := by omega
  rw [e, u64_or_nat _ _ (by omega) (by omega), Nat.two_pow_add_eq_or_of_lt (i := 8) (by omega)]

end Go.Proofs.Ytgjlclihgpahbaa

namespace Go.Proofs.Ytgjlclihgpahbaa
open Go.RowKit
set_option linter.unusedVariables false

end Go.Proofs.Ytgjlclihgpahbaa

namespace Go.Proofs.Ytgjlclihgpahbaa
open Go.RowKit

theorem lb_info : (Try.prog.info? 27).map (fun i => (i.zero, i.size, i.bytes)) = some (some (.slice none 0 0), 1, 24) := by kernel_rfl

/-- the list that is handed in -/
def LR (w : World) (gL N cL : Nat) (vs : List Value) : Prop := w.ownsRow 0 27 1 (.slice (some ⟨gL, 0, none⟩) N cL) N vs
theorem LR.cell {w : World} {gL N cL k : Nat} {vs : List Value} (h : LR w gL N cL vs) (hk : k < N) : w.cell? ⟨gL, k, none⟩ = some (vs.getD k (.slice none 0 0)) := by
  have hl := h.1
  have := World.ownsRow.cellAt h k (by omega)
  rw [this, List.getD_eq_getElem?_getD, List.getElem?_eq_getElem (by omega)]
  rfl
theorem LR.ne {w : World} {gL N cL base : Nat} {vs : List Value} {v : Value} {l : List UInt8} (h : LR w gL N cL vs) (ho : OwnB w base v l) : v.ownBlock ≠ some gL := by
  rcases h.2 with ⟨h', _⟩ | ⟨g', cap', cur, h', _, hg, _⟩
  · cases h'
  injection h' with h1
  injection h1 with h1
  injection h1 with h1
  subst h1
  rcases ho.2 with ⟨rfl, _⟩ | ⟨g, cap, cur', rfl, _, hgg, _⟩
  · simp [Value.ownBlock]
  · intro e
    have : g = gL := by simpa [Value.ownBlock] using e
    subst this
    rw [hg] at hgg
    injection hgg with hgg
    injection hgg with _ h2
    exact absurd h2 (by decide)
theorem LR.below {w w' : World} {gL N cL : Nat} {vs : List Value} (h : LR w gL N cL vs) (hb : Below w.heap.size w w') : LR w' gL N cL vs :=
  World.ownsRow.kept h (row := none) ⟨hb.os, hb.tape, hb.output, hb.size, fun k hk _ => hb.block k hk⟩ (.inr (by simp [Value.ownBlock]))
theorem LR.kept' {w w' : World} {gL N cL : Nat} {vs : List Value} {row : Option Nat} (h : LR w gL N cL vs) (hg : w.grownBy w' row) (hne : row ≠ some gL) : LR w' gL N cL vs :=
  World.ownsRow.kept h hg (.inr (by simp only [Value.ownBlock]; exact fun e => hne e.symm))
theorem LR.kept {w w' : World} {gL N cL g : Nat} {vs : List Value} (h : LR w gL N cL vs) (hg : w.grownBy w' (some g)) (hne : g ≠ gL) : LR w' gL N cL vs :=
  World.ownsRow.kept h hg (.inr (by simp [Value.ownBlock]; exact fun e => hne e.symm))

/-- after round k of the first loop -/
def F1 (vs : List Value) (ls : List (List UInt8)) (k : Nat) : Nat → List (Value × List UInt8) := fun j =>
  [(vs.getD j (.slice none 0 0), if j < k then marksB (j + 10) 0 (ls.getD j []).length else ls.getD j [])]
def F1i (vs : List Value) (ls : List (List UInt8)) (k i : Nat) : Nat → List (Value × List UInt8) := fun j =>
  if j = k then [(vs.getD k (.slice none 0 0), marksB (k + 10) 0 i ++ (ls.getD k []).drop i)] else F1 vs ls k j
theorem Fam.one {w : World} {base N j : Nat} {F : Nat → List (Value × List UInt8)} {v : Value} {l : List UInt8} (h : Fam w base N F) (hj : j < N) (hF : F j = [(v, l)]) : OwnB w base v l := h.own j hj (v, l) (by rw [hF]; simp)
theorem F1_at (vs : List Value) (ls : List (List UInt8)) (k : Nat) : F1 vs ls k k = [(vs.getD k (.slice none 0 0), ls.getD k [])] := by simp [F1]
theorem F1i_zero (vs : List Value) (ls : List (List UInt8)) (k : Nat) : F1i vs ls k 0 = F1 vs ls k := by
  funext j
  unfold F1i F1
  by_cases h : j = k
  · subst h; simp [marksB]
  · simp [h]
theorem F1i_end (vs : List Value) (ls : List (List UInt8)) (k : Nat) : F1i vs ls k (ls.getD k []).length = F1 vs ls (k + 1) := by
  funext j
  unfold F1i F1
  by_cases h : j = k
  · subst h; simp [marksB]
  · have : (j < k + 1) ↔ (j < k) := by omega
    simp [h, this]
theorem F1i_at (vs : List Value) (ls : List (List UInt8)) (k i : Nat) : F1i vs ls k i k = [(vs.getD k (.slice none 0 0), marksB (k + 10) 0 i ++ (ls.getD k []).drop i)] := by simp [F1i]
theorem F1i_succ (vs : List Value) (ls : List (List UInt8)) (k i : Nat) (h : i < (ls.getD k []).length) :
    (fun j => if j = k then [(vs.getD k (.slice none 0 0), (marksB (k + 10) 0 i ++ (ls.getD k []).drop i).set i (markB (k + 10) i))] else F1i vs ls k i j) = F1i vs ls k (i + 1) := by
  have hs := over_step (m := k + 10) h
  rw [Nat.zero_add] at hs
  funext j
  by_cases hj : j = k
  · subst hj; simp only [F1i, if_true]; rw [hs]
  · simp only [F1i, hj, if_false]

/-- after round k of the second loop: beside each slice, from 0 to k - 1, what it was gone on with -/
def F2 (vs : List Value) (ls : List (List UInt8)) (Gs : List Value) (k : Nat) : Nat → List (Value × List UInt8) := fun j =>
  if j < k then [(vs.getD j (.slice none 0 0), marksB (j + 10) 0 (ls.getD j []).length), (Gs.getD j (.slice none 0 0), marksB (j + 10) 0 ((ls.getD j []).length + 6))]
  else [(vs.getD j (.slice none 0 0), marksB (j + 10) 0 (ls.getD j []).length)]
def F2i (vs : List Value) (ls : List (List UInt8)) (Gs : List Value) (k : Nat) (g : Value) (i : Nat) : Nat → List (Value × List UInt8) := fun j =>
  if j = k then [(vs.getD k (.slice none 0 0), marksB (k + 10) 0 (ls.getD k []).length), (g, marksB (k + 10) 0 ((ls.getD k []).length + i))] else F2 vs ls Gs k j
theorem F2_start (vs : List Value) (ls : List (List UInt8)) (N : Nat) : ∀ j, j < N → F2 vs ls [] 0 j = F1 vs ls N j := by
  intro j hj
  simp [F1, F2, hj]
theorem F2_at (vs : List Value) (ls : List (List UInt8)) (Gs : List Value) (k : Nat) : F2 vs ls Gs k k = [(vs.getD k (.slice none 0 0), marksB (k + 10) 0 (ls.getD k []).length)] := by simp [F2]
theorem F2i_zero (vs : List Value) (ls : List (List UInt8)) (Gs : List Value) (k : Nat) :
    (fun j => if j = k then [((vs.getD k (.slice none 0 0)), marksB (k + 10) 0 (ls.getD k []).length), ((vs.getD k (.slice none 0 0)), marksB (k + 10) 0 (ls.getD k []).length)] else F2 vs ls Gs k j) = F2i vs ls Gs k (vs.getD k (.slice none 0 0)) 0 := by
  funext j; simp [F2i]
theorem F2i_at (vs : List Value) (ls : List (List UInt8)) (Gs : List Value) (k : Nat) (g : Value) (i : Nat) : F2i vs ls Gs k g i k = [(vs.getD k (.slice none 0 0), marksB (k + 10) 0 (ls.getD k []).length), (g, marksB (k + 10) 0 ((ls.getD k []).length + i))] := by simp [F2i]
theorem F2i_succ (vs : List Value) (ls : List (List UInt8)) (Gs : List Value) (k : Nat) (g g' : Value) (i : Nat) :
    (fun j => if j = k then [(vs.getD k (.slice none 0 0), marksB (k + 10) 0 (ls.getD k []).length), (g', marksB (k + 10) 0 ((ls.getD k []).length + (i + 1)))] else F2i vs ls Gs k g i j) = F2i vs ls Gs k g' (i + 1) := by
  funext j
  by_cases hj : j = k <;> simp [F2i, hj]
theorem F2i_end (vs : List Value) (ls : List (List UInt8)) (Gs : List Value) (k : Nat) (g : Value) (hG : Gs.length = k) : F2i vs ls Gs k g 6 = F2 vs ls (Gs ++ [g]) (k + 1) := by
  funext j
  by_cases hj : j = k
  · subst hj; subst hG; simp [F2i, F2]
  · simp only [F2i, hj, if_false, F2]
    by_cases hjk : j < k
    · have h1 : j < k + 1 := by omega
      have h2 : (Gs ++ [g]).getD j (.slice none 0 0) = Gs.getD j (.slice none 0 0) := by
        rw [List.getD_eq_getElem?_getD, List.getD_eq_getElem?_getD, List.getElem?_append_left (by omega)]
      simp only [hjk, h1, if_true, h2]
    · have h1 : ¬ j < k + 1 := by omega
      simp only [hjk, h1, if_false]
theorem marksB_take (k s n m : Nat) (h : n ≤ m) : marksB k s n = (marksB k s m).take n := by
  simp [marksB, ← List.map_take, List.take_range, Nat.min_eq_left h]

theorem marksB_get {a n i : Nat} (h : i < n) : (marksB a 0 n)[i]? = some (markB a i) := by
  simp [marksB, h]
theorem OwnB.markAt {w : World} {base a n m c i : Nat} {A : Option Addr} (h : OwnB w base (.slice A m c) (marksB a 0 n)) (hi : i < n) :
    ∃ g, A = some ⟨g, 0, none⟩ ∧ w.cell? ⟨g, i, none⟩ = some (.int .u8 ((markB a i).toNat : Int)) := by
  have hm := h.len_eq
  rw [marksB_length] at hm
  obtain ⟨g, rfl, -⟩ := h.form (by omega)
  obtain ⟨x, hx, hc⟩ := h.cellAt (k := i) (by rw [marksB_length]; exact hi)
  rw [marksB_get hi] at hx
  injection hx with hx
  subst hx
  exact ⟨g, rfl, hc⟩
theorem LR.lit (w : World) (cs : Array Value) (n : Nat) (hn : cs.size = n) (h : n ≤ 1000) : LR (w.alloc (.cells cs 27)) w.heap.size n n cs.toList :=
  World.ownsRow_lit w cs n (Nat.zero_le _) (by simp only [maxLen]; omega) (by omega)
theorem LR.name {w : World} {gL N cL : Nat} {vs : List Value} (h : LR w gL N cL vs) : ∃ us, us = vs ∧ LR w gL N cL us := ⟨vs, rfl, h⟩
theorem LR.lt {w : World} {gL N cL : Nat} {vs : List Value} (h : LR w gL N cL vs) : gL < w.heap.size := (World.ownsRow.lt h gL rfl).2

set_option maxRecDepth 100000 in
set_option maxHeartbeats 2000000 in
theorem apartBytes_any (gL N cL base : Nat) (vs : List Value) (ls : List (List UInt8)) (w : World) (hL : LR w gL N cL vs) (hF : Fam w base N (F1 vs ls 0)) (hN : N ≤ 1000) (hbase : base ≤ w.heap.size)
    (hlen : ∀ j, j < N → (ls.getD j []).length ≤ 140737488355320) :
    Calls Try.prog 29 #[.slice (some ⟨gL, 0, none⟩) N cL] w fun e w' => e = .returned (.bool true) ∧ Below base w w' := by
  obtain ⟨i0, hi0, hz0, hz1, hz2⟩ := info_parts u8_info
  obtain ⟨i1, hi1, hy0, hy1, hy2⟩ := info_parts lb_info
  have HL := Lib.hid hlen
  clear hlen
  go_enter Try.func29, Try.ntmps29
  go_wp2
  go_loopw [3] (fun i wr => ∃ k : Nat, k ≤ N ∧ i = .int .i64 k ∧ Fam wr base N (F1 vs ls k) ∧ LR wr gL N cL vs ∧ Below base w wr) (fun i _ => N - (intOf i).toNat)
  case atStart => exact ⟨0, Nat.zero_le _, rfl, hF, hL, Below.refl _ _⟩
  case round =>
    obtain ⟨k, hk, rfl, hFk, hLk, hBk⟩ := hrel
    by_cases hlt : k < N
    · have hcell := hLk.cell hlt
      have hown := hFk.one hlt (F1_at vs ls k)
      obtain ⟨A, n, c, hv, hn, -⟩ := hown.shape
      have hnb : n ≤ 140737488355320 := by rw [hn.out]; exact HL.out k hlt
      rw [hv] at hcell
      have HV := Lib.hid hv
      clear hv hown
      obtain ⟨wo, rfl⟩ : ∃ wo : World, wo = wr := ⟨_, rfl⟩
      go_wp2
      go_loopw [4] (fun i wr => ∃ q : Nat, q ≤ n ∧ i = .int .i64 q ∧ Fam wr base N (F1i vs ls k q) ∧ LR wr gL N cL vs ∧ Below base w wr) (fun i _ => n - (intOf i).toNat)
      case atStart => exact ⟨0, Nat.zero_le _, rfl, by rw [F1i_zero]; exact hFk, hLk, hBk⟩
      case round =>
        obtain ⟨q, hq, rfl, hFq, hLq, hBq⟩ := hrel
        have hcellq := hLq.cell hlt
        rw [HV.out] at hcellq
        clear hcell
        by_cases hlq : q < n
        · have hFk' := F1i_at vs ls k q
          rw [HV.out] at hFk'
          have hown := hFq.one hlt hFk'
          obtain ⟨g, rfl, hbg, hgs⟩ := hown.form (by omega)
          obtain ⟨x, -, hcb⟩ := hown.cellAt (k := q) (by have := hn.out; simp only [List.length_append, marksB_length, List.length_drop]; omega)
          have hfr := hown.frozenAt q
          have hst := hFq.store hlt hFk' q (markB (k + 10) q)
          have hgr := (hown.stored q (markB (k + 10) q)).2
          have hne : g ≠ gL := fun e => hLq.ne hown (by rw [e]; rfl)
          have HFK := Lib.hid hFk'
          clear hFk'
          go_wp2
          have hw1 : IntKind.i64.wrap ((k : Int) + 10) = (k : Int) + 10 := IntWalk.i64_in _ (by omega)
          go_still_tail 10, (by kernel_rfl)
          clear hw1
          still_call ((markB_at (a := (k : Int) + 10) (k + 10) q (by omega) rfl _ (by omega) (by omega)).mono fun _ _ h => ⟨h.1, h.2.symm⟩)
          repeat still_step
          refine wpStill_nil ?_
          go_wp2
          go_roundw
          case rel =>
            refine ⟨q + 1, by omega, by go_num, ?_, hLq.kept (grownBy_drew hgr) hne, (hBq.grown (grownBy_drew hgr) (by have := hBq.size; omega) (fun g' h => by injection h with h; omega))⟩
            have e := F1i_succ vs ls k q (by have := hn.out; omega)
            rw [HV.out] at e
            rw [← e]
            exact hst.drew
          case measure => simp [intOf]; omega
        · have hqn : q = n := by omega
          subst hqn
          go_wp2
          go_roundw
          case rel => exact ⟨k + 1, by omega, by go_num, by rw [← F1i_end, ← hn.out]; exact hFq, hLq, hBq⟩
          case measure => simp [intOf]; omega
    · have hkN : N = k := by omega
      subst hkN
      go_wp2
      go_loopw [5, 6] (fun v i wr => ∃ (k : Nat) (Gs : List Value), k ≤ N ∧ i = .int .i64 k ∧ Hid (Gs.length = k) ∧ Fam wr base N (F2 vs ls Gs k) ∧ LR wr gL N cL vs ∧ wr.ownsRow w.heap.size 27 1 v k Gs ∧ Below base w wr) (fun _ i _ => N - (intOf i).toNat)
      case atStart => exact ⟨0, [], Nat.zero_le _, rfl, rfl, hFk.congr (F2_start vs ls N), hLk, World.ownsRow_nil _ _ _ _, hBk⟩
      case round =>
        clear hFk hLk hBk
        obtain ⟨k, Gs, hk, rfl, hGs, hFk, hLk, hGk, hBk⟩ := hrel
        by_cases hlt : k < N
        · have hcell := hLk.cell hlt
          have hFa := F2_at vs ls Gs k
          have hown := hFk.one hlt hFa
          obtain ⟨A, n, c, hv, hn, -⟩ := hown.shape
          rw [marksB_length] at hn
          have hnb : n ≤ 140737488355320 := by rw [hn.out]; exact HL.out k hlt
          have hd := hFk.dup hFa
          rw [F2i_zero] at hd
          rw [hv] at hcell hd
          have HV := Lib.hid hv
          clear hv hown hFa
          obtain ⟨wo, rfl⟩ : ∃ wo : World, wo = wr := ⟨_, rfl⟩
          go_wp2
          go_loopw [7, 8] (fun v i wr => ∃ q : Nat, q ≤ 6 ∧ i = .int .i64 q ∧ Fam wr base N (F2i vs ls Gs k v q) ∧ LR wr gL N cL vs ∧ wr.ownsRow w.heap.size 27 1 u5 k Gs ∧ Below base w wr) (fun _ i _ => 6 - (intOf i).toNat)
          case atStart => exact ⟨0, Nat.zero_le _, rfl, hd, hLk, hGk, hBk⟩
          case round =>
            clear hFk hLk hGk hBk hcell hd
            obtain ⟨q, hq, rfl, hFq, hLq, hGq, hBq⟩ := hrel
            have hcell := hLq.cell hlt
            rw [HV.out] at hcell
            by_cases hlq : q < 6
            · have hFa := F2i_at vs ls Gs k u7 q
              have ho7 : OwnB wr base u7 (marksB (k + 10) 0 (n + q)) := hFq.own k hlt (u7, _) (by rw [hFa, hn.out]; exact List.mem_cons_of_mem _ (List.mem_singleton.2 rfl))
              have hbs : base ≤ wr.heap.size := by have := hBq.size; omega
              have ho7r : (wr.alloc (.cells #[vb (markB (k + 10) (n + q))] 5)).ownsRow base 5 1 u7 (n + q) ((marksB (k + 10) 0 (n + q)).map vb) := by
                have := ho7.alloc (.cells #[vb (markB (k + 10) (n + q))] 5)
                unfold OwnB at this
                rwa [marksB_length] at this
              have HFA := Lib.hid hFa
              clear hFa
              go_wp2_with (first | (go_at_call 49; refine (markB_at (a := (k : Int) + 10) (b := (n : Int) + q) (k + 10) (n + q) (by omega) (by omega) _ (by omega) (by omega)).mono ?_; rintro e w2 ⟨rfl, rfl⟩) | (at_builtin; refine wpList_append_two _ rfl (.tmp 50) (.tmp 61) 27 rfl base 5 i0 (.int .u8 0) 1 Try.underlying27 hi0 hz0 hz1 hz2 rfl _ _ _ rfl ho7r ⟨wr.heap.size, 0, none⟩ 1 1 [vb (markB (k + 10) (n + q))] rfl (by omega) rfl (cell_one_new _ _ _) (by simp [Value.oneCell']) (by simp only [maxLen]; omega) (by omega) (by simp; omega) ?_; intro v2 w2 ho2 hcase))
              have ho3 := OwnB.of_mark ho2
              have hgr := two_grown hcase
              have hF3 := (hFq.alloc (.cells #[vb (markB (k + 10) (n + q))] 5)).append hlt HFA.out (by rw [marksB_length, marksB_length]; omega) (by rw [marksB_length]; exact marksB_take _ _ _ _ (by omega)) (by rw [marksB_length, ← hn.out]; exact marksB_take _ _ _ _ (by omega)) ho3 hcase
              have hL3 := LR.kept' (World.ownsRow.alloc hLq (.cells #[vb (markB (k + 10) (n + q))] 5)) hgr (hLq.ne ho7)
              have hG3 := (hGq.alloc (.cells #[vb (markB (k + 10) (n + q))] 5)).kept hgr (rows_ne hGq ho7 (by decide))
              have hB3 := (hBq.alloc hbs (.cells #[vb (markB (k + 10) (n + q))] 5)).grown hgr (by simp; omega) (fun g e => (ho7.lt g e).1)
              go_roundw
              case rel =>
                refine ⟨q + 1, by omega, by go_num, ?_, hL3, hG3, hB3⟩
                rw [← F2i_succ, ← hn.out, ← Nat.add_assoc]
                rw [← hn.out] at hF3
                exact hF3
              case measure => simp [intOf]; omega
            · have hq6 : q = 6 := by omega
              subst hq6
              clear hcell
              have hbs : w.heap.size ≤ wr.heap.size := hBq.size
              have ho7 : OwnB wr base u7 (marksB (k + 10) 0 (n + 6)) := hFq.own k hlt (u7, _) (by rw [F2i_at, hn.out]; exact List.mem_cons_of_mem _ (List.mem_singleton.2 rfl))
              obtain ⟨A7, n7, c7, rfl, -⟩ := ho7.shape
              have hgn : Gs.length ≤ 1000 := by have := hGs.out; omega
              rw [F2i_end _ _ _ _ _ hGs.out] at hFq
              go_wp2_with (at_builtin; refine wpList_append_own _ rfl (.tmp 63) (.tmp 65) 48 rfl w.heap.size 27 i1 (.slice none 0 0) 1 24 Try.underlying48 hi1 hy0 hy1 hy2 rfl (by decide) _ _ _ rfl (hGq.alloc _) ⟨wr.heap.size, 0, none⟩ 1 1 [.slice A7 n7 c7] rfl rfl (cell_one_new _ _ _) (by simp [Value.oneCell']) (by simp only [maxLen]; omega) (by omega) (by simp; omega) ?_; intro v2 w2 ho2 hgr hnil)
              have hgL := hL.lt
              have hF3 := (hFq.alloc (.cells #[.slice A7 n7 c7] 27)).kept hgr (fun j hj p hp => rows_ne (hFq.own j hj p hp) hGq (by decide))
              have hL3 := LR.kept' (World.ownsRow.alloc hLq (.cells #[.slice A7 n7 c7] 27)) hgr (fun e => by have := (hGq.lt _ e).1; omega)
              have hB3 := (hBq.alloc (by omega) (.cells #[.slice A7 n7 c7] 27)).grown hgr (by simp; omega) (fun g e => by have := (hGq.lt g e).1; omega)
              go_roundw
              case rel => exact ⟨k + 1, Gs ++ [.slice A7 n7 c7], by omega, by go_num, by rw [List.length_append, hGs.out]; rfl, hF3, hL3, ho2, hB3⟩
              case measure => simp [intOf]; omega
        · have hkN : N = k := by omega
          subst hkN
          obtain ⟨w3, rfl⟩ : ∃ w3 : World, w3 = wr := ⟨_, rfl⟩
          go_wp2
          go_loopw [9] (fun i wr => ∃ k q : Nat, k ≤ N ∧ i = .int .i64 k ∧ wr = w3.drewN q) (fun i _ => N - (intOf i).toNat)
          case atStart => exact ⟨0, 0, Nat.zero_le _, rfl, rfl⟩
          case round =>
            obtain ⟨k, q, hk, rfl, rfl⟩ := hrel
            by_cases hlt : k < N
            · obtain ⟨gG, cG, rfl, hgG, -⟩ := World.ownsRow.form hGk (by omega)
              have hkG : k < Gs.length := by have := hGs.out; omega
              have hcG : w3.cell? ⟨gG, k, none⟩ = some Gs[k] := by rw [World.ownsRow.cellAt hGk k (by omega), List.getElem?_eq_getElem hkG]
              have hcell := hLk.cell hlt
              have hFa : F2 vs ls Gs N k = [(vs.getD k (.slice none 0 0), marksB (k + 10) 0 (ls.getD k []).length), (Gs[k], marksB (k + 10) 0 ((ls.getD k []).length + 6))] := by
                simp only [F2, hlt, if_true]
                rw [List.getD_eq_getElem?_getD (l := Gs), List.getElem?_eq_getElem hkG]
                rfl
              have hoV := hFk.own k hlt (vs.getD k (.slice none 0 0), _) (by rw [hFa]; exact List.mem_cons_self)
              have hoG := hFk.own k hlt (Gs[k], _) (by rw [hFa]; exact List.mem_cons_of_mem _ (List.mem_singleton.2 rfl))
              simp only at hoV hoG
              obtain ⟨A, n, c, hv, hn, -⟩ := hoV.shape
              obtain ⟨A', n', c', hv', hn', -⟩ := hoG.shape
              have hnb : n ≤ 140737488355320 := by rw [hn.out, marksB_length]; exact HL.out k hlt
              have hnn : n' = n + 6 := by rw [hn.out, hn'.out, marksB_length, marksB_length]
              have hlen := hn.out
              rw [marksB_length] at hlen
              rw [← hlen, hv] at hoV
              rw [← hlen, hv'] at hoG
              rw [hv] at hcell
              rw [hv'] at hcG
              subst hnn
              clear hv hv' hn hn' hlen hFa
              go_wp2
              go_loopw [10] (fun i wr => ∃ t q : Nat, t ≤ n + 6 ∧ i = .int .i64 t ∧ wr = w3.drewN q) (fun i _ => n + 6 - (intOf i).toNat)
              case atStart => exact ⟨0, q, Nat.zero_le _, rfl, rfl⟩
              case round =>
                obtain ⟨t, q', ht, rfl, rfl⟩ := hrel
                by_cases hlt' : t < n + 6
                · obtain ⟨g', rfl, hcg'⟩ := hoG.markAt hlt'
                  have hw1 : IntKind.i64.wrap ((k : Int) + 10) = (k : Int) + 10 := IntWalk.i64_in _ (by omega)
                  have hb1 : (((markB (k + 10) t).toNat : Int) != ((markB (k + 10) t).toNat : Int)) = false := by simp
                  by_cases hln : t < n
                  · obtain ⟨g, rfl, hcg⟩ := hoV.markAt hln
                    have hb2 : decide ((t : Int) < n) = true := by simp; omega
                    go_wp2
                    go_quiet ((go_at_call 49; exact quiet_add_left ((markB_at (a := (k : Int) + 10) (k + 10) t (by omega) rfl _ (by omega) (by omega)))))
                    go_wp2
                    go_roundw
                    case rel => exact ⟨t + 1, q' + nq, by omega, by go_num, by simp⟩
                    case measure => simp [intOf]; omega
                  · have hb2 : decide ((t : Int) < n) = false := by simp; omega
                    go_wp2
                    go_quiet ((go_at_call 49; exact quiet_add_left ((markB_at (a := (k : Int) + 10) (k + 10) t (by omega) rfl _ (by omega) (by omega)))))
                    go_wp2
                    go_roundw
                    case rel => exact ⟨t + 1, q' + nq, by omega, by go_num, by simp⟩
                    case measure => simp [intOf]; omega
                · go_wp2
                  go_roundw
                  case rel => exact ⟨k + 1, q', by omega, by go_num, rfl⟩
                  case measure => simp [intOf]; omega
            · go_wp2
              go_ret
              exact ⟨rfl, bdrewN hBk q⟩

theorem Hp.fam {w : World} {base : Nat} {ps : List (Value × List UInt8)} (h : Hp w base ps) : Fam w base ps.length (F1 (ps.map (·.1)) (ps.map (·.2)) 0) := by
  have key : ∀ j, j < ps.length → ∃ p, ps[j]? = some p ∧ F1 (ps.map (·.1)) (ps.map (·.2)) 0 j = [p] := by
    intro j hj
    refine ⟨ps[j], List.getElem?_eq_getElem hj, ?_⟩
    simp [F1, List.getElem?_eq_getElem hj]
  refine ⟨fun j hj p hp => ?_, fun i j hi hj hij p hp q hq => ?_⟩
  · obtain ⟨r, hr, e⟩ := key j hj
    rw [e] at hp
    rw [List.mem_singleton.1 hp]
    exact h.own j r hr
  · obtain ⟨r, hr, e⟩ := key i hi
    obtain ⟨t, ht, e'⟩ := key j hj
    rw [e] at hp
    rw [e'] at hq
    rw [List.mem_singleton.1 hp, List.mem_singleton.1 hq]
    exact h.apart i j r t hij hr ht

/-- ApartBytes at a list just written out of slices of the call's own. -/
theorem apartBytes_lit {w0 w : World} {ps : List (Value × List UInt8)} (h : OSt w0 w ps) (qs : List (Value × List UInt8)) (is : List Nat) (hn : is.Nodup) (hq : qs.map some = is.map fun i => ps[i]?) (n : Nat) (hN : qs.length = n) (hN' : n ≤ 1000)
    (hlen : ∀ p ∈ qs, p.2.length ≤ 140737488355320) (cs : Array Value) (hcs : cs = (qs.map (·.1)).toArray) :
    Calls Try.prog 29 #[.slice (some ⟨w.heap.size, 0, none⟩) n n] (w.alloc (.cells cs 27)) fun e w' => e = .returned (.bool true) ∧ Below w0.heap.size w0 w' := by
  subst hN hcs
  have hsz := h.low.size
  have hL : LR (w.alloc (.cells (qs.map (·.1)).toArray 27)) w.heap.size qs.length qs.length (qs.map (·.1)) := by
    have := World.ownsRow_lit (base := 0) (e := 27) (size := 1) w (qs.map (·.1)).toArray qs.length (Nat.zero_le _) (by simp only [maxLen]; omega) (by simp)
    simpa [LR] using this
  have h1 := h.call ((Below.refl _ _).alloc (Nat.le_refl _) (.cells (qs.map (·.1)).toArray 27))
  have hF := (h1.hp.sel is hn hq).fam
  refine (apartBytes_any w.heap.size qs.length qs.length w0.heap.size _ _ _ hL hF hN' (by simp; omega) ?_).mono fun e w' he => ⟨he.1, h1.low.trans he.2⟩
  intro j hj
  rw [List.getD_eq_getElem?_getD, List.getElem?_map, List.getElem?_eq_getElem hj]
  exact hlen _ (List.getElem_mem hj)

theorem apartBytes_list {w0 w : World} {ps : List (Value × List UInt8)} (h : OSt w0 w ps) (qs : List (Value × List UInt8)) (is : List Nat) (hn : is.Nodup) (hq : qs.map some = is.map fun i => ps[i]?) (n gL cL : Nat) (vs : List Value) (hL : LR w gL n cL vs)
    (hvs : vs = qs.map (·.1)) (hN : qs.length = n) (hN' : n ≤ 1000) (hlen : ∀ p ∈ qs, p.2.length ≤ 140737488355320) :
    Calls Try.prog 29 #[.slice (some ⟨gL, 0, none⟩) n cL] w fun e w' => e = .returned (.bool true) ∧ Below w0.heap.size w0 w' := by
  subst hN hvs
  have hF := (h.hp.sel is hn hq).fam
  refine (apartBytes_any gL qs.length cL w0.heap.size _ _ _ hL hF hN' h.low.size ?_).mono fun e w' he => ⟨he.1, h.low.trans he.2⟩
  intro j hj
  rw [List.getD_eq_getElem?_getD, List.getElem?_map, List.getElem?_eq_getElem hj]
  exact hlen _ (List.getElem_mem hj)
end Go.Proofs.Ytgjlclihgpahbaa

namespace Go.Proofs.Ytgjlclihgpahbaa
open Go
section
variable {P : Program} {l : List Oper} {Q : Exit → Act → World → Prop} {md : Region.Mode} {S : World → Prop} {o : Oper} {rest : List Oper} {fuel : Nat} {listed : Array Bool} {a : Act} {w : World}

theorem drop_at {i : Nat} (h : l.drop i = o :: rest) : l.toArray[i]? = some o := by
  have h2 := congrArg (fun m => m[0]?) h
  simp only [List.getElem?_drop, Nat.add_zero, List.getElem?_cons_zero] at h2
  simpa using h2
/-- a load of a whole array -/
theorem take_load {ty : TypeId} {x : Operand} {d : TypeDesc} (i g : Nat) (cs : List Value) (hS : ∀ w, S w → w.rangeAt g 0 cs) (hu : P.underlying ty = some d) (hl : (P.info? ty).map (·.size) = some cs.length)
    (hi : l.drop i = o :: rest) (hs : Region.noSelect l.toArray = true) (hf : Region.free md l.toArray listed i = true) (hr : (Region.ready md l.toArray listed).contains i = true)
    (hQ : ∀ c a w, Q (.panic c) (a.put o.dst (.agg cs.toArray)) w → Q (.panic c) a w) (hd : d.isRow = true) (hw : Region.wanted o (yielded l.toArray a.tmps) = true)
    (ho : o.op = .load ty x) (hx : a.eval x = .pointer (some ⟨g, 0, none⟩)) (hSw : S w)
    (h : wpAnyH P md l.toArray Q S fuel (listed.setIfInBounds i true) (a.put o.dst (.agg cs.toArray)) w) : wpAnyH P md l.toArray Q S (fuel + 1) listed a w :=
  wpAnyH_take (drop_at hi) hs hf hr hQ (yieldsIf_load_mid hw ty x ho g 0 hx cs d hS hu hd hl) hSw h
/-- an operation that reads nothing -/
theorem take_pure (i : Nat) (v : Value) (hi : l.drop i = o :: rest) (hs : Region.noSelect l.toArray = true) (hf : Region.free md l.toArray listed i = true) (hr : (Region.ready md l.toArray listed).contains i = true)
    (hQ : ∀ c a w, Q (.panic c) (a.put o.dst v) w → Q (.panic c) a w) (hw : Region.wanted o (yielded l.toArray a.tmps) = true) (hv : ∀ w, S w → (execOp a.eval o).run P w = .ok (.value v) w) (hSw : S w)
    (h : wpAnyH P md l.toArray Q S fuel (listed.setIfInBounds i true) (a.put o.dst v) w) : wpAnyH P md l.toArray Q S (fuel + 1) listed a w :=
  wpAnyH_take (drop_at hi) hs hf hr hQ (.inl ⟨hw, hv⟩) hSw h
/-- one alone may come up -/
theorem take_call (i : Nat) (hi : l.drop i = o :: rest) (hr : Region.ready md l.toArray listed = [i])
    (h : ∀ K' : Act → World → Prop, Shut (∀ a w, S w → (S w → wpAnyH P md l.toArray Q S fuel (listed.setIfInBounds i true) a w) → K' a w) → if Region.wanted o (yielded l.toArray a.tmps) = true then Oper.wp P o a w K' Q else K' (a.put o.dst undef) w) :
    wpAnyH P md l.toArray Q S (fuel + 1) listed a w :=
  wpAnyH_ready hr (by simp) (AllReadyH.cons (drop_at hi) h AllReadyH.nil)
end
end Go.Proofs.Ytgjlclihgpahbaa

namespace Go.Proofs.Ytgjlclihgpahbaa
open Go.RowKit
set_option linter.unusedVariables false

theorem St.rows_ne {w0 w : World} {F0 : List Nat} {E : Env} {e e' : TypeId} {s s' n n' : Nat} {v v' : Value} {xs xs' : List Value} (H : St w0 F0 w E) (i j : Nat) (hij : i ≠ j) (hi : E i = some (.row e s v n xs)) (hj : E j = some (.row e' s' v' n' xs')) : v.ownBlock = none ∨ v.ownBlock ≠ v'.ownBlock := by
  obtain ⟨F, ⟨-, e1⟩, -, hd, -⟩ := H.change i hi
  obtain ⟨G, ⟨-, e2⟩, hd'⟩ := hd j _ (fun e => hij e.symm) hj
  cases hv : v.ownBlock with
  | none => exact .inl rfl
  | some g =>
    refine .inr fun h => ?_
    exact hd' g (by rw [e2, ← h]; simp) (by rw [e1, hv]; simp)

theorem St.hp {w0 w : World} {E : Env} (H : St w0 [] w E) (ps : List (Value × List UInt8)) (f : Nat → Nat) (hf : ∀ i j, i < ps.length → j < ps.length → f i = f j → i = j) (h : ∀ i p, ps[i]? = some p → E (f i) = some (.row 5 1 p.1 p.2.length (p.2.map vb))) : Hp w w0.heap.size ps := by
  refine ⟨fun i p hp => H.ownRow (f i) (h i p hp), fun i j p q hij hp hq => ?_⟩
  have li := (List.getElem?_eq_some_iff.1 hp).1
  have lj := (List.getElem?_eq_some_iff.1 hq).1
  exact H.rows_ne (f i) (f j) (fun e => hij (hf i j li lj e)) (h i p hp) (h j q hq)

theorem apart_st {w0 w : World} {E : Env} (H : St w0 [] w E) (ps : List (Value × List UInt8)) (f : Nat → Nat) (hf : ∀ i j, i < ps.length → j < ps.length → f i = f j → i = j) (h : ∀ i p, ps[i]? = some p → E (f i) = some (.row 5 1 p.1 p.2.length (p.2.map vb)))
    (n : Nat) (hN : ps.length = n) (hN' : n ≤ 1000) (hlen : ∀ p ∈ ps, p.2.length ≤ 140737488355320) (cs : Array Value) (hcs : cs = (ps.map (·.1)).toArray) :
    Calls Try.prog 29 #[.slice (some ⟨w.heap.size, 0, none⟩) n n] (w.alloc (.cells cs 27)) fun e w' => e = .returned (.bool true) ∧ Below w0.heap.size w0 w' := by
  subst hN hcs
  have hsz := H.low.size
  have hL : LR (w.alloc (.cells (ps.map (·.1)).toArray 27)) w.heap.size ps.length ps.length (ps.map (·.1)) := by
    have := World.ownsRow_lit (base := 0) (e := 27) (size := 1) w (ps.map (·.1)).toArray ps.length (Nat.zero_le _) (by simp only [maxLen]; omega) (by simp)
    simpa [LR] using this
  have h1 := H.call ((Below.refl _ _).alloc (Nat.le_refl _) (.cells (ps.map (·.1)).toArray 27))
  have hF := (h1.hp ps f hf h).fam
  refine (apartBytes_any w.heap.size ps.length ps.length w0.heap.size _ _ _ hL hF hN' (by simp; omega) ?_).mono fun e w' he => ⟨he.1, h1.below.trans he.2⟩
  intro j hj
  rw [List.getD_eq_getElem?_getD, List.getElem?_map, List.getElem?_eq_getElem hj]
  exact hlen _ (List.getElem_mem hj)

theorem over_st {w0 w : World} {F0 : List Nat} {E : Env} {g n c : Nat} {l : List UInt8} (H : St w0 F0 w E) (i : Nat) (hi : E i = some (.row 5 1 (.slice (some ⟨g, 0, none⟩) n c) n (l.map vb))) (hn : n ≤ 140737488355328) :
    Calls Try.prog 39 #[.slice (some ⟨g, 0, none⟩) n c] w fun e w' => e = .returned (.tuple #[]) ∧ St w0 F0 w' (upd E i (.row 5 1 (.slice (some ⟨g, 0, none⟩) n c) n ((marksB 9 0 n).map vb))) := by
  have hr := H.row i hi
  have hl : n = l.length := by have := hr.1; simp at this; omega
  have ho : OwnB w 0 (.slice (some ⟨g, 0, none⟩) n c) l := by unfold OwnB; rw [← hl]; exact hr
  refine (overBytes_any 0 g c n l w ho hl hn).mono ?_
  rintro e w' ⟨rfl, ho', hg⟩
  refine ⟨rfl, H.grow i hi ?_ hg (.inl rfl)⟩
  unfold OwnB at ho'
  rw [marksB_length] at ho'
  exact ho'

end Go.Proofs.Ytgjlclihgpahbaa

namespace Go.Proofs.Ytgjlclihgpahbaa
open Go.RowKit
set_option linter.unusedVariables false
set_option maxRecDepth 100000

attribute [local irreducible] permB kBytes kPerm kFrom

theorem xor8v (a b : UInt8) : bits .xor .u8 (a.toNat : Int) (b.toNat : Int) = ((a ^^^ b).toNat : Int) := by
  rw [u8_xor_nat _ _ a.toNat_lt b.toNat_lt, UInt8.toNat_xor]

section
variable {w0 w : World} {F0 : List Nat} {E : Env}

set_option maxHeartbeats 2000000 in
theorem spWrite_s (l : Value) (r : Option (List RunT)) (m : Nat) (b : Int) (g : Nat) (x : Sp) (A : Option Addr) (n c : Nat) (q : List UInt8) (H : St w0 F0 w E) (i j : Nat) (hij : i ≠ j) (hi : E i = some (led l r)) (hj : E j = some (.blk g 71 x.vs)) (hg : LW r m b) (hm : m ≤ 999999999999) (hb : b ≤ 4000000000000000000) (hx : x.Ok) (hs : x.s = false)
    (hR : ∀ w' X Y, St w0 F0 w' (upd (upd E i X) j Y) → Rd w' 1 A n (q.map vb)) (hn : n ≤ 281474976710656) :
    Calls Try.prog 14 #[lptr g, l, .slice A n c] w fun e w' => e = .returned (.int .i64 0) ∧ St w0 F0 w' (upd (upd E i (led l (noteN r 3 200 ((x.p + n) / x.r)))) j (.blk g 71 (x.write q).vs)) := by
  have hl : q.length = n := by have h := (hR w _ _ (by rw [upd_id hi, upd_id hj]; exact H)).1; simpa using h
  obtain ⟨F, HF, -, -, hback⟩ := H.frame2 i j hij hi hj
  have HB := Lib.hid hback
  have HR : Hid (∀ w' X Y, St w F w' (lay [X, Y]) → Rd w' 1 A n (q.map vb)) := fun w' X Y h => hR w' X Y (hback w' X Y (h.to2 rfl rfl))
  replace HF := HF.as2
  have HL := Lib.hid hl
  clear H hback hR hl
  obtain ⟨k1, k2, k3, k4⟩ := Sp.cells hx.hb
  have h8 := hx.r8
  have h192 := hx.r192
  have hop := hx.op hs
  have c0 := HF.cell 1 rfl k1
  have c3 := HF.cell 1 rfl k4
  rw [hs] at c3
  have HO := Lib.hid hx
  have HS := Lib.hid hs
  have HG := Lib.hid hg
  clear k1 k2 k3 k4 hx hs hg
  go_enter Try.func14, Try.ntmps14
  go_wp2_with fail
  refine (spNone_no g x.r w c0 (by omega)).mono ?_
  rintro e w1 ⟨rfl, rfl⟩
  unfold lptr
  go_wp2
  clear c0 c3
  go_loopw [19] (fun i wr => ∃ k : Nat, k ≤ n ∧ i = .int .i64 k ∧ St w F wr (lay [led l (noteN r 3 200 ((x.p + k) / x.r)), .blk g 71 (x.write (q.take k)).vs])) (fun i _ => n - (intOf i).toNat)
  case atStart => exact ⟨0, Nat.zero_le _, rfl, by rw [Nat.add_zero, Nat.div_eq_of_lt hop, noteN_zero, List.take_zero, Sp.write_nil]; exact HF⟩
  case round =>
    clear HF
    obtain ⟨k, hk, rfl, HF⟩ := hrel
    by_cases hlt : k < n
    · obtain ⟨v, hv⟩ : ∃ v, q[k]? = some v := ⟨_, List.getElem?_eq_getElem (by rw [HL.out]; exact hlt)⟩
      have hok := Sp.write_ok (q.take k) HO.out hop
      have hrr := Sp.write_r (q.take k) x
      have hpp := Sp.write_p (q.take k) hop
      have HN := Lib.hid (x.write_succ hv)
      rw [List.length_take, HL.out, Nat.min_eq_left hk] at hpp
      have HC := Lib.hid (count_succ x.p x.r k (by omega))
      obtain ⟨p, o, rfl, -, hcx⟩ := (HR.out _ _ _ HF).flat (by omega) (by omega)
      have a0 := hcx k (vb v) (by rw [List.getElem?_map, hv]; rfl)
      clear hcx hv
      generalize hy : x.write (q.take k) = y at HF hok hrr hpp HN
      clear hy
      obtain ⟨hy1, hy2⟩ := hok
      have HRR := Lib.hid hrr
      have HPP := Lib.hid hpp
      have hy192 : y.r ≤ 192 := hy1.r192
      clear hrr hpp
      obtain ⟨k1, k2, k3, k4⟩ := Sp.cells hy1.hb
      have b0 := HF.cell 1 rfl k1
      have b2 := HF.cell 1 rfl k3
      obtain ⟨u, hu⟩ : ∃ u, y.b.getD y.p 0 = u := ⟨_, rfl⟩
      have b3 := HF.cell 1 rfl (o := y.p) (sp_at y.b _ hy1.hb (by omega))
      rw [hu] at b3
      have HU := Lib.hid hu
      clear hu
      have f3 := HF.free 1 rfl y.p
      have hk1 : (k : Int) < n := by omega
      have hp1 : (y.p : Int) < 200 := by omega
      have hp2 : y.p < 200 := by omega
      have hp3 : y.p + 1 ≤ 200 := by omega
      go_wp2
      refine region_quiet_tail 14 (by kernel_rfl) (by kernel_rfl) ?_
      simp only [List.take_succ_cons, List.take_zero, List.drop_succ_cons, List.drop_zero]
      repeat (go_big_quiet_step (fail))
      refine wpQuiet_nil ?_
      intro nq
      rw [xor8v]
      go_upto_region 9 with (fail)
      have hD := ((HF.drewN nq).store 1 rfl (o := y.p) (u := vb (u ^^^ v))).upd_mk (by simp)
      unfold Sp.vs at hD
      rw [sp_set _ _ _ hy1.hb (by omega), show y.b.set y.p (u ^^^ v) = xorAt y.b y.p v by unfold xorAt; rw [HU.out]] at hD
      refine absorb_wp hD ?_
      clear hD HF b0 b2 b3 f3 a0 HU
      intro w4 H4
      have hL : Hid ((xorAt y.b y.p v).length = 200) := by unfold Hid; rw [xorAt_length, hy1.hb]
      have HQ : Hid ((⟨xorAt y.b y.p v, y.r, y.f, y.p + 1, y.s⟩ : Sp) = y.lay v) := by unfold Hid; rfl
      have HYB := Lib.hid hy1
      clear hy1
      generalize xorAt y.b y.p v = Bx at H4 hL HQ
      have c2 := H4.cell 1 rfl (o := 202) ((sp_get Bx _ 2 hL.out rfl).trans rfl)
      have f2 := H4.free 1 rfl 202
      go_upto_region 10 with (fail)
      have hD := (H4.store 1 rfl (o := 202) (u := .int .i64 ((y.p + 1 : Nat) : Int))).upd_mk (by simp)
      rw [sp_put Bx _ 2 _ hL.out rfl, Int.natCast_add] at hD
      refine absorb_wp hD ?_
      clear hD H4 c2 f2
      intro w5 H5
      rw [show ((y.p : Int) + ((1 : Nat) : Int)) = ((y.p + 1 : Nat) : Int) by rw [Int.natCast_add]] at H5
      replace H5 : St w F w5 (lay [led l (noteN r 3 200 ((x.p + k) / x.r)), .blk g 71 (⟨Bx, y.r, y.f, y.p + 1, y.s⟩ : Sp).vs]) := H5
      rw [HQ.out] at H5
      clear k1 k2 k3 k4
      have hzb : (y.lay v).b.length = 200 := by rw [← HQ.out]; exact hL.out
      obtain ⟨k1, -, k3, -⟩ := Sp.cells hzb
      have b0 : w5.cell? ⟨g, 200, none⟩ = some (.int .i64 y.r) := H5.cell 1 rfl k1
      have b2 := H5.cell 1 rfl (o := 202) (u := .int .i64 ((y.p : Int) + 1)) (by rw [k3, ← HQ.out]; simp)
      clear k1 k3 HQ hL
      have HZ := Lib.hid hzb
      clear hzb
      have HC2 : Hid ((x.p + (k + 1)) / x.r = (x.p + k) / x.r + if y.p + 1 = y.r then 1 else 0) := by unfold Hid; rw [HPP.out, HRR.out.1]; exact HC.out
      by_cases he : y.p + 1 = y.r
      · have he1 : ((y.p : Int) + 1 == (y.r : Int)) = true := by simp; omega
        have HP : Hid (y.put v = (y.lay v).perm) := Sp.put_yes v he
        have HCC : Hid ((x.p + (k + 1)) / x.r = (x.p + k) / x.r + 1) := by have h := HC2.out; rw [if_pos he] at h; exact h
        have hcnt : (x.p + k) / x.r ≤ 281474976710856 := Nat.le_trans (Nat.div_le_self _ _) (by omega)
        clear he HC HC2
        go_quiet (fail)
        go_wp2_with fail
        refine (spPermute_s l _ (m + 1) (b + ((x.p + k) / x.r : Nat)) g (y.lay v) (H5.drewN nq) 0 1 (by omega) rfl rfl (HG.out.noteN 3 200 _) (by omega) (by omega) HZ.out).mono ?_
        rintro e w6 ⟨rfl, H6⟩
        rw [upd_laid (by simp), upd_laid (by simp), noteN_noteN, ← HCC.out, ← HP.out, ← HN.out] at H6
        go_wp2
        go_roundw
        case rel => exact ⟨k + 1, by omega, by go_num, H6⟩
        case measure => simp [intOf]; omega
      · have he1 : ((y.p : Int) + 1 == (y.r : Int)) = false := by simp; omega
        have HP : Hid (y.put v = y.lay v) := Sp.put_no v he
        have HCC : Hid ((x.p + (k + 1)) / x.r = (x.p + k) / x.r) := by have h := HC2.out; rw [if_neg he] at h; exact h
        clear he HC HC2
        go_quiet (fail)
        go_wp2
        go_roundw
        case rel => exact ⟨k + 1, by omega, by go_num, by rw [HCC.out, HN.out, HP.out]; exact H5.drewN _⟩
        case measure => simp [intOf]; omega
    · obtain rfl : n = k := by omega
      go_wp2
      go_ret
      exact ⟨rfl, by rw [List.take_of_length_le (by rw [HL.out]; omega)] at HF; exact HB.out _ _ _ (HF.to2 rfl rfl)⟩

end

end Go.Proofs.Ytgjlclihgpahbaa

namespace Go.Proofs.Ytgjlclihgpahbaa
open Go.RowKit
set_option linter.unusedVariables false
set_option maxRecDepth 100000

attribute [local irreducible] permB kBytes kPerm kFrom

theorem Sp.ends_b {x : Sp} {R : Nat} (h : x.r = R + 1) : x.ends.b = xorAt (xorAt x.b x.p x.f) R 128 := by
  show xorAt (xorAt x.b x.p x.f) (x.r - 1) 128 = _
  rw [h, Nat.add_sub_cancel]

section
variable {w0 w : World} {F0 : List Nat} {E : Env}

set_option maxHeartbeats 2000000 in
theorem spClose_s (l : Value) (r : Option (List RunT)) (m : Nat) (b : Int) (g : Nat) (x : Sp) (H : St w0 F0 w E) (i j : Nat) (hij : i ≠ j) (hi : E i = some (led l r)) (hj : E j = some (.blk g 71 x.vs)) (hg : LW r m b) (hm : m ≤ 999999999999) (hb : b ≤ 4000000000000000000) (hx : x.Ok) (hs : x.s = false) :
    Calls Try.prog 8 #[lptr g, l] w fun e w' => e = .returned (.int .i64 0) ∧ St w0 F0 w' (upd (upd E i (led l (noteN r 3 200 1))) j (.blk g 71 x.close.vs)) := by
  obtain ⟨F, HF, -, -, hback⟩ := H.frame2 i j hij hi hj
  have HB := Lib.hid hback
  replace HF := HF.as2
  clear H hback
  obtain ⟨k1, k2, k3, k4⟩ := Sp.cells hx.hb
  have h8 := hx.r8
  have h192 := hx.r192
  have hop := hx.op hs
  obtain ⟨R, hR⟩ : ∃ R, x.r = R + 1 := ⟨x.r - 1, by omega⟩
  have HE := Lib.hid (Sp.ends_b hR)
  have HRR := Lib.hid hR
  have c0 := HF.cell 1 rfl k1
  have c1 := HF.cell 1 rfl k2
  have c2 := HF.cell 1 rfl k3
  have c3 := HF.cell 1 rfl k4
  rw [hs] at c3
  obtain ⟨u, hu⟩ : ∃ u, x.b.getD x.p 0 = u := ⟨_, rfl⟩
  have b3 := HF.cell 1 rfl (o := x.p) (sp_at x.b _ hx.hb (by omega))
  rw [hu] at b3
  have HU := Lib.hid hu
  have f3 := HF.free 1 rfl x.p
  have hR1 : R ≤ 191 := by omega
  have HX := Lib.hid hx.hb
  have hp1 : (x.p : Int) < 200 := by omega
  have hp2 : x.p < 200 := by omega
  clear k1 k2 k3 k4 hx hs hu hR
  go_enter Try.func8, Try.ntmps8
  go_wp2_with fail
  refine (spNone_no g x.r w c0 (by omega)).mono ?_
  rintro e w1 ⟨rfl, rfl⟩
  unfold lptr
  go_wp2
  refine region_quiet_tail 17 (by kernel_rfl) (by kernel_rfl) ?_
  simp only [List.take_succ_cons, List.take_zero, List.drop_succ_cons, List.drop_zero]
  repeat (go_big_quiet_step (fail))
  refine wpQuiet_nil ?_
  intro nq
  rw [xor8v]
  go_upto_region 6 with (fail)
  have hD := ((HF.drewN nq).store 1 rfl (o := x.p) (u := vb (u ^^^ x.f))).upd_mk (by simp)
  unfold Sp.vs at hD
  rw [sp_set _ _ _ HX.out (by omega), show x.b.set x.p (u ^^^ x.f) = xorAt x.b x.p x.f by unfold xorAt; rw [HU.out]] at hD
  refine absorb_wp hD ?_
  clear hD HF c0 c1 c2 c3 b3 f3 HU
  intro w4 H4
  have hL : Hid ((xorAt x.b x.p x.f).length = 200) := by unfold Hid; rw [xorAt_length, HX.out]
  generalize xorAt x.b x.p x.f = Bx at H4 hL HE
  obtain ⟨u2, hu⟩ : ∃ u2, Bx.getD R 0 = u2 := ⟨_, rfl⟩
  have b3 := H4.cell 1 rfl (o := R) (sp_at Bx _ hL.out (by omega))
  rw [hu] at b3
  have HU := Lib.hid hu
  clear hu
  have f3 := H4.free 1 rfl R
  have c0 := H4.cell 1 rfl (o := 200) ((sp_get Bx _ 0 hL.out rfl).trans rfl)
  rw [HRR.out, Int.natCast_add] at c0
  have hp3 : (R : Int) < 200 := by omega
  have hp4 : R < 200 := by omega
  have hw : IntKind.i64.wrap ((R : Int) + 1 - 1) = (R : Int) := by rw [Int.add_sub_cancel]; exact IntWalk.i64_in _ (by omega)
  refine region_quiet_tail 14 (by kernel_rfl) (by kernel_rfl) ?_
  simp only [List.take_succ_cons, List.take_zero, List.drop_succ_cons, List.drop_zero]
  repeat (go_big_quiet_step (fail))
  refine wpQuiet_nil ?_
  intro nq2
  rw [show bits .xor .u8 (u2.toNat : Int) 128 = ((u2 ^^^ 128).toNat : Int) from xor8v u2 128]
  clear hw
  go_upto_region 7 with (fail)
  have hD := ((H4.drewN nq2).store 1 rfl (o := R) (u := vb (u2 ^^^ 128))).upd_mk (by simp)
  rw [sp_set _ _ _ hL.out (by omega), show Bx.set R (u2 ^^^ 128) = xorAt Bx R 128 by unfold xorAt; rw [HU.out], ← HE.out] at hD
  refine absorb_wp hD ?_
  clear hD H4 c0 b3 f3 HU
  intro w5 H5
  have hL5 : Hid (x.ends.b.length = 200) := by unfold Hid; rw [HE.out, xorAt_length, hL.out]
  have HZ : Hid ((x.ends.perm).b = x.close.b) := by unfold Hid; rfl
  replace H5 : St w F w5 (lay [led l r, .blk g 71 x.ends.vs]) := H5
  go_wp2_with fail
  refine (spPermute_s l r m b g x.ends H5 0 1 (by omega) rfl rfl hg (by omega) (by omega) hL5.out).mono ?_
  rintro e w6 ⟨rfl, H6⟩
  rw [upd_laid (by simp), upd_laid (by simp)] at H6
  have hLp : Hid (x.ends.perm.b.length = 200) := permB_length x.ends.b
  have f6 := H6.free 1 rfl 203
  have c6 := H6.cell 1 rfl (o := 203) (Sp.cells hLp.out).2.2.2
  go_wp2
  go_ret
  have H7 := (H6.store 1 rfl (o := 203) (u := .bool true)).upd_mk (by simp)
  unfold Sp.vs at H7
  rw [sp_put _ _ 3 _ hLp.out rfl] at H7
  exact ⟨rfl, HB.out _ _ _ (H7.to2 rfl rfl)⟩

/-- shut already -/
theorem spClose_no (l : Value) (g : Nat) (x : Sp) (hcs : ∀ k u, x.vs[k]? = some u → w.cell? ⟨g, k, none⟩ = some u) (hx : x.Ok) (hs : x.s = true) :
    Calls Try.prog 8 #[lptr g, l] w fun e w' => e = .returned (.int .i64 180) ∧ w = w' := by
  obtain ⟨k1, k2, k3, k4⟩ := Sp.cells hx.hb
  have h8 := hx.r8
  have c0 := hcs _ _ k1
  have c3 := hcs _ _ k4
  rw [hs] at c3
  clear k1 k2 k3 k4 hx hs hcs
  go_enter Try.func8, Try.ntmps8
  go_wp2_with fail
  refine (spNone_no g x.r w c0 (by omega)).mono ?_
  rintro e w1 ⟨rfl, rfl⟩
  unfold lptr
  go_wp2
  go_ret
  exact ⟨rfl, rfl⟩

theorem spWrite_no (l : Value) (g : Nat) (x : Sp) (A : Option Addr) (n c : Nat) (hcs : ∀ k u, x.vs[k]? = some u → w.cell? ⟨g, k, none⟩ = some u) (hx : x.Ok) (hs : x.s = true) :
    Calls Try.prog 14 #[lptr g, l, .slice A n c] w fun e w' => e = .returned (.int .i64 180) ∧ w = w' := by
  obtain ⟨k1, k2, k3, k4⟩ := Sp.cells hx.hb
  have h8 := hx.r8
  have c0 := hcs _ _ k1
  have c3 := hcs _ _ k4
  rw [hs] at c3
  clear k1 k2 k3 k4 hx hs hcs
  go_enter Try.func14, Try.ntmps14
  go_wp2_with fail
  refine (spNone_no g x.r w c0 (by omega)).mono ?_
  rintro e w1 ⟨rfl, rfl⟩
  unfold lptr
  go_wp2
  go_ret
  exact ⟨rfl, rfl⟩

end

end Go.Proofs.Ytgjlclihgpahbaa

namespace Go.Proofs.Ytgjlclihgpahbaa
open Go.RowKit
set_option linter.unusedVariables false
set_option maxRecDepth 100000

attribute [local irreducible] permB kBytes kPerm kFrom

theorem Sp.turn_yes {x : Sp} (h : x.p = x.r) : x.turn = x.perm := if_pos h

theorem Sp.turn_no {x : Sp} (h : ¬ x.p = x.r) : x.turn = x := if_neg h

theorem Sp.turn_r (x : Sp) : x.turn.r = x.r ∧ x.turn.s = x.s ∧ x.turn.f = x.f := by
  by_cases h : x.p = x.r
  · rw [Sp.turn_yes h]; exact ⟨rfl, rfl, rfl⟩
  · rw [Sp.turn_no h]; exact ⟨rfl, rfl, rfl⟩

theorem Sp.turn_lt {x : Sp} (h : x.Ok) : x.turn.p < x.r ∧ x.turn.b.length = 200 := by
  have h8 := h.r8
  have hp := h.pr
  by_cases he : x.p = x.r
  · rw [Sp.turn_yes he]; exact ⟨by show 0 < x.r; omega, permB_length _⟩
  · rw [Sp.turn_no he]; exact ⟨by omega, h.hb⟩

theorem Sp.go_zero (x : Sp) : x.go 0 = x := rfl

theorem Sp.after_zero (x : Sp) : x.after 0 = x := rfl

theorem Sp.go_turn {x : Sp} {k : Nat} (h : x.p + k < x.r) : (x.go k).turn = x.go k := Sp.turn_no (by show ¬ x.p + k = x.r; omega)

theorem Sp.after_succ (x : Sp) (n : Nat) : x.after (n + 1) = (x.after n).turn.go 1 := rfl

theorem Sp.after_go {x : Sp} (t : Nat) (k : Nat) (h : (x.after t).turn.p + (k + 1) ≤ (x.after t).turn.r) : x.after (t + (k + 1)) = (x.after t).turn.go (k + 1) := by
  induction k with
  | zero => rfl
  | succ k ih =>
    have ih := ih (by omega)
    rw [show t + (k + 1 + 1) = (t + (k + 1)) + 1 by omega, Sp.after_succ, ih, Sp.go_turn (by omega)]
    rfl

theorem Sp.get_go {x : Sp} (t : Nat) (k : Nat) (h : (x.after t).turn.p + k < (x.after t).turn.r) : (x.after (t + k)).get = (x.after t).turn.b.getD ((x.after t).turn.p + k) 0 := by
  rcases Nat.eq_zero_or_pos k with h0 | h0
  · subst h0; rfl
  · obtain ⟨j, rfl⟩ : ∃ j, k = j + 1 := ⟨k - 1, by omega⟩
    rw [Sp.after_go t j (by omega)]
    unfold Sp.get
    rw [Sp.go_turn h]
    rfl

theorem Sp.read_length (x : Sp) (n : Nat) : (x.read n).length = n := by unfold Sp.read; rw [List.length_map, List.length_range]

theorem Sp.read_zero (x : Sp) : x.read 0 = [] := rfl

theorem Sp.read_more {x : Sp} (t k : Nat) (hk : (x.after t).turn.p + k ≤ (x.after t).turn.r) (hr : (x.after t).turn.r ≤ 192) (hb : (x.after t).turn.b.length = 200) :
    x.read (t + k) = x.read t ++ ((x.after t).turn.b.drop (x.after t).turn.p).take k := by
  apply List.ext_getElem?
  intro i
  unfold Sp.read
  by_cases h1 : i < t
  · rw [List.getElem?_append_left (by rw [List.length_map, List.length_range]; exact h1), List.getElem?_map, List.getElem?_map, List.getElem?_range (by omega), List.getElem?_range h1]
  · rw [List.getElem?_append_right (by rw [List.length_map, List.length_range]; omega), List.length_map, List.length_range, List.getElem?_map, List.getElem?_take]
    by_cases h2 : i < t + k
    · rw [List.getElem?_range h2, if_pos (by omega), List.getElem?_drop, List.getElem?_eq_getElem (by omega)]
      obtain ⟨j, rfl⟩ : ∃ j, i = t + j := ⟨i - t, by omega⟩
      rw [Option.map_some, Sp.get_go t j (by omega)]
      simp only [Nat.add_sub_cancel_left]
      rw [List.getD_eq_getElem?_getD, List.getElem?_eq_getElem (by omega), Option.getD_some]
    · rw [if_neg (by omega), List.getElem?_eq_none (by rw [List.length_range]; omega)]
      rfl

theorem Sp.turn_ok {x : Sp} (h : x.Ok) (hs : x.s = true) : x.turn.Ok := by
  have h1 := Sp.turn_lt h
  have h2 := Sp.turn_r x
  exact ⟨h1.2, by rw [h2.1]; exact h.r8, by rw [h2.1]; exact h.r192, by rw [h2.1]; omega, fun e => by rw [h2.2.1, hs] at e; cases e⟩

theorem Sp.go_ok {x : Sp} (h : x.Ok) (hs : x.s = true) {k : Nat} (hk : x.p + k ≤ x.r) : (x.go k).Ok :=
  ⟨h.hb, h.r8, h.r192, hk, fun e => by have : x.s = false := e; rw [hs] at this; cases this⟩

theorem Sp.after_ok {x : Sp} (h : x.Ok) (hs : x.s = true) : ∀ n, (x.after n).Ok ∧ (x.after n).r = x.r ∧ (x.after n).s = true ∧ (x.after n).f = x.f := by
  intro n
  induction n with
  | zero => exact ⟨h, rfl, hs, rfl⟩
  | succ n ih =>
    obtain ⟨h1, h2, h3, h4⟩ := ih
    have t1 := Sp.turn_lt h1
    obtain ⟨t2, t3, t4⟩ := Sp.turn_r (x.after n)
    rw [Sp.after_succ]
    exact ⟨Sp.go_ok (Sp.turn_ok h1 h3) (by rw [t3, h3]) (by rw [t2]; omega), t2.trans h2, by show (x.after n).turn.s = true; rw [t3, h3], t4.trans h4⟩

theorem Sp.close_ok {x : Sp} (h : x.Ok) : x.close.Ok ∧ x.close.s = true ∧ x.close.r = x.r ∧ x.close.p = 0 :=
  ⟨⟨permB_length _, h.r8, h.r192, Nat.zero_le _, fun e => by cases e⟩, rfl, rfl, rfl⟩

/-- how often it is permuted -/
theorem count_end {c r p p0 n : Nat} (h : c * r + p = p0 + n) (hp : p ≤ r) (h0 : n = 0 → c = 0) (h1 : 0 < n → 1 ≤ p) (hr : 0 < r) (hp0 : p0 ≤ r) : c = (p0 + n - 1) / r := by
  rcases Nat.eq_zero_or_pos n with hn | hn
  · have hc := h0 hn
    subst hc hn
    rw [Nat.div_eq_of_lt (by omega)]
  · have := h1 hn
    have e : p0 + n - 1 = (p - 1) + r * c := by rw [Nat.mul_comm]; omega
    rw [e, Nat.add_mul_div_left _ _ hr, Nat.div_eq_of_lt (by omega), Nat.zero_add]

theorem made0 {w : World} {base g n : Nat} (h : w.ownsRow base 5 1 (.slice (some ⟨g, 0, none⟩) n n) n (madeCells (Value.int .u8 0).cells (n * 1)).toList) : w.ownsRow base 5 1 (.slice (some ⟨g, 0, none⟩) n n) n ((List.replicate n (0 : UInt8)).map vb) := by
  rw [show (Value.int .u8 0).cells = #[.int .u8 0] from rfl, toList_madeCells_one, Nat.mul_one] at h
  rw [List.map_replicate]
  exact h

theorem splice_mid (a b cs : List UInt8) (n t : Nat) (ha : a.length = t) (hb : b.length = n - t) (hk : t + cs.length ≤ n) : splice ((a ++ b).map vb) t (cs.map vb) = (a ++ cs ++ b.drop cs.length).map vb := by
  unfold splice
  rw [List.length_map, ← List.map_take, ← List.map_drop, ← List.map_append, ← List.map_append, List.take_left' ha, List.append_assoc, ← List.drop_drop, List.drop_left' ha]

section
variable {w0 w : World} {F0 : List Nat} {E : Env}

/-- a list whose block has no more than it -/
theorem St.rowFull {g n : Nat} {e : TypeId} {xs : List Value} (H : St w0 F0 w E) (k : Nat) (hk : E k = some (.row e 1 (.slice (some ⟨g, 0, none⟩) n n) n xs)) : St w0 F0 w (upd E k (.blk g e xs)) := by
  obtain ⟨F, ⟨h, hF⟩, -, -, hc⟩ := H.change k hk
  refine hc w _ [g] ⟨?_, rfl⟩ (Low.refl _ _) (by intro g' hg'; left; rw [hF]; simpa [Value.ownBlock] using hg')
  rcases h.2 with ⟨hv, -⟩ | ⟨g', cap, cur, hv, -, hg, hn, -, hs, hx⟩
  · cases hv
  · injection hv with h1 h2 h3
    injection h1 with h1
    injection h1 with h1
    subst h1 h3
    rw [hg]
    have : cur.toList = xs := by rw [← hx, List.take_of_length_le (by simp; omega)]
    rw [← this]

theorem St.blkRow {g n : Nat} {e : TypeId} {xs : List Value} (H : St w0 F0 w E) (k : Nat) (hk : E k = some (.blk g e xs)) (hx : xs.length = n) (hn : n ≤ maxLen) : St w0 F0 w (upd E k (.row e 1 (.slice (some ⟨g, 0, none⟩) n n) n xs)) := by
  obtain ⟨F, ⟨h, hF⟩, -, -, hc⟩ := H.change k hk
  subst hF
  subst hx
  refine hc w _ [g] ⟨⟨(Nat.mul_one _).symm, .inr ⟨g, xs.length, xs.toArray, rfl, Nat.zero_le _, h, Nat.le_refl _, hn, by rw [Nat.mul_one]; exact List.size_toArray, by rw [Nat.mul_one]; exact List.take_length⟩⟩, by simp [Value.ownBlock]⟩ (Low.refl _ _) (by simp)

/-- a third piece, which is new, is handed up with the two -/
theorem St.two_more {w0 w w' : World} {F0 F : List Nat} {E : Env} {A B R A0 B0 : Own} {i j k : Nat} (hij : i ≠ j) (hi : E i = some A0) (hj : E j = some B0) (hk : E k = none)
    (hback : ∀ (w' : World) (A' B' : Own), St w F w' (two A' B') → St w0 F0 w' (upd (upd E i A') j B')) (H : St w F w' (lay [A, B, R])) : St w0 F0 w' (upd (upd (upd E i A) j B) k R) := by
  have hki : k ≠ i := fun e => by rw [e, hi] at hk; cases hk
  have hkj : k ≠ j := fun e => by rw [e, hj] at hk; cases hk
  have H1 := H.join 0 2 (by omega) rfl rfl
  have H2 : St w F w' (two (.sep A R) B) := H1.sub fun n C hC => by
    simp only [two, upd, Env.nil] at hC
    by_cases h1 : n = 1
    · subst h1; rw [if_pos rfl] at hC; rw [← hC]; rfl
    · rw [if_neg h1] at hC
      by_cases h0 : n = 0
      · subst h0; rw [if_pos rfl] at hC; rw [← hC]; rfl
      · rw [if_neg h0] at hC; cases hC
  have H3 := hback _ _ _ H2
  have H4 := H3.part (A := A) (B := R) i k (Ne.symm hki) (by simp [upd, hij]) (by simp [upd, hki, hkj, hk])
  refine H4.env fun n => ?_
  simp only [upd]
  by_cases h1 : n = k
  · simp [h1]
  · by_cases h2 : n = j
    · subst h2; simp [h1, Ne.symm hij]
    · by_cases h3 : n = i <;> simp [h1, h2, h3, hij]

end

end Go.Proofs.Ytgjlclihgpahbaa
