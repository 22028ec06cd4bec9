/- The program's Permute, walked. -/
import Derived.Test.YtgjlclihgpahbaaKecC
import Derived.Test.YtgjlclihgpahbaaLedW

namespace Go.Proofs.Ytgjlclihgpahbaa
open Go.RowKit
set_option linter.unusedVariables false

theorem u64_size : (Try.prog.info? 91).map (·.size) = some 1 := by kernel_rfl

theorem u64_notAgg (w : World) : (isAgg 91).run Try.prog w = .ok false w := by simp [isAgg, run_underlying Try.underlying91]

theorem there_new (w : World) (cs : Array Value) (T : TypeId) (n : Nat) (h : n = cs.size) : (w.alloc (.cells cs T)).there w.heap.size 0 n := fun j hj => by
  rw [Nat.zero_add, World.cell?_alloc_at _ _ _ _ rfl, World.frozen?_alloc_at _ _ _ _ rfl]
  subst h
  simp [hj]

/-- the event of a permutation, in a ledger that may be none -/
abbrev kNote (r : Option (List RunT)) : Option (List RunT) := r.map fun rs => noted rs 3 200 1

section
variable {w0 w : World} {F0 : List Nat} {E : Env}

set_option maxHeartbeats 2000000 in
theorem permute_w (l : Value) (r : Option (List RunT)) (m : Nat) (b : Int) (s : List UInt64) (H : St w0 F0 w E) (i : Nat) (hi : E i = some (led l r)) (hg : LW r m b) (hm : m ≤ 1000000000000) (hb : b ≤ 4611686018427387903) (hs : s.length = 25) :
    Calls Try.prog 52 #[l, .agg (s.map u64v).toArray] w fun e w' => e = .returned (.agg ((kPerm s).map u64v).toArray) ∧ St w0 F0 w' (upd E i (led l (kNote r))) := by
  obtain ⟨F, HF, -, -, hback⟩ := H.frame1 i hi
  have HB := Lib.hid hback
  have HS := Lib.hid hs
  clear H hback hs
  go_enter Try.func52, Try.ntmps52
  go_wp2_with fail
  refine absorb_calls (HF.as1 |>.allocAt 1 rfl w.heap.size rfl _ _ |>.push_mk rfl |>.allocAt 2 rfl (w.heap.size + 1) (by simp) _ _ |>.push_mk rfl) ?_
  intro w1 H1
  clear HF
  generalize w.heap.size + 1 = g2 at H1 ⊢
  generalize w.heap.size = g1 at H1 ⊢
  refine (ledger_note_w m b 3 200 H1 0 rfl hg hm hb).mono ?_
  rintro e w2 ⟨rfl, H2⟩
  replace H2 := H2.upd_mk (by simp)
  go_wp2_with fail
  refine (constants_s _).mono ?_
  rintro e w3 ⟨rfl, hb3⟩
  have H3 := H2.call hb3
  clear H2 H1 hb3
  go_wp2
  go_loopw [14] (fun i wr => ∃ k : Nat, k ≤ 24 ∧ i = .int .i64 k ∧ St w F wr (lay [led l (kNote r), .blk g1 93 ((kPermTo s k).map u64v), .blk g2 93 ((List.replicate 25 0).map u64v)])) (fun i _ => 24 - (intOf i).toNat)
  case atStart => exact ⟨0, by omega, rfl, H3⟩
  case round =>
    clear H3
    clear hm hb hg
    obtain ⟨k, hk, rfl, Hk⟩ := hrel
    by_cases hlt : k < 24
    · have hz := u64_get (l := kConsts) (k := k) (by simpa [kConsts] using hlt)
      have hz2 := run_index_agg (P := Try.prog) 101 91 24 (kConsts.map u64v).toArray k (.int .u64 ((at64 kConsts k).toNat : Int)) Try.underlying101 u64_size u64_notAgg hlt (by simpa using hz)
      clear hz
      have hk1 : (k : Int) < 24 := by omega
      have HX : Hid ((kPermTo s k).length = 25) := by have := kPermTo_length s k; rw [HS.out] at this; exact this
      have HE : Hid (kPermTo s (k + 1) = kRound (kPermTo s k) (at64 kConsts k)) := rfl
      generalize kPermTo s k = X at *
      generalize at64 kConsts k = c at *
      go_wp2_with fail
      refine (theta_s g1 X Hk 1 rfl HX.out).mono ?_
      rintro e w4 ⟨rfl, H4⟩
      replace H4 := H4.upd_mk (by simp)
      clear Hk hz2
      have HTL : Hid ((kTheta X).length = 25) := by have := kTheta_length X; rw [HX.out] at this; exact this
      go_wp2_with (refine wpList_load_row rfl 93 (.tmp 3) rfl g1 rfl _ _ _ _ (H4.blk 1 rfl) Try.underlying93 rfl (by rw [state_size]; simp [HTL.out]) ?_)
      refine (walk_s _ HTL.out _).mono ?_
      rintro e w5 ⟨rfl, hb5⟩
      have H5 := H4.call hb5
      clear H4 hb5
      generalize hT : kTheta X = T at *
      have HT := Lib.hid hT
      clear hT
      have HBL : Hid ((kWalk T).length = 25) := kWalk_length T
      generalize hB : kWalk T = B at *
      have HBe := Lib.hid hB
      clear hB
      go_wp2_with (refine wpList_store_mid rfl 93 (.tmp 7) (.tmp 19) rfl w5.heap.size 0 (B.map u64v).toArray rfl rfl (there_new _ _ _ _ (by simp [HBL.out])) (by rw [state_size]; simp [HBL.out]) (all_oneCell_toArray (u64_one _)) ?_)
      refine absorb_wp (H5.allocAt 3 rfl w5.heap.size rfl _ _ |>.push_mk rfl |>.storeAll 3 rfl (vs := B.map u64v) (by simp [HBL.out]) |>.upd_mk (by simp)) ?_
      intro w6 H6
      clear H5
      generalize w5.heap.size = g3 at H6 ⊢
      go_loopw [20] (fun i wr => ∃ k : Nat, k ≤ 25 ∧ i = .int .i64 k ∧ St w F wr (lay [led l (kNote r), .blk g1 93 ((kChiTo B T k).map u64v), .blk g2 93 ((List.replicate 25 0).map u64v), .blk g3 93 (B.map u64v)])) (fun i _ => 25 - (intOf i).toNat)
      case atStart => exact ⟨0, by omega, rfl, H6⟩
      case round =>
        clear H6
        obtain ⟨m, hm, rfl, Hm⟩ := hrel
        by_cases hlm : m < 25
        · obtain ⟨u, hu⟩ : ∃ u, ((kChiTo B T m).map u64v)[m]? = some u := ⟨_, u64_get (by rw [kChiTo_length, HTL.out]; omega)⟩
          have a0 := Hm.cell 1 rfl hu
          have af := Hm.free 1 rfl m
          have b0 := Hm.cell 3 rfl (u64_get (k := m) (by rw [HBL.out]; omega))
          have b1 := Hm.cell 3 rfl (u64_get (k := m - m % 5 + (m + 1) % 5) (by rw [HBL.out]; omega))
          have b2 := Hm.cell 3 rfl (u64_get (k := m - m % 5 + (m + 2) % 5) (by rw [HBL.out]; omega))
          have hm1 : (m : Int) < 25 := by omega
          clear hu
          go_wp2
          refine region_quiet_tail 22 (by kernel_rfl) (by kernel_rfl) ?_
          simp only [List.take_succ_cons, List.take_zero, List.drop_succ_cons, List.drop_zero]
          repeat (go_big_quiet_step (fail))
          refine wpQuiet_nil ?_
          intro nq
          go_wp2
          go_roundw
          case rel => exact ⟨m + 1, by omega, by go_num, by rw [not64, and64, xor64]; exact by have h := ((Hm.drewN nq).store 1 rfl (o := m) (u := u64v (at64 B m ^^^ (~~~(at64 B (m - m % 5 + (m + 1) % 5)) &&& at64 B (m - m % 5 + (m + 2) % 5))))).upd_mk (by simp); rw [u64_set] at h; exact h⟩
          case measure => simp [intOf]; omega
        · obtain rfl : m = 25 := by omega
          have HCL : Hid ((kChiTo B T 25).length = 25) := by have := kChiTo_length B T 25; rw [HTL.out] at this; exact this
          have HF : Hid (kPermTo s (k + 1) = (kChiTo B T 25).set 0 (at64 (kChiTo B T 25) 0 ^^^ c)) := by
            have h := HE.out
            unfold kRound at h
            rw [HT.out, HBe.out] at h
            exact h
          clear HE
          generalize kChiTo B T 25 = D at *
          have a0 := Hm.cell 1 rfl (u64_get (k := 0) (by rw [HCL.out]; omega))
          have af := Hm.free 1 rfl 0
          go_wp2
          go_roundw
          case rel => exact ⟨k + 1, by omega, by go_num, by rw [xor64, HF.out]; exact by have h := (Hm.store 1 rfl (o := 0) (u := u64v (at64 D 0 ^^^ c))).upd_mk (by simp); rw [u64_set] at h; exact h.front 3⟩
          case measure => simp [intOf]; omega
    · obtain rfl : k = 24 := by omega
      have HPL : Hid ((kPermTo s 24).length = 25) := by have := kPermTo_length s 24; rw [HS.out] at this; exact this
      go_wp2_with (first | (refine wpList_load_row rfl 93 (.tmp 3) rfl g1 rfl _ _ _ _ (Hk.blk 1 rfl) Try.underlying93 rfl (by rw [state_size]; simp [HPL.out]) ?_) | (refine wpList_store_mid rfl 93 (.tmp 4) (.tmp 56) rfl g2 0 _ rfl rfl (by simpa [HPL.out] using Hk.there 2 rfl) (by rw [state_size]; simp [HPL.out]) (all_oneCell_toArray (u64_one _)) ?_))
      have H4 := (Hk.storeAll 2 rfl (vs := (kPermTo s 24).map u64v) (by simp [HPL.out])).upd_mk (by simp)
      exact bodyPost_ret (results_cell_row rfl _ _ g2 93 ((kPermTo s 24).map u64v).toArray _ _ rfl (H4.blk 2 rfl) Try.underlying93 rfl (by rw [state_size]; simp [HPL.out])) rfl ⟨rfl, HB.out _ _ (H4.to1 rfl)⟩

theorem permute_s (l : Value) (r : Option (List RunT)) (b : Int) (s : List UInt64) (H : St w0 F0 w E) (i : Nat) (hi : E i = some (led l r)) (hg : LGood r b) (hb : b ≤ 1000000) (hs : s.length = 25) :
    Calls Try.prog 52 #[l, .agg (s.map u64v).toArray] w fun e w' => e = .returned (.agg ((kPerm s).map u64v).toArray) ∧ St w0 F0 w' (upd E i (led l (kNote r))) :=
  permute_w l r b.toNat b s H i hi hg.lw (by omega) (by omega) hs

end

end Go.Proofs.Ytgjlclihgpahbaa
