/- The document's Next. -/
import Derived.Test.YtgfhnbjpdhdhgaaOpN
namespace Go.Proofs.Ytgfhnbjpdhdhgaa
open Go.RowKit
set_option linter.unusedVariables false

theorem Rd.fld2 {w : World} {b o n : Nat} {l : List UInt8} (h : Rd w 1 (some ⟨b, o, none⟩) n (l.map vb)) (a m m' : Nat) (hm : a + m ≤ n) (he : m' = m) {A : Option Addr} (hA : A = some ⟨b, o + a, none⟩) : Rd w 1 A m' ((Go.Proofs.Ytgfhnbjpdhdhgaa.fld l a m).map vb) := by
  subst he; exact h.fld a m' hm hA
theorem Rd.zero2 {w : World} {A : Option Addr} {a m m' : Nat} {l : List UInt8} (h : m' = 0) (he : m = 0) : Rd w 1 A m' ((Go.Proofs.Ytgfhnbjpdhdhgaa.fld l a m).map vb) := by
  subst h he
  exact ⟨by simp [Go.Proofs.Ytgfhnbjpdhdhgaa.fld], fun h' => by omega⟩

set_option maxHeartbeats 400000 in
theorem refCopied_any (A : Option Addr) (n c : Nat) (l : List UInt8) (w : World) (h : Rd w 1 A n (l.map vb)) (hn : n ≤ 140737488355328) :
    Calls Try.prog 59 #[.slice A n c] w fun e w' => ∃ v, e = .returned v ∧ OwnB w' w.heap.size v l ∧ Below w.heap.size w w' := by
  obtain ⟨i0, hi0, hz0, hz1, hz2⟩ := info_parts u8_info
  have hl : n = l.length := by simpa using h.1.symm
  subst hl
  go_enter Try.func59, Try.ntmps59
  go_wp2_with (at_builtin; refine wpList_append_any _ rfl (.tmp 4) (.tmp 5) _ rfl w.heap.size 5 i0 _ 1 1 Try.underlying25 hi0 hz0 hz1 hz2 rfl (by omega) (.slice none 0 0) 0 [] rfl ⟨by simp, .inl ⟨rfl, rfl⟩⟩ A l.length c (l.map vb) rfl h (vb_one _) (by simp only [maxLen]; omega) (by omega) (Nat.le_refl _) ?_; intro v1 w1 hown1 hg1 hat1; have hbw1 : Below w.heap.size w w1 := (Below.refl _ _).grown hg1 (Nat.le_refl _) (by simp [Value.ownBlock]))
  go_ret
  exact ⟨v1, rfl, by simpa [OwnB] using hown1, hbw1⟩

set_option maxHeartbeats 4000000 in
theorem refNext_s (A : Option Addr) (n c : Nat) (l : List UInt8) (w : World) (hR : Rd w 1 A n (l.map vb)) (hc : n ≤ c) (hn : n ≤ 140737488351232) :
    Calls Try.prog 24 #[.slice A n c] w (NextP l w) := by
  have hl : l.length = n := by simpa using hR.1
  by_cases h32 : 32 ≤ n
  · obtain ⟨b, o, rfl, -, -⟩ := hR.flat (by omega) (by omega)
    have hdm1 : ((nD l : Nat) : Int) ≤ 16777215 := by have := tk_lt (fld l 26 3); rw [fld_length _ _ _ (by omega)] at this; unfold nD; omega
    have hdm2 : ((nM l : Nat) : Int) ≤ 16777215 := by have := tk_lt (fld l 29 3); rw [fld_length _ _ _ (by omega)] at this; unfold nM; omega
    have hok : (32 ≤ l.length ∧ 32 + nD l + nM l ≤ l.length) ↔ 32 + nD l + nM l ≤ n := by omega
    have HOK := Lib.hid hok
    clear hok
    have HL := Lib.hid hl
    clear hl
    have G := Lib.hid (fun (a m c' : Nat) (w' : World) (ha : a + m ≤ n) (hm : m ≤ 8) (h' : Rd w' 1 (some ⟨b, o, none⟩) n (l.map vb)) => refTaken_s (some ⟨b, o + a, none⟩) m c' _ w' (h'.fld a m ha rfl) hm)
    have g1 : ∀ (c' : Nat) (w' : World), Rd w' 1 (some ⟨b, o, none⟩) n (l.map vb) → Calls Try.prog 58 #[.slice (some ⟨b, o + 26, none⟩) 3 c'] w' fun e w'' => e = .returned (.int .u64 (nD l : Nat)) ∧ w' = w'' := fun c' w' h' => G.out 26 3 c' w' (by omega) (by omega) h'
    have g2 : ∀ (c' : Nat) (w' : World), Rd w' 1 (some ⟨b, o, none⟩) n (l.map vb) → Calls Try.prog 58 #[.slice (some ⟨b, o + 29, none⟩) 3 c'] w' fun e w'' => e = .returned (.int .u64 (nM l : Nat)) ∧ w' = w'' := fun c' w' h' => G.out 29 3 c' w' (by omega) (by omega) h'
    have G1 := Lib.hid g1
    have G2 := Lib.hid g2
    clear g1 g2
    obtain ⟨D, HD⟩ : ∃ D, Hid (nD l = D) := ⟨_, rfl⟩
    obtain ⟨M, HM⟩ : ∃ M, Hid (nM l = M) := ⟨_, rfl⟩
    rw [HD.out] at hdm1 G1 HOK
    rw [HM.out] at hdm2 G2 HOK
    have k29 : (29 : Int) ≤ c := by omega
    have k32 : (32 : Int) ≤ c := by omega
    have q26 : ¬ c = 26 := by omega
    have q29 : ¬ c = 29 := by omega
    go_enter Try.func24, Try.ntmps24
    go_wp2_with fail
    refine absorb_calls (St.start_lay w [] |>.allocAt 0 rfl w.heap.size rfl _ _ |>.push_mk rfl) ?_
    intro w2 H
    generalize hga : w.heap.size = ga at H ⊢
    clear hga
    have hrA := H.arg0 hR
    refine (G1.out _ _ hrA).mono ?_
    rintro e wx ⟨rfl, rfl⟩
    go_wp2_with fail
    refine (G2.out _ _ hrA).mono ?_
    rintro e wx ⟨rfl, rfl⟩
    by_cases hend : 32 + D + M ≤ n
    · have hend' : ¬ (n : Int) < 32 + D + M := by omega
      go_wp2_with fail
      have hr1 : Rd w2.drew 1 (some ⟨b, o, none⟩) n (l.map vb) := hrA
      have hr2 : ∀ x : Obj, Rd (w2.alloc x).drew 1 (some ⟨b, o, none⟩) n (l.map vb) := fun x => (hrA.below ((Below.refl _ _).alloc (Nat.le_refl _) x)).drew_
      have c0 : w2.drew.cell? ⟨b, o, none⟩ = some (vb (l.getD 0 0)) := rd_getD hr1 HL.out 0 (by omega)
      have c1 : w2.drew.cell? ⟨b, o + 1, none⟩ = some (vb (l.getD 1 0)) := rd_getD hr1 HL.out 1 (by omega)
      have c2 : ∀ x : Obj, (w2.alloc x).drew.cell? ⟨b, o, none⟩ = some (vb (l.getD 0 0)) ∧ (w2.alloc x).drew.cell? ⟨b, o + 1, none⟩ = some (vb (l.getD 1 0)) := fun x => ⟨rd_getD (hr2 x) HL.out 0 (by omega), rd_getD (hr2 x) HL.out 1 (by omega)⟩
      have C2 := Lib.hid c2
      have R2 := Lib.hid hr2
      clear c2 hr2 k29 k32 q26 q29 hrA
      obtain ⟨b0, B0⟩ : ∃ x, Hid (l.getD 0 0 = x) := ⟨_, rfl⟩
      obtain ⟨b1, B1⟩ : ∃ x, Hid (l.getD 1 0 = x) := ⟨_, rfl⟩
      rw [B0.out] at c0 C2
      rw [B1.out] at c1 C2
      obtain ⟨x2, X2⟩ : ∃ x, Hid (IntKind.i64.wrap ((tk (fld l 2 8) : Nat) : Int) = x) := ⟨_, rfl⟩
      obtain ⟨x10, X10⟩ : ∃ x, Hid (IntKind.i64.wrap ((tk (fld l 10 8) : Nat) : Int) = x) := ⟨_, rfl⟩
      obtain ⟨x18, X18⟩ : ∃ x, Hid (IntKind.i64.wrap ((tk (fld l 18 8) : Nat) : Int) = x) := ⟨_, rfl⟩
      go_cut [7] from 28 (fun v wr => ∃ gb, v = .pointer (some ⟨gb, 0, none⟩) ∧ St w [] wr (lay [.blk ga 31 [.int .u8 0, .int .i64 0, .int .u8 0, .int .i64 0, .int .i64 0, .slice none 0 0, .slice none 0 0], .blk gb 31 [.int .u8 (b0.toNat : Int), .int .i64 x2, .int .u8 (b1.toNat : Int), .int .i64 x10, .int .i64 x18, .slice none 0 0, .slice none 0 0]]))
      case first =>
        obtain rfl := X2.out
        obtain rfl := X10.out
        obtain rfl := X18.out
        have k0 : (0 : Int) < n := by omega
        have k0' : 0 < n := by omega
        have k1 : (1 : Int) < n := by omega
        have k10 : (10 : Int) ≤ c := by omega
        have k18 : (18 : Int) ≤ c := by omega
        have k26 : (26 : Int) ≤ c := by omega
        have q2 : ¬ c = 2 := by omega
        have q10 : ¬ c = 10 := by omega
        have q18 : ¬ c = 18 := by omega
        go_region_held3 (fun w' => w'.cell? ⟨b, o, none⟩ = some (vb b0) ∧ w'.cell? ⟨b, o + 1, none⟩ = some (vb b1)) (first | with_reducible exact ⟨c0, c1⟩ | with_reducible exact C2.out _) ((go_at_call 58; refine (G.out _ _ _ _ ?_ ?_ ?_).mono ?_; (omega); (omega); (first | with_reducible exact hr1 | with_reducible exact R2.out _); rintro e w9 ⟨rfl, rfl⟩))
        all_goals
          go_wp2
          go_meet
          exact ⟨w2.heap.size, rfl, ((H.allocAt 1 rfl w2.heap.size rfl _ _).push_mk rfl).drew⟩
      case rest =>
        clear C2 R2 c0 c1 hr1 H
        obtain ⟨gb, rfl, H5⟩ := hcut
        have kc : (32 : Int) + D ≤ c := by omega
        have ke : (32 : Int) + D + M ≤ c := by omega
        by_cases q32 : c = 32
        · have qt : (c = 32) = True := eq_true q32
          have qu : (c = 32 + D) = True := eq_true (by omega)
          have QQ := Lib.hid q32
          clear q32
          go_wp2_with fail
          any_goals (first | (exfalso; have := QQ.out; omega) | skip)
          refine (refCopied_any _ _ _ (fld l (32) D) _ ?hr8 (by omega)).mono ?_
          case hr8 => exact Rd.zero2 (by have := QQ.out; omega) (by have := QQ.out; omega)
          rintro e wx ⟨v8, rfl, hox, hbx⟩
          have H8 := (H5.pushOwnB 2 rfl hox hbx).push_mk rfl
          replace H8 := St.shape_row H8 2 rfl (n' := D) (fld_length _ _ _ (by have := HL.out; omega)) rfl
          clear hox hbx H5
          obtain ⟨A8, c8, rfl, -⟩ := row_form (H8.row 2 rfl)
          have f5 := H8.cell 1 rfl (o := 5) rfl
          have g5 := H8.free 1 rfl 5
          have f6 := H8.cell 1 rfl (o := 6) rfl
          have g6 := H8.free 1 rfl 6
          go_wp2_with fail
          any_goals (first | (exfalso; have := QQ.out; omega) | skip)
          replace H8 := (H8.store 1 rfl (o := 5) (u := .slice A8 D c8)).upd_mk (by simp)
          refine (refCopied_any _ _ _ (fld l (32 + D) M) _ ?hr9 (by omega)).mono ?_
          case hr9 => exact Rd.zero2 (by have := QQ.out; omega) (by have := QQ.out; omega)
          rintro e wx ⟨v9, rfl, hox, hbx⟩
          have H9 := (H8.pushOwnB 3 rfl hox hbx).push_mk rfl
          replace H9 := St.shape_row H9 3 rfl (n' := M) (fld_length _ _ _ (by have := HL.out; omega)) rfl
          clear hox hbx H8
          obtain ⟨A9, c9, rfl, -⟩ := row_form (H9.row 3 rfl)
          have f5 := H9.cell 1 rfl (o := 5) rfl
          have g5 := H9.free 1 rfl 5
          have f6 := H9.cell 1 rfl (o := 6) rfl
          have g6 := H9.free 1 rfl 6
          have HX : St w [] (wx.setCell ⟨gb, 6, none⟩ (.slice A9 M c9)) (lay [.blk ga 31 [.int .u8 0, .int .i64 0, .int .u8 0, .int .i64 0, .int .i64 0, .slice none 0 0, .slice none 0 0], .blk gb 31 [.int .u8 (b0.toNat : Int), .int .i64 x2, .int .u8 (b1.toNat : Int), .int .i64 x10, .int .i64 x18, .slice A8 D c8, .slice A9 M c9], .row 5 1 (.slice A8 D c8) D ((fld l 32 D).map vb), .row 5 1 (.slice A9 M c9) M ((fld l (32 + D) M).map vb)]) := (H9.store 1 rfl (o := 6) (u := .slice A9 M c9)).upd_mk (by simp)
          have hb := HX.blk 1 rfl
          have ht := HX.there 0 rfl
          go_wp2_with (first | (refine wpList_load_row rfl 31 (.tmp 7) rfl gb rfl _ _ _ _ hb Try.underlying31 rfl op_size ?_) | (refine wpList_store_mid rfl 31 (.tmp 2) (.tmp 63) rfl ga 0 (List.toArray [.int .u8 (b0.toNat : Int), .int .i64 x2, .int .u8 (b1.toNat : Int), .int .i64 x10, .int .i64 x18, .slice A8 D c8, .slice A9 M c9]) rfl rfl ht op_size (all_oneCell_toArray (by simp [Value.oneCell'])) ?_))
          have HY : St w [] ((wx.setCell ⟨gb, 6, none⟩ (.slice A9 M c9)).setCells ga 0 [.int .u8 (b0.toNat : Int), .int .i64 x2, .int .u8 (b1.toNat : Int), .int .i64 x10, .int .i64 x18, .slice A8 D c8, .slice A9 M c9]) (lay [.blk ga 31 [.int .u8 (b0.toNat : Int), .int .i64 x2, .int .u8 (b1.toNat : Int), .int .i64 x10, .int .i64 x18, .slice A8 D c8, .slice A9 M c9], .blk gb 31 [.int .u8 (b0.toNat : Int), .int .i64 x2, .int .u8 (b1.toNat : Int), .int .i64 x10, .int .i64 x18, .slice A8 D c8, .slice A9 M c9], .row 5 1 (.slice A8 D c8) D ((fld l 32 D).map vb), .row 5 1 (.slice A9 M c9) M ((fld l (32 + D) M).map vb)]) := (HX.storeAll 0 rfl (vs := [.int .u8 (b0.toNat : Int), .int .i64 x2, .int .u8 (b1.toNat : Int), .int .i64 x10, .int .i64 x18, .slice A8 D c8, .slice A9 M c9]) rfl).upd_mk (by simp)
          refine bodyPost_ret (results_cell2 rfl _ _ ga 31 _ _ _ rfl (HY.blk 0 rfl) Try.underlying31 rfl op_size) rfl ?_
          have hP := NextP.ok (w := w) (N := 32 + D + M) (by rw [HD.out, HM.out]; exact HOK.out.2 hend) (HY.pick (E' := lay [.row 5 1 (.slice A8 D c8) D ((fld l 32 D).map vb), .row 5 1 (.slice A9 M c9) M ((fld l (32 + D) M).map vb)]) (fun k => k + 2) (fun i j h => by omega) (fun k A hA => hA)) HD.out.symm HM.out.symm (by rw [HD.out]) (by rw [HD.out, HM.out]) (by rw [HD.out, HM.out])
          rw [B0.out, B1.out] at hP
          rw [show i64N (tk (fld l 2 8)) = x2 from X2.out, show i64N (tk (fld l 10 8)) = x10 from X10.out, show i64N (tk (fld l 18 8)) = x18 from X18.out] at hP
          exact hP
        · by_cases qD : c = 32 + D
          · have qu : (c = 32 + D) = True := eq_true qD
            have QQ := Lib.hid qD
            clear qD
            go_wp2_with fail
            any_goals (first | (exfalso; have := QQ.out; omega) | skip)
            refine (refCopied_any _ _ _ (fld l (32) D) _ ?hr8 (by omega)).mono ?_
            case hr8 => exact (H5.arg0 hR).fld2 (32) D _ (by omega) (by omega) rfl
            rintro e wx ⟨v8, rfl, hox, hbx⟩
            have H8 := (H5.pushOwnB 2 rfl hox hbx).push_mk rfl
            replace H8 := St.shape_row H8 2 rfl (n' := D) (fld_length _ _ _ (by have := HL.out; omega)) rfl
            clear hox hbx H5
            obtain ⟨A8, c8, rfl, -⟩ := row_form (H8.row 2 rfl)
            have f5 := H8.cell 1 rfl (o := 5) rfl
            have g5 := H8.free 1 rfl 5
            have f6 := H8.cell 1 rfl (o := 6) rfl
            have g6 := H8.free 1 rfl 6
            go_wp2_with fail
            any_goals (first | (exfalso; have := QQ.out; omega) | skip)
            replace H8 := (H8.store 1 rfl (o := 5) (u := .slice A8 D c8)).upd_mk (by simp)
            refine (refCopied_any _ _ _ (fld l (32 + D) M) _ ?hr9 (by omega)).mono ?_
            case hr9 => exact Rd.zero2 (by have := QQ.out; omega) (by have := QQ.out; omega)
            rintro e wx ⟨v9, rfl, hox, hbx⟩
            have H9 := (H8.pushOwnB 3 rfl hox hbx).push_mk rfl
            replace H9 := St.shape_row H9 3 rfl (n' := M) (fld_length _ _ _ (by have := HL.out; omega)) rfl
            clear hox hbx H8
            obtain ⟨A9, c9, rfl, -⟩ := row_form (H9.row 3 rfl)
            have f5 := H9.cell 1 rfl (o := 5) rfl
            have g5 := H9.free 1 rfl 5
            have f6 := H9.cell 1 rfl (o := 6) rfl
            have g6 := H9.free 1 rfl 6
            have HX : St w [] (wx.setCell ⟨gb, 6, none⟩ (.slice A9 M c9)) (lay [.blk ga 31 [.int .u8 0, .int .i64 0, .int .u8 0, .int .i64 0, .int .i64 0, .slice none 0 0, .slice none 0 0], .blk gb 31 [.int .u8 (b0.toNat : Int), .int .i64 x2, .int .u8 (b1.toNat : Int), .int .i64 x10, .int .i64 x18, .slice A8 D c8, .slice A9 M c9], .row 5 1 (.slice A8 D c8) D ((fld l 32 D).map vb), .row 5 1 (.slice A9 M c9) M ((fld l (32 + D) M).map vb)]) := (H9.store 1 rfl (o := 6) (u := .slice A9 M c9)).upd_mk (by simp)
            have hb := HX.blk 1 rfl
            have ht := HX.there 0 rfl
            go_wp2_with (first | (refine wpList_load_row rfl 31 (.tmp 7) rfl gb rfl _ _ _ _ hb Try.underlying31 rfl op_size ?_) | (refine wpList_store_mid rfl 31 (.tmp 2) (.tmp 63) rfl ga 0 (List.toArray [.int .u8 (b0.toNat : Int), .int .i64 x2, .int .u8 (b1.toNat : Int), .int .i64 x10, .int .i64 x18, .slice A8 D c8, .slice A9 M c9]) rfl rfl ht op_size (all_oneCell_toArray (by simp [Value.oneCell'])) ?_))
            have HY : St w [] ((wx.setCell ⟨gb, 6, none⟩ (.slice A9 M c9)).setCells ga 0 [.int .u8 (b0.toNat : Int), .int .i64 x2, .int .u8 (b1.toNat : Int), .int .i64 x10, .int .i64 x18, .slice A8 D c8, .slice A9 M c9]) (lay [.blk ga 31 [.int .u8 (b0.toNat : Int), .int .i64 x2, .int .u8 (b1.toNat : Int), .int .i64 x10, .int .i64 x18, .slice A8 D c8, .slice A9 M c9], .blk gb 31 [.int .u8 (b0.toNat : Int), .int .i64 x2, .int .u8 (b1.toNat : Int), .int .i64 x10, .int .i64 x18, .slice A8 D c8, .slice A9 M c9], .row 5 1 (.slice A8 D c8) D ((fld l 32 D).map vb), .row 5 1 (.slice A9 M c9) M ((fld l (32 + D) M).map vb)]) := (HX.storeAll 0 rfl (vs := [.int .u8 (b0.toNat : Int), .int .i64 x2, .int .u8 (b1.toNat : Int), .int .i64 x10, .int .i64 x18, .slice A8 D c8, .slice A9 M c9]) rfl).upd_mk (by simp)
            refine bodyPost_ret (results_cell2 rfl _ _ ga 31 _ _ _ rfl (HY.blk 0 rfl) Try.underlying31 rfl op_size) rfl ?_
            have hP := NextP.ok (w := w) (N := 32 + D + M) (by rw [HD.out, HM.out]; exact HOK.out.2 hend) (HY.pick (E' := lay [.row 5 1 (.slice A8 D c8) D ((fld l 32 D).map vb), .row 5 1 (.slice A9 M c9) M ((fld l (32 + D) M).map vb)]) (fun k => k + 2) (fun i j h => by omega) (fun k A hA => hA)) HD.out.symm HM.out.symm (by rw [HD.out]) (by rw [HD.out, HM.out]) (by rw [HD.out, HM.out])
            rw [B0.out, B1.out] at hP
            rw [show i64N (tk (fld l 2 8)) = x2 from X2.out, show i64N (tk (fld l 10 8)) = x10 from X10.out, show i64N (tk (fld l 18 8)) = x18 from X18.out] at hP
            exact hP
          · skip
            go_wp2_with fail
            any_goals (first | (exfalso; have := QQ.out; omega) | skip)
            refine (refCopied_any _ _ _ (fld l (32) D) _ ?hr8 (by omega)).mono ?_
            case hr8 => exact (H5.arg0 hR).fld2 (32) D _ (by omega) (by omega) rfl
            rintro e wx ⟨v8, rfl, hox, hbx⟩
            have H8 := (H5.pushOwnB 2 rfl hox hbx).push_mk rfl
            replace H8 := St.shape_row H8 2 rfl (n' := D) (fld_length _ _ _ (by have := HL.out; omega)) rfl
            clear hox hbx H5
            obtain ⟨A8, c8, rfl, -⟩ := row_form (H8.row 2 rfl)
            have f5 := H8.cell 1 rfl (o := 5) rfl
            have g5 := H8.free 1 rfl 5
            have f6 := H8.cell 1 rfl (o := 6) rfl
            have g6 := H8.free 1 rfl 6
            go_wp2_with fail
            any_goals (first | (exfalso; have := QQ.out; omega) | skip)
            replace H8 := (H8.store 1 rfl (o := 5) (u := .slice A8 D c8)).upd_mk (by simp)
            refine (refCopied_any _ _ _ (fld l (32 + D) M) _ ?hr9 (by omega)).mono ?_
            case hr9 => exact (H8.arg0 hR).fld2 (32 + D) M _ (by omega) (by omega) rfl
            rintro e wx ⟨v9, rfl, hox, hbx⟩
            have H9 := (H8.pushOwnB 3 rfl hox hbx).push_mk rfl
            replace H9 := St.shape_row H9 3 rfl (n' := M) (fld_length _ _ _ (by have := HL.out; omega)) rfl
            clear hox hbx H8
            obtain ⟨A9, c9, rfl, -⟩ := row_form (H9.row 3 rfl)
            have f5 := H9.cell 1 rfl (o := 5) rfl
            have g5 := H9.free 1 rfl 5
            have f6 := H9.cell 1 rfl (o := 6) rfl
            have g6 := H9.free 1 rfl 6
            have HX : St w [] (wx.setCell ⟨gb, 6, none⟩ (.slice A9 M c9)) (lay [.blk ga 31 [.int .u8 0, .int .i64 0, .int .u8 0, .int .i64 0, .int .i64 0, .slice none 0 0, .slice none 0 0], .blk gb 31 [.int .u8 (b0.toNat : Int), .int .i64 x2, .int .u8 (b1.toNat : Int), .int .i64 x10, .int .i64 x18, .slice A8 D c8, .slice A9 M c9], .row 5 1 (.slice A8 D c8) D ((fld l 32 D).map vb), .row 5 1 (.slice A9 M c9) M ((fld l (32 + D) M).map vb)]) := (H9.store 1 rfl (o := 6) (u := .slice A9 M c9)).upd_mk (by simp)
            have hb := HX.blk 1 rfl
            have ht := HX.there 0 rfl
            go_wp2_with (first | (refine wpList_load_row rfl 31 (.tmp 7) rfl gb rfl _ _ _ _ hb Try.underlying31 rfl op_size ?_) | (refine wpList_store_mid rfl 31 (.tmp 2) (.tmp 63) rfl ga 0 (List.toArray [.int .u8 (b0.toNat : Int), .int .i64 x2, .int .u8 (b1.toNat : Int), .int .i64 x10, .int .i64 x18, .slice A8 D c8, .slice A9 M c9]) rfl rfl ht op_size (all_oneCell_toArray (by simp [Value.oneCell'])) ?_))
            have HY : St w [] ((wx.setCell ⟨gb, 6, none⟩ (.slice A9 M c9)).setCells ga 0 [.int .u8 (b0.toNat : Int), .int .i64 x2, .int .u8 (b1.toNat : Int), .int .i64 x10, .int .i64 x18, .slice A8 D c8, .slice A9 M c9]) (lay [.blk ga 31 [.int .u8 (b0.toNat : Int), .int .i64 x2, .int .u8 (b1.toNat : Int), .int .i64 x10, .int .i64 x18, .slice A8 D c8, .slice A9 M c9], .blk gb 31 [.int .u8 (b0.toNat : Int), .int .i64 x2, .int .u8 (b1.toNat : Int), .int .i64 x10, .int .i64 x18, .slice A8 D c8, .slice A9 M c9], .row 5 1 (.slice A8 D c8) D ((fld l 32 D).map vb), .row 5 1 (.slice A9 M c9) M ((fld l (32 + D) M).map vb)]) := (HX.storeAll 0 rfl (vs := [.int .u8 (b0.toNat : Int), .int .i64 x2, .int .u8 (b1.toNat : Int), .int .i64 x10, .int .i64 x18, .slice A8 D c8, .slice A9 M c9]) rfl).upd_mk (by simp)
            refine bodyPost_ret (results_cell2 rfl _ _ ga 31 _ _ _ rfl (HY.blk 0 rfl) Try.underlying31 rfl op_size) rfl ?_
            have hP := NextP.ok (w := w) (N := 32 + D + M) (by rw [HD.out, HM.out]; exact HOK.out.2 hend) (HY.pick (E' := lay [.row 5 1 (.slice A8 D c8) D ((fld l 32 D).map vb), .row 5 1 (.slice A9 M c9) M ((fld l (32 + D) M).map vb)]) (fun k => k + 2) (fun i j h => by omega) (fun k A hA => hA)) HD.out.symm HM.out.symm (by rw [HD.out]) (by rw [HD.out, HM.out]) (by rw [HD.out, HM.out])
            rw [B0.out, B1.out] at hP
            rw [show i64N (tk (fld l 2 8)) = x2 from X2.out, show i64N (tk (fld l 10 8)) = x10 from X10.out, show i64N (tk (fld l 18 8)) = x18 from X18.out] at hP
            exact hP
    · have hend' : (n : Int) < 32 + D + M := by omega
      go_wp2_with (refine wpList_store_mid rfl 31 (.tmp 2) (.tmp 27) rfl ga 0 _ rfl rfl (H.there 0 rfl) op_size (by simp [Value.oneCell']) ?_)
      have H4 := (H.storeAll 0 rfl (vs := [.int .u8 0, .int .i64 0, .int .u8 0, .int .i64 0, .int .i64 0, .slice none 0 0, .slice none 0 0]) rfl).upd_mk (by simp)
      refine bodyPost_ret (results_cell2 rfl _ _ ga 31 _ _ _ rfl (H4.blk 0 rfl) Try.underlying31 rfl op_size) rfl (NextP.no ?_ H4.below)
      have h2 := HOK.out
      rw [← HD.out, ← HM.out] at h2 hend
      unfold nextR
      rw [if_neg (fun h3 => hend (h2.1 h3))]
  · have HL := Lib.hid hl
    clear hl
    have h32' : (n : Int) < 32 := by omega
    go_enter Try.func24, Try.ntmps24
    go_wp2_with fail
    refine bodyPost_ret (results_cell2 rfl _ _ w.heap.size 31 #[.int .u8 0, .int .i64 0, .int .u8 0, .int .i64 0, .int .i64 0, .slice none 0 0, .slice none 0 0] _ _ rfl (heap_alloc_new _ _) Try.underlying31 rfl op_size) rfl (NextP.no ?_ ((Below.refl _ _).alloc (Nat.le_refl _) _))
    unfold nextR
    rw [if_neg (by rw [HL.out]; omega)]
end Go.Proofs.Ytgfhnbjpdhdhgaa
