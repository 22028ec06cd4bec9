/- op.Next of a longer list of bytes than an argument may be. -/
import Derived.Test.YtgfhnbjpdhdhgaaOpN
namespace Go.Proofs.Ytgfhnbjpdhdhgaa
open Go.RowKit
set_option linter.unusedVariables false

set_option maxHeartbeats 1000000 in
theorem next_w (A : Option Addr) (n c : Nat) (l : List UInt8) (w : World) (hR : Rd w 1 A n (l.map vb)) (hc : n ≤ c) (hn : n ≤ 281474976710656) :
    Calls Try.prog 22 #[.slice A n c] w (NextP l w) := by
  have hl : l.length = n := by simpa using hR.1
  by_cases h32 : 32 ≤ n
  · obtain ⟨b, o, rfl, -, -⟩ := hR.flat (by omega) (by omega)
    have hdm1 : ((nD l : Nat) : Int) ≤ 16777215 := by have := tk_lt (fld l 26 3); rw [fld_length _ _ _ (by omega)] at this; unfold nD; omega
    have hdm2 : ((nM l : Nat) : Int) ≤ 16777215 := by have := tk_lt (fld l 29 3); rw [fld_length _ _ _ (by omega)] at this; unfold nM; omega
    have hok : (32 ≤ l.length ∧ 32 + nD l + nM l ≤ l.length) ↔ 32 + nD l + nM l ≤ n := by omega
    have HOK := Lib.hid hok
    clear hok
    have HL := Lib.hid hl
    clear hl
    have G := Lib.hid (fun (a m c' : Nat) (w' : World) (ha : a + m ≤ n) (hm : m ≤ 8) (h' : Rd w' 1 (some ⟨b, o, none⟩) n (l.map vb)) => taken_s (some ⟨b, o + a, none⟩) m c' _ w' (h'.fld a m ha rfl) hm)
    have k29 : (29 : Int) ≤ c := by omega
    have k32 : (32 : Int) ≤ c := by omega
    have q26 : ¬ c = 26 := by omega
    have q29 : ¬ c = 29 := by omega
    go_enter Try.func22, Try.ntmps22
    go_wp2_with fail
    refine absorb_wp (St.start_lay w [] |>.allocAt 0 rfl w.heap.size rfl _ _ |>.push_mk rfl) ?_
    intro w1 H
    generalize hga : w.heap.size = ga at H ⊢
    clear hga
    have hr1 := H.arg0 hR
    go_quiet ((go_at_call 57; exact quiet_left (G.out _ _ _ _ (by omega) (by omega) (hr1.drewN _))))
    replace H := H.drewN nq
    generalize w1.drewN nq = w2 at H ⊢
    change Hid ((32 ≤ l.length ∧ 32 + tk (fld l 26 3) + tk (fld l 29 3) ≤ l.length) ↔ 32 + tk (fld l 26 3) + tk (fld l 29 3) ≤ n) at HOK
    change ((tk (fld l 26 3) : Nat) : Int) ≤ 16777215 at hdm1
    change ((tk (fld l 29 3) : Nat) : Int) ≤ 16777215 at hdm2
    generalize hD : tk (fld l 26 3) = D at hdm1 HOK ⊢
    generalize hM : tk (fld l 29 3) = M at hdm2 HOK ⊢
    have HD := Lib.hid hD
    have HM := Lib.hid hM
    clear hD hM
    have w1' : wrap64 (D : Int) = D := IntWalk.wrap64_in _ (by omega)
    have w2' : wrap64 (M : Int) = M := IntWalk.wrap64_in _ (by omega)
    rw [w1', w2']
    clear w1' w2'
    by_cases hend : 32 + D + M ≤ n
    · have hend' : ¬ (n : Int) < 32 + D + M := by omega
      go_wp2_with fail
      have hrA := H.arg0 hR
      have hr1 : Rd w2.drew 1 (some ⟨b, o, none⟩) n (l.map vb) := hrA
      have hr2 : ∀ x : Obj, Rd (w2.alloc x).drew 1 (some ⟨b, o, none⟩) n (l.map vb) := fun x => (hrA.below ((Below.refl _ _).alloc (Nat.le_refl _) x)).drew_
      have c0 : w2.drew.cell? ⟨b, o, none⟩ = some (vb (l.getD 0 0)) := rd_getD hr1 HL.out 0 (by omega)
      have c1 : w2.drew.cell? ⟨b, o + 1, none⟩ = some (vb (l.getD 1 0)) := rd_getD hr1 HL.out 1 (by omega)
      have c2 : ∀ x : Obj, (w2.alloc x).drew.cell? ⟨b, o, none⟩ = some (vb (l.getD 0 0)) ∧ (w2.alloc x).drew.cell? ⟨b, o + 1, none⟩ = some (vb (l.getD 1 0)) := fun x => ⟨rd_getD (hr2 x) HL.out 0 (by omega), rd_getD (hr2 x) HL.out 1 (by omega)⟩
      have C2 := Lib.hid c2
      have R2 := Lib.hid hr2
      clear c2 hr2 k29 k32 q26 q29 hrA
      obtain ⟨b0, B0⟩ : ∃ x, Hid (l.getD 0 0 = x) := ⟨_, rfl⟩
      obtain ⟨b1, B1⟩ : ∃ x, Hid (l.getD 1 0 = x) := ⟨_, rfl⟩
      rw [B0.out] at c0 C2
      rw [B1.out] at c1 C2
      obtain ⟨x2, X2⟩ : ∃ x, Hid (IntKind.i64.wrap ((tk (fld l 2 8) : Nat) : Int) = x) := ⟨_, rfl⟩
      obtain ⟨x10, X10⟩ : ∃ x, Hid (IntKind.i64.wrap ((tk (fld l 10 8) : Nat) : Int) = x) := ⟨_, rfl⟩
      obtain ⟨x18, X18⟩ : ∃ x, Hid (IntKind.i64.wrap ((tk (fld l 18 8) : Nat) : Int) = x) := ⟨_, rfl⟩
      go_cut [8] from 30 (fun v wr => ∃ gb, v = .pointer (some ⟨gb, 0, none⟩) ∧ St w [] wr (lay [.blk ga 31 [.int .u8 0, .int .i64 0, .int .u8 0, .int .i64 0, .int .i64 0, .slice none 0 0, .slice none 0 0], .blk gb 31 [.int .u8 (b0.toNat : Int), .int .i64 x2, .int .u8 (b1.toNat : Int), .int .i64 x10, .int .i64 x18, .slice none 0 0, .slice none 0 0]]))
      case first =>
        obtain rfl := X2.out
        obtain rfl := X10.out
        obtain rfl := X18.out
        have k0 : (0 : Int) < n := by omega
        have k0' : 0 < n := by omega
        have k1 : (1 : Int) < n := by omega
        have k10 : (10 : Int) ≤ c := by omega
        have k18 : (18 : Int) ≤ c := by omega
        have k26 : (26 : Int) ≤ c := by omega
        have q2 : ¬ c = 2 := by omega
        have q10 : ¬ c = 10 := by omega
        have q18 : ¬ c = 18 := by omega
        go_region_held3 (fun w' => w'.cell? ⟨b, o, none⟩ = some (vb b0) ∧ w'.cell? ⟨b, o + 1, none⟩ = some (vb b1)) (first | with_reducible exact ⟨c0, c1⟩ | with_reducible exact C2.out _) ((go_at_call 57; refine (G.out _ _ _ _ ?_ ?_ ?_).mono ?_; (omega); (omega); (first | with_reducible exact hr1 | with_reducible exact R2.out _); rintro e w9 ⟨rfl, rfl⟩))
        all_goals
          go_wp2
          go_meet
          exact ⟨w2.heap.size, rfl, ((H.allocAt 1 rfl w2.heap.size rfl _ _).push_mk rfl).drew⟩
      case rest =>
        clear C2 R2 c0 c1 hr1 H
        obtain ⟨gb, rfl, H5⟩ := hcut
        have kc : (32 : Int) + D ≤ c := by omega
        have ke : (32 : Int) + D + M ≤ c := by omega
        obtain ⟨i0, hi0, hz0, hz1, hz2⟩ := info_parts u8_info
        by_cases q32 : c = 32
        · have qt : (c = 32) = True := eq_true q32
          have qu : (c = 32 + D) = True := eq_true (by omega)
          have QQ := Lib.hid q32
          clear q32
          go_wp2_with (at_builtin; refine hold_here ?_)
          refine Held.go ?_
          have H6 := (H5.lit 2 rfl 5 #[] 0 rfl (by omega) wc.heap.size rfl).push_mk rfl
          have hr6 := H6.row 2 rfl
          refine wpList_append_any _ rfl (.tmp 49) (.tmp 53) _ rfl 0 5 i0 (.int .u8 0) 1 1 Try.underlying25 hi0 hz0 hz1 hz2 rfl (by omega) (.slice (some ⟨wc.heap.size, 0, none⟩) 0 0) 0 [] rfl hr6 _ _ _ (([] : List UInt8).map vb) rfl (Rd.zero ?hz8) (vb_one _) ?b18 ?b28 (by omega) ?_
          case hz8 => have := QQ.out; omega
          case b18 => simp only [maxLen]; omega
          case b28 => omega
          intro v8 wx hownx hgx hatx
          refine absorb_list ((H6.grow 2 rfl hownx hgx hatx).upd_mk (by simp)) ?_
          clear hr6 H6 hownx hgx hatx H5
          intro w8 H8
          replace H8 := St.shape_row H8 2 rfl (n' := D) (xs' := (fld l 32 D).map vb) (by first | omega | (have := QQ.out; omega)) (by first | (simp [fld]; done) | (simp [fld]; have := QQ.out; omega))
          obtain ⟨A8, c8, rfl, -⟩ := row_form (H8.row 2 rfl)
          have f5 := H8.cell 1 rfl (o := 5) rfl
          have g5 := H8.free 1 rfl 5
          have f6 := H8.cell 1 rfl (o := 6) rfl
          have g6 := H8.free 1 rfl 6
          go_wp2_with (at_builtin; refine hold_here ?_)
          refine Held.go ?_
          replace H8 := (H8.store 1 rfl (o := 5) (u := .slice A8 D c8)).upd_mk (by simp)
          have H6 := (H8.lit 3 rfl 5 #[] 0 rfl (by omega) w8.heap.size (by simp [World.setCell])).push_mk rfl
          have hr6 := H6.row 3 rfl
          refine wpList_append_any _ rfl (.tmp 56) (.tmp 61) _ rfl 0 5 i0 (.int .u8 0) 1 1 Try.underlying25 hi0 hz0 hz1 hz2 rfl (by omega) (.slice (some ⟨w8.heap.size, 0, none⟩) 0 0) 0 [] rfl hr6 _ _ _ (([] : List UInt8).map vb) rfl (Rd.zero ?hz9) (vb_one _) ?b19 ?b29 (by omega) ?_
          case hz9 => have := QQ.out; omega
          case b19 => simp only [maxLen]; omega
          case b29 => omega
          intro v9 wx hownx hgx hatx
          refine absorb_list ((H6.grow 3 rfl hownx hgx hatx).upd_mk (by simp)) ?_
          clear hr6 H6 hownx hgx hatx H8
          intro w9 H9
          replace H9 := St.shape_row H9 3 rfl (n' := M) (xs' := (fld l (32 + D) M).map vb) (by first | omega | (have := QQ.out; omega)) (by first | (simp [fld]; done) | (simp [fld]; have := QQ.out; omega))
          obtain ⟨A9, c9, rfl, -⟩ := row_form (H9.row 3 rfl)
          have f5 := H9.cell 1 rfl (o := 5) rfl
          have g5 := H9.free 1 rfl 5
          have f6 := H9.cell 1 rfl (o := 6) rfl
          have g6 := H9.free 1 rfl 6
          have HX : St w [] (w9.setCell ⟨gb, 6, none⟩ (.slice A9 M c9)) (lay [.blk ga 31 [.int .u8 0, .int .i64 0, .int .u8 0, .int .i64 0, .int .i64 0, .slice none 0 0, .slice none 0 0], .blk gb 31 [.int .u8 (b0.toNat : Int), .int .i64 x2, .int .u8 (b1.toNat : Int), .int .i64 x10, .int .i64 x18, .slice A8 D c8, .slice A9 M c9], .row 5 1 (.slice A8 D c8) D ((fld l 32 D).map vb), .row 5 1 (.slice A9 M c9) M ((fld l (32 + D) M).map vb)]) := (H9.store 1 rfl (o := 6) (u := .slice A9 M c9)).upd_mk (by simp)
          have hb := HX.blk 1 rfl
          have ht := HX.there 0 rfl
          go_wp2_with (first | (refine wpList_load_row rfl 31 (.tmp 8) rfl gb rfl _ _ _ _ hb Try.underlying31 rfl op_size ?_) | (refine wpList_store_mid rfl 31 (.tmp 2) (.tmp 64) rfl ga 0 (List.toArray [.int .u8 (b0.toNat : Int), .int .i64 x2, .int .u8 (b1.toNat : Int), .int .i64 x10, .int .i64 x18, .slice A8 D c8, .slice A9 M c9]) rfl rfl ht op_size (all_oneCell_toArray (by simp [Value.oneCell'])) ?_))
          have HY : St w [] ((w9.setCell ⟨gb, 6, none⟩ (.slice A9 M c9)).setCells ga 0 [.int .u8 (b0.toNat : Int), .int .i64 x2, .int .u8 (b1.toNat : Int), .int .i64 x10, .int .i64 x18, .slice A8 D c8, .slice A9 M c9]) (lay [.blk ga 31 [.int .u8 (b0.toNat : Int), .int .i64 x2, .int .u8 (b1.toNat : Int), .int .i64 x10, .int .i64 x18, .slice A8 D c8, .slice A9 M c9], .blk gb 31 [.int .u8 (b0.toNat : Int), .int .i64 x2, .int .u8 (b1.toNat : Int), .int .i64 x10, .int .i64 x18, .slice A8 D c8, .slice A9 M c9], .row 5 1 (.slice A8 D c8) D ((fld l 32 D).map vb), .row 5 1 (.slice A9 M c9) M ((fld l (32 + D) M).map vb)]) := (HX.storeAll 0 rfl (vs := [.int .u8 (b0.toNat : Int), .int .i64 x2, .int .u8 (b1.toNat : Int), .int .i64 x10, .int .i64 x18, .slice A8 D c8, .slice A9 M c9]) rfl).upd_mk (by simp)
          refine bodyPost_ret (results_cell2 rfl _ _ ga 31 _ _ _ rfl (HY.blk 0 rfl) Try.underlying31 rfl op_size) rfl ?_
          have hP := NextP.ok (w := w) (N := 32 + D + M) (by unfold nD nM; rw [HD.out, HM.out]; exact HOK.out.2 hend) (HY.pick (E' := lay [.row 5 1 (.slice A8 D c8) D ((fld l 32 D).map vb), .row 5 1 (.slice A9 M c9) M ((fld l (32 + D) M).map vb)]) (fun k => k + 2) (fun i j h => by omega) (fun k A hA => hA)) HD.out.symm HM.out.symm (by rw [nD, HD.out]) (by rw [nD, nM, HD.out, HM.out]) (by rw [nD, nM, HD.out, HM.out])
          rw [B0.out, B1.out] at hP
          rw [show i64N (tk (fld l 2 8)) = x2 from X2.out, show i64N (tk (fld l 10 8)) = x10 from X10.out, show i64N (tk (fld l 18 8)) = x18 from X18.out] at hP
          exact hP
        · by_cases qD : c = 32 + D
          · have qu : (c = 32 + D) = True := eq_true qD
            have QQ := Lib.hid qD
            clear qD
            go_wp2_with (at_builtin; refine hold_here ?_)
            refine Held.go ?_
            have H6 := (H5.lit 2 rfl 5 #[] 0 rfl (by omega) wc.heap.size rfl).push_mk rfl
            have hr6 := H6.row 2 rfl
            have hra : Rd (wc.alloc (.cells #[] 5)) 1 (some ⟨b, o + 32, none⟩) (32 + D - 32) ((fld l 32 (32 + D - 32)).map vb) := (H6.arg0 hR).fld 32 (32 + D - 32) (by omega) rfl
            refine wpList_append_any _ rfl (.tmp 49) (.tmp 53) _ rfl 0 5 i0 (.int .u8 0) 1 1 Try.underlying25 hi0 hz0 hz1 hz2 rfl (by omega) (.slice (some ⟨wc.heap.size, 0, none⟩) 0 0) 0 [] rfl hr6 (some ⟨b, o + 32, none⟩) (32 + D - 32) (c - 32) _ rfl hra (vb_one _) ?b18 ?b28 (by omega) ?_
            case b18 => simp only [maxLen]; omega
            case b28 => omega
            intro v8 wx hownx hgx hatx
            refine absorb_list ((H6.grow 2 rfl hownx hgx hatx).upd_mk (by simp)) ?_
            clear hr6 H6 hra hownx hgx hatx H5
            intro w8 H8
            replace H8 := St.shape_row H8 2 rfl (n' := D) (xs' := (fld l 32 D).map vb) (by first | omega | (have := QQ.out; omega)) (by first | (simp [fld]; done) | (simp [fld]; have := QQ.out; omega))
            obtain ⟨A8, c8, rfl, -⟩ := row_form (H8.row 2 rfl)
            have f5 := H8.cell 1 rfl (o := 5) rfl
            have g5 := H8.free 1 rfl 5
            have f6 := H8.cell 1 rfl (o := 6) rfl
            have g6 := H8.free 1 rfl 6
            go_wp2_with (at_builtin; refine hold_here ?_)
            refine Held.go ?_
            replace H8 := (H8.store 1 rfl (o := 5) (u := .slice A8 D c8)).upd_mk (by simp)
            have H6 := (H8.lit 3 rfl 5 #[] 0 rfl (by omega) w8.heap.size (by simp [World.setCell])).push_mk rfl
            have hr6 := H6.row 3 rfl
            refine wpList_append_any _ rfl (.tmp 56) (.tmp 61) _ rfl 0 5 i0 (.int .u8 0) 1 1 Try.underlying25 hi0 hz0 hz1 hz2 rfl (by omega) (.slice (some ⟨w8.heap.size, 0, none⟩) 0 0) 0 [] rfl hr6 _ _ _ (([] : List UInt8).map vb) rfl (Rd.zero ?hz9) (vb_one _) ?b19 ?b29 (by omega) ?_
            case hz9 => have := QQ.out; omega
            case b19 => simp only [maxLen]; omega
            case b29 => omega
            intro v9 wx hownx hgx hatx
            refine absorb_list ((H6.grow 3 rfl hownx hgx hatx).upd_mk (by simp)) ?_
            clear hr6 H6 hownx hgx hatx H8
            intro w9 H9
            replace H9 := St.shape_row H9 3 rfl (n' := M) (xs' := (fld l (32 + D) M).map vb) (by first | omega | (have := QQ.out; omega)) (by first | (simp [fld]; done) | (simp [fld]; have := QQ.out; omega))
            obtain ⟨A9, c9, rfl, -⟩ := row_form (H9.row 3 rfl)
            have f5 := H9.cell 1 rfl (o := 5) rfl
            have g5 := H9.free 1 rfl 5
            have f6 := H9.cell 1 rfl (o := 6) rfl
            have g6 := H9.free 1 rfl 6
            have HX : St w [] (w9.setCell ⟨gb, 6, none⟩ (.slice A9 M c9)) (lay [.blk ga 31 [.int .u8 0, .int .i64 0, .int .u8 0, .int .i64 0, .int .i64 0, .slice none 0 0, .slice none 0 0], .blk gb 31 [.int .u8 (b0.toNat : Int), .int .i64 x2, .int .u8 (b1.toNat : Int), .int .i64 x10, .int .i64 x18, .slice A8 D c8, .slice A9 M c9], .row 5 1 (.slice A8 D c8) D ((fld l 32 D).map vb), .row 5 1 (.slice A9 M c9) M ((fld l (32 + D) M).map vb)]) := (H9.store 1 rfl (o := 6) (u := .slice A9 M c9)).upd_mk (by simp)
            have hb := HX.blk 1 rfl
            have ht := HX.there 0 rfl
            go_wp2_with (first | (refine wpList_load_row rfl 31 (.tmp 8) rfl gb rfl _ _ _ _ hb Try.underlying31 rfl op_size ?_) | (refine wpList_store_mid rfl 31 (.tmp 2) (.tmp 64) rfl ga 0 (List.toArray [.int .u8 (b0.toNat : Int), .int .i64 x2, .int .u8 (b1.toNat : Int), .int .i64 x10, .int .i64 x18, .slice A8 D c8, .slice A9 M c9]) rfl rfl ht op_size (all_oneCell_toArray (by simp [Value.oneCell'])) ?_))
            have HY : St w [] ((w9.setCell ⟨gb, 6, none⟩ (.slice A9 M c9)).setCells ga 0 [.int .u8 (b0.toNat : Int), .int .i64 x2, .int .u8 (b1.toNat : Int), .int .i64 x10, .int .i64 x18, .slice A8 D c8, .slice A9 M c9]) (lay [.blk ga 31 [.int .u8 (b0.toNat : Int), .int .i64 x2, .int .u8 (b1.toNat : Int), .int .i64 x10, .int .i64 x18, .slice A8 D c8, .slice A9 M c9], .blk gb 31 [.int .u8 (b0.toNat : Int), .int .i64 x2, .int .u8 (b1.toNat : Int), .int .i64 x10, .int .i64 x18, .slice A8 D c8, .slice A9 M c9], .row 5 1 (.slice A8 D c8) D ((fld l 32 D).map vb), .row 5 1 (.slice A9 M c9) M ((fld l (32 + D) M).map vb)]) := (HX.storeAll 0 rfl (vs := [.int .u8 (b0.toNat : Int), .int .i64 x2, .int .u8 (b1.toNat : Int), .int .i64 x10, .int .i64 x18, .slice A8 D c8, .slice A9 M c9]) rfl).upd_mk (by simp)
            refine bodyPost_ret (results_cell2 rfl _ _ ga 31 _ _ _ rfl (HY.blk 0 rfl) Try.underlying31 rfl op_size) rfl ?_
            have hP := NextP.ok (w := w) (N := 32 + D + M) (by unfold nD nM; rw [HD.out, HM.out]; exact HOK.out.2 hend) (HY.pick (E' := lay [.row 5 1 (.slice A8 D c8) D ((fld l 32 D).map vb), .row 5 1 (.slice A9 M c9) M ((fld l (32 + D) M).map vb)]) (fun k => k + 2) (fun i j h => by omega) (fun k A hA => hA)) HD.out.symm HM.out.symm (by rw [nD, HD.out]) (by rw [nD, nM, HD.out, HM.out]) (by rw [nD, nM, HD.out, HM.out])
            rw [B0.out, B1.out] at hP
            rw [show i64N (tk (fld l 2 8)) = x2 from X2.out, show i64N (tk (fld l 10 8)) = x10 from X10.out, show i64N (tk (fld l 18 8)) = x18 from X18.out] at hP
            exact hP
          · skip
            go_wp2_with (at_builtin; refine hold_here ?_)
            refine Held.go ?_
            have H6 := (H5.lit 2 rfl 5 #[] 0 rfl (by omega) wc.heap.size rfl).push_mk rfl
            have hr6 := H6.row 2 rfl
            have hra : Rd (wc.alloc (.cells #[] 5)) 1 (some ⟨b, o + 32, none⟩) (32 + D - 32) ((fld l 32 (32 + D - 32)).map vb) := (H6.arg0 hR).fld 32 (32 + D - 32) (by omega) rfl
            refine wpList_append_any _ rfl (.tmp 49) (.tmp 53) _ rfl 0 5 i0 (.int .u8 0) 1 1 Try.underlying25 hi0 hz0 hz1 hz2 rfl (by omega) (.slice (some ⟨wc.heap.size, 0, none⟩) 0 0) 0 [] rfl hr6 (some ⟨b, o + 32, none⟩) (32 + D - 32) (c - 32) _ rfl hra (vb_one _) ?b18 ?b28 (by omega) ?_
            case b18 => simp only [maxLen]; omega
            case b28 => omega
            intro v8 wx hownx hgx hatx
            refine absorb_list ((H6.grow 2 rfl hownx hgx hatx).upd_mk (by simp)) ?_
            clear hr6 H6 hra hownx hgx hatx H5
            intro w8 H8
            replace H8 := St.shape_row H8 2 rfl (n' := D) (xs' := (fld l 32 D).map vb) (by first | omega | (have := QQ.out; omega)) (by first | (simp [fld]; done) | (simp [fld]; have := QQ.out; omega))
            obtain ⟨A8, c8, rfl, -⟩ := row_form (H8.row 2 rfl)
            have f5 := H8.cell 1 rfl (o := 5) rfl
            have g5 := H8.free 1 rfl 5
            have f6 := H8.cell 1 rfl (o := 6) rfl
            have g6 := H8.free 1 rfl 6
            go_wp2_with (at_builtin; refine hold_here ?_)
            refine Held.go ?_
            replace H8 := (H8.store 1 rfl (o := 5) (u := .slice A8 D c8)).upd_mk (by simp)
            have H6 := (H8.lit 3 rfl 5 #[] 0 rfl (by omega) w8.heap.size (by simp [World.setCell])).push_mk rfl
            have hr6 := H6.row 3 rfl
            have hra : Rd ((w8.setCell ⟨gb, 5, none⟩ (.slice A8 D c8)).alloc (.cells #[] 5)) 1 (some ⟨b, o + (32 + D), none⟩) M ((fld l (32 + D) M).map vb) := (H6.arg0 hR).fld (32 + D) M (by omega) rfl
            refine wpList_append_any _ rfl (.tmp 56) (.tmp 61) _ rfl 0 5 i0 (.int .u8 0) 1 1 Try.underlying25 hi0 hz0 hz1 hz2 rfl (by omega) (.slice (some ⟨w8.heap.size, 0, none⟩) 0 0) 0 [] rfl hr6 (some ⟨b, o + (32 + D), none⟩) M (c - (32 + D)) _ rfl hra (vb_one _) ?b19 ?b29 (by omega) ?_
            case b19 => simp only [maxLen]; omega
            case b29 => omega
            intro v9 wx hownx hgx hatx
            refine absorb_list ((H6.grow 3 rfl hownx hgx hatx).upd_mk (by simp)) ?_
            clear hr6 H6 hra hownx hgx hatx H8
            intro w9 H9
            replace H9 := St.shape_row H9 3 rfl (n' := M) (xs' := (fld l (32 + D) M).map vb) (by first | omega | (have := QQ.out; omega)) (by first | (simp [fld]; done) | (simp [fld]; have := QQ.out; omega))
            obtain ⟨A9, c9, rfl, -⟩ := row_form (H9.row 3 rfl)
            have f5 := H9.cell 1 rfl (o := 5) rfl
            have g5 := H9.free 1 rfl 5
            have f6 := H9.cell 1 rfl (o := 6) rfl
            have g6 := H9.free 1 rfl 6
            have HX : St w [] (w9.setCell ⟨gb, 6, none⟩ (.slice A9 M c9)) (lay [.blk ga 31 [.int .u8 0, .int .i64 0, .int .u8 0, .int .i64 0, .int .i64 0, .slice none 0 0, .slice none 0 0], .blk gb 31 [.int .u8 (b0.toNat : Int), .int .i64 x2, .int .u8 (b1.toNat : Int), .int .i64 x10, .int .i64 x18, .slice A8 D c8, .slice A9 M c9], .row 5 1 (.slice A8 D c8) D ((fld l 32 D).map vb), .row 5 1 (.slice A9 M c9) M ((fld l (32 + D) M).map vb)]) := (H9.store 1 rfl (o := 6) (u := .slice A9 M c9)).upd_mk (by simp)
            have hb := HX.blk 1 rfl
            have ht := HX.there 0 rfl
            go_wp2_with (first | (refine wpList_load_row rfl 31 (.tmp 8) rfl gb rfl _ _ _ _ hb Try.underlying31 rfl op_size ?_) | (refine wpList_store_mid rfl 31 (.tmp 2) (.tmp 64) rfl ga 0 (List.toArray [.int .u8 (b0.toNat : Int), .int .i64 x2, .int .u8 (b1.toNat : Int), .int .i64 x10, .int .i64 x18, .slice A8 D c8, .slice A9 M c9]) rfl rfl ht op_size (all_oneCell_toArray (by simp [Value.oneCell'])) ?_))
            have HY : St w [] ((w9.setCell ⟨gb, 6, none⟩ (.slice A9 M c9)).setCells ga 0 [.int .u8 (b0.toNat : Int), .int .i64 x2, .int .u8 (b1.toNat : Int), .int .i64 x10, .int .i64 x18, .slice A8 D c8, .slice A9 M c9]) (lay [.blk ga 31 [.int .u8 (b0.toNat : Int), .int .i64 x2, .int .u8 (b1.toNat : Int), .int .i64 x10, .int .i64 x18, .slice A8 D c8, .slice A9 M c9], .blk gb 31 [.int .u8 (b0.toNat : Int), .int .i64 x2, .int .u8 (b1.toNat : Int), .int .i64 x10, .int .i64 x18, .slice A8 D c8, .slice A9 M c9], .row 5 1 (.slice A8 D c8) D ((fld l 32 D).map vb), .row 5 1 (.slice A9 M c9) M ((fld l (32 + D) M).map vb)]) := (HX.storeAll 0 rfl (vs := [.int .u8 (b0.toNat : Int), .int .i64 x2, .int .u8 (b1.toNat : Int), .int .i64 x10, .int .i64 x18, .slice A8 D c8, .slice A9 M c9]) rfl).upd_mk (by simp)
            refine bodyPost_ret (results_cell2 rfl _ _ ga 31 _ _ _ rfl (HY.blk 0 rfl) Try.underlying31 rfl op_size) rfl ?_
            have hP := NextP.ok (w := w) (N := 32 + D + M) (by unfold nD nM; rw [HD.out, HM.out]; exact HOK.out.2 hend) (HY.pick (E' := lay [.row 5 1 (.slice A8 D c8) D ((fld l 32 D).map vb), .row 5 1 (.slice A9 M c9) M ((fld l (32 + D) M).map vb)]) (fun k => k + 2) (fun i j h => by omega) (fun k A hA => hA)) HD.out.symm HM.out.symm (by rw [nD, HD.out]) (by rw [nD, nM, HD.out, HM.out]) (by rw [nD, nM, HD.out, HM.out])
            rw [B0.out, B1.out] at hP
            rw [show i64N (tk (fld l 2 8)) = x2 from X2.out, show i64N (tk (fld l 10 8)) = x10 from X10.out, show i64N (tk (fld l 18 8)) = x18 from X18.out] at hP
            exact hP
    · have hend' : (n : Int) < 32 + D + M := by omega
      go_wp2_with (refine wpList_store_mid rfl 31 (.tmp 2) (.tmp 29) rfl ga 0 _ rfl rfl (H.there 0 rfl) op_size (by simp [Value.oneCell']) ?_)
      have H4 := (H.storeAll 0 rfl (vs := [.int .u8 0, .int .i64 0, .int .u8 0, .int .i64 0, .int .i64 0, .slice none 0 0, .slice none 0 0]) rfl).upd_mk (by simp)
      refine bodyPost_ret (results_cell2 rfl _ _ ga 31 _ _ _ rfl (H4.blk 0 rfl) Try.underlying31 rfl op_size) rfl (NextP.no ?_ H4.below)
      have h2 := HOK.out
      rw [← HD.out, ← HM.out] at h2 hend
      unfold nextR nD nM
      rw [if_neg (fun h3 => hend (h2.1 h3))]
  · have HL := Lib.hid hl
    clear hl
    have h32' : (n : Int) < 32 := by omega
    go_enter Try.func22, Try.ntmps22
    go_wp2_with fail
    refine bodyPost_ret (results_cell2 rfl _ _ w.heap.size 31 #[.int .u8 0, .int .i64 0, .int .u8 0, .int .i64 0, .int .i64 0, .slice none 0 0, .slice none 0 0] _ _ rfl (heap_alloc_new _ _) Try.underlying31 rfl op_size) rfl (NextP.no ?_ ((Below.refl _ _).alloc (Nat.le_refl _) _))
    unfold nextR
    rw [if_neg (by rw [HL.out]; omega)]
end Go.Proofs.Ytgfhnbjpdhdhgaa
