/- script.Print: what it tells of any operations. -/
import Derived.Test.YtenmlkgamlafpaaDoorScT
import Derived.Test.YtenmlkgamlafpaaDoorScOf

namespace Go.Proofs.YtenmlkgamlafpaaDoor
open Go.RowKit
set_option linter.unusedVariables false
set_option maxRecDepth 100000

theorem absorb_X {P : Program} {c : Code} {Q : Exit → Act → World → Prop} {a : Act} {w : World} (X : World → Prop) (h : X w) (k : ∀ w', X w' → c.wp P Q a w') : c.wp P Q a w := k w h

theorem tvcat (a b : List UInt8) : (⟨a.toArray⟩ : ByteArray) ++ (⟨b.toArray⟩ : ByteArray) = ⟨(a ++ b).toArray⟩ := by
  apply ByteArray.ext
  simp [ByteArray.data_append]

theorem cat_s (a b : List UInt8) (w : World) (h : a.length + b.length ≤ 9223372036854775807) : (binOp BinOp.add 9 (tv a) (tv b)).run Tryd.prog w = .ok (tv (a ++ b)) w := by
  have e1 : (⟨a.toArray⟩ : ByteArray).size = a.length := by show a.toArray.size = _; simp
  have e2 : (⟨b.toArray⟩ : ByteArray).size = b.length := by show b.toArray.size = _; simp
  have hr := run_string_add_sum (P := Tryd.prog) (w := w) (⟨a.toArray⟩ : ByteArray) ⟨b.toArray⟩ (by rw [e1, e2]; exact h)
  rw [tvcat] at hr
  exact hr

theorem PS.writeAt {w0 w : World} {acc : List UInt8} (h : PS w0 acc w) {gb : Nat} (hg : Hid (w0.heap.size = gb)) (l : List UInt8) (hlen : acc.length + l.length ≤ 140737488355328) :
    Calls Tryd.prog 12 #[.pointer (some ⟨gb, 0, none⟩), tv l] w fun e w' => ∃ v, e = .returned v ∧ PS w0 (acc ++ l) w' ∧ (∀ g T cs, Blk w w0 g T cs → Blk w' w0 g T cs) := by
  have e := hg.out
  subst e
  exact h.write l hlen

theorem kind_len {acc t1 : List UInt8} (h : acc.length ≤ 3000000) (h2 : t1.length ≤ 21) : acc.length + (kindW ++ t1 ++ [10]).length ≤ 140737488355328 := by
  simp only [List.length_append, kindW, List.length_cons, List.length_nil]; omega

theorem cat_k (t1 : List UInt8) (w : World) (h : t1.length ≤ 21) : (binOp BinOp.add 9 (.string { data := #[107, 105, 110, 100, 32] }) (tv t1)).run Tryd.prog w = .ok (tv (kindW ++ t1)) w := cat_s kindW t1 w (by simp only [kindW, List.length_cons, List.length_nil]; omega)

theorem cat_n (t1 : List UInt8) (w : World) (h : t1.length ≤ 9000000000) : (binOp BinOp.add 9 (tv t1) (.string { data := #[10] })).run Tryd.prog w = .ok (tv (t1 ++ [10])) w := cat_s t1 [10] w (by simp only [List.length_cons, List.length_nil]; omega)

theorem cat_b (t1 : List UInt8) (w : World) (h : t1.length ≤ 9000000000) : (binOp BinOp.add 9 (.string { data := #[32] }) (tv t1)).run Tryd.prog w = .ok (tv (32 :: t1)) w := cat_s [32] t1 w (by simp only [List.length_cons, List.length_nil]; omega)

theorem sumH_bound {l : List OpR} (h : ∀ s ∈ l, s.n ≤ 140737488351232 ∧ s.m ≤ 140737488351232) : sumH l ≤ l.length * 281474976702464 := by
  induction l with
  | nil => simp [sumH]
  | cons s r ih =>
    have h1 := ih (fun x hx => h x (by simp [hx]))
    have h2 := h s (by simp)
    have h3 : hasN s ≤ 281474976702464 := by unfold hasN; split <;> split <;> omega
    unfold sumH at h1 ⊢
    simp only [List.map_cons, List.sum_cons, List.length_cons]
    omega

theorem fits_no_len {l : List OpR} (h : ¬ l.length ≤ 4096) : printT l = [] ∧ printE l = 9 := by
  have : fits30 l = false := by unfold fits30; rw [decide_eq_false]; exact fun e => h e.1
  unfold printT printE; rw [this]; exact ⟨rfl, rfl⟩

theorem fits_no_sum {l : List OpR} (h : ¬ sumH l ≤ 1048576) : printT l = [] ∧ printE l = 9 := by
  have : fits30 l = false := by unfold fits30; rw [decide_eq_false]; exact fun e => h e.2
  unfold printT printE; rw [this]; exact ⟨rfl, rfl⟩

theorem fits_yes {l : List OpR} (h : l.length ≤ 4096) (h2 : sumH l ≤ 1048576) : printT l = textB l ∧ printE l = 0 := by
  have : fits30 l = true := by unfold fits30; rw [decide_eq_true]; exact ⟨h, h2⟩
  unfold printT printE; rw [this]; exact ⟨rfl, rfl⟩

theorem fieldsB_succ (s : OpR) {cs : List Nat} {i c : Nat} (h : cs[i]? = some c) : fieldsB s (cs.take (i + 1)) = fieldsB s (cs.take i) ++ (32 :: fieldB s c) := by
  unfold fieldsB; rw [List.take_add_one, h]; simp

theorem has_d {s : OpR} (h : 4 ∈ usesOf s.k) : s.n ≤ hasN s := by unfold hasN; rw [if_pos h]; omega

theorem has_m {s : OpR} (h : 5 ∈ usesOf s.k) : s.m ≤ hasN s := by unfold hasN; rw [if_pos h]; omega

theorem fields_le {s : OpR} (h : s.In) {i : Nat} (hk : usesOf s.k ≠ []) : (wordOf s.k ++ fieldsB s ((usesOf s.k).take i)).length ≤ 2 * hasN s + 150 := by
  have h1 := line_le h
  unfold lineB at h1
  rw [if_neg hk] at h1
  have h2 : (fieldsB s ((usesOf s.k).take i)).length ≤ (fieldsB s (usesOf s.k)).length := by
    unfold fieldsB
    conv => rhs; rw [← List.take_append_drop i (usesOf s.k), List.flatMap_append, List.length_append]
    omega
  rw [List.length_append] at h1 ⊢
  omega

theorem line_known {s : OpR} (hk : usesOf s.k ≠ []) : lineB s = wordOf s.k ++ fieldsB s (usesOf s.k) := if_neg hk

theorem line_kind {s : OpR} (hk : usesOf s.k = []) : lineB s = kindW ++ Lib.itoa (s.k.toNat : Int) := if_pos hk

theorem acc_le {l : List OpR} (hin : ∀ s ∈ l, s.In) (h : sumH l ≤ 1048576) {j : Nat} (hj : j ≤ 4096) : (textB (l.take j)).length ≤ 3000000 := by
  have h1 := text_le (l := l.take j) (fun s hs => hin s (List.mem_of_mem_take hs))
  have h2 := sumH_le (l := l) j
  have h3 : (l.take j).length ≤ j := by rw [List.length_take]; omega
  omega

set_option maxHeartbeats 16000000 in
theorem print_s (A : Option Addr) (n c : Nat) (l : List OpR) (w : World) (hR : Rd w 7 A n (opsV l)) (hok : ∀ s ∈ l, s.Ok w) (ht : Tab w) (hn : n ≤ 1599289640354) :
    Calls Tryd.prog 5 #[.slice A n c] w fun e w' => e = .returned (.tuple #[tv (printT l), .int .i64 (printE l)]) ∧ Below w.heap.size w w' := by
  have hl : l.length = n := by have := hR.1; rw [opsV_length] at this; omega
  have HL := Lib.hid hl
  have HR := Lib.hid hR
  have HOK := Lib.hid hok
  have HT := Lib.hid ht
  clear hl hR hok ht
  by_cases h1 : n ≤ 4096
  rotate_left
  · have hd : decide ((n : Int) > 4096) = true := by simp; omega
    obtain ⟨e1, e2⟩ := fits_no_len (l := l) (by rw [HL.out]; exact h1)
    rw [e1, e2]
    clear e1 e2
    go_enter Tryd.func5, Tryd.ntmps5
    go_wp2
    go_ret2
    exact ⟨rfl, Below.refl _ _⟩
  have hd : decide ((n : Int) > 4096) = false := by simp; omega
  have HIN : Hid (∀ s ∈ l, s.In) := fun s hs => (HOK.out s hs).isIn
  have hsb : Hid (∀ j, sumH (l.take j) ≤ 1152921504574881792) := fun j => by
    have h := sumH_bound (l := l.take j) (fun s hs => ⟨(HOK.out s (List.mem_of_mem_take hs)).ba, (HOK.out s (List.mem_of_mem_take hs)).bb⟩)
    have h3 : (l.take j).length ≤ 4096 := by have := HL.out; rw [List.length_take]; omega
    have h4 : (l.take j).length * 281474976702464 ≤ 4096 * 281474976702464 := Nat.mul_le_mul_right _ h3
    omega
  have H0 := St.start_lay w []
  go_enter Tryd.func5, Tryd.ntmps5
  go_wp2
  go_loopw [4, 20] (fun t i wr => ∃ j : Nat, j ≤ n ∧ t = .int .i64 (sumH (l.take j) : Int) ∧ i = .int .i64 (j : Int) ∧ St w [] wr (lay [])) (fun _ i _ => n - (intOf i).toNat)
  case atStart => exact ⟨0, Nat.zero_le _, rfl, rfl, H0⟩
  case round =>
    clear H0
    obtain ⟨j, hj, rfl, rfl, H⟩ := hrel
    by_cases hlt : j < n
    · obtain ⟨x, hx⟩ : ∃ r, l[j]? = some r := ⟨_, List.getElem?_eq_getElem (by rw [HL.out]; exact hlt)⟩
      obtain ⟨p, q, rfl, a0, a1, a2, a3, a4, a5, a6, hlt2⟩ := op_cells7 (H.arg0 HR.out) hx
      have HX := Lib.hid hx
      have okx := HOK.out x (List.mem_of_getElem? hx)
      have ba := okx.ba
      have bb := okx.bb
      have hst := sumH_take hx
      have hb1 := hsb.out (j + 1)
      have ww : IntKind.i64.wrap ((sumH (l.take j) : Int) + (hasN x : Int)) = (sumH (l.take (j + 1)) : Int) := by rw [IntWalk.i64_in _ (by omega)]; omega
      have hji : (j : Int) < n := by omega
      clear hx okx hst hb1
      go_wp2_with fail
      refine (has_s x _ (by omega) (by omega)).mono ?_
      rintro e w2 ⟨rfl, hb⟩
      have H2 := (H.call ((Below.refl _ _).alloc (Nat.le_refl _) _)).call hb
      clear a0 a1 a2 a3 a4 a5 a6 hb H
      go_wp2
      go_roundw
      case rel => exact ⟨j + 1, by omega, rfl, by go_num, H2⟩
      case measure => simp [intOf]; omega
    · obtain rfl : j = n := by omega
      have hji : ¬ (j : Int) < j := by omega
      have hall : l.take j = l := List.take_of_length_le (by rw [HL.out]; exact Nat.le_refl _)
      rw [hall]
      clear hall
      by_cases h2 : sumH l ≤ 1048576
      rotate_left
      · have hd2 : decide ((sumH l : Int) > 1048576) = true := by simp; omega
        obtain ⟨e1, e2⟩ := fits_no_sum (l := l) h2
        have E1 := Lib.hid e1
        have E2 := Lib.hid e2
        clear e1 e2 h2
        go_wp2
        go_ret2
        exact ⟨by rw [E1.out, E2.out]; rfl, H.below⟩
      have hd2 : decide ((sumH l : Int) > 1048576) = false := by simp; omega
      obtain ⟨e1, e2⟩ := fits_yes (l := l) (by rw [HL.out]; exact h1) h2
      have E1 := Lib.hid e1
      have E2 := Lib.hid e2
      have HS := Lib.hid h2
      clear e1 e2 h2
      go_wp2_with fail
      refine (lines_s wr).mono ?_
      rintro e w3 ⟨g, p1, p2, p3, p4, p5, b1, b2, b3, b4, b5, b6, b7, b8, b9, b10, rfl, HN⟩
      replace H := H.call HN.below
      obtain ⟨pv, hpv⟩ : ∃ pv, pvOf p1 p2 p3 p4 p5 = pv := ⟨_, rfl⟩
      obtain ⟨bo, hbo⟩ : ∃ bo, boOf b1 b2 b3 b4 b5 b6 b7 b8 b9 b10 = bo := ⟨_, rfl⟩
      have HTB : Hid (∀ w', Below w3.heap.size w3 w' → Tbl w' g pv bo) := fun w' hb => by rw [← hpv, ← hbo]; exact tbl_of g p1 p2 p3 p4 p5 b1 b2 b3 b4 b5 b6 b7 b8 b9 b10 (HN.call hb)
      clear HN hpv hbo
      have P0 := PS.start w3
      go_upto_region 14 with (fail)
      refine absorb_X (fun w' => PS w3 [] w') P0 ?_
      clear P0
      intro w4 P0
      obtain ⟨gb, hgb⟩ : ∃ gb, w3.heap.size = gb := ⟨_, rfl⟩
      have HGB := Lib.hid hgb
      rw [hgb]
      clear hgb
      go_loopw [34] (fun i wr => ∃ k : Nat, k ≤ j ∧ i = .int .i64 (k : Int) ∧ PS w3 (textB (l.take k)) wr) (fun i _ => j - (intOf i).toNat)
      case atStart => exact ⟨0, Nat.zero_le _, rfl, P0⟩
      case round =>

        clear P0
        obtain ⟨k, hk, rfl, PP⟩ := hrel
        by_cases hltk : k < j
        · obtain ⟨x, hx⟩ : ∃ r, l[k]? = some r := ⟨_, List.getElem?_eq_getElem (by rw [HL.out]; exact hltk)⟩
          have HX := Lib.hid hx
          have HW : Hid (∀ w', Below w3.heap.size w3 w' → St w [] w' (lay [])) := fun w' hb => H.call hb
          obtain ⟨p, q, rfl, a0, a1, a2, a3, a4, a5, a6, hlt2⟩ := op_cells7 ((HW.out _ PP.low).arg0 HR.out) hx
          have hki : (k : Int) < j := by omega
          have P1 := PP.alloc (.cells #[.int .u8 (x.k.toNat : Int), .int .i64 x.h, .int .u8 (x.a.toNat : Int), .int .i64 x.c, .int .i64 x.o, .slice x.A x.n x.cA, .slice x.B x.m x.cB] 28)
          have B1 := Blk.new PP 28 (by decide) #[.int .u8 (x.k.toNat : Int), .int .i64 x.h, .int .u8 (x.a.toNat : Int), .int .i64 x.c, .int .i64 x.o, .slice x.A x.n x.cA, .slice x.B x.m x.cB]
          clear hx
          go_upto_region 16 with (fail)
          refine absorb_X (fun w' => PS w3 (textB (l.take k)) w' ∧ Blk w' w3 wr.heap.size 28 [.int .u8 (x.k.toNat : Int), .int .i64 x.h, .int .u8 (x.a.toNat : Int), .int .i64 x.c, .int .i64 x.o, .slice x.A x.n x.cA, .slice x.B x.m x.cB]) ⟨P1, B1⟩ ?_
          clear P1 B1 a0 a1 a2 a3 a4 a5 a6 hlt2 PP
          rintro w5 ⟨PP, B1⟩
          obtain ⟨g10, hg10⟩ : ∃ g10, wr.heap.size = g10 := ⟨_, rfl⟩
          rw [hg10] at B1 ⊢
          clear hg10
          have c0 := B1.cell (o := 0) (u := .int .u8 (x.k.toNat : Int)) rfl
          by_cases hu : usesOf x.k = []
          · have HU := Lib.hid hu
            have hlk := (HTB.out _ PP.low).no x.k hu
            unfold tv at hlk
            clear hu
            have hb1 : (x.k.toNat : Int) ≤ 255 := by have := x.k.toNat_lt; omega
            have wa : IntKind.i64.wrap (x.k.toNat : Int) = (x.k.toNat : Int) := IntWalk.i64_in _ (by omega)
            have P2 := PP.alloc (.cells #[.string ⟨#[]⟩, .slice none 0 0] 47)
            have B2 := B1.call ((Below.refl w5.heap.size w5).alloc (Nat.le_refl _) (.cells #[.string ⟨#[]⟩, .slice none 0 0] 47))
            go_upto_region 17 with (fail)
            refine absorb_X (fun w' => PS w3 (textB (l.take k)) w' ∧ Blk w' w3 g10 28 [.int .u8 (x.k.toNat : Int), .int .i64 x.h, .int .u8 (x.a.toNat : Int), .int .i64 x.c, .int .i64 x.o, .slice x.A x.n x.cA, .slice x.B x.m x.cB]) ⟨P2, B2⟩ ?_
            clear P2 B2 PP B1 hlk c0
            rintro w6 ⟨PP, B1⟩
            have c0 := B1.cell (o := 0) (u := .int .u8 (x.k.toNat : Int)) rfl
            go_wp2_with fail
            refine (itoa_s (x.k.toNat : Int) _ (by omega) (by omega) (HT.out.st (HW.out _ PP.low))).mono ?_
            rintro e w7 ⟨rfl, hb⟩
            replace PP := PP.call hb
            clear hb B1 c0
            obtain ⟨t1, ht1⟩ : ∃ t, Lib.itoa (x.k.toNat : Int) = t := ⟨_, rfl⟩
            have hl1 : t1.length ≤ 21 := by rw [← ht1]; exact Lib.itoa_length_le _ (by omega) (by omega)
            have hline := line_kind HU.out
            rw [ht1] at hline
            have HLN := Lib.hid hline
            rw [ht1]
            clear ht1 hline
            have hc1 := fun w => cat_k t1 w hl1
            have hc2 := fun w => cat_n (kindW ++ t1) w (by simp only [List.length_append, kindW, List.length_cons, List.length_nil]; omega)
            have hacc := acc_le HIN.out HS.out (j := k) (by omega)
            go_wp2_with fail
            refine (PP.writeAt HGB (kindW ++ t1 ++ [10]) (kind_len hacc hl1)).mono ?_
            rintro e w8 ⟨v, rfl, PW, -⟩
            have HTX : Hid (textB (l.take k) ++ (kindW ++ t1 ++ [10]) = textB (l.take (k + 1))) := by unfold Hid; rw [textB_take HX.out, HLN.out]
            clear PP hc1 hc2 hacc
            rw [HTX.out] at PW
            go_wp2
            go_roundw
            case rel => exact ⟨k + 1, by omega, by go_num, PW⟩
            case measure => simp [intOf]; omega
          · have HU := Lib.hid hu
            have hlk := ((HTB.out _ PP.low).look x.k hu).1
            clear hu
            obtain ⟨sw, hsw⟩ : ∃ s, (⟨(wordOf x.k).toArray⟩ : ByteArray) = s := ⟨_, rfl⟩
            obtain ⟨bk, hbk⟩ : ∃ b, bo x.k = b := ⟨_, rfl⟩
            obtain ⟨L, hL⟩ : ∃ n, (usesOf x.k).length = n := ⟨_, rfl⟩
            have hL5 : L ≤ 5 := by rw [← hL]; exact uses_len x.k
            unfold tv at hlk
            rw [hsw, hbk, hL] at hlk
            have HSW := Lib.hid hsw
            have HBK := Lib.hid hbk
            have HLN := Lib.hid hL
            clear hsw hbk hL
            have P2 := PP.alloc (.cells #[.string sw, .slice (some ⟨bk, 0, none⟩) L L] 47)
            have B2 := B1.call ((Below.refl w5.heap.size w5).alloc (Nat.le_refl _) (.cells #[.string sw, .slice (some ⟨bk, 0, none⟩) L L] 47))
            have BL := Blk.new PP 47 (by decide) #[.string sw, .slice (some ⟨bk, 0, none⟩) L L]
            go_upto_region 17 with (fail)
            refine absorb_X (fun w' => PS w3 (textB (l.take k)) w' ∧ Blk w' w3 g10 28 [.int .u8 (x.k.toNat : Int), .int .i64 x.h, .int .u8 (x.a.toNat : Int), .int .i64 x.c, .int .i64 x.o, .slice x.A x.n x.cA, .slice x.B x.m x.cB] ∧ Blk w' w3 w5.heap.size 47 [.string sw, .slice (some ⟨bk, 0, none⟩) L L]) ⟨P2, B2, BL⟩ ?_
            clear P2 B2 PP B1 BL hlk c0
            rintro w6 ⟨PP, B1, BL⟩
            obtain ⟨g11, hg11⟩ : ∃ g11, w5.heap.size = g11 := ⟨_, rfl⟩
            rw [hg11] at BL ⊢
            clear hg11
            have d0 := BL.cell (o := 0) (u := .string sw) rfl
            have hacc := acc_le HIN.out HS.out (j := k) (by omega)
            have hwle := word_le x.k
            go_wp2_with fail
            rw [← HSW.out]
            refine (PP.writeAt HGB (wordOf x.k) (by omega)).mono ?_
            rintro e w8 ⟨v, rfl, PW, hkb⟩
            replace B1 := hkb _ _ _ B1
            replace BL := hkb _ _ _ BL
            clear PP hkb d0
            have PW0 : PS w3 (textB (l.take k) ++ (wordOf x.k ++ fieldsB x ((usesOf x.k).take 0))) w8 := by
              have e : textB (l.take k) ++ (wordOf x.k ++ fieldsB x ((usesOf x.k).take 0)) = textB (l.take k) ++ wordOf x.k := by simp [fieldsB]
              rw [e]; exact PW
            clear PW
            have d1 := BL.cell (o := 1) (u := .slice (some ⟨bk, 0, none⟩) L L) rfl
            go_wp2
            clear d1 BL
            go_loopw [60] (fun i wr => ∃ q : Nat, q ≤ L ∧ i = .int .i64 (q : Int) ∧ PS w3 (textB (l.take k) ++ (wordOf x.k ++ fieldsB x ((usesOf x.k).take q))) wr ∧ Blk wr w3 g10 28 [.int .u8 (x.k.toNat : Int), .int .i64 x.h, .int .u8 (x.a.toNat : Int), .int .i64 x.c, .int .i64 x.o, .slice x.A x.n x.cA, .slice x.B x.m x.cB]) (fun i _ => L - (intOf i).toNat)
            case atStart => exact ⟨0, Nat.zero_le _, rfl, PW0, B1⟩
            case round =>
              clear PW0 B1
              obtain ⟨q, hq, rfl, PP, B1⟩ := hrel
              by_cases hltq : q < L
              · obtain ⟨cc, hcc⟩ : ∃ cc, (usesOf x.k)[q]? = some cc := ⟨_, List.getElem?_eq_getElem (by rw [HLN.out]; exact hltq)⟩
                have HCC := Lib.hid hcc
                have hmem := List.mem_of_getElem? hcc
                have hc5 := uses_le x.k cc hmem
                have HMEM := Lib.hid hmem
                have okx := Lib.hid (HOK.out x (List.mem_of_getElem? HX.out))
                have inx := HIN.out x (List.mem_of_getElem? HX.out)
                have hsumx := sumH_mem (List.mem_of_getElem? HX.out)
                have hss := HS.out
                have hacc : (textB (l.take k) ++ (wordOf x.k ++ fieldsB x ((usesOf x.k).take q))).length ≤ 6000000 := by
                  have h1 := acc_le HIN.out HS.out (j := k) (by omega)
                  have h2 := fields_le inx (i := q) HU.out
                  rw [List.length_append]; omega
                have hfl := field_le inx cc
                have HIX := Lib.hid inx
                have hqi : (q : Int) < L := by omega
                have tb := HTB.out _ PP.low
                have TB := Lib.hid tb
                have hnext : Hid (textB (l.take k) ++ (wordOf x.k ++ fieldsB x ((usesOf x.k).take q)) ++ (32 :: fieldB x cc) = textB (l.take k) ++ (wordOf x.k ++ fieldsB x ((usesOf x.k).take (q + 1)))) := by
                  unfold Hid; rw [fieldsB_succ x hcc]; simp
                clear hcc hmem inx hsumx hss tb
                have hcs : cc = 0 ∨ cc = 1 ∨ cc = 2 ∨ cc = 3 ∨ cc = 4 ∨ cc = 5 := by omega
                clear hc5
                rcases hcs with rfl | rfl | rfl | rfl | rfl | rfl
                · have hsm : True := trivial
                  have hfl2 : (Lib.itoa x.h).length ≤ 2100000 := by
                    have h1 := hfl
                    simp at h1
                    have h2 : (Lib.itoa x.h).length = (fieldB x 0).length := rfl
                    omega
                  have f0 : wr.cell? ⟨bk, q * 2, none⟩ = some (.func (.func 36) #[] #[.pointer (some ⟨pv 1, 0, none⟩)]) := by have h := TB.out.cell HU.out HCC.out (j := 0) (by omega) rfl; rw [HBK.out] at h; exact h
                  have f1 : wr.cell? ⟨bk, q * 2 + 1, none⟩ = some (.func (.func 37) #[] #[.pointer (some ⟨pv 1, 0, none⟩)]) := by have h := TB.out.cell HU.out HCC.out (j := 1) (by omega) rfl; rw [HBK.out] at h; exact h
                  have P2 := PP.alloc (.cells #[.func (.func 36) #[] #[.pointer (some ⟨pv 1, 0, none⟩)], .func (.func 37) #[] #[.pointer (some ⟨pv 1, 0, none⟩)]] 57)
                  have B2 := B1.call ((Below.refl wr.heap.size wr).alloc (Nat.le_refl _) (.cells #[.func (.func 36) #[] #[.pointer (some ⟨pv 1, 0, none⟩)], .func (.func 37) #[] #[.pointer (some ⟨pv 1, 0, none⟩)]] 57))
                  have BF := Blk.new PP 57 (by decide) #[.func (.func 36) #[] #[.pointer (some ⟨pv 1, 0, none⟩)], .func (.func 37) #[] #[.pointer (some ⟨pv 1, 0, none⟩)]]
                  have hst := fun (a : Addr) (p : Nat) (f : FuncId) (m : Mode) (w : World) => run_store Tryd.prog w a (.func (.func f) #[] #[.pointer (some ⟨p, 0, none⟩)]) m rfl
                  have hst2 := fun (a : Addr) (f : FuncId) (m : Mode) (w : World) => run_store Tryd.prog w a (.func (.func f) #[] #[]) m rfl
                  go_upto_region 23 with (fail)
                  refine absorb_X (fun w' => PS w3 (textB (l.take k) ++ (wordOf x.k ++ fieldsB x ((usesOf x.k).take q))) w' ∧ Blk w' w3 g10 28 [.int .u8 (x.k.toNat : Int), .int .i64 x.h, .int .u8 (x.a.toNat : Int), .int .i64 x.c, .int .i64 x.o, .slice x.A x.n x.cA, .slice x.B x.m x.cB] ∧ Blk w' w3 wr.heap.size 57 [.func (.func 36) #[] #[.pointer (some ⟨pv 1, 0, none⟩)], .func (.func 37) #[] #[.pointer (some ⟨pv 1, 0, none⟩)]]) ⟨P2, B2, BF⟩ ?_
                  clear P2 B2 PP B1 BF f0 f1 TB hst hst2
                  rintro w9 ⟨PP, B1, BF⟩
                  obtain ⟨g14, hg14⟩ : ∃ g14, wr.heap.size = g14 := ⟨_, rfl⟩
                  rw [hg14] at BF ⊢
                  clear hg14
                  have d0 := BF.cell (o := 0) (u := .func (.func 36) #[] #[.pointer (some ⟨pv 1, 0, none⟩)]) rfl
                  go_wp2_with (first | (refine wpList_load_row rfl 28 (.tmp 10) rfl g10 rfl _ _ _ _ B1.1 Tryd.underlying28 rfl op_size ?_) | fail)
                  refine (num_h x.k x.h x.a x.c x.o x.A x.B x.n x.cA x.m x.cB (pv 1) _ (HTB.out _ PP.low).g1 HIX.out.1.1 HIX.out.1.2 (HT.out.st (HW.out _ PP.low))).mono ?_
                  rintro e w10 ⟨rfl, hb⟩
                  replace PP := PP.call hb
                  replace B1 := B1.call hb
                  clear hb BF d0
                  obtain ⟨t1, ht1⟩ : ∃ t, Lib.itoa x.h = t := ⟨_, rfl⟩
                  have HT1 := Lib.hid ht1
                  rw [ht1] at hfl2 ⊢
                  clear ht1
                  have hcb := fun w => cat_b t1 w (by omega)
                  go_wp2_with fail
                  refine (PP.writeAt HGB (32 :: t1) (by rw [List.length_cons]; omega)).mono ?_
                  rintro e w11 ⟨v, rfl, PW, hkb⟩
                  replace B1 := hkb _ _ _ B1
                  have hnx := hnext.out
                  rw [show fieldB x 0 = t1 from HT1.out] at hnx
                  rw [hnx] at PW
                  clear hnx PP hkb hcb
                  go_wp2
                  go_roundw
                  case rel => exact ⟨q + 1, by omega, by go_num, PW, B1⟩
                  case measure => simp [intOf]; omega
                · have hsm : True := trivial
                  have hfl2 : (Lib.itoa (x.a.toNat : Int)).length ≤ 2100000 := by
                    have h1 := hfl
                    simp at h1
                    have h2 : (Lib.itoa (x.a.toNat : Int)).length = (fieldB x 1).length := rfl
                    omega
                  have f0 : wr.cell? ⟨bk, q * 2, none⟩ = some (.func (.func 28) #[] #[]) := by have h := TB.out.cell HU.out HCC.out (j := 0) (by omega) rfl; rw [HBK.out] at h; exact h
                  have f1 : wr.cell? ⟨bk, q * 2 + 1, none⟩ = some (.func (.func 29) #[] #[]) := by have h := TB.out.cell HU.out HCC.out (j := 1) (by omega) rfl; rw [HBK.out] at h; exact h
                  have P2 := PP.alloc (.cells #[.func (.func 28) #[] #[], .func (.func 29) #[] #[]] 57)
                  have B2 := B1.call ((Below.refl wr.heap.size wr).alloc (Nat.le_refl _) (.cells #[.func (.func 28) #[] #[], .func (.func 29) #[] #[]] 57))
                  have BF := Blk.new PP 57 (by decide) #[.func (.func 28) #[] #[], .func (.func 29) #[] #[]]
                  have hst := fun (a : Addr) (p : Nat) (f : FuncId) (m : Mode) (w : World) => run_store Tryd.prog w a (.func (.func f) #[] #[.pointer (some ⟨p, 0, none⟩)]) m rfl
                  have hst2 := fun (a : Addr) (f : FuncId) (m : Mode) (w : World) => run_store Tryd.prog w a (.func (.func f) #[] #[]) m rfl
                  go_upto_region 23 with (fail)
                  refine absorb_X (fun w' => PS w3 (textB (l.take k) ++ (wordOf x.k ++ fieldsB x ((usesOf x.k).take q))) w' ∧ Blk w' w3 g10 28 [.int .u8 (x.k.toNat : Int), .int .i64 x.h, .int .u8 (x.a.toNat : Int), .int .i64 x.c, .int .i64 x.o, .slice x.A x.n x.cA, .slice x.B x.m x.cB] ∧ Blk w' w3 wr.heap.size 57 [.func (.func 28) #[] #[], .func (.func 29) #[] #[]]) ⟨P2, B2, BF⟩ ?_
                  clear P2 B2 PP B1 BF f0 f1 TB hst hst2
                  rintro w9 ⟨PP, B1, BF⟩
                  obtain ⟨g14, hg14⟩ : ∃ g14, wr.heap.size = g14 := ⟨_, rfl⟩
                  rw [hg14] at BF ⊢
                  clear hg14
                  have d0 := BF.cell (o := 0) (u := .func (.func 28) #[] #[]) rfl
                  go_wp2_with (first | (refine wpList_load_row rfl 28 (.tmp 10) rfl g10 rfl _ _ _ _ B1.1 Tryd.underlying28 rfl op_size ?_) | fail)
                  refine (alg_s x.k x.h x.a x.c x.o x.A x.B x.n x.cA x.m x.cB _ (HT.out.st (HW.out _ PP.low))).mono ?_
                  rintro e w10 ⟨rfl, hb⟩
                  replace PP := PP.call hb
                  replace B1 := B1.call hb
                  clear hb BF d0
                  obtain ⟨t1, ht1⟩ : ∃ t, Lib.itoa (x.a.toNat : Int) = t := ⟨_, rfl⟩
                  have HT1 := Lib.hid ht1
                  rw [ht1] at hfl2 ⊢
                  clear ht1
                  have hcb := fun w => cat_b t1 w (by omega)
                  go_wp2_with fail
                  refine (PP.writeAt HGB (32 :: t1) (by rw [List.length_cons]; omega)).mono ?_
                  rintro e w11 ⟨v, rfl, PW, hkb⟩
                  replace B1 := hkb _ _ _ B1
                  have hnx := hnext.out
                  rw [show fieldB x 1 = t1 from HT1.out] at hnx
                  rw [hnx] at PW
                  clear hnx PP hkb hcb
                  go_wp2
                  go_roundw
                  case rel => exact ⟨q + 1, by omega, by go_num, PW, B1⟩
                  case measure => simp [intOf]; omega
                · have hsm : True := trivial
                  have hfl2 : (Lib.itoa x.c).length ≤ 2100000 := by
                    have h1 := hfl
                    simp at h1
                    have h2 : (Lib.itoa x.c).length = (fieldB x 2).length := rfl
                    omega
                  have f0 : wr.cell? ⟨bk, q * 2, none⟩ = some (.func (.func 36) #[] #[.pointer (some ⟨pv 2, 0, none⟩)]) := by have h := TB.out.cell HU.out HCC.out (j := 0) (by omega) rfl; rw [HBK.out] at h; exact h
                  have f1 : wr.cell? ⟨bk, q * 2 + 1, none⟩ = some (.func (.func 37) #[] #[.pointer (some ⟨pv 2, 0, none⟩)]) := by have h := TB.out.cell HU.out HCC.out (j := 1) (by omega) rfl; rw [HBK.out] at h; exact h
                  have P2 := PP.alloc (.cells #[.func (.func 36) #[] #[.pointer (some ⟨pv 2, 0, none⟩)], .func (.func 37) #[] #[.pointer (some ⟨pv 2, 0, none⟩)]] 57)
                  have B2 := B1.call ((Below.refl wr.heap.size wr).alloc (Nat.le_refl _) (.cells #[.func (.func 36) #[] #[.pointer (some ⟨pv 2, 0, none⟩)], .func (.func 37) #[] #[.pointer (some ⟨pv 2, 0, none⟩)]] 57))
                  have BF := Blk.new PP 57 (by decide) #[.func (.func 36) #[] #[.pointer (some ⟨pv 2, 0, none⟩)], .func (.func 37) #[] #[.pointer (some ⟨pv 2, 0, none⟩)]]
                  have hst := fun (a : Addr) (p : Nat) (f : FuncId) (m : Mode) (w : World) => run_store Tryd.prog w a (.func (.func f) #[] #[.pointer (some ⟨p, 0, none⟩)]) m rfl
                  have hst2 := fun (a : Addr) (f : FuncId) (m : Mode) (w : World) => run_store Tryd.prog w a (.func (.func f) #[] #[]) m rfl
                  go_upto_region 23 with (fail)
                  refine absorb_X (fun w' => PS w3 (textB (l.take k) ++ (wordOf x.k ++ fieldsB x ((usesOf x.k).take q))) w' ∧ Blk w' w3 g10 28 [.int .u8 (x.k.toNat : Int), .int .i64 x.h, .int .u8 (x.a.toNat : Int), .int .i64 x.c, .int .i64 x.o, .slice x.A x.n x.cA, .slice x.B x.m x.cB] ∧ Blk w' w3 wr.heap.size 57 [.func (.func 36) #[] #[.pointer (some ⟨pv 2, 0, none⟩)], .func (.func 37) #[] #[.pointer (some ⟨pv 2, 0, none⟩)]]) ⟨P2, B2, BF⟩ ?_
                  clear P2 B2 PP B1 BF f0 f1 TB hst hst2
                  rintro w9 ⟨PP, B1, BF⟩
                  obtain ⟨g14, hg14⟩ : ∃ g14, wr.heap.size = g14 := ⟨_, rfl⟩
                  rw [hg14] at BF ⊢
                  clear hg14
                  have d0 := BF.cell (o := 0) (u := .func (.func 36) #[] #[.pointer (some ⟨pv 2, 0, none⟩)]) rfl
                  go_wp2_with (first | (refine wpList_load_row rfl 28 (.tmp 10) rfl g10 rfl _ _ _ _ B1.1 Tryd.underlying28 rfl op_size ?_) | fail)
                  refine (num_c x.k x.h x.a x.c x.o x.A x.B x.n x.cA x.m x.cB (pv 2) _ (HTB.out _ PP.low).g2 HIX.out.2.1.1 HIX.out.2.1.2 (HT.out.st (HW.out _ PP.low))).mono ?_
                  rintro e w10 ⟨rfl, hb⟩
                  replace PP := PP.call hb
                  replace B1 := B1.call hb
                  clear hb BF d0
                  obtain ⟨t1, ht1⟩ : ∃ t, Lib.itoa x.c = t := ⟨_, rfl⟩
                  have HT1 := Lib.hid ht1
                  rw [ht1] at hfl2 ⊢
                  clear ht1
                  have hcb := fun w => cat_b t1 w (by omega)
                  go_wp2_with fail
                  refine (PP.writeAt HGB (32 :: t1) (by rw [List.length_cons]; omega)).mono ?_
                  rintro e w11 ⟨v, rfl, PW, hkb⟩
                  replace B1 := hkb _ _ _ B1
                  have hnx := hnext.out
                  rw [show fieldB x 2 = t1 from HT1.out] at hnx
                  rw [hnx] at PW
                  clear hnx PP hkb hcb
                  go_wp2
                  go_roundw
                  case rel => exact ⟨q + 1, by omega, by go_num, PW, B1⟩
                  case measure => simp [intOf]; omega
                · have hsm : True := trivial
                  have hfl2 : (Lib.itoa x.o).length ≤ 2100000 := by
                    have h1 := hfl
                    simp at h1
                    have h2 : (Lib.itoa x.o).length = (fieldB x 3).length := rfl
                    omega
                  have f0 : wr.cell? ⟨bk, q * 2, none⟩ = some (.func (.func 36) #[] #[.pointer (some ⟨pv 3, 0, none⟩)]) := by have h := TB.out.cell HU.out HCC.out (j := 0) (by omega) rfl; rw [HBK.out] at h; exact h
                  have f1 : wr.cell? ⟨bk, q * 2 + 1, none⟩ = some (.func (.func 37) #[] #[.pointer (some ⟨pv 3, 0, none⟩)]) := by have h := TB.out.cell HU.out HCC.out (j := 1) (by omega) rfl; rw [HBK.out] at h; exact h
                  have P2 := PP.alloc (.cells #[.func (.func 36) #[] #[.pointer (some ⟨pv 3, 0, none⟩)], .func (.func 37) #[] #[.pointer (some ⟨pv 3, 0, none⟩)]] 57)
                  have B2 := B1.call ((Below.refl wr.heap.size wr).alloc (Nat.le_refl _) (.cells #[.func (.func 36) #[] #[.pointer (some ⟨pv 3, 0, none⟩)], .func (.func 37) #[] #[.pointer (some ⟨pv 3, 0, none⟩)]] 57))
                  have BF := Blk.new PP 57 (by decide) #[.func (.func 36) #[] #[.pointer (some ⟨pv 3, 0, none⟩)], .func (.func 37) #[] #[.pointer (some ⟨pv 3, 0, none⟩)]]
                  have hst := fun (a : Addr) (p : Nat) (f : FuncId) (m : Mode) (w : World) => run_store Tryd.prog w a (.func (.func f) #[] #[.pointer (some ⟨p, 0, none⟩)]) m rfl
                  have hst2 := fun (a : Addr) (f : FuncId) (m : Mode) (w : World) => run_store Tryd.prog w a (.func (.func f) #[] #[]) m rfl
                  go_upto_region 23 with (fail)
                  refine absorb_X (fun w' => PS w3 (textB (l.take k) ++ (wordOf x.k ++ fieldsB x ((usesOf x.k).take q))) w' ∧ Blk w' w3 g10 28 [.int .u8 (x.k.toNat : Int), .int .i64 x.h, .int .u8 (x.a.toNat : Int), .int .i64 x.c, .int .i64 x.o, .slice x.A x.n x.cA, .slice x.B x.m x.cB] ∧ Blk w' w3 wr.heap.size 57 [.func (.func 36) #[] #[.pointer (some ⟨pv 3, 0, none⟩)], .func (.func 37) #[] #[.pointer (some ⟨pv 3, 0, none⟩)]]) ⟨P2, B2, BF⟩ ?_
                  clear P2 B2 PP B1 BF f0 f1 TB hst hst2
                  rintro w9 ⟨PP, B1, BF⟩
                  obtain ⟨g14, hg14⟩ : ∃ g14, wr.heap.size = g14 := ⟨_, rfl⟩
                  rw [hg14] at BF ⊢
                  clear hg14
                  have d0 := BF.cell (o := 0) (u := .func (.func 36) #[] #[.pointer (some ⟨pv 3, 0, none⟩)]) rfl
                  go_wp2_with (first | (refine wpList_load_row rfl 28 (.tmp 10) rfl g10 rfl _ _ _ _ B1.1 Tryd.underlying28 rfl op_size ?_) | fail)
                  refine (num_o x.k x.h x.a x.c x.o x.A x.B x.n x.cA x.m x.cB (pv 3) _ (HTB.out _ PP.low).g3 HIX.out.2.2.1.1 HIX.out.2.2.1.2 (HT.out.st (HW.out _ PP.low))).mono ?_
                  rintro e w10 ⟨rfl, hb⟩
                  replace PP := PP.call hb
                  replace B1 := B1.call hb
                  clear hb BF d0
                  obtain ⟨t1, ht1⟩ : ∃ t, Lib.itoa x.o = t := ⟨_, rfl⟩
                  have HT1 := Lib.hid ht1
                  rw [ht1] at hfl2 ⊢
                  clear ht1
                  have hcb := fun w => cat_b t1 w (by omega)
                  go_wp2_with fail
                  refine (PP.writeAt HGB (32 :: t1) (by rw [List.length_cons]; omega)).mono ?_
                  rintro e w11 ⟨v, rfl, PW, hkb⟩
                  replace B1 := hkb _ _ _ B1
                  have hnx := hnext.out
                  rw [show fieldB x 3 = t1 from HT1.out] at hnx
                  rw [hnx] at PW
                  clear hnx PP hkb hcb
                  go_wp2
                  go_roundw
                  case rel => exact ⟨q + 1, by omega, by go_num, PW, B1⟩
                  case measure => simp [intOf]; omega
                · have hsm : x.n ≤ 1048576 := by have h1 := has_d HMEM.out; have h2 := sumH_mem (List.mem_of_getElem? HX.out); have h3 := HS.out; omega
                  have hfl2 : (hexB x.xs).length ≤ 2100000 := by
                    have h1 := hfl
                    simp at h1
                    have h2 : (hexB x.xs).length = (fieldB x 4).length := rfl
                    omega
                  have f0 : wr.cell? ⟨bk, q * 2, none⟩ = some (.func (.func 39) #[] #[.pointer (some ⟨pv 4, 0, none⟩)]) := by have h := TB.out.cell HU.out HCC.out (j := 0) (by omega) rfl; rw [HBK.out] at h; exact h
                  have f1 : wr.cell? ⟨bk, q * 2 + 1, none⟩ = some (.func (.func 41) #[] #[.pointer (some ⟨pv 4, 0, none⟩)]) := by have h := TB.out.cell HU.out HCC.out (j := 1) (by omega) rfl; rw [HBK.out] at h; exact h
                  have P2 := PP.alloc (.cells #[.func (.func 39) #[] #[.pointer (some ⟨pv 4, 0, none⟩)], .func (.func 41) #[] #[.pointer (some ⟨pv 4, 0, none⟩)]] 57)
                  have B2 := B1.call ((Below.refl wr.heap.size wr).alloc (Nat.le_refl _) (.cells #[.func (.func 39) #[] #[.pointer (some ⟨pv 4, 0, none⟩)], .func (.func 41) #[] #[.pointer (some ⟨pv 4, 0, none⟩)]] 57))
                  have BF := Blk.new PP 57 (by decide) #[.func (.func 39) #[] #[.pointer (some ⟨pv 4, 0, none⟩)], .func (.func 41) #[] #[.pointer (some ⟨pv 4, 0, none⟩)]]
                  have hst := fun (a : Addr) (p : Nat) (f : FuncId) (m : Mode) (w : World) => run_store Tryd.prog w a (.func (.func f) #[] #[.pointer (some ⟨p, 0, none⟩)]) m rfl
                  have hst2 := fun (a : Addr) (f : FuncId) (m : Mode) (w : World) => run_store Tryd.prog w a (.func (.func f) #[] #[]) m rfl
                  go_upto_region 23 with (fail)
                  refine absorb_X (fun w' => PS w3 (textB (l.take k) ++ (wordOf x.k ++ fieldsB x ((usesOf x.k).take q))) w' ∧ Blk w' w3 g10 28 [.int .u8 (x.k.toNat : Int), .int .i64 x.h, .int .u8 (x.a.toNat : Int), .int .i64 x.c, .int .i64 x.o, .slice x.A x.n x.cA, .slice x.B x.m x.cB] ∧ Blk w' w3 wr.heap.size 57 [.func (.func 39) #[] #[.pointer (some ⟨pv 4, 0, none⟩)], .func (.func 41) #[] #[.pointer (some ⟨pv 4, 0, none⟩)]]) ⟨P2, B2, BF⟩ ?_
                  clear P2 B2 PP B1 BF f0 f1 TB hst hst2
                  rintro w9 ⟨PP, B1, BF⟩
                  obtain ⟨g14, hg14⟩ : ∃ g14, wr.heap.size = g14 := ⟨_, rfl⟩
                  rw [hg14] at BF ⊢
                  clear hg14
                  have d0 := BF.cell (o := 0) (u := .func (.func 39) #[] #[.pointer (some ⟨pv 4, 0, none⟩)]) rfl
                  go_wp2_with (first | (refine wpList_load_row rfl 28 (.tmp 10) rfl g10 rfl _ _ _ _ B1.1 Tryd.underlying28 rfl op_size ?_) | fail)
                  refine (lst_d x.k x.h x.a x.c x.o x.A x.B x.n x.cA x.m x.cB x.xs (pv 4) _ (HTB.out _ PP.low).g4 ((HW.out _ PP.low).arg0 okx.out.ra) hsm).mono ?_
                  rintro e w10 ⟨rfl, hb⟩
                  replace PP := PP.call hb
                  replace B1 := B1.call hb
                  clear hb BF d0
                  obtain ⟨t1, ht1⟩ : ∃ t, hexB x.xs = t := ⟨_, rfl⟩
                  have HT1 := Lib.hid ht1
                  rw [ht1] at hfl2 ⊢
                  clear ht1
                  have hcb := fun w => cat_b t1 w (by omega)
                  go_wp2_with fail
                  refine (PP.writeAt HGB (32 :: t1) (by rw [List.length_cons]; omega)).mono ?_
                  rintro e w11 ⟨v, rfl, PW, hkb⟩
                  replace B1 := hkb _ _ _ B1
                  have hnx := hnext.out
                  rw [show fieldB x 4 = t1 from HT1.out] at hnx
                  rw [hnx] at PW
                  clear hnx PP hkb hcb
                  go_wp2
                  go_roundw
                  case rel => exact ⟨q + 1, by omega, by go_num, PW, B1⟩
                  case measure => simp [intOf]; omega
                · have hsm : x.m ≤ 1048576 := by have h1 := has_m HMEM.out; have h2 := sumH_mem (List.mem_of_getElem? HX.out); have h3 := HS.out; omega
                  have hfl2 : (hexB x.ys).length ≤ 2100000 := by
                    have h1 := hfl
                    simp at h1
                    have h2 : (hexB x.ys).length = (fieldB x 5).length := rfl
                    omega
                  have f0 : wr.cell? ⟨bk, q * 2, none⟩ = some (.func (.func 39) #[] #[.pointer (some ⟨pv 5, 0, none⟩)]) := by have h := TB.out.cell HU.out HCC.out (j := 0) (by omega) rfl; rw [HBK.out] at h; exact h
                  have f1 : wr.cell? ⟨bk, q * 2 + 1, none⟩ = some (.func (.func 41) #[] #[.pointer (some ⟨pv 5, 0, none⟩)]) := by have h := TB.out.cell HU.out HCC.out (j := 1) (by omega) rfl; rw [HBK.out] at h; exact h
                  have P2 := PP.alloc (.cells #[.func (.func 39) #[] #[.pointer (some ⟨pv 5, 0, none⟩)], .func (.func 41) #[] #[.pointer (some ⟨pv 5, 0, none⟩)]] 57)
                  have B2 := B1.call ((Below.refl wr.heap.size wr).alloc (Nat.le_refl _) (.cells #[.func (.func 39) #[] #[.pointer (some ⟨pv 5, 0, none⟩)], .func (.func 41) #[] #[.pointer (some ⟨pv 5, 0, none⟩)]] 57))
                  have BF := Blk.new PP 57 (by decide) #[.func (.func 39) #[] #[.pointer (some ⟨pv 5, 0, none⟩)], .func (.func 41) #[] #[.pointer (some ⟨pv 5, 0, none⟩)]]
                  have hst := fun (a : Addr) (p : Nat) (f : FuncId) (m : Mode) (w : World) => run_store Tryd.prog w a (.func (.func f) #[] #[.pointer (some ⟨p, 0, none⟩)]) m rfl
                  have hst2 := fun (a : Addr) (f : FuncId) (m : Mode) (w : World) => run_store Tryd.prog w a (.func (.func f) #[] #[]) m rfl
                  go_upto_region 23 with (fail)
                  refine absorb_X (fun w' => PS w3 (textB (l.take k) ++ (wordOf x.k ++ fieldsB x ((usesOf x.k).take q))) w' ∧ Blk w' w3 g10 28 [.int .u8 (x.k.toNat : Int), .int .i64 x.h, .int .u8 (x.a.toNat : Int), .int .i64 x.c, .int .i64 x.o, .slice x.A x.n x.cA, .slice x.B x.m x.cB] ∧ Blk w' w3 wr.heap.size 57 [.func (.func 39) #[] #[.pointer (some ⟨pv 5, 0, none⟩)], .func (.func 41) #[] #[.pointer (some ⟨pv 5, 0, none⟩)]]) ⟨P2, B2, BF⟩ ?_
                  clear P2 B2 PP B1 BF f0 f1 TB hst hst2
                  rintro w9 ⟨PP, B1, BF⟩
                  obtain ⟨g14, hg14⟩ : ∃ g14, wr.heap.size = g14 := ⟨_, rfl⟩
                  rw [hg14] at BF ⊢
                  clear hg14
                  have d0 := BF.cell (o := 0) (u := .func (.func 39) #[] #[.pointer (some ⟨pv 5, 0, none⟩)]) rfl
                  go_wp2_with (first | (refine wpList_load_row rfl 28 (.tmp 10) rfl g10 rfl _ _ _ _ B1.1 Tryd.underlying28 rfl op_size ?_) | fail)
                  refine (lst_m x.k x.h x.a x.c x.o x.A x.B x.n x.cA x.m x.cB x.ys (pv 5) _ (HTB.out _ PP.low).g5 ((HW.out _ PP.low).arg0 okx.out.rb) hsm).mono ?_
                  rintro e w10 ⟨rfl, hb⟩
                  replace PP := PP.call hb
                  replace B1 := B1.call hb
                  clear hb BF d0
                  obtain ⟨t1, ht1⟩ : ∃ t, hexB x.ys = t := ⟨_, rfl⟩
                  have HT1 := Lib.hid ht1
                  rw [ht1] at hfl2 ⊢
                  clear ht1
                  have hcb := fun w => cat_b t1 w (by omega)
                  go_wp2_with fail
                  refine (PP.writeAt HGB (32 :: t1) (by rw [List.length_cons]; omega)).mono ?_
                  rintro e w11 ⟨v, rfl, PW, hkb⟩
                  replace B1 := hkb _ _ _ B1
                  have hnx := hnext.out
                  rw [show fieldB x 5 = t1 from HT1.out] at hnx
                  rw [hnx] at PW
                  clear hnx PP hkb hcb
                  go_wp2
                  go_roundw
                  case rel => exact ⟨q + 1, by omega, by go_num, PW, B1⟩
                  case measure => simp [intOf]; omega
              · obtain rfl : q = L := by omega
                have hqi : ¬ (q : Int) < q := by omega
                have hall : (usesOf x.k).take q = usesOf x.k := List.take_of_length_le (by rw [HLN.out]; exact Nat.le_refl _)
                have hline := line_known HU.out
                rw [hall, ← hline] at PP
                have HNL : Hid (textB (l.take k) ++ lineB x ++ [10] = textB (l.take (k + 1))) := by unfold Hid; rw [textB_take HX.out, List.append_assoc]
                have hacc : (textB (l.take k) ++ lineB x).length + 1 ≤ 140737488355328 := by
                  have h1 := acc_le HIN.out HS.out (j := k) (by omega)
                  have h2 := line_le (HIN.out x (List.mem_of_getElem? HX.out))
                  have h3 := sumH_mem (List.mem_of_getElem? HX.out)
                  have h4 := HS.out
                  rw [List.length_append]; omega
                clear hall hline B1
                go_wp2_with fail
                refine (PP.writeAt HGB [10] hacc).mono ?_
                rintro e w11 ⟨v, rfl, PW, -⟩
                rw [HNL.out] at PW
                clear PP hacc
                go_wp2
                go_roundw
                case rel => exact ⟨k + 1, by omega, by go_num, PW⟩
                case measure => simp [intOf]; omega
        · obtain rfl : k = j := by omega
          have hki : ¬ (k : Int) < k := by omega
          have hall : l.take k = l := List.take_of_length_le (by rw [HL.out]; exact Nat.le_refl _)
          rw [hall] at PP
          clear hall
          have HSTR : Hid (Calls Tryd.prog 14 #[.pointer (some ⟨gb, 0, none⟩)] wr fun e w' => e = .returned (tv (textB l)) ∧ Below w3.heap.size wr w') := by
            have e := HGB.out
            subst e
            refine (Tryd.Builder_String_any_k w3.heap.size w3.heap.size (textB l) wr PP.bld (Nat.le_of_lt PP.lt)).mono ?_
            rintro e w' ⟨rfl, -, hb, -⟩
            exact ⟨rfl, hb⟩
          go_wp2_with fail
          refine HSTR.out.mono ?_
          rintro e w12 ⟨rfl, hb⟩
          have hfin : Below w.heap.size w w12 := H.below.trans ((PP.low.trans hb).mono H.below.size)
          clear HSTR hb
          have HFIN := Lib.hid hfin
          clear hfin
          go_wp2
          go_ret2
          exact ⟨by rw [E1.out, E2.out]; rfl, HFIN.out⟩

end Go.Proofs.YtenmlkgamlafpaaDoor
