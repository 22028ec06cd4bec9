/- The document's line. -/
import Derived.Test.YtenmlkgamlafpaaDoorScPr

namespace Go.Proofs.YtenmlkgamlafpaaDoor
open Go.RowKit
set_option linter.unusedVariables false
set_option maxRecDepth 100000

def swd (i : Nat) : List UInt8 := [[112, 117, 116], [98, 101, 103, 105, 110], [117, 112, 100, 97, 116, 101], [102, 105, 110, 105, 115, 104], [118, 101, 114, 105, 102, 121], [99, 108, 111, 110, 101], [104, 107, 100, 102], [112, 98, 107, 100, 102], [114, 101, 118, 101, 97, 108], [100, 114, 111, 112], [107, 105, 110, 100]].getD i []

def wts (i : Nat) : List UInt8 := [[100], [104, 97, 111, 100], [104, 100], [104], [104, 100], [104], [104, 97, 111, 100, 109], [104, 97, 99, 111, 100], [104], [104], [107]].getD i []

def knd (i : Nat) : Int := [1, 2, 3, 4, 5, 6, 7, 8, 9, 10, 0].getD i 0

def shp (i : Nat) : List Value := [.string ⟨(swd i).toArray⟩, .int .u8 (knd i), .string ⟨(wts i).toArray⟩]

theorem shp_size : (Tryd.prog.info? 79).map (·.size) = some 3 := by kernel_rfl

theorem shp_length (i : Nat) : (shp i).length = 3 := rfl

def shC : List Value := (List.range 11).flatMap shp

theorem shC_get (i j : Nat) (hi : i < 11) (hj : j < 3) : shC[i * 3 + j]? = (shp i)[j]? := flat_get shp_length (List.range 11) i j i (List.getElem?_range hi) hj

set_option maxHeartbeats 1000000 in
theorem shapes_s (w : World) : Calls Tryd.prog 34 #[] w fun e w' => ∃ g, e = .returned (.slice (some ⟨g, 0, none⟩) 11 11) ∧ St w [] w' (lay [.blk g 79 shC]) := by
  have HA := (St.start_lay w []).allocAt 0 rfl w.heap.size rfl #[.string { data := #[112, 117, 116] }, .int .u8 1, .string { data := #[100] }, .string { data := #[98, 101, 103, 105, 110] }, .int .u8 2, .string { data := #[104, 97, 111, 100] }, .string { data := #[117, 112, 100, 97, 116, 101] }, .int .u8 3, .string { data := #[104, 100] }, .string { data := #[102, 105, 110, 105, 115, 104] }, .int .u8 4, .string { data := #[104] }, .string { data := #[118, 101, 114, 105, 102, 121] }, .int .u8 5, .string { data := #[104, 100] }, .string { data := #[99, 108, 111, 110, 101] }, .int .u8 6, .string { data := #[104] }, .string { data := #[104, 107, 100, 102] }, .int .u8 7, .string { data := #[104, 97, 111, 100, 109] }, .string { data := #[112, 98, 107, 100, 102] }, .int .u8 8, .string { data := #[104, 97, 99, 111, 100] }, .string { data := #[114, 101, 118, 101, 97, 108] }, .int .u8 9, .string { data := #[104] }, .string { data := #[100, 114, 111, 112] }, .int .u8 10, .string { data := #[104] }, .string { data := #[107, 105, 110, 100] }, .int .u8 0, .string { data := #[107] }] 79 |>.push_mk rfl
  go_enter Tryd.func34, Tryd.ntmps34
  go_wp2
  go_ret
  exact ⟨_, rfl, HA⟩

/-- which row it is, behind i rows -/
def sel (k : UInt8) (i : Nat) : Nat := if 1 ≤ k.toNat ∧ k.toNat ≤ i then k.toNat - 1 else 10

theorem sel_hit {k : UInt8} {i : Nat} (h : k.toNat = i + 1) : sel k (i + 1) = i := by unfold sel; rw [if_pos (by omega)]; omega

theorem sel_miss {k : UInt8} {i : Nat} (h : k.toNat ≠ i + 1) : sel k (i + 1) = sel k i := by
  unfold sel
  by_cases h1 : 1 ≤ k.toNat ∧ k.toNat ≤ i
  · rw [if_pos h1, if_pos (by omega)]
  · rw [if_neg h1, if_neg (by omega)]

theorem knd_at {i : Nat} (h : i < 10) : knd i = (i : Int) + 1 := by
  match i, h with
  | 0, _ => rfl
  | 1, _ => rfl
  | 2, _ => rfl
  | 3, _ => rfl
  | 4, _ => rfl
  | 5, _ => rfl
  | 6, _ => rfl
  | 7, _ => rfl
  | 8, _ => rfl
  | 9, _ => rfl
  | i + 10, h => omega

/-- a field's letter -/
def letter : Nat → UInt8
  | 0 => 104
  | 1 => 97
  | 2 => 99
  | 3 => 111
  | 4 => 100
  | _ => 109

theorem sel_known {k : UInt8} (h : usesOf k ≠ []) : swd (sel k 10) = wordOf k ∧ wts (sel k 10) = (usesOf k).map letter := by
  rcases uses_cases k with e | e | e | e | e | e | e | e | e | e | e
  all_goals first
    | exact absurd e h
    | (subst e; exact ⟨rfl, rfl⟩)

theorem sel_no {k : UInt8} (h : usesOf k = []) : swd (sel k 10) = [107, 105, 110, 100] ∧ wts (sel k 10) = [107] := by
  have e : sel k 10 = 10 := by
    unfold sel
    rw [if_neg]
    rintro ⟨h1, h2⟩
    have : k.toNat = 1 ∨ k.toNat = 2 ∨ k.toNat = 3 ∨ k.toNat = 4 ∨ k.toNat = 5 ∨ k.toNat = 6 ∨ k.toNat = 7 ∨ k.toNat = 8 ∨ k.toNat = 9 ∨ k.toNat = 10 := by omega
    have key : ∀ c : UInt8, usesOf c ≠ [] → k.toNat ≠ c.toNat := fun c hc e => hc (by rw [← UInt8.toNat_inj.1 e]; exact h)
    rcases this with e | e | e | e | e | e | e | e | e | e
    · exact key 1 (by decide) e
    · exact key 2 (by decide) e
    · exact key 3 (by decide) e
    · exact key 4 (by decide) e
    · exact key 5 (by decide) e
    · exact key 6 (by decide) e
    · exact key 7 (by decide) e
    · exact key 8 (by decide) e
    · exact key 9 (by decide) e
    · exact key 10 (by decide) e
  rw [e]; exact ⟨rfl, rfl⟩

theorem str_at {l : List UInt8} {q : Nat} {b : UInt8} (h : l[q]? = some b) : q < (⟨l.toArray⟩ : ByteArray).size ∧ ∀ hq, (⟨l.toArray⟩ : ByteArray)[q]'hq = b := by
  obtain ⟨h1, h2⟩ := List.getElem?_eq_some_iff.1 h
  have e : (⟨l.toArray⟩ : ByteArray).size = l.length := by show l.toArray.size = _; simp
  refine ⟨by rw [e]; exact h1, fun hq => ?_⟩
  show l.toArray[q] = b
  simpa using h2

set_option maxHeartbeats 8000000 in
theorem refLine_s (x : OpR) (w : World) (hin : x.In) (hra : Rd w 1 x.A x.n (x.xs.map vb)) (hrb : Rd w 1 x.B x.m (x.ys.map vb)) (hh : hasN x ≤ 1048576) (ht : Tab w) :
    Calls Tryd.prog 16 #[opV x.k x.h x.a x.c x.o (.slice x.A x.n x.cA) (.slice x.B x.m x.cB)] w fun e w' => e = .returned (tv (lineB x)) ∧ Below w.heap.size w w' := by
  have HIN := Lib.hid hin
  have RA := Lib.hid hra
  have RB := Lib.hid hrb
  have HT := Lib.hid ht
  have HH := Lib.hid hh
  clear hin hra hrb ht hh
  have HA := (St.start_lay w []).allocAt 0 rfl w.heap.size rfl #[.int .u8 (x.k.toNat : Int), .int .i64 x.h, .int .u8 (x.a.toNat : Int), .int .i64 x.c, .int .i64 x.o, .slice x.A x.n x.cA, .slice x.B x.m x.cB] 28 |>.push_mk rfl
  go_enter Tryd.func16, Tryd.ntmps16
  go_upto_region 1 with (fail)
  refine absorb_wp HA ?_
  clear HA
  intro w1 H
  generalize w.heap.size = g1 at H ⊢
  replace H : St w [] w1 (lay [.blk g1 28 [.int .u8 (x.k.toNat : Int), .int .i64 x.h, .int .u8 (x.a.toNat : Int), .int .i64 x.c, .int .i64 x.o, .slice x.A x.n x.cA, .slice x.B x.m x.cB]]) := H
  go_wp2_with fail
  refine (shapes_s w1).mono ?_
  rintro e w2 ⟨g, rfl, HN⟩
  replace H := H.also HN
  replace H : St w [] w2 (lay [.blk g1 28 [.int .u8 (x.k.toNat : Int), .int .i64 x.h, .int .u8 (x.a.toNat : Int), .int .i64 x.c, .int .i64 x.o, .slice x.A x.n x.cA, .slice x.B x.m x.cB], .blk g 79 shC]) := H
  clear HN
  have s0 := H.cell 1 rfl (o := 30) (u := .string { data := #[107, 105, 110, 100] }) rfl
  have s1 := H.cell 1 rfl (o := 31) (u := .int .u8 0) rfl
  have s2 := H.cell 1 rfl (o := 32) (u := .string { data := #[107] }) rfl
  have HB := H.allocAt 2 rfl w2.heap.size rfl #[.string { data := #[107, 105, 110, 100] }, .int .u8 0, .string { data := #[107] }] 79 |>.push_mk rfl
  go_upto_region 3 with (fail)
  refine absorb_wp HB ?_
  clear HB H s0 s1 s2
  intro w3 H
  generalize w2.heap.size = g4 at H ⊢
  have H9 : St w [] w3 (lay [.blk g1 28 [.int .u8 (x.k.toNat : Int), .int .i64 x.h, .int .u8 (x.a.toNat : Int), .int .i64 x.c, .int .i64 x.o, .slice x.A x.n x.cA, .slice x.B x.m x.cB], .blk g 79 shC, .blk g4 79 (shp (sel x.k 0))]) := by
    have e : sel x.k 0 = 10 := by unfold sel; rw [if_neg (by omega)]
    rw [e]; exact H
  clear H
  go_wp2
  go_loopw [5] (fun i wr => ∃ j : Nat, j ≤ 10 ∧ i = .int .i64 (j : Int) ∧ St w [] wr (lay [.blk g1 28 [.int .u8 (x.k.toNat : Int), .int .i64 x.h, .int .u8 (x.a.toNat : Int), .int .i64 x.c, .int .i64 x.o, .slice x.A x.n x.cA, .slice x.B x.m x.cB], .blk g 79 shC, .blk g4 79 (shp (sel x.k j))])) (fun i _ => 10 - (intOf i).toNat)
  case atStart => exact ⟨0, by omega, rfl, H9⟩
  case round =>
    clear H9
    obtain ⟨j, hj, rfl, H⟩ := hrel
    by_cases hlt : j < 10
    · have hji : (j : Int) + 1 < 11 := by omega
      have hji2 : (j : Int) < 11 := by omega
      obtain ⟨sw, hsw⟩ : ∃ s, (⟨(swd j).toArray⟩ : ByteArray) = s := ⟨_, rfl⟩
      obtain ⟨st, hst⟩ : ∃ s, (⟨(wts j).toArray⟩ : ByteArray) = s := ⟨_, rfl⟩
      have hsh : shp j = [.string sw, .int .u8 ((j : Int) + 1), .string st] := by unfold shp; rw [hsw, hst, knd_at hlt]
      have HSH := Lib.hid hsh
      clear hsw hst
      have k0 := H.cell 1 rfl (o := j * 3) (u := .string sw) (by have h := shC_get j 0 (by omega) (by omega); rw [hsh] at h; exact h)
      have k1 := H.cell 1 rfl (o := j * 3 + 1) (u := .int .u8 ((j : Int) + 1)) (by have h := shC_get j 1 (by omega) (by omega); rw [hsh] at h; exact h)
      have k2 := H.cell 1 rfl (o := j * 3 + 2) (u := .string st) (by have h := shC_get j 2 (by omega) (by omega); rw [hsh] at h; exact h)
      have c0 := H.cell 0 rfl (o := 0) (u := .int .u8 (x.k.toNat : Int)) rfl
      clear hsh
      by_cases he : x.k.toNat = j + 1
      · have hb : ((j : Int) + 1 == (x.k.toNat : Int)) = true := by simp; omega
        have HE := Lib.hid (sel_hit he)
        clear he
        go_wp2
        go_quiet (fail)
        replace H := H.drewN nq
        have hth := H.there 2 rfl
        go_wp2_with (first | (refine wpList_store_mid rfl 79 (.tmp 4) (.tmp 34) rfl g4 0 #[.string sw, .int .u8 ((j : Int) + 1), .string st] (by rfl) (by rfl) hth shp_size (all_oneCell_toArray (by intro u hu; simp at hu; rcases hu with rfl | rfl | rfl <;> rfl)) ?_) | fail)
        have HZ := (H.storeAll 2 rfl (vs := [.string sw, .int .u8 ((j : Int) + 1), .string st]) rfl).upd_mk (by simp)
        go_roundw
        case rel => exact ⟨j + 1, by omega, by go_num, by rw [HE.out, HSH.out]; exact HZ⟩
        case measure => simp [intOf]; omega
      · have hb : ((j : Int) + 1 == (x.k.toNat : Int)) = false := by simp; omega
        have HE := Lib.hid (sel_miss he)
        clear he k0 k2
        go_wp2
        go_quiet (fail)
        go_wp2
        go_roundw
        case rel => exact ⟨j + 1, by omega, by go_num, by rw [HE.out]; exact H.drewN nq⟩
        case measure => simp [intOf]; omega
    · obtain rfl : j = 10 := by omega
      have hji : ¬ (((10 : Nat) : Int) + 1 < 11) := by omega
      clear hlt hj
      by_cases hu : usesOf x.k = []
      · obtain ⟨e1, e2⟩ := sel_no hu
        have hline := line_kind hu
        have HLN := Lib.hid hline
        unfold shp at H
        rw [e1, e2] at H
        obtain ⟨kv, hkv⟩ : ∃ v, knd (sel x.k 10) = v := ⟨_, rfl⟩
        rw [hkv] at H
        clear e1 e2 hkv hu hline
        have hb1 : (x.k.toNat : Int) ≤ 255 := by have := x.k.toNat_lt; omega
        have wa : IntKind.i64.wrap (x.k.toNat : Int) = (x.k.toNat : Int) := IntWalk.i64_in _ (by omega)
        have d0 := H.cell 2 rfl (o := 0) (u := .string { data := #[107, 105, 110, 100] }) rfl
        go_wp2
        clear d0
        go_loopw [6, 7] (fun v i wr => ∃ q : Nat, q ≤ 1 ∧ v = (if q = 0 then .string { data := #[107, 105, 110, 100] } else tv (lineB x)) ∧ i = .int .i64 (q : Int) ∧ St w [] wr (lay [.blk g1 28 [.int .u8 (x.k.toNat : Int), .int .i64 x.h, .int .u8 (x.a.toNat : Int), .int .i64 x.c, .int .i64 x.o, .slice x.A x.n x.cA, .slice x.B x.m x.cB], .blk g 79 shC, .blk g4 79 [.string { data := #[107, 105, 110, 100] }, .int .u8 kv, .string { data := #[107] }]])) (fun _ i _ => 1 - (intOf i).toNat)
        case atStart => exact ⟨0, by omega, rfl, rfl, H⟩
        case round =>
          clear H
          obtain ⟨q, hq, rfl, rfl, H⟩ := hrel
          have hq2 : q = 0 ∨ q = 1 := by omega
          have d2 := H.cell 2 rfl (o := 2) (u := .string { data := #[107] }) rfl
          rcases hq2 with rfl | rfl
          · have c0 := H.cell 0 rfl (o := 0) (u := .int .u8 (x.k.toNat : Int)) rfl
            go_wp2_with fail
            refine (itoa_s (x.k.toNat : Int) _ (by omega) (by omega) (HT.out.st H)).mono ?_
            rintro e w7 ⟨rfl, hb⟩
            replace H := H.call hb
            clear hb c0 d2
            obtain ⟨t1, ht1⟩ : ∃ t, Lib.itoa (x.k.toNat : Int) = t := ⟨_, rfl⟩
            have hl1 : t1.length ≤ 21 := by rw [← ht1]; exact Lib.itoa_length_le _ (by omega) (by omega)
            have hline := HLN.out
            rw [ht1] at hline ⊢
            have HL2 := Lib.hid hline
            clear ht1 hline
            have hcb : ∀ w, (binOp BinOp.add 9 (.string (({ data := #[107, 105, 110, 100] } : ByteArray) ++ ({ data := #[32] } : ByteArray))) (tv t1)).run Tryd.prog w = .ok (tv (kindW ++ t1)) w := fun w => by
              rw [show (({ data := #[107, 105, 110, 100] } : ByteArray) ++ ({ data := #[32] } : ByteArray)) = ⟨kindW.toArray⟩ from tvcat [107, 105, 110, 100] [32]]
              exact cat_s kindW t1 w (by simp only [kindW, List.length_cons, List.length_nil]; omega)
            go_wp2
            go_roundw
            case rel => exact ⟨1, by omega, by rw [HL2.out]; rfl, rfl, H⟩
            case measure => simp [intOf]
          · go_wp2
            go_ret
            exact ⟨rfl, H.below⟩
      · obtain ⟨e1, e2⟩ := sel_known hu
        have HU := Lib.hid hu
        have hline := line_known hu
        have HLN := Lib.hid hline
        unfold shp at H
        rw [e1, e2] at H
        obtain ⟨kv, hkv⟩ : ∃ v, knd (sel x.k 10) = v := ⟨_, rfl⟩
        obtain ⟨L, hL⟩ : ∃ n, (usesOf x.k).length = n := ⟨_, rfl⟩
        have hL5 : L ≤ 5 := by rw [← hL]; exact uses_len x.k
        obtain ⟨sS, hsS⟩ : ∃ s, (⟨((usesOf x.k).map letter).toArray⟩ : ByteArray) = s := ⟨_, rfl⟩
        have hsz : (sS.size : Int) = (L : Int) := by rw [← hsS, ← hL]; show (((usesOf x.k).map letter).toArray.size : Int) = _; simp
        have hSS : ∀ q c, (usesOf x.k)[q]? = some c → q < sS.size ∧ ∀ hq, sS[q]'hq = letter c := fun q c h => by
          subst hsS
          exact str_at (by rw [List.getElem?_map, h]; rfl)
        rw [hkv, hsS] at H
        have HSS := Lib.hid hSS
        have HLL := Lib.hid hL
        obtain ⟨sW, hsW⟩ : ∃ s, (⟨(wordOf x.k).toArray⟩ : ByteArray) = s := ⟨_, rfl⟩
        rw [hsW] at H
        have HSW : Hid (Value.string sW = tv (wordOf x.k ++ fieldsB x ((usesOf x.k).take 0))) := by unfold Hid tv; rw [← hsW]; simp [fieldsB]
        clear e1 e2 hkv hu hline hsS hSS hL hsW
        have d0 := H.cell 2 rfl (o := 0) (u := .string sW) rfl
        go_wp2
        clear d0
        go_loopw [6, 7] (fun v i wr => ∃ q : Nat, q ≤ L ∧ v = tv (wordOf x.k ++ fieldsB x ((usesOf x.k).take q)) ∧ i = .int .i64 (q : Int) ∧ St w [] wr (lay [.blk g1 28 [.int .u8 (x.k.toNat : Int), .int .i64 x.h, .int .u8 (x.a.toNat : Int), .int .i64 x.c, .int .i64 x.o, .slice x.A x.n x.cA, .slice x.B x.m x.cB], .blk g 79 shC, .blk g4 79 [.string sW, .int .u8 kv, .string sS]])) (fun _ i _ => L - (intOf i).toNat)
        case atStart => exact ⟨0, Nat.zero_le _, HSW.out, rfl, H⟩
        case round =>
          clear H HSW
          obtain ⟨q, hq, rfl, rfl, H⟩ := hrel
          have d2 := H.cell 2 rfl (o := 2) (u := .string sS) rfl
          by_cases hltq : q < L
          · obtain ⟨cc, hcc⟩ : ∃ cc, (usesOf x.k)[q]? = some cc := ⟨_, List.getElem?_eq_getElem (by rw [HLL.out]; exact hltq)⟩
            obtain ⟨i1, i2⟩ := HSS.out q cc hcc
            have hmem := List.mem_of_getElem? hcc
            have hc5 := uses_le x.k cc hmem
            have HMEM := Lib.hid hmem
            have hacc := fields_le HIN.out (i := q) HU.out
            have hhx := HH.out
            have hacc2 : (wordOf x.k ++ fieldsB x ((usesOf x.k).take q)).length ≤ 3000000 := by omega
            have hfl := field_le HIN.out cc
            have hnext : Hid (wordOf x.k ++ fieldsB x ((usesOf x.k).take q) ++ [32] ++ fieldB x cc = wordOf x.k ++ fieldsB x ((usesOf x.k).take (q + 1))) := by
              unfold Hid; rw [fieldsB_succ x hcc]; simp
            obtain ⟨T, hT⟩ : ∃ T, wordOf x.k ++ fieldsB x ((usesOf x.k).take q) = T := ⟨_, rfl⟩
            rw [hT] at hacc2 hnext ⊢
            have hqi : (q : Int) < L := by omega
            clear hcc hmem hacc hhx hT
            have hca : ∀ w, (binOp BinOp.add 9 (tv T) (.string { data := #[32] })).run Tryd.prog w = .ok (tv (T ++ [32])) w := fun w => cat_s T [32] w (by simp only [List.length_cons, List.length_nil]; omega)
            have hcs : cc = 0 ∨ cc = 1 ∨ cc = 2 ∨ cc = 3 ∨ cc = 4 ∨ cc = 5 := by omega
            clear hc5
            rcases hcs with rfl | rfl | rfl | rfl | rfl | rfl
            · have hfl2 : (Lib.itoa x.h).length ≤ 2100000 := by
                have h1 := hfl
                have h3 := HH.out
                simp at h1
                have h2 : (Lib.itoa x.h).length = (fieldB x 0).length := rfl
                omega
              have i3 : ∀ hq, (sS[q]'hq).toNat = 104 := fun hq => by rw [i2 hq]; rfl
              have cc := H.cell 0 rfl (o := 1) (u := .int .i64 x.h) rfl
              clear i2
              go_wp2_with fail
              refine (itoa_s x.h _ HIN.out.1.1 HIN.out.1.2 (HT.out.st H)).mono ?_
              rintro e w7 ⟨rfl, hb⟩
              replace H := H.call hb
              clear hb cc d2 i3
              obtain ⟨t1, ht1⟩ : ∃ t, Lib.itoa x.h = t := ⟨_, rfl⟩
              have hnx := hnext.out
              rw [show fieldB x 0 = t1 from ht1] at hnx
              have HNX := Lib.hid hnx
              rw [ht1] at hfl2 ⊢
              clear ht1 hnx
              have hcb := fun w => cat_s (T ++ [32]) t1 w (by simp only [List.length_append, List.length_cons, List.length_nil]; omega)
              go_wp2
              go_roundw
              case rel => exact ⟨q + 1, by omega, by rw [← HNX.out]; simp, by go_num, H⟩
              case measure => simp [intOf]; omega
            · have hb1 : (x.a.toNat : Int) ≤ 255 := by have := x.a.toNat_lt; omega
              have wa : IntKind.i64.wrap (x.a.toNat : Int) = (x.a.toNat : Int) := IntWalk.i64_in _ (by omega)
              have hfl2 : (Lib.itoa (x.a.toNat : Int)).length ≤ 2100000 := by
                have h1 := hfl
                have h3 := HH.out
                simp at h1
                have h2 : (Lib.itoa (x.a.toNat : Int)).length = (fieldB x 1).length := rfl
                omega
              have i3 : ∀ hq, (sS[q]'hq).toNat = 97 := fun hq => by rw [i2 hq]; rfl
              have cc := H.cell 0 rfl (o := 2) (u := .int .u8 (x.a.toNat : Int)) rfl
              clear i2
              go_wp2_with fail
              refine (itoa_s (x.a.toNat : Int) _ (by omega) (by omega) (HT.out.st H)).mono ?_
              rintro e w7 ⟨rfl, hb⟩
              replace H := H.call hb
              clear hb cc d2 i3
              obtain ⟨t1, ht1⟩ : ∃ t, Lib.itoa (x.a.toNat : Int) = t := ⟨_, rfl⟩
              have hnx := hnext.out
              rw [show fieldB x 1 = t1 from ht1] at hnx
              have HNX := Lib.hid hnx
              rw [ht1] at hfl2 ⊢
              clear ht1 hnx
              have hcb := fun w => cat_s (T ++ [32]) t1 w (by simp only [List.length_append, List.length_cons, List.length_nil]; omega)
              go_wp2
              go_roundw
              case rel => exact ⟨q + 1, by omega, by rw [← HNX.out]; simp, by go_num, H⟩
              case measure => simp [intOf]; omega
            · have hfl2 : (Lib.itoa x.c).length ≤ 2100000 := by
                have h1 := hfl
                have h3 := HH.out
                simp at h1
                have h2 : (Lib.itoa x.c).length = (fieldB x 2).length := rfl
                omega
              have i3 : ∀ hq, (sS[q]'hq).toNat = 99 := fun hq => by rw [i2 hq]; rfl
              have cc := H.cell 0 rfl (o := 3) (u := .int .i64 x.c) rfl
              clear i2
              go_wp2_with fail
              refine (itoa_s x.c _ HIN.out.2.1.1 HIN.out.2.1.2 (HT.out.st H)).mono ?_
              rintro e w7 ⟨rfl, hb⟩
              replace H := H.call hb
              clear hb cc d2 i3
              obtain ⟨t1, ht1⟩ : ∃ t, Lib.itoa x.c = t := ⟨_, rfl⟩
              have hnx := hnext.out
              rw [show fieldB x 2 = t1 from ht1] at hnx
              have HNX := Lib.hid hnx
              rw [ht1] at hfl2 ⊢
              clear ht1 hnx
              have hcb := fun w => cat_s (T ++ [32]) t1 w (by simp only [List.length_append, List.length_cons, List.length_nil]; omega)
              go_wp2
              go_roundw
              case rel => exact ⟨q + 1, by omega, by rw [← HNX.out]; simp, by go_num, H⟩
              case measure => simp [intOf]; omega
            · have hfl2 : (Lib.itoa x.o).length ≤ 2100000 := by
                have h1 := hfl
                have h3 := HH.out
                simp at h1
                have h2 : (Lib.itoa x.o).length = (fieldB x 3).length := rfl
                omega
              have i3 : ∀ hq, (sS[q]'hq).toNat = 111 := fun hq => by rw [i2 hq]; rfl
              have cc := H.cell 0 rfl (o := 4) (u := .int .i64 x.o) rfl
              clear i2
              go_wp2_with fail
              refine (itoa_s x.o _ HIN.out.2.2.1.1 HIN.out.2.2.1.2 (HT.out.st H)).mono ?_
              rintro e w7 ⟨rfl, hb⟩
              replace H := H.call hb
              clear hb cc d2 i3
              obtain ⟨t1, ht1⟩ : ∃ t, Lib.itoa x.o = t := ⟨_, rfl⟩
              have hnx := hnext.out
              rw [show fieldB x 3 = t1 from ht1] at hnx
              have HNX := Lib.hid hnx
              rw [ht1] at hfl2 ⊢
              clear ht1 hnx
              have hcb := fun w => cat_s (T ++ [32]) t1 w (by simp only [List.length_append, List.length_cons, List.length_nil]; omega)
              go_wp2
              go_roundw
              case rel => exact ⟨q + 1, by omega, by rw [← HNX.out]; simp, by go_num, H⟩
              case measure => simp [intOf]; omega
            · have hsm : x.n ≤ 1048576 := by have h1 := has_d HMEM.out; have h2 := HH.out; omega
              have hfl2 : (hexB x.xs).length ≤ 2100000 := by
                have h1 := hfl
                have h3 := HH.out
                simp at h1
                have h2 : (hexB x.xs).length = (fieldB x 4).length := rfl
                omega
              have i3 : ∀ hq, (sS[q]'hq).toNat = 100 := fun hq => by rw [i2 hq]; rfl
              have cc := H.cell 0 rfl (o := 5) (u := .slice x.A x.n x.cA) rfl
              clear i2
              go_wp2_with fail
              refine (refHex_s x.A x.n x.cA x.xs _ (H.arg0 RA.out) hsm).mono ?_
              rintro e w7 ⟨rfl, hb⟩
              replace H := H.call hb
              clear hb cc d2 i3
              obtain ⟨t1, ht1⟩ : ∃ t, hexB x.xs = t := ⟨_, rfl⟩
              have hnx := hnext.out
              rw [show fieldB x 4 = t1 from ht1] at hnx
              have HNX := Lib.hid hnx
              rw [ht1] at hfl2 ⊢
              clear ht1 hnx
              have hcb := fun w => cat_s (T ++ [32]) t1 w (by simp only [List.length_append, List.length_cons, List.length_nil]; omega)
              go_wp2
              go_roundw
              case rel => exact ⟨q + 1, by omega, by rw [← HNX.out]; simp, by go_num, H⟩
              case measure => simp [intOf]; omega
            · have hsm : x.m ≤ 1048576 := by have h1 := has_m HMEM.out; have h2 := HH.out; omega
              have hfl2 : (hexB x.ys).length ≤ 2100000 := by
                have h1 := hfl
                have h3 := HH.out
                simp at h1
                have h2 : (hexB x.ys).length = (fieldB x 5).length := rfl
                omega
              have i3 : ∀ hq, (sS[q]'hq).toNat = 109 := fun hq => by rw [i2 hq]; rfl
              have cc := H.cell 0 rfl (o := 6) (u := .slice x.B x.m x.cB) rfl
              clear i2
              go_wp2_with fail
              refine (refHex_s x.B x.m x.cB x.ys _ (H.arg0 RB.out) hsm).mono ?_
              rintro e w7 ⟨rfl, hb⟩
              replace H := H.call hb
              clear hb cc d2 i3
              obtain ⟨t1, ht1⟩ : ∃ t, hexB x.ys = t := ⟨_, rfl⟩
              have hnx := hnext.out
              rw [show fieldB x 5 = t1 from ht1] at hnx
              have HNX := Lib.hid hnx
              rw [ht1] at hfl2 ⊢
              clear ht1 hnx
              have hcb := fun w => cat_s (T ++ [32]) t1 w (by simp only [List.length_append, List.length_cons, List.length_nil]; omega)
              go_wp2
              go_roundw
              case rel => exact ⟨q + 1, by omega, by rw [← HNX.out]; simp, by go_num, H⟩
              case measure => simp [intOf]; omega
          · obtain rfl : q = L := by omega
            have hqi : ¬ (q : Int) < q := by omega
            have hall : (usesOf x.k).take q = usesOf x.k := List.take_of_length_le (by rw [HLL.out]; exact Nat.le_refl _)
            rw [hall, ← HLN.out]
            clear hall
            go_wp2
            go_ret
            exact ⟨rfl, H.below⟩

end Go.Proofs.YtenmlkgamlafpaaDoor
