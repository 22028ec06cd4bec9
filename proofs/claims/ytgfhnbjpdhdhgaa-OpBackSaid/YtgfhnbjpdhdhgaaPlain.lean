/- What an operation is, plain: in op and in the document. -/
import Derived.Test.YtgfhnbjpdhdhgaaUses
import Derived.Test.YtgfhnbjpdhdhgaaOpR
import Derived.Test.YtgfhnbjpdhdhgaaLentO
namespace Go.Proofs.Ytgfhnbjpdhdhgaa
open Go.RowKit
set_option linter.unusedVariables false

def pI (c : Nat) (us : List Nat) (h : Int) : Int := if c ∈ us then h else 0
def pA (us : List Nat) (a : UInt8) : UInt8 := if 1 ∈ us then a else 0
def pL (c : Nat) (us : List Nat) (l : List UInt8) : List UInt8 := if c ∈ us then l else []
theorem pI_new (c : Nat) (us : List Nat) (h : Int) : pI c (us ++ [c]) h = h := by simp [pI]
theorem pI_old (c u : Nat) (us : List Nat) (h : Int) (hc : c ≠ u) : pI c (us ++ [u]) h = pI c us h := by simp [pI, hc]
theorem pA_new (us : List Nat) (a : UInt8) : pA (us ++ [1]) a = a := by simp [pA]
theorem pA_old (u : Nat) (us : List Nat) (a : UInt8) (hc : 1 ≠ u) : pA (us ++ [u]) a = pA us a := by simp [pA, hc]
theorem pL_new (c : Nat) (us : List Nat) (l : List UInt8) : pL c (us ++ [c]) l = l := by simp [pL]
theorem pL_old (c u : Nat) (us : List Nat) (l : List UInt8) (hc : c ≠ u) : pL c (us ++ [u]) l = pL c us l := by simp [pL, hc]
theorem pI_nil (c : Nat) (h : Int) : pI c [] h = 0 := by simp [pI]
theorem pA_nil (a : UInt8) : pA [] a = 0 := by simp [pA]
theorem pL_nil (c : Nat) (l : List UInt8) : pL c [] l = [] := by simp [pL]
theorem row_addr {w : World} {e : TypeId} {size n c : Nat} {A : Option Addr} {xs : List Value} (h : w.ownsRow 0 e size (.slice A n c) n xs) (hn : 0 < n) : ∃ g, A = some ⟨g, 0, none⟩ := by
  rcases h.2 with ⟨h', h2⟩ | ⟨g', cap', cur, h', _⟩
  · omega
  · injection h' with h4 _; exact ⟨g', h4⟩
theorem uses_le (k : UInt8) : ∀ u ∈ usesOf k, u ≤ 5 := by
  intro u hu
  unfold usesOf at hu
  repeat' split at hu
  all_goals simp at hu; try omega
theorem uses_len (k : UInt8) : (usesOf k).length ≤ 5 := by
  unfold usesOf
  repeat' split
  all_goals simp
/-- what a call of Plain tells -/
def PlainP (k : UInt8) (h : Int) (a : UInt8) (c o : Int) (xs ys : List UInt8) (w : World) (e : Ending) (w' : World) : Prop :=
  ∃ v5 v6, e = .returned (opV k (pI 0 (usesOf k) h) (pA (usesOf k) a) (pI 2 (usesOf k) c) (pI 3 (usesOf k) o) v5 v6) ∧
    St w [] w' (lay [.row 5 1 v5 (pL 4 (usesOf k) xs).length ((pL 4 (usesOf k) xs).map vb), .row 5 1 v6 (pL 5 (usesOf k) ys).length ((pL 5 (usesOf k) ys).map vb)])

set_option maxRecDepth 100000 in
set_option maxHeartbeats 4000000 in
theorem opPlain_s (k : UInt8) (h : Int) (a : UInt8) (cn ou : Int) (A B : Option Addr) (n m c d : Nat) (xs ys : List UInt8) (w : World) (hA : Rd w 1 A n (xs.map vb)) (hB : Rd w 1 B m (ys.map vb)) (hn : n ≤ 140737488355320) (hm : m ≤ 140737488355320) :
    Calls Try.prog 47 #[opV k h a cn ou (.slice A n c) (.slice B m d)] w (PlainP k h a cn ou xs ys w) := by
  obtain ⟨i0, hi0, hz0, hz1, hz2⟩ := info_parts u8_info
  have Hx := Lib.hid (show xs.length = n by simpa using hA.1)
  have Hy := Lib.hid (show ys.length = m by simpa using hB.1)
  have H0 := St.start_lay w []
  go_enter Try.func47, Try.ntmps47
  go_wp2_with fail
  refine absorb_calls (H0.allocAt 0 rfl w.heap.size rfl _ _ |>.push_mk rfl |>.allocAt 1 rfl (w.heap.size + 1) (by simp) _ _ |>.push_mk rfl |>.allocAt 2 rfl (w.heap.size + 1 + 1) (by simp) _ _ |>.push_mk rfl) ?_
  intro w1 H
  generalize w.heap.size + 1 + 1 = gP at H ⊢
  generalize w.heap.size + 1 = gR at H ⊢
  generalize hga : w.heap.size = gA at H ⊢
  clear hga H0
  refine (opUses_s k w1).mono ?_
  rintro e w2 ⟨vn, rfl, hon, hbn⟩
  replace H := (H.pushRow 3 rfl hbn hon).push_mk rfl
  clear hon hbn
  have hle := uses_le k
  have hll := uses_len k
  obtain ⟨us, hus⟩ : ∃ us, usesOf k = us := ⟨_, rfl⟩
  rw [hus] at hle hll H
  have HU := Lib.hid hus
  have HLE := Lib.hid hle
  clear hus hle
  replace H := ((H.nilRow 4 rfl 5 1).push_mk rfl).nilRow 5 rfl 5 1 |>.push_mk rfl
  obtain ⟨An, cN, rfl, -⟩ := row_form (H.row 3 rfl)
  go_wp2_with fail
  go_loopw [5, 13] (fun u5 i wr => ∃ (j : Nat) (A5 A6 : Option Addr) (d5 d6 : Nat), j ≤ us.length ∧ i = .int .i64 j ∧ St w [] wr (lay [.blk gA 31 [.int .u8 (k.toNat : Int), .int .i64 h, .int .u8 (a.toNat : Int), .int .i64 cn, .int .i64 ou, .slice A n c, .slice B m d], .blk gR 31 [.int .u8 0, .int .i64 0, .int .u8 0, .int .i64 0, .int .i64 0, .slice none 0 0, .slice none 0 0], .blk gP 31 [.int .u8 (k.toNat : Int), .int .i64 (pI 0 (us.take j) h), .int .u8 ((pA (us.take j) a).toNat : Int), .int .i64 (pI 2 (us.take j) cn), .int .i64 (pI 3 (us.take j) ou), (.slice A5 (pL 4 (us.take j) xs).length d5), (.slice A6 (pL 5 (us.take j) ys).length d6)], .row 9 1 (.slice An us.length cN) us.length (us.map nmV), .row 5 1 (.slice A5 (pL 4 (us.take j) xs).length d5) (pL 4 (us.take j) xs).length ((pL 4 (us.take j) xs).map vb), .row 5 1 (.slice A6 (pL 5 (us.take j) ys).length d6) (pL 5 (us.take j) ys).length ((pL 5 (us.take j) ys).map vb)])) (fun _ i _ => us.length - (intOf i).toNat)
  case atStart => exact ⟨0, none, none, 0, 0, Nat.zero_le _, rfl, by rw [List.take_zero]; simp only [pI_nil, pA_nil, pL_nil]; exact H⟩
  case round =>
    clear H
    obtain ⟨j, A5, A6, d5, d6, hj, rfl, H⟩ := hrel
    by_cases hlt : j < us.length
    · obtain ⟨u, hu⟩ : ∃ u, us[j]? = some u := ⟨_, List.getElem?_eq_getElem hlt⟩
      have hu5 := HLE.out u (List.mem_of_getElem? hu)
      have hT : us.take (j + 1) = us.take j ++ [u] := by rw [List.take_add_one, hu]; rfl
      obtain ⟨gN, rfl⟩ := row_addr (H.row 3 rfl) (by omega)
      have hc := World.ownsRow.cellAt (H.row 3 rfl) j (by omega)
      rw [List.getElem?_map, hu] at hc
      have HT := Lib.hid hT
      clear hT hu
      have hj1 : (j : Int) < us.length := by omega
      have hj2 : j < us.length := hlt
      generalize us.take j = T at *
      have hcases : u = 0 ∨ u = 1 ∨ u = 2 ∨ u = 3 ∨ u = 4 ∨ u = 5 := by omega
      clear hu5 hlt
      rcases hcases with rfl | rfl | rfl | rfl | rfl | rfl
      · have hc' : wr.cell? ⟨gN, j, none⟩ = some (.string (nm 0)) := hc
        clear hc
        unfold nm at hc'
        have x0 := H.cell 0 rfl (o := 1) rfl
        have x1 := H.cell 2 rfl (o := 1) rfl
        have x2 := H.free 2 rfl 1
        go_wp2
        go_roundw
        case rel => exact ⟨j + 1, A5, A6, d5, d6, by omega, by go_num, by rw [HT.out, pI_new 0, pI_old 2 0 _ _ (by omega), pI_old 3 0 _ _ (by omega), pA_old 0 _ _ (by omega), pL_old 4 0 _ _ (by omega), pL_old 5 0 _ _ (by omega)]; exact (H.store 2 rfl (o := 1) (u := .int .i64 h)).upd_mk (by simp)⟩
        case measure => first | (simp [intOf]; omega) | simp [intOf]
      · have hc' : wr.cell? ⟨gN, j, none⟩ = some (.string (nm 1)) := hc
        clear hc
        unfold nm at hc'
        have x0 := H.cell 0 rfl (o := 2) rfl
        have x1 := H.cell 2 rfl (o := 2) rfl
        have x2 := H.free 2 rfl 2
        go_wp2
        go_roundw
        case rel => exact ⟨j + 1, A5, A6, d5, d6, by omega, by go_num, by rw [HT.out, pI_old 0 1 _ _ (by omega), pI_old 2 1 _ _ (by omega), pI_old 3 1 _ _ (by omega), pA_new, pL_old 4 1 _ _ (by omega), pL_old 5 1 _ _ (by omega)]; exact (H.store 2 rfl (o := 2) (u := .int .u8 (a.toNat : Int))).upd_mk (by simp)⟩
        case measure => first | (simp [intOf]; omega) | simp [intOf]
      · have hc' : wr.cell? ⟨gN, j, none⟩ = some (.string (nm 2)) := hc
        clear hc
        unfold nm at hc'
        have x0 := H.cell 0 rfl (o := 3) rfl
        have x1 := H.cell 2 rfl (o := 3) rfl
        have x2 := H.free 2 rfl 3
        go_wp2
        go_roundw
        case rel => exact ⟨j + 1, A5, A6, d5, d6, by omega, by go_num, by rw [HT.out, pI_old 0 2 _ _ (by omega), pI_new 2, pI_old 3 2 _ _ (by omega), pA_old 2 _ _ (by omega), pL_old 4 2 _ _ (by omega), pL_old 5 2 _ _ (by omega)]; exact (H.store 2 rfl (o := 3) (u := .int .i64 cn)).upd_mk (by simp)⟩
        case measure => first | (simp [intOf]; omega) | simp [intOf]
      · have hc' : wr.cell? ⟨gN, j, none⟩ = some (.string (nm 3)) := hc
        clear hc
        unfold nm at hc'
        have x0 := H.cell 0 rfl (o := 4) rfl
        have x1 := H.cell 2 rfl (o := 4) rfl
        have x2 := H.free 2 rfl 4
        go_wp2
        go_roundw
        case rel => exact ⟨j + 1, A5, A6, d5, d6, by omega, by go_num, by rw [HT.out, pI_old 0 3 _ _ (by omega), pI_old 2 3 _ _ (by omega), pI_new 3, pA_old 3 _ _ (by omega), pL_old 4 3 _ _ (by omega), pL_old 5 3 _ _ (by omega)]; exact (H.store 2 rfl (o := 4) (u := .int .i64 ou)).upd_mk (by simp)⟩
        case measure => first | (simp [intOf]; omega) | simp [intOf]
      · have hc' : wr.cell? ⟨gN, j, none⟩ = some (.string (nm 4)) := hc
        clear hc
        unfold nm at hc'
        have x0 := H.cell 0 rfl (o := 5) rfl
        have lA := H.lt 0 rfl
        go_wp2_with (at_builtin; have H6 := (H.lit 6 rfl 5 #[] 0 rfl (by omega) wr.heap.size rfl).push_mk rfl; have hr6 := H6.row 6 rfl; refine wpList_append_any _ rfl (.tmp 40) (.tmp 42) _ rfl 0 5 i0 (.int .u8 0) 1 1 Try.underlying25 hi0 hz0 hz1 hz2 rfl (by omega) (.slice (some ⟨wr.heap.size, 0, none⟩) 0 0) 0 [] rfl hr6 A n c (xs.map vb) rfl (H6.arg0 hA) (vb_one _) (by simp only [maxLen]; omega) (by omega) (by omega) ?_; intro v7 w7 hown7 hg7 hat7; refine absorb_list ((H6.grow 6 rfl hown7 hg7 hat7).upd_mk (by simp)) ?_; clear hown7 hg7 hat7 H6 hr6; intro w7 H7; replace H7 := H7.shape_row 6 rfl (n' := xs.length) (xs' := xs.map vb) (by rw [Hx.out]; omega) (by simp); obtain ⟨A7, d7, rfl, -⟩ := row_form (H7.row 6 rfl); have x1 := H7.cell 2 rfl (o := 5) rfl; have x2 := H7.free 2 rfl 5)
        go_roundw
        case rel => exact ⟨j + 1, A7, A6, d7, d6, by omega, by go_num, by rw [HT.out, pI_old 0 4 _ _ (by omega), pI_old 2 4 _ _ (by omega), pI_old 3 4 _ _ (by omega), pA_old 4 _ _ (by omega), pL_new 4, pL_old 5 4 _ _ (by omega)]; exact ((H7.store 2 rfl (o := 5) (u := .slice A7 xs.length d7)).upd_mk (by simp)).perm [0, 1, 2, 3, 6, 5] 6 rfl (by decide) (by intro i hi; match i with | 0 => rfl | 1 => rfl | 2 => rfl | 3 => rfl | 4 => rfl | 5 => rfl | i + 6 => omega)⟩
        case measure => first | (simp [intOf]; omega) | simp [intOf]
      · have hc' : wr.cell? ⟨gN, j, none⟩ = some (.string (nm 5)) := hc
        clear hc
        unfold nm at hc'
        have x0 := H.cell 0 rfl (o := 6) rfl
        have lA := H.lt 0 rfl
        go_wp2_with (at_builtin; have H6 := (H.lit 6 rfl 5 #[] 0 rfl (by omega) wr.heap.size rfl).push_mk rfl; have hr6 := H6.row 6 rfl; refine wpList_append_any _ rfl (.tmp 47) (.tmp 49) _ rfl 0 5 i0 (.int .u8 0) 1 1 Try.underlying25 hi0 hz0 hz1 hz2 rfl (by omega) (.slice (some ⟨wr.heap.size, 0, none⟩) 0 0) 0 [] rfl hr6 B m d (ys.map vb) rfl (H6.arg0 hB) (vb_one _) (by simp only [maxLen]; omega) (by omega) (by omega) ?_; intro v7 w7 hown7 hg7 hat7; refine absorb_list ((H6.grow 6 rfl hown7 hg7 hat7).upd_mk (by simp)) ?_; clear hown7 hg7 hat7 H6 hr6; intro w7 H7; replace H7 := H7.shape_row 6 rfl (n' := ys.length) (xs' := ys.map vb) (by rw [Hy.out]; omega) (by simp); obtain ⟨A7, d7, rfl, -⟩ := row_form (H7.row 6 rfl); have x1 := H7.cell 2 rfl (o := 6) rfl; have x2 := H7.free 2 rfl 6)
        go_roundw
        case rel => exact ⟨j + 1, A5, A7, d5, d7, by omega, by go_num, by rw [HT.out, pI_old 0 5 _ _ (by omega), pI_old 2 5 _ _ (by omega), pI_old 3 5 _ _ (by omega), pA_old 5 _ _ (by omega), pL_old 4 5 _ _ (by omega), pL_new 5]; exact ((H7.store 2 rfl (o := 6) (u := .slice A7 ys.length d7)).upd_mk (by simp)).perm [0, 1, 2, 3, 4, 6] 6 rfl (by decide) (by intro i hi; match i with | 0 => rfl | 1 => rfl | 2 => rfl | 3 => rfl | 4 => rfl | 5 => rfl | i + 6 => omega)⟩
        case measure => first | (simp [intOf]; omega) | simp [intOf]
    · have hju : j = us.length := by omega
      subst hju
      rw [List.take_length] at H
      have hb := H.blk 2 rfl
      have ht := H.there 1 rfl
      go_wp2_with (first | (refine wpList_load_row rfl 31 (.tmp 3) rfl gP rfl _ _ _ _ hb Try.underlying31 rfl op_size ?_) | (refine wpList_store_mid rfl 31 (.tmp 2) (.tmp 53) rfl gR 0 (List.toArray [.int .u8 (k.toNat : Int), .int .i64 (pI 0 us h), .int .u8 ((pA us a).toNat : Int), .int .i64 (pI 2 us cn), .int .i64 (pI 3 us ou), .slice A5 (pL 4 us xs).length d5, .slice A6 (pL 5 us ys).length d6]) rfl rfl ht op_size (all_oneCell_toArray (by simp [Value.oneCell'])) ?_))
      have HY := (H.storeAll 1 rfl (vs := [.int .u8 (k.toNat : Int), .int .i64 (pI 0 us h), .int .u8 ((pA us a).toNat : Int), .int .i64 (pI 2 us cn), .int .i64 (pI 3 us ou), .slice A5 (pL 4 us xs).length d5, .slice A6 (pL 5 us ys).length d6]) rfl).upd_mk (by simp)
      refine bodyPost_ret (results_cell_row rfl _ _ gR 31 _ _ _ rfl (HY.blk 1 rfl) Try.underlying31 rfl op_size) rfl ?_
      unfold PlainP
      rw [HU.out]
      exact ⟨_, _, rfl, HY.perm [4, 5] 2 rfl (by decide) (by intro i hi; match i with | 0 => rfl | 1 => rfl | i + 2 => omega)⟩

set_option maxRecDepth 100000 in
set_option maxHeartbeats 4000000 in
theorem refPlain_s (k : UInt8) (h : Int) (a : UInt8) (cn ou : Int) (A B : Option Addr) (n m c d : Nat) (xs ys : List UInt8) (w : World) (hA : Rd w 1 A n (xs.map vb)) (hB : Rd w 1 B m (ys.map vb)) (hn : n ≤ 140737488355320) (hm : m ≤ 140737488355320) :
    Calls Try.prog 48 #[opV k h a cn ou (.slice A n c) (.slice B m d)] w (PlainP k h a cn ou xs ys w) := by
  obtain ⟨i0, hi0, hz0, hz1, hz2⟩ := info_parts u8_info
  have Hx := Lib.hid (show xs.length = n by simpa using hA.1)
  have Hy := Lib.hid (show ys.length = m by simpa using hB.1)
  have H0 := St.start_lay w []
  go_enter Try.func48, Try.ntmps48
  go_wp2_with fail
  refine absorb_calls (H0.allocAt 0 rfl w.heap.size rfl _ _ |>.push_mk rfl |>.allocAt 1 rfl (w.heap.size + 1) (by simp) _ _ |>.push_mk rfl |>.allocAt 2 rfl (w.heap.size + 1 + 1) (by simp) _ _ |>.push_mk rfl) ?_
  intro w1 H
  generalize w.heap.size + 1 + 1 = gP at H ⊢
  generalize w.heap.size + 1 = gR at H ⊢
  generalize hga : w.heap.size = gA at H ⊢
  clear hga H0
  refine (refUses_s k w1).mono ?_
  rintro e w2 ⟨vn, rfl, hon, hbn⟩
  replace H := (H.pushRow 3 rfl hbn hon).push_mk rfl
  clear hon hbn
  have hle := uses_le k
  have hll := uses_len k
  obtain ⟨us, hus⟩ : ∃ us, usesOf k = us := ⟨_, rfl⟩
  rw [hus] at hle hll H
  have HU := Lib.hid hus
  have HLE := Lib.hid hle
  clear hus hle
  replace H := ((H.nilRow 4 rfl 5 1).push_mk rfl).nilRow 5 rfl 5 1 |>.push_mk rfl
  obtain ⟨An, cN, rfl, -⟩ := row_form (H.row 3 rfl)
  go_wp2_with fail
  go_loopw [5] (fun i wr => ∃ (j : Nat) (A5 A6 : Option Addr) (d5 d6 : Nat), j ≤ us.length ∧ i = .int .i64 j ∧ St w [] wr (lay [.blk gA 31 [.int .u8 (k.toNat : Int), .int .i64 h, .int .u8 (a.toNat : Int), .int .i64 cn, .int .i64 ou, .slice A n c, .slice B m d], .blk gR 31 [.int .u8 0, .int .i64 0, .int .u8 0, .int .i64 0, .int .i64 0, .slice none 0 0, .slice none 0 0], .blk gP 31 [.int .u8 (k.toNat : Int), .int .i64 (pI 0 (us.take j) h), .int .u8 ((pA (us.take j) a).toNat : Int), .int .i64 (pI 2 (us.take j) cn), .int .i64 (pI 3 (us.take j) ou), (.slice A5 (pL 4 (us.take j) xs).length d5), (.slice A6 (pL 5 (us.take j) ys).length d6)], .row 9 1 (.slice An us.length cN) us.length (us.map nmV), .row 5 1 (.slice A5 (pL 4 (us.take j) xs).length d5) (pL 4 (us.take j) xs).length ((pL 4 (us.take j) xs).map vb), .row 5 1 (.slice A6 (pL 5 (us.take j) ys).length d6) (pL 5 (us.take j) ys).length ((pL 5 (us.take j) ys).map vb)])) (fun i _ => us.length - (intOf i).toNat)
  case atStart => exact ⟨0, none, none, 0, 0, Nat.zero_le _, rfl, by rw [List.take_zero]; simp only [pI_nil, pA_nil, pL_nil]; exact H⟩
  case round =>
    clear H
    obtain ⟨j, A5, A6, d5, d6, hj, rfl, H⟩ := hrel
    by_cases hlt : j < us.length
    · obtain ⟨u, hu⟩ : ∃ u, us[j]? = some u := ⟨_, List.getElem?_eq_getElem hlt⟩
      have hu5 := HLE.out u (List.mem_of_getElem? hu)
      have hT : us.take (j + 1) = us.take j ++ [u] := by rw [List.take_add_one, hu]; rfl
      obtain ⟨gN, rfl⟩ := row_addr (H.row 3 rfl) (by omega)
      have hc := World.ownsRow.cellAt (H.row 3 rfl) j (by omega)
      rw [List.getElem?_map, hu] at hc
      have HT := Lib.hid hT
      clear hT hu
      have hj1 : (j : Int) < us.length := by omega
      have hj2 : j < us.length := hlt
      generalize us.take j = T at *
      have hcases : u = 0 ∨ u = 1 ∨ u = 2 ∨ u = 3 ∨ u = 4 ∨ u = 5 := by omega
      clear hu5 hlt
      rcases hcases with rfl | rfl | rfl | rfl | rfl | rfl
      · have hc' : wr.cell? ⟨gN, j, none⟩ = some (.string (nm 0)) := hc
        clear hc
        unfold nm at hc'
        have x0 := H.cell 0 rfl (o := 1) rfl
        have x1 := H.cell 2 rfl (o := 1) rfl
        have x2 := H.free 2 rfl 1
        go_wp2
        go_roundw
        case rel => exact ⟨j + 1, A5, A6, d5, d6, by omega, by go_num, by rw [HT.out, pI_new 0, pI_old 2 0 _ _ (by omega), pI_old 3 0 _ _ (by omega), pA_old 0 _ _ (by omega), pL_old 4 0 _ _ (by omega), pL_old 5 0 _ _ (by omega)]; exact (H.store 2 rfl (o := 1) (u := .int .i64 h)).upd_mk (by simp)⟩
        case measure => first | (simp [intOf]; omega) | simp [intOf]
      · have hc' : wr.cell? ⟨gN, j, none⟩ = some (.string (nm 1)) := hc
        clear hc
        unfold nm at hc'
        have x0 := H.cell 0 rfl (o := 2) rfl
        have x1 := H.cell 2 rfl (o := 2) rfl
        have x2 := H.free 2 rfl 2
        go_wp2
        go_roundw
        case rel => exact ⟨j + 1, A5, A6, d5, d6, by omega, by go_num, by rw [HT.out, pI_old 0 1 _ _ (by omega), pI_old 2 1 _ _ (by omega), pI_old 3 1 _ _ (by omega), pA_new, pL_old 4 1 _ _ (by omega), pL_old 5 1 _ _ (by omega)]; exact (H.store 2 rfl (o := 2) (u := .int .u8 (a.toNat : Int))).upd_mk (by simp)⟩
        case measure => first | (simp [intOf]; omega) | simp [intOf]
      · have hc' : wr.cell? ⟨gN, j, none⟩ = some (.string (nm 2)) := hc
        clear hc
        unfold nm at hc'
        have x0 := H.cell 0 rfl (o := 3) rfl
        have x1 := H.cell 2 rfl (o := 3) rfl
        have x2 := H.free 2 rfl 3
        go_wp2
        go_roundw
        case rel => exact ⟨j + 1, A5, A6, d5, d6, by omega, by go_num, by rw [HT.out, pI_old 0 2 _ _ (by omega), pI_new 2, pI_old 3 2 _ _ (by omega), pA_old 2 _ _ (by omega), pL_old 4 2 _ _ (by omega), pL_old 5 2 _ _ (by omega)]; exact (H.store 2 rfl (o := 3) (u := .int .i64 cn)).upd_mk (by simp)⟩
        case measure => first | (simp [intOf]; omega) | simp [intOf]
      · have hc' : wr.cell? ⟨gN, j, none⟩ = some (.string (nm 3)) := hc
        clear hc
        unfold nm at hc'
        have x0 := H.cell 0 rfl (o := 4) rfl
        have x1 := H.cell 2 rfl (o := 4) rfl
        have x2 := H.free 2 rfl 4
        go_wp2
        go_roundw
        case rel => exact ⟨j + 1, A5, A6, d5, d6, by omega, by go_num, by rw [HT.out, pI_old 0 3 _ _ (by omega), pI_old 2 3 _ _ (by omega), pI_new 3, pA_old 3 _ _ (by omega), pL_old 4 3 _ _ (by omega), pL_old 5 3 _ _ (by omega)]; exact (H.store 2 rfl (o := 4) (u := .int .i64 ou)).upd_mk (by simp)⟩
        case measure => first | (simp [intOf]; omega) | simp [intOf]
      · have hc' : wr.cell? ⟨gN, j, none⟩ = some (.string (nm 4)) := hc
        clear hc
        unfold nm at hc'
        have x0 := H.cell 0 rfl (o := 5) rfl
        go_wp2_with fail
        refine (refCopied_any A n c xs wr (H.arg0 hA) (by omega)).mono ?_
        rintro e w7 ⟨v7, rfl, ho7, hb7⟩
        have H7 := (H.pushOwnB 6 rfl ho7 hb7).push_mk rfl
        clear ho7 hb7
        obtain ⟨A7, d7, rfl, -⟩ := row_form (H7.row 6 rfl)
        have x1 := H7.cell 2 rfl (o := 5) rfl
        have x2 := H7.free 2 rfl 5
        go_wp2
        go_roundw
        case rel => exact ⟨j + 1, A7, A6, d7, d6, by omega, by go_num, by rw [HT.out, pI_old 0 4 _ _ (by omega), pI_old 2 4 _ _ (by omega), pI_old 3 4 _ _ (by omega), pA_old 4 _ _ (by omega), pL_new 4, pL_old 5 4 _ _ (by omega)]; exact ((H7.store 2 rfl (o := 5) (u := .slice A7 xs.length d7)).upd_mk (by simp)).perm [0, 1, 2, 3, 6, 5] 6 rfl (by decide) (by intro i hi; match i with | 0 => rfl | 1 => rfl | 2 => rfl | 3 => rfl | 4 => rfl | 5 => rfl | i + 6 => omega)⟩
        case measure => first | (simp [intOf]; omega) | simp [intOf]
      · have hc' : wr.cell? ⟨gN, j, none⟩ = some (.string (nm 5)) := hc
        clear hc
        unfold nm at hc'
        have x0 := H.cell 0 rfl (o := 6) rfl
        go_wp2_with fail
        refine (refCopied_any B m d ys wr (H.arg0 hB) (by omega)).mono ?_
        rintro e w7 ⟨v7, rfl, ho7, hb7⟩
        have H7 := (H.pushOwnB 6 rfl ho7 hb7).push_mk rfl
        clear ho7 hb7
        obtain ⟨A7, d7, rfl, -⟩ := row_form (H7.row 6 rfl)
        have x1 := H7.cell 2 rfl (o := 6) rfl
        have x2 := H7.free 2 rfl 6
        go_wp2
        go_roundw
        case rel => exact ⟨j + 1, A5, A7, d5, d7, by omega, by go_num, by rw [HT.out, pI_old 0 5 _ _ (by omega), pI_old 2 5 _ _ (by omega), pI_old 3 5 _ _ (by omega), pA_old 5 _ _ (by omega), pL_old 4 5 _ _ (by omega), pL_new 5]; exact ((H7.store 2 rfl (o := 6) (u := .slice A7 ys.length d7)).upd_mk (by simp)).perm [0, 1, 2, 3, 4, 6] 6 rfl (by decide) (by intro i hi; match i with | 0 => rfl | 1 => rfl | 2 => rfl | 3 => rfl | 4 => rfl | 5 => rfl | i + 6 => omega)⟩
        case measure => first | (simp [intOf]; omega) | simp [intOf]
    · have hju : j = us.length := by omega
      subst hju
      rw [List.take_length] at H
      have hb := H.blk 2 rfl
      have ht := H.there 1 rfl
      go_wp2_with (first | (refine wpList_load_row rfl 31 (.tmp 3) rfl gP rfl _ _ _ _ hb Try.underlying31 rfl op_size ?_) | (refine wpList_store_mid rfl 31 (.tmp 2) (.tmp 54) rfl gR 0 (List.toArray [.int .u8 (k.toNat : Int), .int .i64 (pI 0 us h), .int .u8 ((pA us a).toNat : Int), .int .i64 (pI 2 us cn), .int .i64 (pI 3 us ou), .slice A5 (pL 4 us xs).length d5, .slice A6 (pL 5 us ys).length d6]) rfl rfl ht op_size (all_oneCell_toArray (by simp [Value.oneCell'])) ?_))
      have HY := (H.storeAll 1 rfl (vs := [.int .u8 (k.toNat : Int), .int .i64 (pI 0 us h), .int .u8 ((pA us a).toNat : Int), .int .i64 (pI 2 us cn), .int .i64 (pI 3 us ou), .slice A5 (pL 4 us xs).length d5, .slice A6 (pL 5 us ys).length d6]) rfl).upd_mk (by simp)
      refine bodyPost_ret (results_cell_row rfl _ _ gR 31 _ _ _ rfl (HY.blk 1 rfl) Try.underlying31 rfl op_size) rfl ?_
      unfold PlainP
      rw [HU.out]
      exact ⟨_, _, rfl, HY.perm [4, 5] 2 rfl (by decide) (by intro i hi; match i with | 0 => rfl | 1 => rfl | i + 2 => omega)⟩
end Go.Proofs.Ytgfhnbjpdhdhgaa
