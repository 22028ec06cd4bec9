/- Texts of this claim, merged: Texts, Two, ApartT, LawONames. -/
import Derived.Deep.Cut
import Derived.Deep.OwnRows
import Derived.Lib.AppendZerosOnto
import Derived.Test.YtgfhnbjpdhdhgaaMgC
set_option linter.unusedVariables false

namespace Go.Proofs.Ytgfhnbjpdhdhgaa
open Go.RowKit
set_option linter.unusedVariables false
set_option maxRecDepth 100000

theorem sameTexts_yes (A B : Option Addr) (n c d : Nat) (l : List Nat) (w : World) (hA : Rd w 1 A n (l.map nmV)) (hB : Rd w 1 B n (l.map nmV)) (hn : n ≤ 1000) :
    Calls Try.prog 50 #[.slice A n c, .slice B n d] w fun e w' => e = .returned (.bool true) ∧ Below w.heap.size w w' := by
  have hl : l.length = n := by simpa using hA.1
  have HL := Lib.hid hl
  clear hl
  have H := St.start_lay w []
  go_enter Try.func50, Try.ntmps50
  go_wp2
  go_loopw [5] (fun i wr => ∃ j : Nat, j ≤ n ∧ i = .int .i64 (j : Int) ∧ St w [] wr (lay [])) (fun i _ => n - (intOf i).toNat)
  case atStart => exact ⟨0, Nat.zero_le _, rfl, H⟩
  case round =>
    clear H
    obtain ⟨j, hj, rfl, H⟩ := hrel
    by_cases hlt : j < n
    · obtain ⟨x, hx⟩ : ∃ x, l[j]? = some x := ⟨_, List.getElem?_eq_getElem (by rw [HL.out]; exact hlt)⟩
      obtain ⟨g, o, rfl, -, hc⟩ := (H.arg0 hA).flat (by omega) (by omega)
      obtain ⟨g', o', rfl, -, hc'⟩ := (H.arg0 hB).flat (by omega) (by omega)
      have c1 := hc j (nmV x) (by rw [List.getElem?_map, hx]; rfl)
      have c2 := hc' j (nmV x) (by rw [List.getElem?_map, hx]; rfl)
      have hji : (j : Int) < n := by omega
      have e1 : ((nm x).toList == (nm x).toList) = true := by simp
      have H1 := H.drew
      clear hc hc' hx
      unfold nmV at c1 c2
      generalize nm x = s at c1 c2 e1
      go_wp2
      replace c1 : wr.drew.cell? ⟨g, o + j, none⟩ = some (.string s) := c1
      replace c2 : wr.drew.cell? ⟨g', o' + j, none⟩ = some (.string s) := c2
      refine wp_region_held_drew (S := fun w' : World => w'.cell? ⟨g, o + j, none⟩ = some (.string s) ∧ w'.cell? ⟨g', o' + j, none⟩ = some (.string s)) (by kernel_rfl) ?_ (fun hHeld => ?_)
      · exact ⟨c1, c2⟩
      refine takeV 0 rfl (by intro w h; clear h; go_simp; try with_reducible rfl) (by kernel_rfl) (by kernel_rfl) (by kernel_rfl) (by exact fun _ _ _ h => h) (by rfl) (by assumption) ?_
      try simp only [Act.put, List.setIfInBounds_toArray, List.set_cons_zero, List.set_cons_succ]
      refine takeV 1 rfl (by intro w h; clear h; go_simp; try with_reducible rfl) (by kernel_rfl) (by kernel_rfl) (by kernel_rfl) (by exact fun _ _ _ h => h) (by rfl) (by assumption) ?_
      try simp only [Act.put, List.setIfInBounds_toArray, List.set_cons_zero, List.set_cons_succ]
      refine takeV 2 rfl (by intro w h; clear h; go_simp; try with_reducible rfl) (by kernel_rfl) (by kernel_rfl) (by kernel_rfl) (by exact fun _ _ _ h => h) (by rfl) (by assumption) ?_
      try simp only [Act.put, List.setIfInBounds_toArray, List.set_cons_zero, List.set_cons_succ]
      refine takeV 3 rfl (by intro w h; have hc := h.1; clear h; go_simp; try with_reducible rfl) (by kernel_rfl) (by kernel_rfl) (by kernel_rfl) (by exact fun _ _ _ h => h) (by rfl) (by assumption) ?_
      try simp only [Act.put, List.setIfInBounds_toArray, List.set_cons_zero, List.set_cons_succ]
      refine takeV 4 rfl (by intro w h; clear h; go_simp; try with_reducible rfl) (by kernel_rfl) (by kernel_rfl) (by kernel_rfl) (by exact fun _ _ _ h => h) (by rfl) (by assumption) ?_
      try simp only [Act.put, List.setIfInBounds_toArray, List.set_cons_zero, List.set_cons_succ]
      refine takeV 5 rfl (by intro w h; clear h; go_simp; try with_reducible rfl) (by kernel_rfl) (by kernel_rfl) (by kernel_rfl) (by exact fun _ _ _ h => h) (by rfl) (by assumption) ?_
      try simp only [Act.put, List.setIfInBounds_toArray, List.set_cons_zero, List.set_cons_succ]
      refine takeV 6 rfl (by intro w h; clear h; go_simp; try with_reducible rfl) (by kernel_rfl) (by kernel_rfl) (by kernel_rfl) (by exact fun _ _ _ h => h) (by rfl) (by assumption) ?_
      try simp only [Act.put, List.setIfInBounds_toArray, List.set_cons_zero, List.set_cons_succ]
      refine takeV 7 rfl (by intro w h; have hc := h.2; clear h; go_simp; try with_reducible rfl) (by kernel_rfl) (by kernel_rfl) (by kernel_rfl) (by exact fun _ _ _ h => h) (by rfl) (by assumption) ?_
      try simp only [Act.put, List.setIfInBounds_toArray, List.set_cons_zero, List.set_cons_succ]
      refine takeV 8 rfl (by intro w h; clear h; go_simp; try with_reducible rfl) (by kernel_rfl) (by kernel_rfl) (by kernel_rfl) (by exact fun _ _ _ h => h) (by rfl) (by assumption) ?_
      try simp only [Act.put, List.setIfInBounds_toArray, List.set_cons_zero, List.set_cons_succ]
      refine wpAnyH_done (by kernel_rfl) ?_ _
      clear c1 c2 hHeld
      go_wp2
      go_roundw
      case rel => first | exact ⟨j + 1, by omega, by go_num, H1⟩ | exact ⟨j + 1, by omega, by go_num, H⟩
      case measure => simp [intOf]; omega
    · obtain rfl : j = n := by omega
      have hji : ¬ (j : Int) < j := by omega
      go_wp2
      go_ret
      exact ⟨rfl, H.below⟩

def onW : List UInt8 := [1, 0, 255, 255, 255, 255, 255, 255, 255, 255] ++ List.replicate 16 0 ++ [0, 0, 2, 0, 0, 0, 7, 8]
theorem on_enc : encB 1 (-1) 0 0 0 [7, 8] [] = onW := by kernel_rfl
theorem on_len : onW.length = 34 := by kernel_rfl
theorem on_dec : decR onW = ⟨1, -1, 0, 0, 0, [7, 8], [], 34, 0⟩ := by kernel_rfl
theorem on_cut : decR (onW.take 33) = noNext := by kernel_rfl
theorem on_more : decR (onW ++ [9]) = noNext := by kernel_rfl
theorem on_next : nextR (onW ++ [9]) = ⟨1, -1, 0, 0, 0, [7, 8], [], 34, 0⟩ := by kernel_rfl
theorem on_31 : decR (List.replicate 31 0) = noNext := by kernel_rfl
theorem on_32 : decR (List.replicate 32 0) = ⟨0, 0, 0, 0, 0, [], [], 32, 0⟩ := by kernel_rfl
theorem on_lit : [Value.int .u8 1, .int .u8 0, .int .u8 255, .int .u8 255, .int .u8 255, .int .u8 255, .int .u8 255, .int .u8 255, .int .u8 255, .int .u8 255] ++ List.replicate 16 (.int .u8 0) ++ [.int .u8 0, .int .u8 0, .int .u8 2, .int .u8 0, .int .u8 0, .int .u8 0, .int .u8 7, .int .u8 8] = onW.map vb := by rfl
abbrev opPut (D : Value) : Value := .agg #[.int .u8 1, .int .i64 (-1), .int .u8 0, .int .i64 0, .int .i64 0, D, .slice none 0 0]
theorem encode_put (A : Option Addr) (c : Nat) (w : World) (h : Rd w 1 A 2 (([7, 8] : List UInt8).map vb)) : Calls Try.prog 29 #[.agg #[.int .u8 1, .int .i64 (-1), .int .u8 0, .int .i64 0, .int .i64 0, .slice A 2 c, .slice none 0 0]] w fun e w' => ∃ v, e = .returned (.tuple #[v, .int .i64 0]) ∧ OwnB w' w.heap.size v onW ∧ Below w.heap.size w w' :=
  encode_s 1 (-1) 0 0 0 A 2 c none 0 0 [7, 8] [] w h Rd.none_ (by omega) (by omega)
theorem samePut (A A' B B' : Option Addr) (c c' d d' : Nat) (w : World) (h : Rd w 1 A 2 (([7, 8] : List UInt8).map vb)) (h' : Rd w 1 A' 2 (([7, 8] : List UInt8).map vb)) (hB : Rd w 1 B 0 (([] : List UInt8).map vb)) (hB' : Rd w 1 B' 0 (([] : List UInt8).map vb)) : Calls Try.prog 25 #[.agg #[.int .u8 1, .int .i64 (-1), .int .u8 0, .int .i64 0, .int .i64 0, .slice A 2 c, .slice B 0 d], .agg #[.int .u8 1, .int .i64 (-1), .int .u8 0, .int .i64 0, .int .i64 0, .slice A' 2 c', .slice B' 0 d']] w fun e w' => e = .returned (.bool true) ∧ Below w.heap.size w w' :=
  sameOp_yes 1 (-1) 0 0 0 A B A' B' 2 0 c d 2 0 c' d' [7, 8] [] w h hB h' hB' (by omega) (by omega)
theorem samePlain (A A' B B' : Option Addr) (c c' d d' : Nat) (w : World) (h : Rd w 1 A 2 (([7, 8] : List UInt8).map vb)) (h' : Rd w 1 A' 2 (([7, 8] : List UInt8).map vb)) (hB : Rd w 1 B 0 (([] : List UInt8).map vb)) (hB' : Rd w 1 B' 0 (([] : List UInt8).map vb)) : Calls Try.prog 25 #[.agg #[.int .u8 1, .int .i64 0, .int .u8 0, .int .i64 0, .int .i64 0, .slice A 2 c, .slice B 0 d], .agg #[.int .u8 1, .int .i64 0, .int .u8 0, .int .i64 0, .int .i64 0, .slice A' 2 c', .slice B' 0 d']] w fun e w' => e = .returned (.bool true) ∧ Below w.heap.size w w' :=
  sameOp_yes 1 0 0 0 0 A B A' B' 2 0 c d 2 0 c' d' [7, 8] [] w h hB h' hB' (by omega) (by omega)
theorem sameNone (A A' B B' : Option Addr) (c c' d d' : Nat) (w : World) (h : Rd w 1 A 0 (([] : List UInt8).map vb)) (h' : Rd w 1 A' 0 (([] : List UInt8).map vb)) (hB : Rd w 1 B 0 (([] : List UInt8).map vb)) (hB' : Rd w 1 B' 0 (([] : List UInt8).map vb)) : Calls Try.prog 25 #[.agg #[.int .u8 0, .int .i64 0, .int .u8 0, .int .i64 0, .int .i64 0, .slice A 0 c, .slice B 0 d], .agg #[.int .u8 0, .int .i64 0, .int .u8 0, .int .i64 0, .int .i64 0, .slice A' 0 c', .slice B' 0 d']] w fun e w' => e = .returned (.bool true) ∧ Below w.heap.size w w' :=
  sameOp_yes 0 0 0 0 0 A B A' B' 0 0 c d 0 0 c' d' [] [] w h hB h' hB' (by omega) (by omega)
theorem plain_put (A : Option Addr) (c : Nat) (w : World) (h : Rd w 1 A 2 (([7, 8] : List UInt8).map vb)) : Calls Try.prog 47 #[.agg #[.int .u8 1, .int .i64 (-1), .int .u8 0, .int .i64 0, .int .i64 0, .slice A 2 c, .slice none 0 0]] w fun e w' => ∃ v5 v6, e = .returned (.agg #[.int .u8 1, .int .i64 0, .int .u8 0, .int .i64 0, .int .i64 0, v5, v6]) ∧ St w [] w' (lay [.row 5 1 v5 2 (([7, 8] : List UInt8).map vb), .row 5 1 v6 0 (([] : List UInt8).map vb)]) :=
  opPlain_s 1 (-1) 0 0 0 A none 2 0 c 0 [7, 8] [] w h Rd.none_ (by omega) (by omega)
/-- the result of a Decode or Next, with its numbers as they stand -/
theorem decode_is (A : Option Addr) (n c : Nat) (l : List UInt8) (w : World) (hR : Rd w 1 A n (l.map vb)) (hc : n ≤ c) (hn : n ≤ 1000) {k : UInt8} {h : Int} {a : UInt8} {cc oo : Int} {d m : List UInt8} {N : Nat} {e0 : Int} (hd : decR l = ⟨k, h, a, cc, oo, d, m, N, e0⟩) :
    Calls Try.prog 21 #[.slice A n c] w fun e w' => ∃ A5 c5 A6 c6, e = .returned (.tuple #[.agg #[.int .u8 (k.toNat : Int), .int .i64 h, .int .u8 (a.toNat : Int), .int .i64 cc, .int .i64 oo, .slice A5 d.length c5, .slice A6 m.length c6], .int .i64 e0]) ∧ St w [] w' (lay [.row 5 1 (.slice A5 d.length c5) d.length (d.map vb), .row 5 1 (.slice A6 m.length c6) m.length (m.map vb)]) := by
  refine (decode_s A n c l w hR hc (by omega)).mono ?_
  rintro e w' ⟨v5, v6, rfl, H⟩
  rw [hd] at H ⊢
  simp only at H ⊢
  obtain ⟨A5, c5, rfl, -⟩ := row_form (H.row 0 rfl)
  obtain ⟨A6, c6, rfl, -⟩ := row_form (H.row 1 rfl)
  exact ⟨A5, c5, A6, c6, rfl, H⟩
theorem next_is (A : Option Addr) (n c : Nat) (l : List UInt8) (w : World) (hR : Rd w 1 A n (l.map vb)) (hc : n ≤ c) (hn : n ≤ 1000) {k : UInt8} {h : Int} {a : UInt8} {cc oo : Int} {d m : List UInt8} {N : Nat} {e0 : Int} (hd : nextR l = ⟨k, h, a, cc, oo, d, m, N, e0⟩) :
    Calls Try.prog 22 #[.slice A n c] w fun e w' => ∃ A5 c5 A6 c6, e = .returned (.tuple #[.agg #[.int .u8 (k.toNat : Int), .int .i64 h, .int .u8 (a.toNat : Int), .int .i64 cc, .int .i64 oo, .slice A5 d.length c5, .slice A6 m.length c6], .int .i64 (N : Int), .int .i64 e0]) ∧ St w [] w' (lay [.row 5 1 (.slice A5 d.length c5) d.length (d.map vb), .row 5 1 (.slice A6 m.length c6) m.length (m.map vb)]) := by
  refine (next_s A n c l w hR hc (by omega)).mono ?_
  rintro e w' ⟨v5, v6, rfl, H⟩
  rw [hd] at H ⊢
  simp only at H ⊢
  obtain ⟨A5, c5, rfl, -⟩ := row_form (H.row 0 rfl)
  obtain ⟨A6, c6, rfl, -⟩ := row_form (H.row 1 rfl)
  exact ⟨A5, c5, A6, c6, rfl, H⟩
end Go.Proofs.Ytgfhnbjpdhdhgaa

namespace Go.Proofs.Ytgfhnbjpdhdhgaa
open Go.RowKit
set_option linter.unusedVariables false

/-- u is v, gone on with: on the block of v, or on one of its own -/
def isTwo (v : Value) (n : Nat) (u : Value) (m : Nat) : Prop := (v.ownBlock = none ∨ v.ownBlock ≠ u.ownBlock) ∨ ∃ g c, v = .slice (some ⟨g, 0, none⟩) n c ∧ u = .slice (some ⟨g, 0, none⟩) m c
def Own.two (e : TypeId) (size : Nat) (v : Value) (n : Nat) (xs : List Value) (u : Value) (m : Nat) (ys : List Value) : Own where
  holds w F := w.ownsRow 0 e size v n xs ∧ w.ownsRow 0 e size u m ys ∧ isTwo v n u m ∧ F = v.ownBlock.toList ++ u.ownBlock.toList
  loc := fun ⟨h1, h2, h3, e⟩ k => ⟨ownsRow_loc h1 (fun g hg => k g (by rw [e]; simp only [List.mem_append]; exact .inl hg)), ownsRow_loc h2 (fun g hg => k g (by rw [e]; simp only [List.mem_append]; exact .inr hg)), h3, e⟩
  old := fun ⟨h1, h2, _, e⟩ g hg => by
    rw [e, List.mem_append] at hg
    rcases hg with hg | hg
    · cases hv : Value.ownBlock _ with
      | none => rw [hv] at hg; simp at hg
      | some b => rw [hv] at hg; simp at hg; subst hg; exact (World.ownsRow.lt h1 _ hv).2
    · cases hv : Value.ownBlock _ with
      | none => rw [hv] at hg; simp at hg
      | some b => rw [hv] at hg; simp at hg; subst hg; exact (World.ownsRow.lt h2 _ hv).2

section
variable {w0 w w' : World} {F0 : List Nat} {E : Env} {e : TypeId} {size n m : Nat} {v u : Value} {xs ys : List Value}
theorem St.dup (H : St w0 F0 w E) (k : Nat) (hk : E k = some (.row e size v n xs)) : St w0 F0 w (upd E k (.two e size v n xs v n xs)) := by
  obtain ⟨F, ⟨h, e1⟩, h2, -, hc⟩ := H.change k hk
  refine hc w _ (F ++ F) ⟨h, h, ?_, by rw [e1]⟩ (Low.refl _ _) (by intro g hg; rw [List.mem_append] at hg; exact .inl (hg.elim id id))
  rcases h.2 with ⟨rfl, h0⟩ | ⟨g, cap, cur, rfl, _⟩
  · exact .inl (.inl rfl)
  · exact .inr ⟨g, cap, rfl, rfl⟩
theorem St.two1 (H : St w0 F0 w E) (k : Nat) (hk : E k = some (.two e size v n xs u m ys)) : w.ownsRow 0 e size v n xs := by
  obtain ⟨F, ⟨h, -⟩, -⟩ := H.change k hk
  exact h
theorem St.two2 (H : St w0 F0 w E) (k : Nat) (hk : E k = some (.two e size v n xs u m ys)) : w.ownsRow 0 e size u m ys := by
  obtain ⟨F, ⟨-, h, -⟩, -⟩ := H.change k hk
  exact h
/-- what an append leaves: the same row gone on with, or a new one -/
def Went (w w' : World) (u : Value) (m q : Nat) (u' : Value) : Prop := (∃ g cap, u = .slice (some ⟨g, 0, none⟩) m cap ∧ u' = .slice (some ⟨g, 0, none⟩) (m + q) cap ∧ w.grownBy w' (some g)) ∨ (u'.ownBlock = some w.heap.size ∧ Below w.heap.size w w')

theorem St.went {zs : List Value} {u' : Value} {q : Nat} (H : St w0 F0 w E) (k : Nat) (hk : E k = some (.two e size v n xs u m ys)) (hu : w'.ownsRow 0 e size u' (m + q) (ys ++ zs)) (hw : Went w w' u m q u') (hpre : xs = ys.take xs.length) : St w0 F0 w' (upd E k (.two e size v n xs u' (m + q) (ys ++ zs))) := by
  obtain ⟨F, ⟨h1, h2, h3, e1⟩, -, -, hc⟩ := H.change k hk
  rcases hw with ⟨g, cap, rfl, rfl, hg⟩ | ⟨hb, hbel⟩
  · have hlow : Low w F w' := (Low.of_grown hg).more (by intro a ha; rw [e1]; simp at ha; subst ha; simp [Value.ownBlock])
    refine hc w' _ (v.ownBlock.toList ++ [g]) ⟨?_, hu, ?_, rfl⟩ hlow (by intro a ha; rw [e1]; simp [Value.ownBlock] at ha ⊢; exact .inl ha)
    · rcases h3 with h3 | ⟨g', c', rfl, h4⟩
      · exact World.ownsRow.kept h1 hg h3
      · injection h4 with e2 _ e4
        injection e2 with e2
        injection e2 with e2
        subst e2 e4
        rcases h1.2 with ⟨h, _⟩ | ⟨g1, c1, cur1, h, hb1, hg1, hn1, hc1, hs1, ht1⟩
        · cases h
        injection h with e2 _ e4
        injection e2 with e2
        injection e2 with e2
        subst e2 e4
        rcases hu.2 with ⟨h, _⟩ | ⟨g2, c2, cur2, h, hb2, hg2, hn2, hc2, hs2, ht2⟩
        · cases h
        injection h with e2 _ e4
        injection e2 with e2
        injection e2 with e2
        subst e2 e4
        refine ⟨h1.1, .inr ⟨g, cap, cur2, rfl, hb1, hg2, hn1, hc1, hs2, ?_⟩⟩
        have hx := h1.1
        have hy := h2.1
        have hle : xs.length ≤ ys.length := by
          have h5 := congrArg List.length hpre
          rw [List.length_take] at h5
          omega
        have h5 : (cur2.toList.take ((m + q) * size)).take (n * size) = (ys ++ zs).take (n * size) := by rw [ht2]
        rw [List.take_take, Nat.min_eq_left (by have := hu.1; rw [List.length_append] at this; omega)] at h5
        rw [h5, ← hx, List.take_append_of_le_length hle, ← hpre]
    · rcases h3 with h3 | ⟨g', c', rfl, h4⟩
      · exact .inl h3
      · injection h4 with e2 _ e4
        injection e2 with e2
        injection e2 with e2
        subst e2 e4
        exact .inr ⟨_, _, rfl, rfl⟩
  · have hne : v.ownBlock = none ∨ v.ownBlock ≠ u'.ownBlock := by
      cases hv : v.ownBlock with
      | none => exact .inl rfl
      | some b =>
        refine .inr fun h => ?_
        rw [hb] at h
        injection h with h
        have := (World.ownsRow.lt h1 _ hv).2
        omega
    refine hc w' _ (v.ownBlock.toList ++ [w.heap.size]) ⟨ownsRow_loc h1 (fun a ha => hbel.block a ?_), hu, .inl hne, by rw [hb]; rfl⟩ (Low.of_below hbel F) (by intro a ha; rw [e1]; simp at ha ⊢; rcases ha with h | h; exact .inl (.inl h); exact .inr (by omega))
    cases hv : v.ownBlock with
    | none => rw [hv] at ha; simp at ha
    | some b => rw [hv] at ha; simp at ha; subst ha; exact (World.ownsRow.lt h1 _ hv).2
end

/-- What an append onto an owned row leaves. -/
theorem append_went {P : Program} (w : World) (base : Nat) (t ty e : TypeId) (i : TypeInfo) (z : Value) (size bytes : Nat) (ht : P.underlying t = some (.slice e)) (hi : P.info? e = some i) (hz : i.zero = some z)
    (hsize : i.size = size) (hby : i.bytes = bytes) (hzs : z.cells.size = size) (hsz : 0 < size)
    (v : Value) (n : Nat) (xs : List Value) (hown : w.ownsRow base e size v n xs)
    (a : Addr) (m c : Nat) (news : List Value) (hm : 0 < m) (hl : news.length = m * size) (hnews : ∀ j u, news[j]? = some u → w.cell? (a.add j) = some u) (h1 : ∀ u ∈ news, u.oneCell' = true)
    (h63 : n + m ≤ maxLen) (hbytes : (n + m) * bytes ≤ 140737488355328) (hbase : base ≤ w.heap.size) :
    ∃ v' w', (Builtin.append_ #[t, t] ty #[v, .slice (some a) m c]).run P w = .ok v' w' ∧ w'.ownsRow base e size v' (n + m) (xs ++ news) ∧ Went w w' v n m v' := by
  subst hby
  have hsmall : n + m ≤ 9223372036854775807 := by simp only [maxLen] at h63; omega
  have hlen : (xs ++ news).length = (n + m) * size := by rw [List.length_append, hown.1, hl, Nat.add_mul]
  have grown : ∀ (old : Nat), old < n + m →
      (w.drew.alloc (.cells (xs.toArray ++ news.toArray ++ Builtin.zeroCells z.cells (grownCap w (n + m) old e - (n + m))) e)).ownsRow base e size
        (.slice (some ⟨w.heap.size, 0, none⟩) (n + m) (grownCap w (n + m) old e)) (n + m) (xs ++ news) := by
    intro old ho
    have hge := grownCap_ge w (n + m) old e
    have hcm : grownCap w (n + m) old e ≤ maxLen := grownCap_le_maxLen w (n + m) old e h63
    refine ⟨hlen, .inr ⟨w.heap.size, _, _, rfl, hbase, heap_alloc_new w.drew _, hge, hcm, ?_, ?_⟩⟩
    · simp only [Array.size_append, List.size_toArray, size_zeroCells, hzs, hown.1, hl, ← Nat.add_mul]
      congr 1
      omega
    · simp only [Array.toList_append, List.append_assoc]
      rw [← List.append_assoc, ← hlen]
      exact List.take_left
  have hbel : ∀ o, Below w.heap.size w (w.drew.alloc o) := fun o => (Below.refl _ _).drew.alloc (Nat.le_refl _) _
  rcases hown.2 with ⟨rfl, rfl⟩ | ⟨g, cap, cur, rfl, hbg, hg, hnc, hcm, hcs, htake⟩
  · have hx : xs = [] := List.eq_nil_of_length_eq_zero (by simpa using hown.1)
    subst hx
    have hr := run_append_nil (P := P) w t ty e i z ht hi hz a m c news (by rw [hsize]; exact hl) hnews (by omega) (by omega) (by have hb := hbytes; simp only [Nat.zero_add] at hb; omega)
    have hgr := grown 0 (by omega)
    simp only [Nat.zero_add, List.nil_append, Array.empty_append] at hgr ⊢
    exact ⟨_, _, hr, hgr, .inr ⟨rfl, hbel _⟩⟩
  · by_cases hroom : n + m ≤ cap
    · have hfit : n * i.size + news.length ≤ cur.size := by rw [hsize, hl, hcs, ← Nat.add_mul]; exact Nat.mul_le_mul_right _ hroom
      have hr := run_append_room (P := P) w t ty e i ht hi g n cap cur hg a m c news (by rw [hsize]; exact hl) hnews h1 hroom hfit
      refine ⟨_, _, hr, ⟨hlen, .inr ⟨g, cap, _, rfl, hbg, setRow_heap w g cur _ e _ hg, hroom, hcm, ?_, ?_⟩⟩, .inl ⟨g, cap, rfl, rfl, ⟨rfl, rfl, rfl, by simp, fun k _ hk => setRow_other w g k _ (fun e => hk (by simp [e]))⟩⟩⟩
      · simp only [List.size_toArray, List.length_append, List.length_take, List.length_drop, Array.length_toList]
        omega
      · rw [hsize, htake, ← hlen]
        exact List.take_left
    · have holds : ∀ j u, xs[j]? = some u → w.cell? ((⟨g, 0, none⟩ : Addr).add j) = some u := hown.cells (g := g) rfl
      have hr := run_append_grow (P := P) w t ty e i z ht hi hz ⟨g, 0, none⟩ n cap xs (by rw [hsize]; exact hown.1) holds a m c news (by rw [hsize]; exact hl) hnews (by omega) (by omega) (growslice_fits (by omega) hbytes)
      exact ⟨_, _, hr, grown cap (by omega), .inr ⟨rfl, hbel _⟩⟩

theorem wpList_append_went {P : Program} (w : World) {ops : Array Oper} {rest : List Oper} {o : Oper} {a : Act} {Q : Exit → Act → World → Prop} (hgd : o.guard = none) (s x : Operand) (t : TypeId)
    (ho : o.op = .call { callee := .builtin .append, args := #[s, x], argTypes := #[t, t] })
    (base : Nat) (e : TypeId) (i : TypeInfo) (z : Value) (size bytes : Nat) (ht : P.underlying t = some (.slice e)) (hi : P.info? e = some i) (hz : i.zero = some z)
    (hsize : i.size = size) (hby : i.bytes = bytes) (hzs : z.cells.size = size) (hsz : 0 < size)
    (v : Value) (n : Nat) (xs : List Value) (hs : a.eval s = v) (hown : w.ownsRow base e size v n xs)
    (ad : Addr) (m c : Nat) (news : List Value) (hx : a.eval x = .slice (some ad) m c) (hm : 0 < m) (hl : news.length = m * size) (hnews : ∀ j u, news[j]? = some u → w.cell? (ad.add j) = some u) (h1 : ∀ u ∈ news, u.oneCell' = true)
    (h63 : n + m ≤ maxLen) (hbytes : (n + m) * bytes ≤ 140737488355328) (hbase : base ≤ w.heap.size)
    (h : ∀ v' w', w'.ownsRow base e size v' (n + m) (xs ++ news) → Went w w' v n m v' → wpList P ops Q rest (a.put o.dst v') w') : wpList P ops Q (o :: rest) a w :=
  wpList_plain hgd fun _ hK => by
    obtain ⟨v', w', hr, h2, h3⟩ := append_went (P := P) w base t o.type e i z size bytes ht hi hz hsize hby hzs hsz v n xs hown ad m c news hm hl hnews h1 h63 hbytes hbase
    unfold Oper.wp execOp
    simp only [ho, resolve, invoke, builtin, Sem.run_bind, Sem.run_pure, Result.andThen_ok, List.map_toArray, List.map_cons, List.map_nil, hs, hx, hr]
    exact hK _ _ (h v' w' h2 h3)
end Go.Proofs.Ytgfhnbjpdhdhgaa

namespace Go.Proofs.Ytgfhnbjpdhdhgaa
open Go.RowKit
set_option linter.unusedVariables false
set_option maxRecDepth 100000

theorem St.rdBlkT {w0 w : World} {F0 : List Nat} {E : Env} {g : Nat} {T : TypeId} {cs : List Value} (H : St w0 F0 w E) (k : Nat) (hk : E k = some (.blk g T cs)) (size n : Nat) (hl : cs.length = n * size) : Rd w size (some ⟨g, 0, none⟩) n cs :=
  ⟨hl, fun _ => ⟨_, rfl, H.lt k hk, fun j u hu => by rw [Addr.add_mid, Nat.zero_add]; exact H.cell k hk hu⟩⟩
theorem u8_wrapT (x : Nat) : IntKind.u8.wrap (x : Int) = ((UInt8.ofNat (x % 256)).toNat : Int) := by
  rw [UInt8.toNat_ofNat', IntKind.wrap_u8]
  omega
def mkS (a i : Nat) : ByteArray := ⟨#[109, 97, 114, 107, UInt8.ofNat a, UInt8.ofNat i]⟩
theorem vb_nat {a : Nat} (h : a ≤ 255) : Value.int .u8 (a : Int) = vb (UInt8.ofNat a) := by
  unfold vb
  rw [show (UInt8.ofNat a).toNat = a by simp; omega]
theorem markT_h (a i : Nat) (w : World) (ha : a ≤ 255) (hi : i ≤ 255) {x y : Int} (hx : x = (a : Int)) (hy : y = (i : Int)) :
    Calls Try.prog 69 #[.int .i64 x, .int .i64 y] w fun e w' => e = .returned (.string (mkS a i)) ∧ Below w.heap.size w w' := by
  subst hx hy
  have h1 : IntKind.u8.wrap (a : Int) = (a : Int) := by rw [u8_wrapT, Nat.mod_eq_of_lt (by omega)]; simp; omega
  have h2 : IntKind.u8.wrap (i : Int) = (i : Int) := by rw [u8_wrapT, Nat.mod_eq_of_lt (by omega)]; simp; omega
  have H := St.start_lay w []
  have H1 := (H.allocAt 0 rfl w.heap.size rfl #[.int .u8 (a : Int), .int .u8 (i : Int)] 5).push_mk rfl
  have e : [Value.int .u8 (a : Int), Value.int .u8 (i : Int)] = [UInt8.ofNat a, UInt8.ofNat i].map vb := by rw [vb_nat ha, vb_nat hi]; rfl
  have h : Rd _ 1 _ 2 [Value.int .u8 (a : Int), Value.int .u8 (i : Int)] := H1.rdBlkT 0 rfl 1 2 rfl
  have q1 := conv_b (c := 2) (l := [UInt8.ofNat a, UInt8.ofNat i]) (by rw [← e]; exact h)
  clear h e
  have HB := Lib.hid H1.below
  go_enter Try.func69, Try.ntmps69
  go_wp2
  go_ret
  exact ⟨rfl, HB.out⟩

theorem ls_info : (Try.prog.info? 65).map (fun i => (i.zero, i.size, i.bytes)) = some (some (.slice none 0 0), 1, 24) := by kernel_rfl
theorem st_infoT : (Try.prog.info? 9).map (fun i => (i.zero, i.size, i.bytes)) = some (some (.string ⟨#[]⟩), 1, 16) := by kernel_rfl
def mkV (a i : Nat) : Value := .string (mkS a i)
def marksT (a n : Nat) : List Value := (List.range n).map (mkV a)
theorem marksT_length (a n : Nat) : (marksT a n).length = n := by simp [marksT]
theorem marksT_zero (a : Nat) : marksT a 0 = [] := rfl
theorem marksT_succ (a n : Nat) : marksT a (n + 1) = marksT a n ++ [mkV a n] := by simp [marksT, List.range_succ]
theorem marksT_get {a n i : Nat} (h : i < n) : (marksT a n)[i]? = some (mkV a i) := by
  unfold marksT
  rw [List.getElem?_map, List.getElem?_range h]
  simp
theorem marksT_pre (a n m : Nat) (h : n ≤ m) : marksT a n = (marksT a m).take (marksT a n).length := by
  rw [marksT_length]
  simp [marksT, ← List.map_take, List.take_range, Nat.min_eq_left h]
/-- a list that is written over, place by place -/
theorem texts_over {a q n : Nat} {l : List Value} (hl : l.length = n) (hq : q < n) : (marksT a q ++ l.drop q).set q (mkV a q) = marksT a (q + 1) ++ l.drop (q + 1) := by
  have h1 : l.drop q = l[q] :: l.drop (q + 1) := List.drop_eq_getElem_cons (by omega)
  rw [h1, marksT_succ]
  have h2 : (marksT a q).length = q := marksT_length a q
  generalize marksT a q = pre at h2
  subst h2
  rw [List.set_append_right _ _ (Nat.le_refl _), Nat.sub_self, List.set_cons_zero, List.append_assoc]
  rfl
theorem row_freeT {w0 w : World} {F0 : List Nat} {E : Env} {e : TypeId} {size n g c : Nat} {xs : List Value} (H : St w0 F0 w E) (k : Nat) (hk : E k = some (.row e size (.slice (some ⟨g, 0, none⟩) n c) n xs)) (o : Nat) : w.frozen? ⟨g, o, none⟩ = false := by
  rcases (H.row k hk).2 with ⟨h, _⟩ | ⟨g', cap, cur, h, _, hg, _⟩
  · cases h
  · injection h with e1 _ _
    injection e1 with e1
    injection e1 with e1
    subst e1
    exact frozen_of_row w g o _ _ hg
theorem new_cellsT (w : World) (us : List Value) (t : TypeId) : ∀ j u, us[j]? = some u → (w.alloc (.cells us.toArray t)).cell? ((⟨w.heap.size, 0, none⟩ : Addr).add j) = some u := by
  intro j u hu
  rw [Addr.add_mid, Nat.zero_add, World.cell?_alloc_at _ _ _ _ rfl]
  simpa using hu
theorem drew_cellT {w : World} {a : Addr} {v : Option Value} (h : w.cell? a = v) : w.drew.cell? a = v := h
theorem below_someT {w w' : World} {a : Addr} {v : Value} (hb : Below w.heap.size w w') (h : w.cell? a = some v) : w'.cell? a = some v := by
  rw [hb.cell (World.block_lt_of_cell? w _ h)]
  exact h

set_option maxRecDepth 100000 in
set_option maxHeartbeats 4000000 in
theorem apartT_two {w0 w : World} (v0 v1 : Value) (n0 n1 gL : Nat) (l0 l1 : List Value) (H : St w0 [] w (lay [.row 9 1 v0 n0 (l0), .row 9 1 v1 n1 (l1), .blk gL 65 [v0, v1]])) (h0 : l0.length = n0) (h1 : l1.length = n1) (hn0 : n0 ≤ 200) (hn1 : n1 ≤ 200) :
    Calls Try.prog 53 #[.slice (some ⟨gL, 0, none⟩) 2 2] w fun e w' => e = .returned (.bool true) ∧ Below w0.heap.size w0 w' := by
  obtain ⟨i0, hi0, hz0, hz1, hz2⟩ := info_parts st_infoT
  obtain ⟨i1, hi1, hy0, hy1, hy2⟩ := info_parts ls_info
  have HI0 := Lib.hid (⟨hi0, hz0, hz1, hz2⟩ : _ ∧ _ ∧ _ ∧ _)
  have HI1 := Lib.hid (⟨hi1, hy0, hy1, hy2⟩ : _ ∧ _ ∧ _ ∧ _)
  clear hi0 hz0 hz1 hz2 hi1 hy0 hy1 hy2
  have HL0 := Lib.hid h0
  have HL1 := Lib.hid h1
  clear h0 h1
  go_enter Try.func53, Try.ntmps53
  go_wp2
  go_loopw [3] (fun i wr => ∃ k : Nat, k ≤ 2 ∧ i = .int .i64 k ∧ St w0 [] wr (lay [.row 9 1 v0 n0 (if 0 < k then marksT 10 n0 else l0), .row 9 1 v1 n1 (if 1 < k then marksT 11 n1 else l1), .blk gL 65 [v0, v1]])) (fun i _ => 2 - (intOf i).toNat)
  case atStart => exact ⟨0, by omega, rfl, by simpa using H⟩
  case round =>
    clear H
    obtain ⟨k, hk, rfl, H⟩ := hrel
    have hk3 : k = 0 ∨ k = 1 ∨ k = 2 := by omega
    rcases hk3 with rfl | rfl | rfl
    · replace H : St w0 [] wr (lay [.row 9 1 v0 n0 (l0), .row 9 1 v1 n1 (l1), .blk gL 65 [v0, v1]]) := by simpa using H
      rw [show ((0 : Nat) : Int) = 0 from rfl]
      obtain ⟨A, c, hv, -⟩ := row_form (H.row 0 rfl)
      subst hv
      have hcell := H.cell 2 rfl (o := 0) rfl
      go_wp2
      go_loopw [4] (fun i wr => ∃ q : Nat, q ≤ n0 ∧ i = .int .i64 q ∧ St w0 [] wr (lay [.row 9 1 (.slice A n0 c) n0 (marksT 10 q ++ l0.drop q), .row 9 1 v1 n1 (l1), .blk gL 65 [(.slice A n0 c), v1]])) (fun i _ => n0 - (intOf i).toNat)
      case atStart => exact ⟨0, Nat.zero_le _, rfl, by simpa [marksT] using H⟩
      case round =>
        clear H hcell
        obtain ⟨q, hq, rfl, H⟩ := hrel
        have hcell := H.cell 2 rfl (o := 0) rfl
        by_cases hlq : q < n0
        · obtain ⟨g, hA, hlt⟩ : ∃ g, A = some ⟨g, 0, none⟩ ∧ g < wr.heap.size := by
            obtain ⟨A', c', h, -, h2⟩ := row_form (H.row 0 rfl)
            injection h with h _ _
            subst h
            exact h2 (by omega)
          subst hA
          have hq1 : (q : Int) < n0 := by omega
          have hlen : (marksT 10 q ++ l0.drop q).length = n0 := by rw [List.length_append, marksT_length, List.length_drop, HL0.out]; omega
          obtain ⟨x, hx⟩ : ∃ x, (marksT 10 q ++ l0.drop q)[q]? = some x := ⟨_, List.getElem?_eq_getElem (by rw [hlen]; exact hlq)⟩
          have H1 := H.drew
          have HX := Lib.hid hx
          clear hx hlen
          go_wp2
          have hw1 : IntKind.i64.wrap (0 + 10) = 10 := rfl
          go_region_held3 (fun w' => w'.cell? ⟨gL, 0, none⟩ = some (.slice (some ⟨g, 0, none⟩) n0 c)) (first | with_reducible exact H3.cell 2 rfl rfl | with_reducible exact H2.cell 2 rfl rfl | with_reducible exact H1.cell 2 rfl rfl) ((go_at_call 69; refine (markT_h 10 q _ (by omega) (by omega) rfl rfl).mono ?_; rintro e w2 ⟨rfl, hb2⟩; have H2 := H1.call hb2; obtain ⟨p9, o9, h9, -, hc9⟩ := (H2.rd 0 rfl).flat (by omega) (by omega); injection h9 with h9; injection h9 with h9 h8; subst h9 h8; have b0 := hc9 q _ HX.out; rw [Nat.zero_add] at b0; clear hc9; have y0 := row_freeT H2 0 rfl q; have H3 := (H2.rowStore 0 rfl (o := q) (u := .string (mkS 10 q))).upd_mk (by simp)))
          have HS := texts_over (a := 10) HL0.out hlq
          go_wp2
          go_roundw
          case rel =>
            refine ⟨q + 1, by omega, by go_num, ?_⟩
            rw [← HS]
            exact H3
          case measure => simp [intOf]; omega
        · obtain rfl : q = n0 := by omega
          have hq1 : ¬ (q : Int) < q := by omega
          go_wp2
          go_roundw
          case rel =>
            refine ⟨1, by omega, by go_num, ?_⟩
            rw [List.drop_of_length_le (by rw [HL0.out]; omega), List.append_nil] at H
            simpa using H
          case measure => simp [intOf]
    · replace H : St w0 [] wr (lay [.row 9 1 v0 n0 (marksT 10 n0), .row 9 1 v1 n1 (l1), .blk gL 65 [v0, v1]]) := by simpa using H
      rw [show ((1 : Nat) : Int) = 1 from rfl]
      obtain ⟨A, c, hv, -⟩ := row_form (H.row 1 rfl)
      subst hv
      have hcell := H.cell 2 rfl (o := 1) rfl
      go_wp2
      go_loopw [4] (fun i wr => ∃ q : Nat, q ≤ n1 ∧ i = .int .i64 q ∧ St w0 [] wr (lay [.row 9 1 v0 n0 (marksT 10 n0), .row 9 1 (.slice A n1 c) n1 (marksT 11 q ++ l1.drop q), .blk gL 65 [v0, (.slice A n1 c)]])) (fun i _ => n1 - (intOf i).toNat)
      case atStart => exact ⟨0, Nat.zero_le _, rfl, by simpa [marksT] using H⟩
      case round =>
        clear H hcell
        obtain ⟨q, hq, rfl, H⟩ := hrel
        have hcell := H.cell 2 rfl (o := 1) rfl
        by_cases hlq : q < n1
        · obtain ⟨g, hA, hlt⟩ : ∃ g, A = some ⟨g, 0, none⟩ ∧ g < wr.heap.size := by
            obtain ⟨A', c', h, -, h2⟩ := row_form (H.row 1 rfl)
            injection h with h _ _
            subst h
            exact h2 (by omega)
          subst hA
          have hq1 : (q : Int) < n1 := by omega
          have hlen : (marksT 11 q ++ l1.drop q).length = n1 := by rw [List.length_append, marksT_length, List.length_drop, HL1.out]; omega
          obtain ⟨x, hx⟩ : ∃ x, (marksT 11 q ++ l1.drop q)[q]? = some x := ⟨_, List.getElem?_eq_getElem (by rw [hlen]; exact hlq)⟩
          have H1 := H.drew
          have HX := Lib.hid hx
          clear hx hlen
          go_wp2
          have hw1 : IntKind.i64.wrap (1 + 10) = 11 := rfl
          go_region_held3 (fun w' => w'.cell? ⟨gL, 1, none⟩ = some (.slice (some ⟨g, 0, none⟩) n1 c)) (first | with_reducible exact H3.cell 2 rfl rfl | with_reducible exact H2.cell 2 rfl rfl | with_reducible exact H1.cell 2 rfl rfl) ((go_at_call 69; refine (markT_h 11 q _ (by omega) (by omega) rfl rfl).mono ?_; rintro e w2 ⟨rfl, hb2⟩; have H2 := H1.call hb2; obtain ⟨p9, o9, h9, -, hc9⟩ := (H2.rd 1 rfl).flat (by omega) (by omega); injection h9 with h9; injection h9 with h9 h8; subst h9 h8; have b0 := hc9 q _ HX.out; rw [Nat.zero_add] at b0; clear hc9; have y0 := row_freeT H2 1 rfl q; have H3 := (H2.rowStore 1 rfl (o := q) (u := .string (mkS 11 q))).upd_mk (by simp)))
          have HS := texts_over (a := 11) HL1.out hlq
          go_wp2
          go_roundw
          case rel =>
            refine ⟨q + 1, by omega, by go_num, ?_⟩
            rw [← HS]
            exact H3
          case measure => simp [intOf]; omega
        · obtain rfl : q = n1 := by omega
          have hq1 : ¬ (q : Int) < q := by omega
          go_wp2
          go_roundw
          case rel =>
            refine ⟨2, by omega, by go_num, ?_⟩
            rw [List.drop_of_length_le (by rw [HL1.out]; omega), List.append_nil] at H
            simpa using H
          case measure => simp [intOf]
    · replace H : St w0 [] wr (lay [.row 9 1 v0 n0 (marksT 10 n0), .row 9 1 v1 n1 (marksT 11 n1), .blk gL 65 [v0, v1]]) := by simpa using H
      go_wp2
      go_loopw [5, 6] (fun v i wr => (i = .int .i64 0 ∧ St w0 [] wr (lay [.row 9 1 v0 n0 (marksT 10 n0), .row 9 1 v1 n1 (marksT 11 n1), .blk gL 65 [v0, v1], .row 65 1 v 0 []])) ∨ (∃ g0, i = .int .i64 1 ∧ St w0 [] wr (lay [.two 9 1 v0 n0 (marksT 10 n0) g0 (n0 + 6) (marksT 10 (n0 + 6)), .row 9 1 v1 n1 (marksT 11 n1), .blk gL 65 [v0, v1], .row 65 1 v 1 [g0]])) ∨ (∃ g0 g1, i = .int .i64 2 ∧ St w0 [] wr (lay [.two 9 1 v0 n0 (marksT 10 n0) g0 (n0 + 6) (marksT 10 (n0 + 6)), .two 9 1 v1 n1 (marksT 11 n1) g1 (n1 + 6) (marksT 11 (n1 + 6)), .blk gL 65 [v0, v1], .row 65 1 v 2 [g0, g1]]))) (fun _ i _ => 2 - (intOf i).toNat)
      case atStart => exact .inl ⟨rfl, (H.nilRow 3 rfl _ _).push_mk rfl⟩
      case round =>
        clear H
        rcases hrel with ⟨rfl, H⟩ | ⟨g0, rfl, H⟩ | ⟨g0, g1, rfl, H⟩
        · obtain ⟨A, c, hv, -⟩ := row_form (H.row 0 rfl)
          have HV := Lib.hid hv
          clear hv
          have hcell := H.cell 2 rfl (o := 0) rfl
          rw [HV.out] at hcell
          replace H : St w0 [] wr (lay [.two 9 1 v0 n0 (marksT 10 n0) v0 (n0 + 0) (marksT 10 (n0 + 0)), .row 9 1 v1 n1 (marksT 11 n1), .blk gL 65 [v0, v1], .row 65 1 u5 0 []]) := (H.dup 0 rfl).upd_mk (by simp)
          go_wp2
          go_loopw [7, 8] (fun v i wr => ∃ q : Nat, q ≤ 6 ∧ i = .int .i64 q ∧ St w0 [] wr (lay [.two 9 1 v0 n0 (marksT 10 n0) v (n0 + q) (marksT 10 (n0 + q)), .row 9 1 v1 n1 (marksT 11 n1), .blk gL 65 [v0, v1], .row 65 1 u5 0 []])) (fun _ i _ => 6 - (intOf i).toNat)
          case atStart => exact ⟨0, by omega, rfl, by rw [← HV.out]; exact H⟩
          case round =>
            clear H hcell
            obtain ⟨q, hq, rfl, H⟩ := hrel
            have hcell := H.cell 2 rfl (o := 0) rfl
            rw [HV.out] at hcell
            by_cases hlq : q < 6
            · have hq1 : (q : Int) < 6 := by omega
              go_wp2_with fail
              refine (markT_h 10 (n0 + q) _ (by omega) (by omega) rfl (by omega)).mono ?_
              rintro e w2 ⟨rfl, hb2⟩
              have H2 := H.call hb2
              have hr2 := H2.two2 0 rfl
              clear hcell hq1
              go_wp2_with (at_builtin; refine hold_here ?_)
              refine Held.go ?_
              refine wpList_append_went _ rfl (.tmp 50) (.tmp 61) _ rfl 0 9 i0 _ 1 16 Try.underlying65 HI0.out.1 HI0.out.2.1 HI0.out.2.2.1 HI0.out.2.2.2 rfl (by omega) u7 (n0 + q) _ rfl (hr2.alloc _) ⟨w2.heap.size, 0, none⟩ 1 1 [.string (mkS 10 (n0 + q))] rfl (by omega) rfl (new_cellsT w2 _ _) (by intro u hu; simp at hu; subst hu; rfl) (by simp only [maxLen]; omega) (by omega) (by omega) ?_
              intro v3 w3 hown3 hwent3
              have H3 := ((((H2.alloc 4 rfl #[.string (mkS 10 (n0 + q))] 9).push_mk rfl).went 0 rfl hown3 hwent3 (marksT_pre _ _ _ (by omega))).upd_mk (by simp)).front 4
              have e1 : marksT 10 (n0 + q) ++ [Value.string (mkS 10 (n0 + q))] = marksT 10 (n0 + (q + 1)) := by rw [← Nat.add_assoc, marksT_succ]; rfl
              rw [e1] at H3
              clear hown3 hwent3 hr2 H2 H e1
              go_wp2
              go_roundw
              case rel => exact ⟨q + 1, by omega, by go_num, H3⟩
              case measure => simp [intOf]; omega
            · obtain rfl : q = 6 := by omega
              clear hcell
              obtain ⟨A7, c7, hv7, -⟩ := row_form (H.two2 0 rfl)
              subst hv7
              have hr3 := H.row 3 rfl
              go_wp2_with (at_builtin; refine hold_here ?_)
              refine Held.go ?_
              refine wpList_append_any _ rfl (.tmp 63) (.tmp 65) _ rfl 0 65 i1 _ 1 24 Try.underlying68 HI1.out.1 HI1.out.2.1 HI1.out.2.2.1 HI1.out.2.2.2 rfl (by omega) u5 0 _ rfl (hr3.alloc _) (some ⟨wr.heap.size, 0, none⟩) 1 1 [.slice A7 (n0 + 6) c7] rfl (rd_new0 wr [.slice A7 (n0 + 6) c7] _ 1 rfl) (by simp [Value.oneCell']) (by simp only [maxLen]; omega) (by omega) (by omega) ?_
              intro v3 w3 hown3 hg3 hat3
              have H3 := ((((H.alloc 4 rfl #[.slice A7 (n0 + 6) c7] 65).push_mk rfl).grow 3 rfl hown3 hg3 hat3).upd_mk (by simp)).front 4
              clear hr3 hown3 hg3 hat3 H
              go_wp2
              go_roundw
              case rel => exact ⟨_, H3⟩
              case measure => simp [intOf]
        · obtain ⟨A, c, hv, -⟩ := row_form (H.row 1 rfl)
          have HV := Lib.hid hv
          clear hv
          have hcell := H.cell 2 rfl (o := 1) rfl
          rw [HV.out] at hcell
          replace H : St w0 [] wr (lay [.two 9 1 v0 n0 (marksT 10 n0) g0 (n0 + 6) (marksT 10 (n0 + 6)), .two 9 1 v1 n1 (marksT 11 n1) v1 (n1 + 0) (marksT 11 (n1 + 0)), .blk gL 65 [v0, v1], .row 65 1 u5 1 [g0]]) := (H.dup 1 rfl).upd_mk (by simp)
          go_wp2
          go_loopw [7, 8] (fun v i wr => ∃ q : Nat, q ≤ 6 ∧ i = .int .i64 q ∧ St w0 [] wr (lay [.two 9 1 v0 n0 (marksT 10 n0) g0 (n0 + 6) (marksT 10 (n0 + 6)), .two 9 1 v1 n1 (marksT 11 n1) v (n1 + q) (marksT 11 (n1 + q)), .blk gL 65 [v0, v1], .row 65 1 u5 1 [g0]])) (fun _ i _ => 6 - (intOf i).toNat)
          case atStart => exact ⟨0, by omega, rfl, by rw [← HV.out]; exact H⟩
          case round =>
            clear H hcell
            obtain ⟨q, hq, rfl, H⟩ := hrel
            have hcell := H.cell 2 rfl (o := 1) rfl
            rw [HV.out] at hcell
            by_cases hlq : q < 6
            · have hq1 : (q : Int) < 6 := by omega
              go_wp2_with fail
              refine (markT_h 11 (n1 + q) _ (by omega) (by omega) rfl (by omega)).mono ?_
              rintro e w2 ⟨rfl, hb2⟩
              have H2 := H.call hb2
              have hr2 := H2.two2 1 rfl
              clear hcell hq1
              go_wp2_with (at_builtin; refine hold_here ?_)
              refine Held.go ?_
              refine wpList_append_went _ rfl (.tmp 50) (.tmp 61) _ rfl 0 9 i0 _ 1 16 Try.underlying65 HI0.out.1 HI0.out.2.1 HI0.out.2.2.1 HI0.out.2.2.2 rfl (by omega) u7 (n1 + q) _ rfl (hr2.alloc _) ⟨w2.heap.size, 0, none⟩ 1 1 [.string (mkS 11 (n1 + q))] rfl (by omega) rfl (new_cellsT w2 _ _) (by intro u hu; simp at hu; subst hu; rfl) (by simp only [maxLen]; omega) (by omega) (by omega) ?_
              intro v3 w3 hown3 hwent3
              have H3 := ((((H2.alloc 4 rfl #[.string (mkS 11 (n1 + q))] 9).push_mk rfl).went 1 rfl hown3 hwent3 (marksT_pre _ _ _ (by omega))).upd_mk (by simp)).front 4
              have e1 : marksT 11 (n1 + q) ++ [Value.string (mkS 11 (n1 + q))] = marksT 11 (n1 + (q + 1)) := by rw [← Nat.add_assoc, marksT_succ]; rfl
              rw [e1] at H3
              clear hown3 hwent3 hr2 H2 H e1
              go_wp2
              go_roundw
              case rel => exact ⟨q + 1, by omega, by go_num, H3⟩
              case measure => simp [intOf]; omega
            · obtain rfl : q = 6 := by omega
              clear hcell
              obtain ⟨A7, c7, hv7, -⟩ := row_form (H.two2 1 rfl)
              subst hv7
              have hr3 := H.row 3 rfl
              go_wp2_with (at_builtin; refine hold_here ?_)
              refine Held.go ?_
              refine wpList_append_any _ rfl (.tmp 63) (.tmp 65) _ rfl 0 65 i1 _ 1 24 Try.underlying68 HI1.out.1 HI1.out.2.1 HI1.out.2.2.1 HI1.out.2.2.2 rfl (by omega) u5 1 _ rfl (hr3.alloc _) (some ⟨wr.heap.size, 0, none⟩) 1 1 [.slice A7 (n1 + 6) c7] rfl (rd_new0 wr [.slice A7 (n1 + 6) c7] _ 1 rfl) (by simp [Value.oneCell']) (by simp only [maxLen]; omega) (by omega) (by omega) ?_
              intro v3 w3 hown3 hg3 hat3
              have H3 := ((((H.alloc 4 rfl #[.slice A7 (n1 + 6) c7] 65).push_mk rfl).grow 3 rfl hown3 hg3 hat3).upd_mk (by simp)).front 4
              clear hr3 hown3 hg3 hat3 H
              go_wp2
              go_roundw
              case rel => exact ⟨g0, _, H3⟩
              case measure => simp [intOf]
        · obtain ⟨AG, cG, hvG, -, hAG⟩ := row_form (H.row 3 rfl)
          subst hvG
          obtain ⟨gG, rfl, -⟩ := hAG (by omega)
          go_wp2
          go_loopw [9] (fun i wr => ∃ k : Nat, k ≤ 2 ∧ i = .int .i64 k ∧ St w0 [] wr (lay [.two 9 1 v0 n0 (marksT 10 n0) g0 (n0 + 6) (marksT 10 (n0 + 6)), .two 9 1 v1 n1 (marksT 11 n1) g1 (n1 + 6) (marksT 11 (n1 + 6)), .blk gL 65 [v0, v1], .row 65 1 (.slice (some ⟨gG, 0, none⟩) 2 cG) 2 [g0, g1]])) (fun i _ => 2 - (intOf i).toNat)
          case atStart => exact ⟨0, by omega, rfl, H⟩
          case round =>
            clear H
            obtain ⟨k, hk, rfl, H⟩ := hrel
            have hk3 : k = 0 ∨ k = 1 ∨ k = 2 := by omega
            rcases hk3 with rfl | rfl | rfl
            · rw [show ((0 : Nat) : Int) = 0 from rfl]
              obtain ⟨A, c, hv, -, hvA⟩ := row_form (H.two1 0 rfl)
              obtain ⟨Ak, ck, hvk, -, hvAk⟩ := row_form (H.two2 0 rfl)
              obtain ⟨gk, rfl, -⟩ := hvAk (by omega)
              have HV := Lib.hid hv
              have HVK := Lib.hid hvk
              clear hv hvk
              obtain ⟨pG, oG, hpG, -, hcG⟩ := (H.rd 3 rfl).flat (by omega) (by omega)
              injection hpG with hpG
              injection hpG with hpG hoG
              subst hpG hoG
              have c0 := hcG 0 _ rfl
              rw [Nat.zero_add, HVK.out] at c0
              clear hcG
              go_wp2
              go_loopw [10] (fun i wr => ∃ t : Nat, t ≤ n0 + 6 ∧ i = .int .i64 t ∧ St w0 [] wr (lay [.two 9 1 v0 n0 (marksT 10 n0) g0 (n0 + 6) (marksT 10 (n0 + 6)), .two 9 1 v1 n1 (marksT 11 n1) g1 (n1 + 6) (marksT 11 (n1 + 6)), .blk gL 65 [v0, v1], .row 65 1 (.slice (some ⟨gG, 0, none⟩) 2 cG) 2 [g0, g1]])) (fun i _ => n0 + 6 - (intOf i).toNat)
              case atStart => exact ⟨0, Nat.zero_le _, rfl, H⟩
              case round =>
                clear H c0
                obtain ⟨t, ht, rfl, H⟩ := hrel
                obtain ⟨pG, oG, hpG, -, hcG⟩ := (H.rd 3 rfl).flat (by omega) (by omega)
                injection hpG with hpG
                injection hpG with hpG hoG
                subst hpG hoG
                have c1 := hcG 0 _ rfl
                rw [Nat.zero_add, HVK.out] at c1
                clear hcG
                by_cases hlt : t < n0 + 6
                · have ht1 : (t : Int) < n0 + 6 := by omega
                  have hrk := H.two2 0 rfl
                  rw [HVK.out] at hrk
                  obtain ⟨p9, o9, h9, -, hc9⟩ := (Rd.of_own hrk).flat (by omega) (by omega)
                  injection h9 with h9
                  injection h9 with h9 h8
                  subst h9 h8
                  have r1 := hc9 t _ (marksT_get hlt)
                  rw [Nat.zero_add] at r1
                  unfold mkV at r1
                  clear hc9
                  have c3 := H.cell 2 rfl (o := 0) rfl
                  rw [HV.out] at c3
                  have H1 := H.drew
                  clear hrk
                  go_wp2
                  have hw1 : IntKind.i64.wrap (0 + 10) = 10 := rfl
                  by_cases hln : t < n0
                  · have hrv := H.two1 0 rfl
                    obtain ⟨gv, rfl, -⟩ := hvA (by omega)
                    rw [HV.out] at hrv
                    obtain ⟨p9, o9, h9, -, hc9⟩ := (Rd.of_own hrv).flat (by omega) (by omega)
                    injection h9 with h9
                    injection h9 with h9 h8
                    subst h9 h8
                    have r2 := hc9 t _ (marksT_get hln)
                    rw [Nat.zero_add] at r2
                    unfold mkV at r2
                    clear hc9 hrv
                    have hln1 : (t : Int) < n0 := by omega
                    clear H
                    replace c1 := drew_cellT c1
                    replace c3 := drew_cellT c3
                    replace r1 := drew_cellT r1
                    replace r2 := drew_cellT r2
                    refine wp_region_held_drew (S := fun w' : World => w'.cell? ⟨gG, 0, none⟩ = some (.slice (some ⟨gk, 0, none⟩) (n0 + 6) ck) ∧ w'.cell? ⟨gk, t, none⟩ = some (.string (mkS 10 t)) ∧ w'.cell? ⟨gL, 0, none⟩ = some (.slice (some ⟨gv, 0, none⟩) n0 c) ∧ w'.cell? ⟨gv, t, none⟩ = some (.string (mkS 10 t))) (by kernel_rfl) ?_ (fun hHeld => ?_)
                    · exact ⟨c1, r1, c3, r2⟩
                    refine takeV 0 rfl (by intro w h; clear h; go_simp; try with_reducible rfl) (by kernel_rfl) (by kernel_rfl) (by kernel_rfl) (by exact fun _ _ _ h => h) (by rfl) (by assumption) ?_
                    try simp only [Act.put, List.setIfInBounds_toArray, List.set_cons_zero, List.set_cons_succ]
                    refine takeV 1 rfl (by intro w h; clear h; go_simp; try with_reducible rfl) (by kernel_rfl) (by kernel_rfl) (by kernel_rfl) (by exact fun _ _ _ h => h) (by rfl) (by assumption) ?_
                    try simp only [Act.put, List.setIfInBounds_toArray, List.set_cons_zero, List.set_cons_succ]
                    refine takeV 2 rfl (by intro w h; clear h; go_simp; try with_reducible rfl) (by kernel_rfl) (by kernel_rfl) (by kernel_rfl) (by exact fun _ _ _ h => h) (by rfl) (by assumption) ?_
                    try simp only [Act.put, List.setIfInBounds_toArray, List.set_cons_zero, List.set_cons_succ]
                    refine takeV 3 rfl (by intro w h; have hc := h.1; clear h; go_simp; try with_reducible rfl) (by kernel_rfl) (by kernel_rfl) (by kernel_rfl) (by exact fun _ _ _ h => h) (by rfl) (by assumption) ?_
                    try simp only [Act.put, List.setIfInBounds_toArray, List.set_cons_zero, List.set_cons_succ]
                    refine takeV 4 rfl (by intro w h; clear h; go_simp; try with_reducible rfl) (by kernel_rfl) (by kernel_rfl) (by kernel_rfl) (by exact fun _ _ _ h => h) (by rfl) (by assumption) ?_
                    try simp only [Act.put, List.setIfInBounds_toArray, List.set_cons_zero, List.set_cons_succ]
                    refine takeV 5 rfl (by intro w h; clear h; go_simp; try with_reducible rfl) (by kernel_rfl) (by kernel_rfl) (by kernel_rfl) (by exact fun _ _ _ h => h) (by rfl) (by assumption) ?_
                    try simp only [Act.put, List.setIfInBounds_toArray, List.set_cons_zero, List.set_cons_succ]
                    refine takeV 6 rfl (by intro w h; have hc := h.2.1; clear h; go_simp; try with_reducible rfl) (by kernel_rfl) (by kernel_rfl) (by kernel_rfl) (by exact fun _ _ _ h => h) (by rfl) (by assumption) ?_
                    try simp only [Act.put, List.setIfInBounds_toArray, List.set_cons_zero, List.set_cons_succ]
                    refine takeV 7 rfl (by intro w h; clear h; go_simp; try with_reducible rfl) (by kernel_rfl) (by kernel_rfl) (by kernel_rfl) (by exact fun _ _ _ h => h) (by rfl) (by assumption) ?_
                    try simp only [Act.put, List.setIfInBounds_toArray, List.set_cons_zero, List.set_cons_succ]
                    refine takeV 8 rfl (by intro w h; clear h; go_simp; try with_reducible rfl) (by kernel_rfl) (by kernel_rfl) (by kernel_rfl) (by exact fun _ _ _ h => h) (by rfl) (by assumption) ?_
                    try simp only [Act.put, List.setIfInBounds_toArray, List.set_cons_zero, List.set_cons_succ]
                    refine takeV 9 rfl (by intro w h; clear h; go_simp; try with_reducible rfl) (by kernel_rfl) (by kernel_rfl) (by kernel_rfl) (by exact fun _ _ _ h => h) (by rfl) (by assumption) ?_
                    try simp only [Act.put, List.setIfInBounds_toArray, List.set_cons_zero, List.set_cons_succ]
                    refine take_call 10 rfl (by kernel_rfl) (fun K hK => ?_)
                    try go_simp
                    refine (markT_h 10 t _ (by omega) (by omega) rfl rfl).mono ?_
                    rintro e w2 ⟨rfl, hb2⟩
                    have H2 := H1.call hb2
                    replace c1 := below_someT hb2 c1
                    replace c3 := below_someT hb2 c3
                    replace r1 := below_someT hb2 r1
                    replace r2 := below_someT hb2 r2
                    refine hK.out _ _ ?_ (fun hHeld => ?_)
                    · exact ⟨c1, r1, c3, r2⟩
                    clear hK K
                    try simp only [Act.put, List.setIfInBounds_toArray, List.set_cons_zero, List.set_cons_succ]
                    refine takeV 11 rfl (by intro w h; clear h; go_simp; try with_reducible rfl) (by kernel_rfl) (by kernel_rfl) (by kernel_rfl) (by exact fun _ _ _ h => h) (by rfl) (by assumption) ?_
                    try simp only [Act.put, List.setIfInBounds_toArray, List.set_cons_zero, List.set_cons_succ]
                    refine takeV 12 rfl (by intro w h; clear h; go_simp; try with_reducible rfl) (by kernel_rfl) (by kernel_rfl) (by kernel_rfl) (by exact fun _ _ _ h => h) (by rfl) (by assumption) ?_
                    try simp only [Act.put, List.setIfInBounds_toArray, List.set_cons_zero, List.set_cons_succ]
                    refine takeV 13 rfl (by intro w h; clear h; go_simp; try with_reducible rfl) (by kernel_rfl) (by kernel_rfl) (by kernel_rfl) (by exact fun _ _ _ h => h) (by rfl) (by assumption) ?_
                    try simp only [Act.put, List.setIfInBounds_toArray, List.set_cons_zero, List.set_cons_succ]
                    refine takeV 14 rfl (by intro w h; clear h; go_simp; try with_reducible rfl) (by kernel_rfl) (by kernel_rfl) (by kernel_rfl) (by exact fun _ _ _ h => h) (by rfl) (by assumption) ?_
                    try simp only [Act.put, List.setIfInBounds_toArray, List.set_cons_zero, List.set_cons_succ]
                    refine takeV 15 rfl (by intro w h; clear h; go_simp; try with_reducible rfl) (by kernel_rfl) (by kernel_rfl) (by kernel_rfl) (by exact fun _ _ _ h => h) (by rfl) (by assumption) ?_
                    try simp only [Act.put, List.setIfInBounds_toArray, List.set_cons_zero, List.set_cons_succ]
                    refine takeV 16 rfl (by intro w h; clear h; go_simp; try with_reducible rfl) (by kernel_rfl) (by kernel_rfl) (by kernel_rfl) (by exact fun _ _ _ h => h) (by rfl) (by assumption) ?_
                    try simp only [Act.put, List.setIfInBounds_toArray, List.set_cons_zero, List.set_cons_succ]
                    refine takeV 17 rfl (by intro w h; have hc := h.2.2.1; clear h; go_simp; try with_reducible rfl) (by kernel_rfl) (by kernel_rfl) (by kernel_rfl) (by exact fun _ _ _ h => h) (by rfl) (by assumption) ?_
                    try simp only [Act.put, List.setIfInBounds_toArray, List.set_cons_zero, List.set_cons_succ]
                    refine takeV 18 rfl (by intro w h; clear h; go_simp; try with_reducible rfl) (by kernel_rfl) (by kernel_rfl) (by kernel_rfl) (by exact fun _ _ _ h => h) (by rfl) (by assumption) ?_
                    try simp only [Act.put, List.setIfInBounds_toArray, List.set_cons_zero, List.set_cons_succ]
                    refine takeV 19 rfl (by intro w h; clear h; go_simp; try with_reducible rfl) (by kernel_rfl) (by kernel_rfl) (by kernel_rfl) (by exact fun _ _ _ h => h) (by rfl) (by assumption) ?_
                    try simp only [Act.put, List.setIfInBounds_toArray, List.set_cons_zero, List.set_cons_succ]
                    refine takeV 20 rfl (by intro w h; clear h; go_simp; try with_reducible rfl) (by kernel_rfl) (by kernel_rfl) (by kernel_rfl) (by exact fun _ _ _ h => h) (by rfl) (by assumption) ?_
                    try simp only [Act.put, List.setIfInBounds_toArray, List.set_cons_zero, List.set_cons_succ]
                    refine takeV 21 rfl (by intro w h; clear h; go_simp; try with_reducible rfl) (by kernel_rfl) (by kernel_rfl) (by kernel_rfl) (by exact fun _ _ _ h => h) (by rfl) (by assumption) ?_
                    try simp only [Act.put, List.setIfInBounds_toArray, List.set_cons_zero, List.set_cons_succ]
                    refine takeV 22 rfl (by intro w h; clear h; go_simp; try with_reducible rfl) (by kernel_rfl) (by kernel_rfl) (by kernel_rfl) (by exact fun _ _ _ h => h) (by rfl) (by assumption) ?_
                    try simp only [Act.put, List.setIfInBounds_toArray, List.set_cons_zero, List.set_cons_succ]
                    refine takeV 23 rfl (by intro w h; clear h; go_simp; try with_reducible rfl) (by kernel_rfl) (by kernel_rfl) (by kernel_rfl) (by exact fun _ _ _ h => h) (by rfl) (by assumption) ?_
                    try simp only [Act.put, List.setIfInBounds_toArray, List.set_cons_zero, List.set_cons_succ]
                    refine takeV 24 rfl (by intro w h; have hc := h.2.2.1; clear h; go_simp; try with_reducible rfl) (by kernel_rfl) (by kernel_rfl) (by kernel_rfl) (by exact fun _ _ _ h => h) (by rfl) (by assumption) ?_
                    try simp only [Act.put, List.setIfInBounds_toArray, List.set_cons_zero, List.set_cons_succ]
                    refine takeV 25 rfl (by intro w h; clear h; go_simp; try with_reducible rfl) (by kernel_rfl) (by kernel_rfl) (by kernel_rfl) (by exact fun _ _ _ h => h) (by rfl) (by assumption) ?_
                    try simp only [Act.put, List.setIfInBounds_toArray, List.set_cons_zero, List.set_cons_succ]
                    refine takeV 26 rfl (by intro w h; clear h; go_simp; try with_reducible rfl) (by kernel_rfl) (by kernel_rfl) (by kernel_rfl) (by exact fun _ _ _ h => h) (by rfl) (by assumption) ?_
                    try simp only [Act.put, List.setIfInBounds_toArray, List.set_cons_zero, List.set_cons_succ]
                    refine takeV 27 rfl (by intro w h; have hc := h.2.2.2; clear h; go_simp; try with_reducible rfl) (by kernel_rfl) (by kernel_rfl) (by kernel_rfl) (by exact fun _ _ _ h => h) (by rfl) (by assumption) ?_
                    try simp only [Act.put, List.setIfInBounds_toArray, List.set_cons_zero, List.set_cons_succ]
                    refine takeV 28 rfl (by intro w h; clear h; go_simp; try with_reducible rfl) (by kernel_rfl) (by kernel_rfl) (by kernel_rfl) (by exact fun _ _ _ h => h) (by rfl) (by assumption) ?_
                    try simp only [Act.put, List.setIfInBounds_toArray, List.set_cons_zero, List.set_cons_succ]
                    refine takeV 29 rfl (by intro w h; clear h; go_simp; try with_reducible rfl) (by kernel_rfl) (by kernel_rfl) (by kernel_rfl) (by exact fun _ _ _ h => h) (by rfl) (by assumption) ?_
                    try simp only [Act.put, List.setIfInBounds_toArray, List.set_cons_zero, List.set_cons_succ]
                    refine takeV 30 rfl (by intro w h; clear h; go_simp; try with_reducible rfl) (by kernel_rfl) (by kernel_rfl) (by kernel_rfl) (by exact fun _ _ _ h => h) (by rfl) (by assumption) ?_
                    try simp only [Act.put, List.setIfInBounds_toArray, List.set_cons_zero, List.set_cons_succ]
                    refine takeV 31 rfl (by intro w h; have hc := h.1; clear h; go_simp; try with_reducible rfl) (by kernel_rfl) (by kernel_rfl) (by kernel_rfl) (by exact fun _ _ _ h => h) (by rfl) (by assumption) ?_
                    try simp only [Act.put, List.setIfInBounds_toArray, List.set_cons_zero, List.set_cons_succ]
                    refine takeV 32 rfl (by intro w h; clear h; go_simp; try with_reducible rfl) (by kernel_rfl) (by kernel_rfl) (by kernel_rfl) (by exact fun _ _ _ h => h) (by rfl) (by assumption) ?_
                    try simp only [Act.put, List.setIfInBounds_toArray, List.set_cons_zero, List.set_cons_succ]
                    refine takeV 33 rfl (by intro w h; clear h; go_simp; try with_reducible rfl) (by kernel_rfl) (by kernel_rfl) (by kernel_rfl) (by exact fun _ _ _ h => h) (by rfl) (by assumption) ?_
                    try simp only [Act.put, List.setIfInBounds_toArray, List.set_cons_zero, List.set_cons_succ]
                    refine takeV 34 rfl (by intro w h; have hc := h.2.1; clear h; go_simp; try with_reducible rfl) (by kernel_rfl) (by kernel_rfl) (by kernel_rfl) (by exact fun _ _ _ h => h) (by rfl) (by assumption) ?_
                    try simp only [Act.put, List.setIfInBounds_toArray, List.set_cons_zero, List.set_cons_succ]
                    refine takeV 35 rfl (by intro w h; clear h; go_simp; try with_reducible rfl) (by kernel_rfl) (by kernel_rfl) (by kernel_rfl) (by exact fun _ _ _ h => h) (by rfl) (by assumption) ?_
                    try simp only [Act.put, List.setIfInBounds_toArray, List.set_cons_zero, List.set_cons_succ]
                    refine takeV 36 rfl (by intro w h; clear h; go_simp; try with_reducible rfl) (by kernel_rfl) (by kernel_rfl) (by kernel_rfl) (by exact fun _ _ _ h => h) (by rfl) (by assumption) ?_
                    try simp only [Act.put, List.setIfInBounds_toArray, List.set_cons_zero, List.set_cons_succ]
                    refine takeV 37 rfl (by intro w h; clear h; go_simp; try with_reducible rfl) (by kernel_rfl) (by kernel_rfl) (by kernel_rfl) (by exact fun _ _ _ h => h) (by rfl) (by assumption) ?_
                    try simp only [Act.put, List.setIfInBounds_toArray, List.set_cons_zero, List.set_cons_succ]
                    refine wpAnyH_done (by kernel_rfl) ?_ _
                    clear hHeld
                    clear c1 c3 r1 r2
                    go_wp2
                    go_roundw
                    case rel => exact ⟨t + 1, by omega, by go_num, H2⟩
                    case measure => simp [intOf]; omega
                  · have hln1 : ¬ (t : Int) < n0 := by omega
                    clear H
                    replace c1 := drew_cellT c1
                    replace c3 := drew_cellT c3
                    replace r1 := drew_cellT r1
                    refine wp_region_held_drew (S := fun w' : World => w'.cell? ⟨gG, 0, none⟩ = some (.slice (some ⟨gk, 0, none⟩) (n0 + 6) ck) ∧ w'.cell? ⟨gk, t, none⟩ = some (.string (mkS 10 t)) ∧ w'.cell? ⟨gL, 0, none⟩ = some (.slice A n0 c)) (by kernel_rfl) ?_ (fun hHeld => ?_)
                    · exact ⟨c1, r1, c3⟩
                    refine takeV 0 rfl (by intro w h; clear h; go_simp; try with_reducible rfl) (by kernel_rfl) (by kernel_rfl) (by kernel_rfl) (by exact fun _ _ _ h => h) (by rfl) (by assumption) ?_
                    try simp only [Act.put, List.setIfInBounds_toArray, List.set_cons_zero, List.set_cons_succ]
                    refine takeV 1 rfl (by intro w h; clear h; go_simp; try with_reducible rfl) (by kernel_rfl) (by kernel_rfl) (by kernel_rfl) (by exact fun _ _ _ h => h) (by rfl) (by assumption) ?_
                    try simp only [Act.put, List.setIfInBounds_toArray, List.set_cons_zero, List.set_cons_succ]
                    refine takeV 2 rfl (by intro w h; clear h; go_simp; try with_reducible rfl) (by kernel_rfl) (by kernel_rfl) (by kernel_rfl) (by exact fun _ _ _ h => h) (by rfl) (by assumption) ?_
                    try simp only [Act.put, List.setIfInBounds_toArray, List.set_cons_zero, List.set_cons_succ]
                    refine takeV 3 rfl (by intro w h; have hc := h.1; clear h; go_simp; try with_reducible rfl) (by kernel_rfl) (by kernel_rfl) (by kernel_rfl) (by exact fun _ _ _ h => h) (by rfl) (by assumption) ?_
                    try simp only [Act.put, List.setIfInBounds_toArray, List.set_cons_zero, List.set_cons_succ]
                    refine takeV 4 rfl (by intro w h; clear h; go_simp; try with_reducible rfl) (by kernel_rfl) (by kernel_rfl) (by kernel_rfl) (by exact fun _ _ _ h => h) (by rfl) (by assumption) ?_
                    try simp only [Act.put, List.setIfInBounds_toArray, List.set_cons_zero, List.set_cons_succ]
                    refine takeV 5 rfl (by intro w h; clear h; go_simp; try with_reducible rfl) (by kernel_rfl) (by kernel_rfl) (by kernel_rfl) (by exact fun _ _ _ h => h) (by rfl) (by assumption) ?_
                    try simp only [Act.put, List.setIfInBounds_toArray, List.set_cons_zero, List.set_cons_succ]
                    refine takeV 6 rfl (by intro w h; have hc := h.2.1; clear h; go_simp; try with_reducible rfl) (by kernel_rfl) (by kernel_rfl) (by kernel_rfl) (by exact fun _ _ _ h => h) (by rfl) (by assumption) ?_
                    try simp only [Act.put, List.setIfInBounds_toArray, List.set_cons_zero, List.set_cons_succ]
                    refine takeV 7 rfl (by intro w h; clear h; go_simp; try with_reducible rfl) (by kernel_rfl) (by kernel_rfl) (by kernel_rfl) (by exact fun _ _ _ h => h) (by rfl) (by assumption) ?_
                    try simp only [Act.put, List.setIfInBounds_toArray, List.set_cons_zero, List.set_cons_succ]
                    refine takeV 8 rfl (by intro w h; clear h; go_simp; try with_reducible rfl) (by kernel_rfl) (by kernel_rfl) (by kernel_rfl) (by exact fun _ _ _ h => h) (by rfl) (by assumption) ?_
                    try simp only [Act.put, List.setIfInBounds_toArray, List.set_cons_zero, List.set_cons_succ]
                    refine takeV 9 rfl (by intro w h; clear h; go_simp; try with_reducible rfl) (by kernel_rfl) (by kernel_rfl) (by kernel_rfl) (by exact fun _ _ _ h => h) (by rfl) (by assumption) ?_
                    try simp only [Act.put, List.setIfInBounds_toArray, List.set_cons_zero, List.set_cons_succ]
                    refine take_call 10 rfl (by kernel_rfl) (fun K hK => ?_)
                    try go_simp
                    refine (markT_h 10 t _ (by omega) (by omega) rfl rfl).mono ?_
                    rintro e w2 ⟨rfl, hb2⟩
                    have H2 := H1.call hb2
                    replace c1 := below_someT hb2 c1
                    replace c3 := below_someT hb2 c3
                    replace r1 := below_someT hb2 r1
                    refine hK.out _ _ ?_ (fun hHeld => ?_)
                    · exact ⟨c1, r1, c3⟩
                    clear hK K
                    try simp only [Act.put, List.setIfInBounds_toArray, List.set_cons_zero, List.set_cons_succ]
                    refine takeV 11 rfl (by intro w h; clear h; go_simp; try with_reducible rfl) (by kernel_rfl) (by kernel_rfl) (by kernel_rfl) (by exact fun _ _ _ h => h) (by rfl) (by assumption) ?_
                    try simp only [Act.put, List.setIfInBounds_toArray, List.set_cons_zero, List.set_cons_succ]
                    refine takeV 12 rfl (by intro w h; clear h; go_simp; try with_reducible rfl) (by kernel_rfl) (by kernel_rfl) (by kernel_rfl) (by exact fun _ _ _ h => h) (by rfl) (by assumption) ?_
                    try simp only [Act.put, List.setIfInBounds_toArray, List.set_cons_zero, List.set_cons_succ]
                    refine takeV 13 rfl (by intro w h; clear h; go_simp; try with_reducible rfl) (by kernel_rfl) (by kernel_rfl) (by kernel_rfl) (by exact fun _ _ _ h => h) (by rfl) (by assumption) ?_
                    try simp only [Act.put, List.setIfInBounds_toArray, List.set_cons_zero, List.set_cons_succ]
                    refine takeV 14 rfl (by intro w h; clear h; go_simp; try with_reducible rfl) (by kernel_rfl) (by kernel_rfl) (by kernel_rfl) (by exact fun _ _ _ h => h) (by rfl) (by assumption) ?_
                    try simp only [Act.put, List.setIfInBounds_toArray, List.set_cons_zero, List.set_cons_succ]
                    refine takeV 15 rfl (by intro w h; clear h; go_simp; try with_reducible rfl) (by kernel_rfl) (by kernel_rfl) (by kernel_rfl) (by exact fun _ _ _ h => h) (by rfl) (by assumption) ?_
                    try simp only [Act.put, List.setIfInBounds_toArray, List.set_cons_zero, List.set_cons_succ]
                    refine takeV 16 rfl (by intro w h; clear h; go_simp; try with_reducible rfl) (by kernel_rfl) (by kernel_rfl) (by kernel_rfl) (by exact fun _ _ _ h => h) (by rfl) (by assumption) ?_
                    try simp only [Act.put, List.setIfInBounds_toArray, List.set_cons_zero, List.set_cons_succ]
                    refine takeV 17 rfl (by intro w h; have hc := h.2.2; clear h; go_simp; try with_reducible rfl) (by kernel_rfl) (by kernel_rfl) (by kernel_rfl) (by exact fun _ _ _ h => h) (by rfl) (by assumption) ?_
                    try simp only [Act.put, List.setIfInBounds_toArray, List.set_cons_zero, List.set_cons_succ]
                    refine takeV 18 rfl (by intro w h; clear h; go_simp; try with_reducible rfl) (by kernel_rfl) (by kernel_rfl) (by kernel_rfl) (by exact fun _ _ _ h => h) (by rfl) (by assumption) ?_
                    try simp only [Act.put, List.setIfInBounds_toArray, List.set_cons_zero, List.set_cons_succ]
                    refine takeV 19 rfl (by intro w h; clear h; go_simp; try with_reducible rfl) (by kernel_rfl) (by kernel_rfl) (by kernel_rfl) (by exact fun _ _ _ h => h) (by rfl) (by assumption) ?_
                    try simp only [Act.put, List.setIfInBounds_toArray, List.set_cons_zero, List.set_cons_succ]
                    refine takeV 20 rfl (by intro w h; clear h; go_simp; try with_reducible rfl) (by kernel_rfl) (by kernel_rfl) (by kernel_rfl) (by exact fun _ _ _ h => h) (by rfl) (by assumption) ?_
                    try simp only [Act.put, List.setIfInBounds_toArray, List.set_cons_zero, List.set_cons_succ]
                    refine takeSkip 21 rfl (by kernel_rfl) (by kernel_rfl) (by kernel_rfl) (fun _ _ _ h => h) rfl (by assumption) ?_
                    try simp only [Act.put, List.setIfInBounds_toArray, List.set_cons_zero, List.set_cons_succ]
                    refine takeSkip 22 rfl (by kernel_rfl) (by kernel_rfl) (by kernel_rfl) (fun _ _ _ h => h) rfl (by assumption) ?_
                    try simp only [Act.put, List.setIfInBounds_toArray, List.set_cons_zero, List.set_cons_succ]
                    refine takeSkip 23 rfl (by kernel_rfl) (by kernel_rfl) (by kernel_rfl) (fun _ _ _ h => h) rfl (by assumption) ?_
                    try simp only [Act.put, List.setIfInBounds_toArray, List.set_cons_zero, List.set_cons_succ]
                    refine takeSkip 24 rfl (by kernel_rfl) (by kernel_rfl) (by kernel_rfl) (fun _ _ _ h => h) rfl (by assumption) ?_
                    try simp only [Act.put, List.setIfInBounds_toArray, List.set_cons_zero, List.set_cons_succ]
                    refine takeSkip 25 rfl (by kernel_rfl) (by kernel_rfl) (by kernel_rfl) (fun _ _ _ h => h) rfl (by assumption) ?_
                    try simp only [Act.put, List.setIfInBounds_toArray, List.set_cons_zero, List.set_cons_succ]
                    refine takeSkip 26 rfl (by kernel_rfl) (by kernel_rfl) (by kernel_rfl) (fun _ _ _ h => h) rfl (by assumption) ?_
                    try simp only [Act.put, List.setIfInBounds_toArray, List.set_cons_zero, List.set_cons_succ]
                    refine takeSkip 27 rfl (by kernel_rfl) (by kernel_rfl) (by kernel_rfl) (fun _ _ _ h => h) rfl (by assumption) ?_
                    try simp only [Act.put, List.setIfInBounds_toArray, List.set_cons_zero, List.set_cons_succ]
                    refine takeSkip 28 rfl (by kernel_rfl) (by kernel_rfl) (by kernel_rfl) (fun _ _ _ h => h) rfl (by assumption) ?_
                    try simp only [Act.put, List.setIfInBounds_toArray, List.set_cons_zero, List.set_cons_succ]
                    refine takeSkip 29 rfl (by kernel_rfl) (by kernel_rfl) (by kernel_rfl) (fun _ _ _ h => h) rfl (by assumption) ?_
                    try simp only [Act.put, List.setIfInBounds_toArray, List.set_cons_zero, List.set_cons_succ]
                    refine takeSkip 30 rfl (by kernel_rfl) (by kernel_rfl) (by kernel_rfl) (fun _ _ _ h => h) rfl (by assumption) ?_
                    try simp only [Act.put, List.setIfInBounds_toArray, List.set_cons_zero, List.set_cons_succ]
                    refine takeSkip 31 rfl (by kernel_rfl) (by kernel_rfl) (by kernel_rfl) (fun _ _ _ h => h) rfl (by assumption) ?_
                    try simp only [Act.put, List.setIfInBounds_toArray, List.set_cons_zero, List.set_cons_succ]
                    refine takeSkip 32 rfl (by kernel_rfl) (by kernel_rfl) (by kernel_rfl) (fun _ _ _ h => h) rfl (by assumption) ?_
                    try simp only [Act.put, List.setIfInBounds_toArray, List.set_cons_zero, List.set_cons_succ]
                    refine takeSkip 33 rfl (by kernel_rfl) (by kernel_rfl) (by kernel_rfl) (fun _ _ _ h => h) rfl (by assumption) ?_
                    try simp only [Act.put, List.setIfInBounds_toArray, List.set_cons_zero, List.set_cons_succ]
                    refine takeSkip 34 rfl (by kernel_rfl) (by kernel_rfl) (by kernel_rfl) (fun _ _ _ h => h) rfl (by assumption) ?_
                    try simp only [Act.put, List.setIfInBounds_toArray, List.set_cons_zero, List.set_cons_succ]
                    refine takeSkip 35 rfl (by kernel_rfl) (by kernel_rfl) (by kernel_rfl) (fun _ _ _ h => h) rfl (by assumption) ?_
                    try simp only [Act.put, List.setIfInBounds_toArray, List.set_cons_zero, List.set_cons_succ]
                    refine takeV 36 rfl (by intro w h; clear h; go_simp; try with_reducible rfl) (by kernel_rfl) (by kernel_rfl) (by kernel_rfl) (by exact fun _ _ _ h => h) (by rfl) (by assumption) ?_
                    try simp only [Act.put, List.setIfInBounds_toArray, List.set_cons_zero, List.set_cons_succ]
                    refine takeV 37 rfl (by intro w h; clear h; go_simp; try with_reducible rfl) (by kernel_rfl) (by kernel_rfl) (by kernel_rfl) (by exact fun _ _ _ h => h) (by rfl) (by assumption) ?_
                    try simp only [Act.put, List.setIfInBounds_toArray, List.set_cons_zero, List.set_cons_succ]
                    refine wpAnyH_done (by kernel_rfl) ?_ _
                    clear hHeld
                    clear c1 c3 r1
                    go_wp2
                    go_roundw
                    case rel => exact ⟨t + 1, by omega, by go_num, H2⟩
                    case measure => simp [intOf]; omega
                · have ht1 : ¬ (t : Int) < n0 + 6 := by omega
                  go_wp2
                  go_roundw
                  case rel => first | exact ⟨1, by omega, rfl, H⟩ | exact ⟨1, by omega, rfl⟩
                  case measure => simp [intOf]
            · rw [show ((1 : Nat) : Int) = 1 from rfl]
              obtain ⟨A, c, hv, -, hvA⟩ := row_form (H.two1 1 rfl)
              obtain ⟨Ak, ck, hvk, -, hvAk⟩ := row_form (H.two2 1 rfl)
              obtain ⟨gk, rfl, -⟩ := hvAk (by omega)
              have HV := Lib.hid hv
              have HVK := Lib.hid hvk
              clear hv hvk
              obtain ⟨pG, oG, hpG, -, hcG⟩ := (H.rd 3 rfl).flat (by omega) (by omega)
              injection hpG with hpG
              injection hpG with hpG hoG
              subst hpG hoG
              have c0 := hcG 1 _ rfl
              rw [Nat.zero_add, HVK.out] at c0
              clear hcG
              go_wp2
              go_loopw [10] (fun i wr => ∃ t : Nat, t ≤ n1 + 6 ∧ i = .int .i64 t ∧ St w0 [] wr (lay [.two 9 1 v0 n0 (marksT 10 n0) g0 (n0 + 6) (marksT 10 (n0 + 6)), .two 9 1 v1 n1 (marksT 11 n1) g1 (n1 + 6) (marksT 11 (n1 + 6)), .blk gL 65 [v0, v1], .row 65 1 (.slice (some ⟨gG, 0, none⟩) 2 cG) 2 [g0, g1]])) (fun i _ => n1 + 6 - (intOf i).toNat)
              case atStart => exact ⟨0, Nat.zero_le _, rfl, H⟩
              case round =>
                clear H c0
                obtain ⟨t, ht, rfl, H⟩ := hrel
                obtain ⟨pG, oG, hpG, -, hcG⟩ := (H.rd 3 rfl).flat (by omega) (by omega)
                injection hpG with hpG
                injection hpG with hpG hoG
                subst hpG hoG
                have c1 := hcG 1 _ rfl
                rw [Nat.zero_add, HVK.out] at c1
                clear hcG
                by_cases hlt : t < n1 + 6
                · have ht1 : (t : Int) < n1 + 6 := by omega
                  have hrk := H.two2 1 rfl
                  rw [HVK.out] at hrk
                  obtain ⟨p9, o9, h9, -, hc9⟩ := (Rd.of_own hrk).flat (by omega) (by omega)
                  injection h9 with h9
                  injection h9 with h9 h8
                  subst h9 h8
                  have r1 := hc9 t _ (marksT_get hlt)
                  rw [Nat.zero_add] at r1
                  unfold mkV at r1
                  clear hc9
                  have c3 := H.cell 2 rfl (o := 1) rfl
                  rw [HV.out] at c3
                  have H1 := H.drew
                  clear hrk
                  go_wp2
                  have hw1 : IntKind.i64.wrap (1 + 10) = 11 := rfl
                  by_cases hln : t < n1
                  · have hrv := H.two1 1 rfl
                    obtain ⟨gv, rfl, -⟩ := hvA (by omega)
                    rw [HV.out] at hrv
                    obtain ⟨p9, o9, h9, -, hc9⟩ := (Rd.of_own hrv).flat (by omega) (by omega)
                    injection h9 with h9
                    injection h9 with h9 h8
                    subst h9 h8
                    have r2 := hc9 t _ (marksT_get hln)
                    rw [Nat.zero_add] at r2
                    unfold mkV at r2
                    clear hc9 hrv
                    have hln1 : (t : Int) < n1 := by omega
                    clear H
                    replace c1 := drew_cellT c1
                    replace c3 := drew_cellT c3
                    replace r1 := drew_cellT r1
                    replace r2 := drew_cellT r2
                    refine wp_region_held_drew (S := fun w' : World => w'.cell? ⟨gG, 1, none⟩ = some (.slice (some ⟨gk, 0, none⟩) (n1 + 6) ck) ∧ w'.cell? ⟨gk, t, none⟩ = some (.string (mkS 11 t)) ∧ w'.cell? ⟨gL, 1, none⟩ = some (.slice (some ⟨gv, 0, none⟩) n1 c) ∧ w'.cell? ⟨gv, t, none⟩ = some (.string (mkS 11 t))) (by kernel_rfl) ?_ (fun hHeld => ?_)
                    · exact ⟨c1, r1, c3, r2⟩
                    refine takeV 0 rfl (by intro w h; clear h; go_simp; try with_reducible rfl) (by kernel_rfl) (by kernel_rfl) (by kernel_rfl) (by exact fun _ _ _ h => h) (by rfl) (by assumption) ?_
                    try simp only [Act.put, List.setIfInBounds_toArray, List.set_cons_zero, List.set_cons_succ]
                    refine takeV 1 rfl (by intro w h; clear h; go_simp; try with_reducible rfl) (by kernel_rfl) (by kernel_rfl) (by kernel_rfl) (by exact fun _ _ _ h => h) (by rfl) (by assumption) ?_
                    try simp only [Act.put, List.setIfInBounds_toArray, List.set_cons_zero, List.set_cons_succ]
                    refine takeV 2 rfl (by intro w h; clear h; go_simp; try with_reducible rfl) (by kernel_rfl) (by kernel_rfl) (by kernel_rfl) (by exact fun _ _ _ h => h) (by rfl) (by assumption) ?_
                    try simp only [Act.put, List.setIfInBounds_toArray, List.set_cons_zero, List.set_cons_succ]
                    refine takeV 3 rfl (by intro w h; have hc := h.1; clear h; go_simp; try with_reducible rfl) (by kernel_rfl) (by kernel_rfl) (by kernel_rfl) (by exact fun _ _ _ h => h) (by rfl) (by assumption) ?_
                    try simp only [Act.put, List.setIfInBounds_toArray, List.set_cons_zero, List.set_cons_succ]
                    refine takeV 4 rfl (by intro w h; clear h; go_simp; try with_reducible rfl) (by kernel_rfl) (by kernel_rfl) (by kernel_rfl) (by exact fun _ _ _ h => h) (by rfl) (by assumption) ?_
                    try simp only [Act.put, List.setIfInBounds_toArray, List.set_cons_zero, List.set_cons_succ]
                    refine takeV 5 rfl (by intro w h; clear h; go_simp; try with_reducible rfl) (by kernel_rfl) (by kernel_rfl) (by kernel_rfl) (by exact fun _ _ _ h => h) (by rfl) (by assumption) ?_
                    try simp only [Act.put, List.setIfInBounds_toArray, List.set_cons_zero, List.set_cons_succ]
                    refine takeV 6 rfl (by intro w h; have hc := h.2.1; clear h; go_simp; try with_reducible rfl) (by kernel_rfl) (by kernel_rfl) (by kernel_rfl) (by exact fun _ _ _ h => h) (by rfl) (by assumption) ?_
                    try simp only [Act.put, List.setIfInBounds_toArray, List.set_cons_zero, List.set_cons_succ]
                    refine takeV 7 rfl (by intro w h; clear h; go_simp; try with_reducible rfl) (by kernel_rfl) (by kernel_rfl) (by kernel_rfl) (by exact fun _ _ _ h => h) (by rfl) (by assumption) ?_
                    try simp only [Act.put, List.setIfInBounds_toArray, List.set_cons_zero, List.set_cons_succ]
                    refine takeV 8 rfl (by intro w h; clear h; go_simp; try with_reducible rfl) (by kernel_rfl) (by kernel_rfl) (by kernel_rfl) (by exact fun _ _ _ h => h) (by rfl) (by assumption) ?_
                    try simp only [Act.put, List.setIfInBounds_toArray, List.set_cons_zero, List.set_cons_succ]
                    refine takeV 9 rfl (by intro w h; clear h; go_simp; try with_reducible rfl) (by kernel_rfl) (by kernel_rfl) (by kernel_rfl) (by exact fun _ _ _ h => h) (by rfl) (by assumption) ?_
                    try simp only [Act.put, List.setIfInBounds_toArray, List.set_cons_zero, List.set_cons_succ]
                    refine take_call 10 rfl (by kernel_rfl) (fun K hK => ?_)
                    try go_simp
                    refine (markT_h 11 t _ (by omega) (by omega) rfl rfl).mono ?_
                    rintro e w2 ⟨rfl, hb2⟩
                    have H2 := H1.call hb2
                    replace c1 := below_someT hb2 c1
                    replace c3 := below_someT hb2 c3
                    replace r1 := below_someT hb2 r1
                    replace r2 := below_someT hb2 r2
                    refine hK.out _ _ ?_ (fun hHeld => ?_)
                    · exact ⟨c1, r1, c3, r2⟩
                    clear hK K
                    try simp only [Act.put, List.setIfInBounds_toArray, List.set_cons_zero, List.set_cons_succ]
                    refine takeV 11 rfl (by intro w h; clear h; go_simp; try with_reducible rfl) (by kernel_rfl) (by kernel_rfl) (by kernel_rfl) (by exact fun _ _ _ h => h) (by rfl) (by assumption) ?_
                    try simp only [Act.put, List.setIfInBounds_toArray, List.set_cons_zero, List.set_cons_succ]
                    refine takeV 12 rfl (by intro w h; clear h; go_simp; try with_reducible rfl) (by kernel_rfl) (by kernel_rfl) (by kernel_rfl) (by exact fun _ _ _ h => h) (by rfl) (by assumption) ?_
                    try simp only [Act.put, List.setIfInBounds_toArray, List.set_cons_zero, List.set_cons_succ]
                    refine takeV 13 rfl (by intro w h; clear h; go_simp; try with_reducible rfl) (by kernel_rfl) (by kernel_rfl) (by kernel_rfl) (by exact fun _ _ _ h => h) (by rfl) (by assumption) ?_
                    try simp only [Act.put, List.setIfInBounds_toArray, List.set_cons_zero, List.set_cons_succ]
                    refine takeV 14 rfl (by intro w h; clear h; go_simp; try with_reducible rfl) (by kernel_rfl) (by kernel_rfl) (by kernel_rfl) (by exact fun _ _ _ h => h) (by rfl) (by assumption) ?_
                    try simp only [Act.put, List.setIfInBounds_toArray, List.set_cons_zero, List.set_cons_succ]
                    refine takeV 15 rfl (by intro w h; clear h; go_simp; try with_reducible rfl) (by kernel_rfl) (by kernel_rfl) (by kernel_rfl) (by exact fun _ _ _ h => h) (by rfl) (by assumption) ?_
                    try simp only [Act.put, List.setIfInBounds_toArray, List.set_cons_zero, List.set_cons_succ]
                    refine takeV 16 rfl (by intro w h; clear h; go_simp; try with_reducible rfl) (by kernel_rfl) (by kernel_rfl) (by kernel_rfl) (by exact fun _ _ _ h => h) (by rfl) (by assumption) ?_
                    try simp only [Act.put, List.setIfInBounds_toArray, List.set_cons_zero, List.set_cons_succ]
                    refine takeV 17 rfl (by intro w h; have hc := h.2.2.1; clear h; go_simp; try with_reducible rfl) (by kernel_rfl) (by kernel_rfl) (by kernel_rfl) (by exact fun _ _ _ h => h) (by rfl) (by assumption) ?_
                    try simp only [Act.put, List.setIfInBounds_toArray, List.set_cons_zero, List.set_cons_succ]
                    refine takeV 18 rfl (by intro w h; clear h; go_simp; try with_reducible rfl) (by kernel_rfl) (by kernel_rfl) (by kernel_rfl) (by exact fun _ _ _ h => h) (by rfl) (by assumption) ?_
                    try simp only [Act.put, List.setIfInBounds_toArray, List.set_cons_zero, List.set_cons_succ]
                    refine takeV 19 rfl (by intro w h; clear h; go_simp; try with_reducible rfl) (by kernel_rfl) (by kernel_rfl) (by kernel_rfl) (by exact fun _ _ _ h => h) (by rfl) (by assumption) ?_
                    try simp only [Act.put, List.setIfInBounds_toArray, List.set_cons_zero, List.set_cons_succ]
                    refine takeV 20 rfl (by intro w h; clear h; go_simp; try with_reducible rfl) (by kernel_rfl) (by kernel_rfl) (by kernel_rfl) (by exact fun _ _ _ h => h) (by rfl) (by assumption) ?_
                    try simp only [Act.put, List.setIfInBounds_toArray, List.set_cons_zero, List.set_cons_succ]
                    refine takeV 21 rfl (by intro w h; clear h; go_simp; try with_reducible rfl) (by kernel_rfl) (by kernel_rfl) (by kernel_rfl) (by exact fun _ _ _ h => h) (by rfl) (by assumption) ?_
                    try simp only [Act.put, List.setIfInBounds_toArray, List.set_cons_zero, List.set_cons_succ]
                    refine takeV 22 rfl (by intro w h; clear h; go_simp; try with_reducible rfl) (by kernel_rfl) (by kernel_rfl) (by kernel_rfl) (by exact fun _ _ _ h => h) (by rfl) (by assumption) ?_
                    try simp only [Act.put, List.setIfInBounds_toArray, List.set_cons_zero, List.set_cons_succ]
                    refine takeV 23 rfl (by intro w h; clear h; go_simp; try with_reducible rfl) (by kernel_rfl) (by kernel_rfl) (by kernel_rfl) (by exact fun _ _ _ h => h) (by rfl) (by assumption) ?_
                    try simp only [Act.put, List.setIfInBounds_toArray, List.set_cons_zero, List.set_cons_succ]
                    refine takeV 24 rfl (by intro w h; have hc := h.2.2.1; clear h; go_simp; try with_reducible rfl) (by kernel_rfl) (by kernel_rfl) (by kernel_rfl) (by exact fun _ _ _ h => h) (by rfl) (by assumption) ?_
                    try simp only [Act.put, List.setIfInBounds_toArray, List.set_cons_zero, List.set_cons_succ]
                    refine takeV 25 rfl (by intro w h; clear h; go_simp; try with_reducible rfl) (by kernel_rfl) (by kernel_rfl) (by kernel_rfl) (by exact fun _ _ _ h => h) (by rfl) (by assumption) ?_
                    try simp only [Act.put, List.setIfInBounds_toArray, List.set_cons_zero, List.set_cons_succ]
                    refine takeV 26 rfl (by intro w h; clear h; go_simp; try with_reducible rfl) (by kernel_rfl) (by kernel_rfl) (by kernel_rfl) (by exact fun _ _ _ h => h) (by rfl) (by assumption) ?_
                    try simp only [Act.put, List.setIfInBounds_toArray, List.set_cons_zero, List.set_cons_succ]
                    refine takeV 27 rfl (by intro w h; have hc := h.2.2.2; clear h; go_simp; try with_reducible rfl) (by kernel_rfl) (by kernel_rfl) (by kernel_rfl) (by exact fun _ _ _ h => h) (by rfl) (by assumption) ?_
                    try simp only [Act.put, List.setIfInBounds_toArray, List.set_cons_zero, List.set_cons_succ]
                    refine takeV 28 rfl (by intro w h; clear h; go_simp; try with_reducible rfl) (by kernel_rfl) (by kernel_rfl) (by kernel_rfl) (by exact fun _ _ _ h => h) (by rfl) (by assumption) ?_
                    try simp only [Act.put, List.setIfInBounds_toArray, List.set_cons_zero, List.set_cons_succ]
                    refine takeV 29 rfl (by intro w h; clear h; go_simp; try with_reducible rfl) (by kernel_rfl) (by kernel_rfl) (by kernel_rfl) (by exact fun _ _ _ h => h) (by rfl) (by assumption) ?_
                    try simp only [Act.put, List.setIfInBounds_toArray, List.set_cons_zero, List.set_cons_succ]
                    refine takeV 30 rfl (by intro w h; clear h; go_simp; try with_reducible rfl) (by kernel_rfl) (by kernel_rfl) (by kernel_rfl) (by exact fun _ _ _ h => h) (by rfl) (by assumption) ?_
                    try simp only [Act.put, List.setIfInBounds_toArray, List.set_cons_zero, List.set_cons_succ]
                    refine takeV 31 rfl (by intro w h; have hc := h.1; clear h; go_simp; try with_reducible rfl) (by kernel_rfl) (by kernel_rfl) (by kernel_rfl) (by exact fun _ _ _ h => h) (by rfl) (by assumption) ?_
                    try simp only [Act.put, List.setIfInBounds_toArray, List.set_cons_zero, List.set_cons_succ]
                    refine takeV 32 rfl (by intro w h; clear h; go_simp; try with_reducible rfl) (by kernel_rfl) (by kernel_rfl) (by kernel_rfl) (by exact fun _ _ _ h => h) (by rfl) (by assumption) ?_
                    try simp only [Act.put, List.setIfInBounds_toArray, List.set_cons_zero, List.set_cons_succ]
                    refine takeV 33 rfl (by intro w h; clear h; go_simp; try with_reducible rfl) (by kernel_rfl) (by kernel_rfl) (by kernel_rfl) (by exact fun _ _ _ h => h) (by rfl) (by assumption) ?_
                    try simp only [Act.put, List.setIfInBounds_toArray, List.set_cons_zero, List.set_cons_succ]
                    refine takeV 34 rfl (by intro w h; have hc := h.2.1; clear h; go_simp; try with_reducible rfl) (by kernel_rfl) (by kernel_rfl) (by kernel_rfl) (by exact fun _ _ _ h => h) (by rfl) (by assumption) ?_
                    try simp only [Act.put, List.setIfInBounds_toArray, List.set_cons_zero, List.set_cons_succ]
                    refine takeV 35 rfl (by intro w h; clear h; go_simp; try with_reducible rfl) (by kernel_rfl) (by kernel_rfl) (by kernel_rfl) (by exact fun _ _ _ h => h) (by rfl) (by assumption) ?_
                    try simp only [Act.put, List.setIfInBounds_toArray, List.set_cons_zero, List.set_cons_succ]
                    refine takeV 36 rfl (by intro w h; clear h; go_simp; try with_reducible rfl) (by kernel_rfl) (by kernel_rfl) (by kernel_rfl) (by exact fun _ _ _ h => h) (by rfl) (by assumption) ?_
                    try simp only [Act.put, List.setIfInBounds_toArray, List.set_cons_zero, List.set_cons_succ]
                    refine takeV 37 rfl (by intro w h; clear h; go_simp; try with_reducible rfl) (by kernel_rfl) (by kernel_rfl) (by kernel_rfl) (by exact fun _ _ _ h => h) (by rfl) (by assumption) ?_
                    try simp only [Act.put, List.setIfInBounds_toArray, List.set_cons_zero, List.set_cons_succ]
                    refine wpAnyH_done (by kernel_rfl) ?_ _
                    clear hHeld
                    clear c1 c3 r1 r2
                    go_wp2
                    go_roundw
                    case rel => exact ⟨t + 1, by omega, by go_num, H2⟩
                    case measure => simp [intOf]; omega
                  · have hln1 : ¬ (t : Int) < n1 := by omega
                    clear H
                    replace c1 := drew_cellT c1
                    replace c3 := drew_cellT c3
                    replace r1 := drew_cellT r1
                    refine wp_region_held_drew (S := fun w' : World => w'.cell? ⟨gG, 1, none⟩ = some (.slice (some ⟨gk, 0, none⟩) (n1 + 6) ck) ∧ w'.cell? ⟨gk, t, none⟩ = some (.string (mkS 11 t)) ∧ w'.cell? ⟨gL, 1, none⟩ = some (.slice A n1 c)) (by kernel_rfl) ?_ (fun hHeld => ?_)
                    · exact ⟨c1, r1, c3⟩
                    refine takeV 0 rfl (by intro w h; clear h; go_simp; try with_reducible rfl) (by kernel_rfl) (by kernel_rfl) (by kernel_rfl) (by exact fun _ _ _ h => h) (by rfl) (by assumption) ?_
                    try simp only [Act.put, List.setIfInBounds_toArray, List.set_cons_zero, List.set_cons_succ]
                    refine takeV 1 rfl (by intro w h; clear h; go_simp; try with_reducible rfl) (by kernel_rfl) (by kernel_rfl) (by kernel_rfl) (by exact fun _ _ _ h => h) (by rfl) (by assumption) ?_
                    try simp only [Act.put, List.setIfInBounds_toArray, List.set_cons_zero, List.set_cons_succ]
                    refine takeV 2 rfl (by intro w h; clear h; go_simp; try with_reducible rfl) (by kernel_rfl) (by kernel_rfl) (by kernel_rfl) (by exact fun _ _ _ h => h) (by rfl) (by assumption) ?_
                    try simp only [Act.put, List.setIfInBounds_toArray, List.set_cons_zero, List.set_cons_succ]
                    refine takeV 3 rfl (by intro w h; have hc := h.1; clear h; go_simp; try with_reducible rfl) (by kernel_rfl) (by kernel_rfl) (by kernel_rfl) (by exact fun _ _ _ h => h) (by rfl) (by assumption) ?_
                    try simp only [Act.put, List.setIfInBounds_toArray, List.set_cons_zero, List.set_cons_succ]
                    refine takeV 4 rfl (by intro w h; clear h; go_simp; try with_reducible rfl) (by kernel_rfl) (by kernel_rfl) (by kernel_rfl) (by exact fun _ _ _ h => h) (by rfl) (by assumption) ?_
                    try simp only [Act.put, List.setIfInBounds_toArray, List.set_cons_zero, List.set_cons_succ]
                    refine takeV 5 rfl (by intro w h; clear h; go_simp; try with_reducible rfl) (by kernel_rfl) (by kernel_rfl) (by kernel_rfl) (by exact fun _ _ _ h => h) (by rfl) (by assumption) ?_
                    try simp only [Act.put, List.setIfInBounds_toArray, List.set_cons_zero, List.set_cons_succ]
                    refine takeV 6 rfl (by intro w h; have hc := h.2.1; clear h; go_simp; try with_reducible rfl) (by kernel_rfl) (by kernel_rfl) (by kernel_rfl) (by exact fun _ _ _ h => h) (by rfl) (by assumption) ?_
                    try simp only [Act.put, List.setIfInBounds_toArray, List.set_cons_zero, List.set_cons_succ]
                    refine takeV 7 rfl (by intro w h; clear h; go_simp; try with_reducible rfl) (by kernel_rfl) (by kernel_rfl) (by kernel_rfl) (by exact fun _ _ _ h => h) (by rfl) (by assumption) ?_
                    try simp only [Act.put, List.setIfInBounds_toArray, List.set_cons_zero, List.set_cons_succ]
                    refine takeV 8 rfl (by intro w h; clear h; go_simp; try with_reducible rfl) (by kernel_rfl) (by kernel_rfl) (by kernel_rfl) (by exact fun _ _ _ h => h) (by rfl) (by assumption) ?_
                    try simp only [Act.put, List.setIfInBounds_toArray, List.set_cons_zero, List.set_cons_succ]
                    refine takeV 9 rfl (by intro w h; clear h; go_simp; try with_reducible rfl) (by kernel_rfl) (by kernel_rfl) (by kernel_rfl) (by exact fun _ _ _ h => h) (by rfl) (by assumption) ?_
                    try simp only [Act.put, List.setIfInBounds_toArray, List.set_cons_zero, List.set_cons_succ]
                    refine take_call 10 rfl (by kernel_rfl) (fun K hK => ?_)
                    try go_simp
                    refine (markT_h 11 t _ (by omega) (by omega) rfl rfl).mono ?_
                    rintro e w2 ⟨rfl, hb2⟩
                    have H2 := H1.call hb2
                    replace c1 := below_someT hb2 c1
                    replace c3 := below_someT hb2 c3
                    replace r1 := below_someT hb2 r1
                    refine hK.out _ _ ?_ (fun hHeld => ?_)
                    · exact ⟨c1, r1, c3⟩
                    clear hK K
                    try simp only [Act.put, List.setIfInBounds_toArray, List.set_cons_zero, List.set_cons_succ]
                    refine takeV 11 rfl (by intro w h; clear h; go_simp; try with_reducible rfl) (by kernel_rfl) (by kernel_rfl) (by kernel_rfl) (by exact fun _ _ _ h => h) (by rfl) (by assumption) ?_
                    try simp only [Act.put, List.setIfInBounds_toArray, List.set_cons_zero, List.set_cons_succ]
                    refine takeV 12 rfl (by intro w h; clear h; go_simp; try with_reducible rfl) (by kernel_rfl) (by kernel_rfl) (by kernel_rfl) (by exact fun _ _ _ h => h) (by rfl) (by assumption) ?_
                    try simp only [Act.put, List.setIfInBounds_toArray, List.set_cons_zero, List.set_cons_succ]
                    refine takeV 13 rfl (by intro w h; clear h; go_simp; try with_reducible rfl) (by kernel_rfl) (by kernel_rfl) (by kernel_rfl) (by exact fun _ _ _ h => h) (by rfl) (by assumption) ?_
                    try simp only [Act.put, List.setIfInBounds_toArray, List.set_cons_zero, List.set_cons_succ]
                    refine takeV 14 rfl (by intro w h; clear h; go_simp; try with_reducible rfl) (by kernel_rfl) (by kernel_rfl) (by kernel_rfl) (by exact fun _ _ _ h => h) (by rfl) (by assumption) ?_
                    try simp only [Act.put, List.setIfInBounds_toArray, List.set_cons_zero, List.set_cons_succ]
                    refine takeV 15 rfl (by intro w h; clear h; go_simp; try with_reducible rfl) (by kernel_rfl) (by kernel_rfl) (by kernel_rfl) (by exact fun _ _ _ h => h) (by rfl) (by assumption) ?_
                    try simp only [Act.put, List.setIfInBounds_toArray, List.set_cons_zero, List.set_cons_succ]
                    refine takeV 16 rfl (by intro w h; clear h; go_simp; try with_reducible rfl) (by kernel_rfl) (by kernel_rfl) (by kernel_rfl) (by exact fun _ _ _ h => h) (by rfl) (by assumption) ?_
                    try simp only [Act.put, List.setIfInBounds_toArray, List.set_cons_zero, List.set_cons_succ]
                    refine takeV 17 rfl (by intro w h; have hc := h.2.2; clear h; go_simp; try with_reducible rfl) (by kernel_rfl) (by kernel_rfl) (by kernel_rfl) (by exact fun _ _ _ h => h) (by rfl) (by assumption) ?_
                    try simp only [Act.put, List.setIfInBounds_toArray, List.set_cons_zero, List.set_cons_succ]
                    refine takeV 18 rfl (by intro w h; clear h; go_simp; try with_reducible rfl) (by kernel_rfl) (by kernel_rfl) (by kernel_rfl) (by exact fun _ _ _ h => h) (by rfl) (by assumption) ?_
                    try simp only [Act.put, List.setIfInBounds_toArray, List.set_cons_zero, List.set_cons_succ]
                    refine takeV 19 rfl (by intro w h; clear h; go_simp; try with_reducible rfl) (by kernel_rfl) (by kernel_rfl) (by kernel_rfl) (by exact fun _ _ _ h => h) (by rfl) (by assumption) ?_
                    try simp only [Act.put, List.setIfInBounds_toArray, List.set_cons_zero, List.set_cons_succ]
                    refine takeV 20 rfl (by intro w h; clear h; go_simp; try with_reducible rfl) (by kernel_rfl) (by kernel_rfl) (by kernel_rfl) (by exact fun _ _ _ h => h) (by rfl) (by assumption) ?_
                    try simp only [Act.put, List.setIfInBounds_toArray, List.set_cons_zero, List.set_cons_succ]
                    refine takeSkip 21 rfl (by kernel_rfl) (by kernel_rfl) (by kernel_rfl) (fun _ _ _ h => h) rfl (by assumption) ?_
                    try simp only [Act.put, List.setIfInBounds_toArray, List.set_cons_zero, List.set_cons_succ]
                    refine takeSkip 22 rfl (by kernel_rfl) (by kernel_rfl) (by kernel_rfl) (fun _ _ _ h => h) rfl (by assumption) ?_
                    try simp only [Act.put, List.setIfInBounds_toArray, List.set_cons_zero, List.set_cons_succ]
                    refine takeSkip 23 rfl (by kernel_rfl) (by kernel_rfl) (by kernel_rfl) (fun _ _ _ h => h) rfl (by assumption) ?_
                    try simp only [Act.put, List.setIfInBounds_toArray, List.set_cons_zero, List.set_cons_succ]
                    refine takeSkip 24 rfl (by kernel_rfl) (by kernel_rfl) (by kernel_rfl) (fun _ _ _ h => h) rfl (by assumption) ?_
                    try simp only [Act.put, List.setIfInBounds_toArray, List.set_cons_zero, List.set_cons_succ]
                    refine takeSkip 25 rfl (by kernel_rfl) (by kernel_rfl) (by kernel_rfl) (fun _ _ _ h => h) rfl (by assumption) ?_
                    try simp only [Act.put, List.setIfInBounds_toArray, List.set_cons_zero, List.set_cons_succ]
                    refine takeSkip 26 rfl (by kernel_rfl) (by kernel_rfl) (by kernel_rfl) (fun _ _ _ h => h) rfl (by assumption) ?_
                    try simp only [Act.put, List.setIfInBounds_toArray, List.set_cons_zero, List.set_cons_succ]
                    refine takeSkip 27 rfl (by kernel_rfl) (by kernel_rfl) (by kernel_rfl) (fun _ _ _ h => h) rfl (by assumption) ?_
                    try simp only [Act.put, List.setIfInBounds_toArray, List.set_cons_zero, List.set_cons_succ]
                    refine takeSkip 28 rfl (by kernel_rfl) (by kernel_rfl) (by kernel_rfl) (fun _ _ _ h => h) rfl (by assumption) ?_
                    try simp only [Act.put, List.setIfInBounds_toArray, List.set_cons_zero, List.set_cons_succ]
                    refine takeSkip 29 rfl (by kernel_rfl) (by kernel_rfl) (by kernel_rfl) (fun _ _ _ h => h) rfl (by assumption) ?_
                    try simp only [Act.put, List.setIfInBounds_toArray, List.set_cons_zero, List.set_cons_succ]
                    refine takeSkip 30 rfl (by kernel_rfl) (by kernel_rfl) (by kernel_rfl) (fun _ _ _ h => h) rfl (by assumption) ?_
                    try simp only [Act.put, List.setIfInBounds_toArray, List.set_cons_zero, List.set_cons_succ]
                    refine takeSkip 31 rfl (by kernel_rfl) (by kernel_rfl) (by kernel_rfl) (fun _ _ _ h => h) rfl (by assumption) ?_
                    try simp only [Act.put, List.setIfInBounds_toArray, List.set_cons_zero, List.set_cons_succ]
                    refine takeSkip 32 rfl (by kernel_rfl) (by kernel_rfl) (by kernel_rfl) (fun _ _ _ h => h) rfl (by assumption) ?_
                    try simp only [Act.put, List.setIfInBounds_toArray, List.set_cons_zero, List.set_cons_succ]
                    refine takeSkip 33 rfl (by kernel_rfl) (by kernel_rfl) (by kernel_rfl) (fun _ _ _ h => h) rfl (by assumption) ?_
                    try simp only [Act.put, List.setIfInBounds_toArray, List.set_cons_zero, List.set_cons_succ]
                    refine takeSkip 34 rfl (by kernel_rfl) (by kernel_rfl) (by kernel_rfl) (fun _ _ _ h => h) rfl (by assumption) ?_
                    try simp only [Act.put, List.setIfInBounds_toArray, List.set_cons_zero, List.set_cons_succ]
                    refine takeSkip 35 rfl (by kernel_rfl) (by kernel_rfl) (by kernel_rfl) (fun _ _ _ h => h) rfl (by assumption) ?_
                    try simp only [Act.put, List.setIfInBounds_toArray, List.set_cons_zero, List.set_cons_succ]
                    refine takeV 36 rfl (by intro w h; clear h; go_simp; try with_reducible rfl) (by kernel_rfl) (by kernel_rfl) (by kernel_rfl) (by exact fun _ _ _ h => h) (by rfl) (by assumption) ?_
                    try simp only [Act.put, List.setIfInBounds_toArray, List.set_cons_zero, List.set_cons_succ]
                    refine takeV 37 rfl (by intro w h; clear h; go_simp; try with_reducible rfl) (by kernel_rfl) (by kernel_rfl) (by kernel_rfl) (by exact fun _ _ _ h => h) (by rfl) (by assumption) ?_
                    try simp only [Act.put, List.setIfInBounds_toArray, List.set_cons_zero, List.set_cons_succ]
                    refine wpAnyH_done (by kernel_rfl) ?_ _
                    clear hHeld
                    clear c1 c3 r1
                    go_wp2
                    go_roundw
                    case rel => exact ⟨t + 1, by omega, by go_num, H2⟩
                    case measure => simp [intOf]; omega
                · have ht1 : ¬ (t : Int) < n1 + 6 := by omega
                  go_wp2
                  go_roundw
                  case rel => first | exact ⟨2, by omega, rfl, H⟩ | exact ⟨2, by omega, rfl⟩
                  case measure => simp [intOf]
            · go_wp2
              go_ret
              exact ⟨rfl, H.below⟩
end Go.Proofs.Ytgfhnbjpdhdhgaa

namespace Go.Proofs.Ytgfhnbjpdhdhgaa
open Go.RowKit
set_option linter.unusedVariables false
set_option maxRecDepth 100000

theorem zeroCells_one (z : Value) (k : Nat) : (Builtin.zeroCells #[z] k).toList = List.replicate k z := by
  refine List.ext_getElem? fun i => ?_
  simp [Builtin.zeroCells, List.getElem?_replicate]
  by_cases h : i < k
  · simp [h, Nat.mod_one]
  · simp [h]
theorem run_append_zerosT {P : Program} (w : World) (base : Nat) (t tn ty e : TypeId) (i : TypeInfo) (z : Value) (kn : IntKind) (ht : P.underlying t = some (.slice e)) (htn : P.underlying tn = some (.int kn)) (hi : P.info? e = some i) (hz : i.zero = some z)
    (hsize : i.size = 1) (hby : i.bytes = 1) (hzs : z.cells = #[z]) (hz1 : z.oneCell' = true)
    (v : Value) (n : Nat) (xs : List Value) (hown : w.ownsRow base e 1 v n xs) (k : Nat) (hk : n + k ≤ 140737488355328) (hbase : base ≤ w.heap.size) :
    ∃ v' w', (Builtin.append_ #[t, tn] ty #[v, .int .i64 (k : Int)]).run P w = .ok v' w' ∧ w'.ownsRow base e 1 v' (n + k) (xs ++ List.replicate k z) ∧ w.grownBy w' v.ownBlock ∧ (v'.ownBlock = v.ownBlock ∨ v'.ownBlock = some w.heap.size) := by
  have hw : IntKind.i64.wrap (k : Int) = k := by rw [IntKind.wrap_i64]; omega
  have hneg : ¬ ((k : Int) < 0) := by omega
  have h48i : ¬ (281474976710656 < (k : Int)) := by omega
  have hlen : (xs ++ List.replicate k z).length = (n + k) * 1 := by rw [List.length_append, hown.1, List.length_replicate]; omega
  have hzl : (Builtin.zeroCells z.cells k).size = k := by rw [hzs]; simp [Builtin.zeroCells]
  have grown : ∀ (old : Nat) (pre : Array Value), pre.toList = xs →
      (w.drew.alloc (.cells (pre ++ Builtin.zeroCells z.cells k ++ Builtin.zeroCells z.cells (grownCap w (n + k) old e - (n + k))) e)).ownsRow base e 1
        (.slice (some ⟨w.heap.size, 0, none⟩) (n + k) (grownCap w (n + k) old e)) (n + k) (xs ++ List.replicate k z) := by
    intro old pre hpre
    have hge := grownCap_ge w (n + k) old e
    have hcm : grownCap w (n + k) old e ≤ maxLen := grownCap_le_maxLen w (n + k) old e (by simp only [maxLen]; omega)
    have hps : pre.size = n := by rw [← Array.length_toList, hpre]; have := hown.1; omega
    refine ⟨hlen, .inr ⟨w.heap.size, _, _, rfl, hbase, heap_alloc_new w.drew _, hge, hcm, ?_, ?_⟩⟩
    · simp only [Array.size_append, hps, hzl]
      rw [hzs]
      simp [Builtin.zeroCells]
      try omega
    · simp only [Array.toList_append]
      rw [hpre, hzs, zeroCells_one, ← hlen]
      exact List.take_left
  have hbel : ∀ o, w.grownBy (w.drew.alloc o) v.ownBlock := fun o => by
    have hb : Below w.heap.size w (w.drew.alloc o) := (Below.refl _ _).drew.alloc (Nat.le_refl _) _
    exact ⟨hb.os, hb.tape, hb.output, hb.size, fun k hk _ => hb.block k hk⟩
  rcases hown.2 with ⟨rfl, rfl⟩ | ⟨g, cap, cur, rfl, hbg, hg, hnc, hcm, hcs, htake⟩
  · have hx : xs = [] := List.eq_nil_of_length_eq_zero (by simpa using hown.1)
    subst hx
    rcases Nat.eq_zero_or_pos k with h0 | h0
    · subst h0
      refine ⟨.slice none 0 0, w, ?_, by simpa using hown, World.grownBy.refl w _, .inl rfl⟩
      simp [Builtin.append_, run_underlying ht, run_underlying htn, sizeOf, typeInfo, hi, asInt, asIntOf, show IntKind.i64.wrap 0 = 0 from rfl]
    · have hr := Go.Lib.run_append_nil_zeros (P := P) w t tn ty e i z .i64 kn ht htn hi hz k h0 (by omega) (by omega) (by rw [hby]; omega)
      have hgr := grown 0 #[] rfl
      simp only [Nat.zero_add, Array.empty_append] at hgr
      refine ⟨_, _, hr, ?_, hbel _, .inr rfl⟩
      simpa using hgr
  · by_cases hroom : n + k ≤ cap
    · rcases Nat.eq_zero_or_pos k with h0 | h0
      · subst h0
        refine ⟨.slice (some ⟨g, 0, none⟩) n cap, w, ?_, by simpa using hown, World.grownBy.refl w _, .inl rfl⟩
        simp [Builtin.append_, run_underlying ht, run_underlying htn, sizeOf, typeInfo, hi, asInt, asIntOf, show IntKind.i64.wrap 0 = 0 from rfl, hnc, storeCells]
      · have hst := run_storeCells_at P g (n * 1) e (List.replicate k z) 0 cur w hg (by simp; omega) (by intro u hu; rw [List.eq_of_mem_replicate hu]; exact hz1)
        simp only [Nat.add_zero, Nat.mul_one] at hst
        have hns : ¬ (k = 0) := by omega
        have hzt : (Builtin.zeroCells z.cells k).toList = List.replicate k z := by rw [hzs]; exact zeroCells_one z k
        have hrun : (Builtin.append_ #[t, tn] ty #[.slice (some ⟨g, 0, none⟩) n cap, .int .i64 (k : Int)]).run P w = .ok (.slice (some ⟨g, 0, none⟩) (n + k) cap) (w.setRow g (cur.toList.take n ++ List.replicate k z ++ cur.toList.drop (n + (List.replicate k z).length)).toArray) := by
          simp [Builtin.append_, run_underlying ht, run_underlying htn, sizeOf, typeInfo, zeroValue, hi, hz, hsize, hby, asInt, asIntOf, hw, hneg, h48i, hns, hroom, hzt, Addr.add_lit]
          have h9 := hst
          simp at h9 ⊢
          rw [h9]
          rfl
        refine ⟨_, _, hrun, ⟨hlen, .inr ⟨g, cap, _, rfl, hbg, setRow_heap w g cur _ e _ hg, hroom, hcm, ?_, ?_⟩⟩, ⟨rfl, rfl, rfl, by simp, fun k _ hk => setRow_other w g k _ (fun e => hk (by simp [Value.ownBlock, e]))⟩, .inl rfl⟩
        · simp only [List.size_toArray, List.length_append, List.length_take, List.length_drop, Array.length_toList, List.length_replicate]
          omega
        · rw [← hlen]
          have : cur.toList.take n = xs := by rw [← htake, Nat.mul_one]
          rw [this]
          exact List.take_left
    · have hx1 : cur.toList.take (n * 1) = xs := htake
      have hold := run_firstCells_some (P := P) w.drew i.size n ⟨g, 0, none⟩ n cap xs (by rw [hsize]; exact hown.1) (by simpa using hown.cells (g := g) rfl)
      have h0 : 0 < k := by omega
      have hr := Go.Lib.run_append_grow_zeros (P := P) w t tn ty e i z .i64 kn ht htn hi hz (some ⟨g, 0, none⟩) n cap xs hold k h0 (by omega) (by omega) (by omega) (by rw [hby]; omega) (growslice_fits (by omega) (by rw [hby]; omega))
      exact ⟨_, _, hr, grown cap xs.toArray (by simp), hbel _, .inr rfl⟩

theorem uses_le5 (k : UInt8) : (usesOf k).length ≤ 5 := by
  unfold usesOf
  repeat' split
  all_goals simp

attribute [local irreducible] onW

set_option maxHeartbeats 8000000 in
theorem opNames_walk (w : World) : Calls Try.prog 11 #[] w fun e w' => e = .returned (.bool true) ∧ Below w.heap.size w w' := by
  have H0 := St.start_lay w []
  go_enter Try.func11, Try.ntmps11
  go_wp2_with fail
  refine absorb_calls (H0.lit 0 rfl 5 #[.int .u8 7, .int .u8 8] 2 rfl (by omega) w.heap.size rfl |>.push_mk rfl |>.allocAt 1 rfl (w.heap.size + 1) (by simp) #[.int .u8 1, .int .i64 (-1), .int .u8 0, .int .i64 0, .int .i64 0, .slice (some ⟨w.heap.size, 0, none⟩) 2 2, .slice none 0 0] 31 |>.push_mk rfl) ?_
  clear H0
  intro w1 H
  generalize w.heap.size + 1 = gp at H ⊢
  generalize w.heap.size = g0 at H ⊢
  replace H : St w [] w1 (lay [.row 5 1 (.slice (some ⟨g0, 0, none⟩) 2 2) 2 (([7, 8] : List UInt8).map vb), .blk gp 31 [.int .u8 1, .int .i64 (-1), .int .u8 0, .int .i64 0, .int .i64 0, .slice (some ⟨g0, 0, none⟩) 2 2, .slice none 0 0]]) := H
  refine (encode_put (some ⟨g0, 0, none⟩) 2 w1 (H.rd 0 rfl)).mono ?_
  rintro e w2 ⟨vb_, rfl, ho, hb⟩
  replace H := (H.pushOwnB 2 rfl ho hb).push_mk rfl
  replace H := H.shape_row 2 rfl on_len rfl
  clear ho hb
  obtain ⟨AB, cb, rfl, hcb, hAB⟩ := row_form (H.row 2 rfl)
  obtain ⟨gb, rfl, -⟩ := hAB (by omega)
  clear hAB
  replace H : St w [] w2 (lay [.row 5 1 (.slice (some ⟨g0, 0, none⟩) 2 2) 2 (([7, 8] : List UInt8).map vb), .blk gp 31 [.int .u8 1, .int .i64 (-1), .int .u8 0, .int .i64 0, .int .i64 0, .slice (some ⟨g0, 0, none⟩) 2 2, .slice none 0 0], .row 5 1 (.slice (some ⟨gb, 0, none⟩) 34 cb) 34 (onW.map vb)]) := H
  go_wp2_with (at_builtin; refine hold_here ?_)
  refine Held.go ?_
  refine absorb_list (H.lit 3 rfl 5 #[.int .u8 1, .int .u8 0, .int .u8 255, .int .u8 255, .int .u8 255, .int .u8 255, .int .u8 255, .int .u8 255, .int .u8 255, .int .u8 255] 10 rfl (by omega) w2.heap.size rfl |>.push_mk rfl) ?_
  clear H
  intro w3 H
  generalize w2.heap.size = g3 at H ⊢
  obtain ⟨i0, hi0, hz0, hz1, hz2⟩ := info_parts u8_info
  obtain ⟨v4, w4, hr4, ho4, hg4, ha4⟩ := run_append_zerosT (P := Try.prog) w3 0 25 3 25 5 i0 (.int .u8 0) .i64 Try.underlying25 Try.underlying3 hi0 hz0 hz1 hz2 rfl rfl (.slice (some ⟨g3, 0, none⟩) 10 10) 10 _ (H.row 3 rfl) 16 (by omega) (Nat.zero_le _)
  refine Go.Lib.wpList_append_run w3 rfl (.tmp 30) (.const (.int .i64 16)) 25 3 rfl (.slice (some ⟨g3, 0, none⟩) 10 10) (.int .i64 ((16 : Nat) : Int)) rfl rfl v4 w4 hr4 ?_
  replace H := (H.grow 3 rfl ho4 hg4 ha4).upd_mk (by simp)
  clear hr4 ho4 hg4 ha4
  obtain ⟨A4, c4, rfl, -, -⟩ := row_form (H.row 3 rfl)
  simp only [Act.put]
  go_wp2_with (at_builtin; refine hold_here ?_)
  refine Held.go ?_
  refine absorb_list (H.allocAt 4 rfl w4.heap.size rfl #[.int .u8 0, .int .u8 0, .int .u8 2, .int .u8 0, .int .u8 0, .int .u8 0, .int .u8 7, .int .u8 8] 5 |>.push_mk rfl) ?_
  clear H
  intro w5 H
  generalize w4.heap.size = g4 at H ⊢
  refine wpList_append_any _ rfl (.tmp 32) (.tmp 33) _ rfl 0 5 i0 _ 1 1 Try.underlying25 hi0 hz0 hz1 hz2 rfl (by omega) (.slice A4 (10 + 16) c4) (10 + 16) _ rfl (H.row 3 rfl) (some ⟨g4, 0, none⟩) 8 8 _ rfl (H.rdBlkT 4 rfl 1 8 rfl) (by simp [Value.oneCell']) (by simp only [maxLen]; omega) (by omega) (by omega) ?_
  intro v6 w6 hown6 hg6 hat6
  replace H := ((H.grow 3 rfl hown6 hg6 hat6).upd_mk (by simp)).front 4
  clear hown6 hg6 hat6 hi0 hz0 hz1 hz2
  replace H := H.shape_row 3 rfl (n' := 34) (xs' := onW.map vb) rfl on_lit
  replace H : St w [] w6 (lay [.row 5 1 (.slice (some ⟨g0, 0, none⟩) 2 2) 2 (([7, 8] : List UInt8).map vb), .blk gp 31 [.int .u8 1, .int .i64 (-1), .int .u8 0, .int .i64 0, .int .i64 0, .slice (some ⟨g0, 0, none⟩) 2 2, .slice none 0 0], .row 5 1 (.slice (some ⟨gb, 0, none⟩) 34 cb) 34 (onW.map vb), .row 5 1 v6 34 (onW.map vb)]) := H
  obtain ⟨A6, c6, rfl, -, -⟩ := row_form (H.row 3 rfl)
  go_wp2_with fail
  refine (sameBytes_yes (some ⟨gb, 0, none⟩) A6 34 34 cb c6 onW onW _ (H.rd 2 rfl) (H.rd 3 rfl) (by omega) (by omega) rfl).mono ?_
  rintro e w7 ⟨rfl, hb7⟩
  replace H := (H.call hb7).front 3
  clear hb7
  replace H : St w [] w7 (lay [.row 5 1 (.slice (some ⟨g0, 0, none⟩) 2 2) 2 (([7, 8] : List UInt8).map vb), .blk gp 31 [.int .u8 1, .int .i64 (-1), .int .u8 0, .int .i64 0, .int .i64 0, .slice (some ⟨g0, 0, none⟩) 2 2, .slice none 0 0], .row 5 1 (.slice (some ⟨gb, 0, none⟩) 34 cb) 34 (onW.map vb)]) := H
  have b33 : (33 : Int) ≤ cb := by omega
  have b34 : 34 ≤ cb := hcb
  go_wp2_with fail
  refine (decode_is (some ⟨gb, 0, none⟩) 34 cb _ _ (H.rd 2 rfl) (by omega) (by omega) on_dec).mono ?_
  rintro e w8 ⟨A5, c5, B5, d5, rfl, HN⟩
  replace H := H.also HN
  clear HN
  replace H : St w [] w8 (lay [.row 5 1 (.slice (some ⟨g0, 0, none⟩) 2 2) 2 (([7, 8] : List UInt8).map vb), .blk gp 31 [.int .u8 1, .int .i64 (-1), .int .u8 0, .int .i64 0, .int .i64 0, .slice (some ⟨g0, 0, none⟩) 2 2, .slice none 0 0], .row 5 1 (.slice (some ⟨gb, 0, none⟩) 34 cb) 34 (onW.map vb), .row 5 1 (.slice A5 2 c5) 2 (([7, 8] : List UInt8).map vb), .row 5 1 (.slice B5 0 d5) 0 (([] : List UInt8).map vb)]) := H
  go_wp2_with fail
  refine absorb_calls (H.allocAt 5 rfl w8.heap.size rfl #[.int .u8 1, .int .i64 (-1), .int .u8 0, .int .i64 0, .int .i64 0, .slice A5 2 c5, .slice B5 0 d5] 31 |>.push_mk rfl) ?_
  clear H
  intro w9 H
  generalize w8.heap.size = g5 at H ⊢
  replace H : St w [] w9 (lay [.row 5 1 (.slice (some ⟨g0, 0, none⟩) 2 2) 2 (([7, 8] : List UInt8).map vb), .blk gp 31 [.int .u8 1, .int .i64 (-1), .int .u8 0, .int .i64 0, .int .i64 0, .slice (some ⟨g0, 0, none⟩) 2 2, .slice none 0 0], .row 5 1 (.slice (some ⟨gb, 0, none⟩) 34 cb) 34 (onW.map vb), .row 5 1 (.slice A5 2 c5) 2 (([7, 8] : List UInt8).map vb), .row 5 1 (.slice B5 0 d5) 0 (([] : List UInt8).map vb), .blk g5 31 [.int .u8 1, .int .i64 (-1), .int .u8 0, .int .i64 0, .int .i64 0, .slice A5 2 c5, .slice B5 0 d5]]) := H
  refine (decode_is (some ⟨gb, 0, none⟩) 33 cb _ _ (by have h := (H.rd 2 rfl).take (show 33 ≤ 34 by omega); rw [List.map_take]; simpa using h) (by omega) (by omega) on_cut).mono ?_
  rintro e w10 ⟨A6, c6, B6, d6, rfl, HN⟩
  replace H := H.also HN
  clear HN
  replace H : St w [] w10 (lay [.row 5 1 (.slice (some ⟨g0, 0, none⟩) 2 2) 2 (([7, 8] : List UInt8).map vb), .blk gp 31 [.int .u8 1, .int .i64 (-1), .int .u8 0, .int .i64 0, .int .i64 0, .slice (some ⟨g0, 0, none⟩) 2 2, .slice none 0 0], .row 5 1 (.slice (some ⟨gb, 0, none⟩) 34 cb) 34 (onW.map vb), .row 5 1 (.slice A5 2 c5) 2 (([7, 8] : List UInt8).map vb), .row 5 1 (.slice B5 0 d5) 0 (([] : List UInt8).map vb), .blk g5 31 [.int .u8 1, .int .i64 (-1), .int .u8 0, .int .i64 0, .int .i64 0, .slice A5 2 c5, .slice B5 0 d5], .row 5 1 (.slice A6 0 c6) 0 (([] : List UInt8).map vb), .row 5 1 (.slice B6 0 d6) 0 (([] : List UInt8).map vb)]) := H
  go_wp2_with fail
  refine absorb_calls (H.allocAt 8 rfl w10.heap.size rfl #[.int .u8 0, .int .i64 0, .int .u8 0, .int .i64 0, .int .i64 0, .slice A6 0 c6, .slice B6 0 d6] 31 |>.push_mk rfl) ?_
  clear H
  intro w11 H
  generalize w10.heap.size = g6 at H ⊢
  replace H := H.front 6
  replace H : St w [] w11 (lay [.row 5 1 (.slice (some ⟨g0, 0, none⟩) 2 2) 2 (([7, 8] : List UInt8).map vb), .blk gp 31 [.int .u8 1, .int .i64 (-1), .int .u8 0, .int .i64 0, .int .i64 0, .slice (some ⟨g0, 0, none⟩) 2 2, .slice none 0 0], .row 5 1 (.slice (some ⟨gb, 0, none⟩) 34 cb) 34 (onW.map vb), .row 5 1 (.slice A5 2 c5) 2 (([7, 8] : List UInt8).map vb), .row 5 1 (.slice B5 0 d5) 0 (([] : List UInt8).map vb), .blk g5 31 [.int .u8 1, .int .i64 (-1), .int .u8 0, .int .i64 0, .int .i64 0, .slice A5 2 c5, .slice B5 0 d5]]) := H
  refine (copyBytes_any (some ⟨gb, 0, none⟩) 34 cb onW _ (H.rd 2 rfl) (by omega)).mono ?_
  rintro e w20 ⟨vC, rfl, ho, hb⟩
  replace H := (H.pushOwnB 6 rfl ho hb).push_mk rfl
  replace H := H.shape_row 6 rfl on_len rfl
  clear ho hb
  obtain ⟨AC, cC, rfl, -, -⟩ := row_form (H.row 6 rfl)
  go_wp2_with (at_builtin; refine hold_here ?_)
  refine Held.go ?_
  refine absorb_list (H.allocAt 7 rfl w20.heap.size rfl #[.int .u8 9] 5 |>.push_mk rfl) ?_
  clear H
  intro w21 H
  generalize w20.heap.size = g9 at H ⊢
  obtain ⟨i0, hi0, hz0, hz1, hz2⟩ := info_parts u8_info
  refine wpList_append_any _ rfl (.tmp 55) (.tmp 56) _ rfl 0 5 i0 _ 1 1 Try.underlying25 hi0 hz0 hz1 hz2 rfl (by omega) (.slice AC 34 cC) 34 _ rfl (H.row 6 rfl) (some ⟨g9, 0, none⟩) 1 1 _ rfl (H.rdBlkT 7 rfl 1 1 rfl) (by intro u hu; simp at hu; subst hu; rfl) (by simp only [maxLen]; omega) (by omega) (by omega) ?_
  intro v22 w22 hown6 hg6 hat6
  replace H := ((H.grow 6 rfl hown6 hg6 hat6).upd_mk (by simp)).front 7
  clear hown6 hg6 hat6 hi0 hz0 hz1 hz2
  replace H := H.shape_row 6 rfl (n' := 35) (xs' := (onW ++ [9]).map vb) rfl (by rw [List.map_append]; rfl)
  replace H : St w [] w22 (lay [.row 5 1 (.slice (some ⟨g0, 0, none⟩) 2 2) 2 (([7, 8] : List UInt8).map vb), .blk gp 31 [.int .u8 1, .int .i64 (-1), .int .u8 0, .int .i64 0, .int .i64 0, .slice (some ⟨g0, 0, none⟩) 2 2, .slice none 0 0], .row 5 1 (.slice (some ⟨gb, 0, none⟩) 34 cb) 34 (onW.map vb), .row 5 1 (.slice A5 2 c5) 2 (([7, 8] : List UInt8).map vb), .row 5 1 (.slice B5 0 d5) 0 (([] : List UInt8).map vb), .blk g5 31 [.int .u8 1, .int .i64 (-1), .int .u8 0, .int .i64 0, .int .i64 0, .slice A5 2 c5, .slice B5 0 d5], .row 5 1 v22 35 ((onW ++ [9]).map vb)]) := H
  obtain ⟨AM, cM, rfl, hcM, -⟩ := row_form (H.row 6 rfl)
  go_wp2_with fail
  refine (decode_is AM 35 cM _ _ (H.rd 6 rfl) (by omega) (by omega) on_more).mono ?_
  rintro e w12 ⟨A9, c9, B9, d9, rfl, HN⟩
  replace H := H.also HN
  clear HN
  replace H : St w [] w12 (lay [.row 5 1 (.slice (some ⟨g0, 0, none⟩) 2 2) 2 (([7, 8] : List UInt8).map vb), .blk gp 31 [.int .u8 1, .int .i64 (-1), .int .u8 0, .int .i64 0, .int .i64 0, .slice (some ⟨g0, 0, none⟩) 2 2, .slice none 0 0], .row 5 1 (.slice (some ⟨gb, 0, none⟩) 34 cb) 34 (onW.map vb), .row 5 1 (.slice A5 2 c5) 2 (([7, 8] : List UInt8).map vb), .row 5 1 (.slice B5 0 d5) 0 (([] : List UInt8).map vb), .blk g5 31 [.int .u8 1, .int .i64 (-1), .int .u8 0, .int .i64 0, .int .i64 0, .slice A5 2 c5, .slice B5 0 d5], .row 5 1 (.slice AM 35 cM) 35 ((onW ++ [9]).map vb), .row 5 1 (.slice A9 0 c9) 0 (([] : List UInt8).map vb), .row 5 1 (.slice B9 0 d9) 0 (([] : List UInt8).map vb)]) := H
  go_wp2_with fail
  refine absorb_calls (H.allocAt 9 rfl w12.heap.size rfl #[.int .u8 0, .int .i64 0, .int .u8 0, .int .i64 0, .int .i64 0, .slice A9 0 c9, .slice B9 0 d9] 31 |>.push_mk rfl) ?_
  clear H
  intro w13 H
  generalize w12.heap.size = g9 at H ⊢
  replace H := H.front 7
  replace H : St w [] w13 (lay [.row 5 1 (.slice (some ⟨g0, 0, none⟩) 2 2) 2 (([7, 8] : List UInt8).map vb), .blk gp 31 [.int .u8 1, .int .i64 (-1), .int .u8 0, .int .i64 0, .int .i64 0, .slice (some ⟨g0, 0, none⟩) 2 2, .slice none 0 0], .row 5 1 (.slice (some ⟨gb, 0, none⟩) 34 cb) 34 (onW.map vb), .row 5 1 (.slice A5 2 c5) 2 (([7, 8] : List UInt8).map vb), .row 5 1 (.slice B5 0 d5) 0 (([] : List UInt8).map vb), .blk g5 31 [.int .u8 1, .int .i64 (-1), .int .u8 0, .int .i64 0, .int .i64 0, .slice A5 2 c5, .slice B5 0 d5], .row 5 1 (.slice AM 35 cM) 35 ((onW ++ [9]).map vb)]) := H
  have hmk31 : ∀ w : World, (Instr.makeSlice 25 (.int .i64 31) (.int .i64 31)).run Try.prog w = .ok (.slice (some ⟨w.heap.size, 0, none⟩) 31 31) (w.alloc (.cells (madeCells #[.int .u8 0] 31) 5)) := fun w => run_make_row' (P := Try.prog) 25 5 (.int .u8 0) 1 Try.underlying25 u8_info rfl .i64 .i64 31 (by omega) (by omega) w
  have hmk32 : ∀ w : World, (Instr.makeSlice 25 (.int .i64 32) (.int .i64 32)).run Try.prog w = .ok (.slice (some ⟨w.heap.size, 0, none⟩) 32 32) (w.alloc (.cells (madeCells #[.int .u8 0] 32) 5)) := fun w => run_make_row' (P := Try.prog) 25 5 (.int .u8 0) 1 Try.underlying25 u8_info rfl .i64 .i64 32 (by omega) (by omega) w
  refine (next_is AM 35 cM _ _ (H.rd 6 rfl) (by omega) (by omega) on_next).mono ?_
  rintro e w14 ⟨A11, c11, B11, d11, rfl, HN⟩
  replace H := H.also HN
  clear HN
  replace H : St w [] w14 (lay [.row 5 1 (.slice (some ⟨g0, 0, none⟩) 2 2) 2 (([7, 8] : List UInt8).map vb), .blk gp 31 [.int .u8 1, .int .i64 (-1), .int .u8 0, .int .i64 0, .int .i64 0, .slice (some ⟨g0, 0, none⟩) 2 2, .slice none 0 0], .row 5 1 (.slice (some ⟨gb, 0, none⟩) 34 cb) 34 (onW.map vb), .row 5 1 (.slice A5 2 c5) 2 (([7, 8] : List UInt8).map vb), .row 5 1 (.slice B5 0 d5) 0 (([] : List UInt8).map vb), .blk g5 31 [.int .u8 1, .int .i64 (-1), .int .u8 0, .int .i64 0, .int .i64 0, .slice A5 2 c5, .slice B5 0 d5], .row 5 1 (.slice AM 35 cM) 35 ((onW ++ [9]).map vb), .row 5 1 (.slice A11 2 c11) 2 (([7, 8] : List UInt8).map vb), .row 5 1 (.slice B11 0 d11) 0 (([] : List UInt8).map vb)]) := H
  go_wp2_with fail
  refine absorb_calls (H.allocAt 9 rfl w14.heap.size rfl #[.int .u8 1, .int .i64 (-1), .int .u8 0, .int .i64 0, .int .i64 0, .slice A11 2 c11, .slice B11 0 d11] 31 |>.push_mk rfl |>.lit 10 rfl 5 (madeCells #[.int .u8 0] 31) 31 (by kernel_rfl) (by omega) (w14.heap.size + 1) (by simp) |>.push_mk rfl) ?_
  clear H
  intro w15 H
  generalize w14.heap.size + 1 = g11s at H ⊢
  generalize w14.heap.size = g11 at H ⊢
  skip
  skip
  replace H := H.shape_row 10 rfl (n' := 31) (xs' := (List.replicate 31 0).map vb) rfl (by kernel_rfl)
  replace H : St w [] w15 (lay [.row 5 1 (.slice (some ⟨g0, 0, none⟩) 2 2) 2 (([7, 8] : List UInt8).map vb), .blk gp 31 [.int .u8 1, .int .i64 (-1), .int .u8 0, .int .i64 0, .int .i64 0, .slice (some ⟨g0, 0, none⟩) 2 2, .slice none 0 0], .row 5 1 (.slice (some ⟨gb, 0, none⟩) 34 cb) 34 (onW.map vb), .row 5 1 (.slice A5 2 c5) 2 (([7, 8] : List UInt8).map vb), .row 5 1 (.slice B5 0 d5) 0 (([] : List UInt8).map vb), .blk g5 31 [.int .u8 1, .int .i64 (-1), .int .u8 0, .int .i64 0, .int .i64 0, .slice A5 2 c5, .slice B5 0 d5], .row 5 1 (.slice AM 35 cM) 35 ((onW ++ [9]).map vb), .row 5 1 (.slice A11 2 c11) 2 (([7, 8] : List UInt8).map vb), .row 5 1 (.slice B11 0 d11) 0 (([] : List UInt8).map vb), .blk g11 31 [.int .u8 1, .int .i64 (-1), .int .u8 0, .int .i64 0, .int .i64 0, .slice A11 2 c11, .slice B11 0 d11], .row 5 1 (.slice (some ⟨g11s, 0, none⟩) 31 31) 31 ((List.replicate 31 0).map vb)]) := H
  refine (decode_is (some ⟨g11s, 0, none⟩) 31 31 _ _ (H.rd 10 rfl) (by omega) (by omega) on_31).mono ?_
  rintro e w16 ⟨A14, c14, B14, d14, rfl, HN⟩
  replace H := H.also HN
  clear HN
  replace H : St w [] w16 (lay [.row 5 1 (.slice (some ⟨g0, 0, none⟩) 2 2) 2 (([7, 8] : List UInt8).map vb), .blk gp 31 [.int .u8 1, .int .i64 (-1), .int .u8 0, .int .i64 0, .int .i64 0, .slice (some ⟨g0, 0, none⟩) 2 2, .slice none 0 0], .row 5 1 (.slice (some ⟨gb, 0, none⟩) 34 cb) 34 (onW.map vb), .row 5 1 (.slice A5 2 c5) 2 (([7, 8] : List UInt8).map vb), .row 5 1 (.slice B5 0 d5) 0 (([] : List UInt8).map vb), .blk g5 31 [.int .u8 1, .int .i64 (-1), .int .u8 0, .int .i64 0, .int .i64 0, .slice A5 2 c5, .slice B5 0 d5], .row 5 1 (.slice AM 35 cM) 35 ((onW ++ [9]).map vb), .row 5 1 (.slice A11 2 c11) 2 (([7, 8] : List UInt8).map vb), .row 5 1 (.slice B11 0 d11) 0 (([] : List UInt8).map vb), .blk g11 31 [.int .u8 1, .int .i64 (-1), .int .u8 0, .int .i64 0, .int .i64 0, .slice A11 2 c11, .slice B11 0 d11], .row 5 1 (.slice (some ⟨g11s, 0, none⟩) 31 31) 31 ((List.replicate 31 0).map vb), .row 5 1 (.slice A14 0 c14) 0 (([] : List UInt8).map vb), .row 5 1 (.slice B14 0 d14) 0 (([] : List UInt8).map vb)]) := H
  go_wp2_with fail
  refine absorb_calls (H.allocAt 13 rfl w16.heap.size rfl #[.int .u8 0, .int .i64 0, .int .u8 0, .int .i64 0, .int .i64 0, .slice A14 0 c14, .slice B14 0 d14] 31 |>.push_mk rfl |>.lit 14 rfl 5 (madeCells #[.int .u8 0] 32) 32 (by kernel_rfl) (by omega) (w16.heap.size + 1) (by simp) |>.push_mk rfl) ?_
  clear H
  intro w17 H
  generalize w16.heap.size + 1 = g14s at H ⊢
  generalize w16.heap.size = g14 at H ⊢
  skip
  skip
  replace H := H.shape_row 14 rfl (n' := 32) (xs' := (List.replicate 32 0).map vb) rfl (by kernel_rfl)
  replace H : St w [] w17 (lay [.row 5 1 (.slice (some ⟨g0, 0, none⟩) 2 2) 2 (([7, 8] : List UInt8).map vb), .blk gp 31 [.int .u8 1, .int .i64 (-1), .int .u8 0, .int .i64 0, .int .i64 0, .slice (some ⟨g0, 0, none⟩) 2 2, .slice none 0 0], .row 5 1 (.slice (some ⟨gb, 0, none⟩) 34 cb) 34 (onW.map vb), .row 5 1 (.slice A5 2 c5) 2 (([7, 8] : List UInt8).map vb), .row 5 1 (.slice B5 0 d5) 0 (([] : List UInt8).map vb), .blk g5 31 [.int .u8 1, .int .i64 (-1), .int .u8 0, .int .i64 0, .int .i64 0, .slice A5 2 c5, .slice B5 0 d5], .row 5 1 (.slice AM 35 cM) 35 ((onW ++ [9]).map vb), .row 5 1 (.slice A11 2 c11) 2 (([7, 8] : List UInt8).map vb), .row 5 1 (.slice B11 0 d11) 0 (([] : List UInt8).map vb), .blk g11 31 [.int .u8 1, .int .i64 (-1), .int .u8 0, .int .i64 0, .int .i64 0, .slice A11 2 c11, .slice B11 0 d11], .row 5 1 (.slice (some ⟨g11s, 0, none⟩) 31 31) 31 ((List.replicate 31 0).map vb), .row 5 1 (.slice A14 0 c14) 0 (([] : List UInt8).map vb), .row 5 1 (.slice B14 0 d14) 0 (([] : List UInt8).map vb), .blk g14 31 [.int .u8 0, .int .i64 0, .int .u8 0, .int .i64 0, .int .i64 0, .slice A14 0 c14, .slice B14 0 d14], .row 5 1 (.slice (some ⟨g14s, 0, none⟩) 32 32) 32 ((List.replicate 32 0).map vb)]) := H
  refine (decode_is (some ⟨g14s, 0, none⟩) 32 32 _ _ (H.rd 14 rfl) (by omega) (by omega) on_32).mono ?_
  rintro e w40 ⟨A16, c16, B16, d16, rfl, HN⟩
  replace H := H.also HN
  clear HN
  replace H : St w [] w40 (lay [.row 5 1 (.slice (some ⟨g0, 0, none⟩) 2 2) 2 (([7, 8] : List UInt8).map vb), .blk gp 31 [.int .u8 1, .int .i64 (-1), .int .u8 0, .int .i64 0, .int .i64 0, .slice (some ⟨g0, 0, none⟩) 2 2, .slice none 0 0], .row 5 1 (.slice (some ⟨gb, 0, none⟩) 34 cb) 34 (onW.map vb), .row 5 1 (.slice A5 2 c5) 2 (([7, 8] : List UInt8).map vb), .row 5 1 (.slice B5 0 d5) 0 (([] : List UInt8).map vb), .blk g5 31 [.int .u8 1, .int .i64 (-1), .int .u8 0, .int .i64 0, .int .i64 0, .slice A5 2 c5, .slice B5 0 d5], .row 5 1 (.slice AM 35 cM) 35 ((onW ++ [9]).map vb), .row 5 1 (.slice A11 2 c11) 2 (([7, 8] : List UInt8).map vb), .row 5 1 (.slice B11 0 d11) 0 (([] : List UInt8).map vb), .blk g11 31 [.int .u8 1, .int .i64 (-1), .int .u8 0, .int .i64 0, .int .i64 0, .slice A11 2 c11, .slice B11 0 d11], .row 5 1 (.slice (some ⟨g11s, 0, none⟩) 31 31) 31 ((List.replicate 31 0).map vb), .row 5 1 (.slice A14 0 c14) 0 (([] : List UInt8).map vb), .row 5 1 (.slice B14 0 d14) 0 (([] : List UInt8).map vb), .blk g14 31 [.int .u8 0, .int .i64 0, .int .u8 0, .int .i64 0, .int .i64 0, .slice A14 0 c14, .slice B14 0 d14], .row 5 1 (.slice (some ⟨g14s, 0, none⟩) 32 32) 32 ((List.replicate 32 0).map vb), .row 5 1 (.slice A16 0 c16) 0 (([] : List UInt8).map vb), .row 5 1 (.slice B16 0 d16) 0 (([] : List UInt8).map vb)]) := H
  have HA := (H.allocAt 17 rfl w40.heap.size rfl #[.int .u8 0, .int .i64 0, .int .u8 0, .int .i64 0, .int .i64 0, .slice A16 0 c16, .slice B16 0 d16] 31).push_mk rfl
  replace HA : St w [] (w40.alloc (.cells #[.int .u8 0, .int .i64 0, .int .u8 0, .int .i64 0, .int .i64 0, .slice A16 0 c16, .slice B16 0 d16] 31)) (lay [.row 5 1 (.slice (some ⟨g0, 0, none⟩) 2 2) 2 (([7, 8] : List UInt8).map vb), .blk gp 31 [.int .u8 1, .int .i64 (-1), .int .u8 0, .int .i64 0, .int .i64 0, .slice (some ⟨g0, 0, none⟩) 2 2, .slice none 0 0], .row 5 1 (.slice (some ⟨gb, 0, none⟩) 34 cb) 34 (onW.map vb), .row 5 1 (.slice A5 2 c5) 2 (([7, 8] : List UInt8).map vb), .row 5 1 (.slice B5 0 d5) 0 (([] : List UInt8).map vb), .blk g5 31 [.int .u8 1, .int .i64 (-1), .int .u8 0, .int .i64 0, .int .i64 0, .slice A5 2 c5, .slice B5 0 d5], .row 5 1 (.slice AM 35 cM) 35 ((onW ++ [9]).map vb), .row 5 1 (.slice A11 2 c11) 2 (([7, 8] : List UInt8).map vb), .row 5 1 (.slice B11 0 d11) 0 (([] : List UInt8).map vb), .blk g11 31 [.int .u8 1, .int .i64 (-1), .int .u8 0, .int .i64 0, .int .i64 0, .slice A11 2 c11, .slice B11 0 d11], .row 5 1 (.slice (some ⟨g11s, 0, none⟩) 31 31) 31 ((List.replicate 31 0).map vb), .row 5 1 (.slice A14 0 c14) 0 (([] : List UInt8).map vb), .row 5 1 (.slice B14 0 d14) 0 (([] : List UInt8).map vb), .blk g14 31 [.int .u8 0, .int .i64 0, .int .u8 0, .int .i64 0, .int .i64 0, .slice A14 0 c14, .slice B14 0 d14], .row 5 1 (.slice (some ⟨g14s, 0, none⟩) 32 32) 32 ((List.replicate 32 0).map vb), .row 5 1 (.slice A16 0 c16) 0 (([] : List UInt8).map vb), .row 5 1 (.slice B16 0 d16) 0 (([] : List UInt8).map vb), .blk w40.heap.size 31 [.int .u8 0, .int .i64 0, .int .u8 0, .int .i64 0, .int .i64 0, .slice A16 0 c16, .slice B16 0 d16]]) := HA
  clear H
  go_wp2_with (first | (refine load_guard (by rfl) 31 (.tmp 1) rfl gp rfl _ _ _ _ (HA.blk 1 rfl) Try.underlying31 rfl op_size ?_) | (refine wpList_load_row rfl 31 (.tmp 1) rfl gp rfl _ _ _ _ (HA.blk 1 rfl) Try.underlying31 rfl op_size ?_) | (refine load_guard (by rfl) 31 (.tmp 5) rfl g5 rfl _ _ _ _ (HA.blk 5 rfl) Try.underlying31 rfl op_size ?_) | (refine wpList_load_row rfl 31 (.tmp 5) rfl g5 rfl _ _ _ _ (HA.blk 5 rfl) Try.underlying31 rfl op_size ?_) | (refine load_guard (by rfl) 31 (.tmp 11) rfl g11 rfl _ _ _ _ (HA.blk 9 rfl) Try.underlying31 rfl op_size ?_) | (refine wpList_load_row rfl 31 (.tmp 11) rfl g11 rfl _ _ _ _ (HA.blk 9 rfl) Try.underlying31 rfl op_size ?_) | (refine load_guard (by rfl) 31 (.tmp 16) rfl w40.heap.size rfl _ _ _ _ (HA.blk 17 rfl) Try.underlying31 rfl op_size ?_) | (refine wpList_load_row rfl 31 (.tmp 16) rfl w40.heap.size rfl _ _ _ _ (HA.blk 17 rfl) Try.underlying31 rfl op_size ?_))
  refine absorb_calls HA ?_
  generalize w40.heap.size = g16
  clear HA
  intro w41 H
  replace H : St w [] w41 (lay [.row 5 1 (.slice (some ⟨g0, 0, none⟩) 2 2) 2 (([7, 8] : List UInt8).map vb), .blk gp 31 [.int .u8 1, .int .i64 (-1), .int .u8 0, .int .i64 0, .int .i64 0, .slice (some ⟨g0, 0, none⟩) 2 2, .slice none 0 0], .row 5 1 (.slice (some ⟨gb, 0, none⟩) 34 cb) 34 (onW.map vb), .row 5 1 (.slice A5 2 c5) 2 (([7, 8] : List UInt8).map vb), .row 5 1 (.slice B5 0 d5) 0 (([] : List UInt8).map vb), .blk g5 31 [.int .u8 1, .int .i64 (-1), .int .u8 0, .int .i64 0, .int .i64 0, .slice A5 2 c5, .slice B5 0 d5], .row 5 1 (.slice AM 35 cM) 35 ((onW ++ [9]).map vb), .row 5 1 (.slice A11 2 c11) 2 (([7, 8] : List UInt8).map vb), .row 5 1 (.slice B11 0 d11) 0 (([] : List UInt8).map vb), .blk g11 31 [.int .u8 1, .int .i64 (-1), .int .u8 0, .int .i64 0, .int .i64 0, .slice A11 2 c11, .slice B11 0 d11], .row 5 1 (.slice (some ⟨g11s, 0, none⟩) 31 31) 31 ((List.replicate 31 0).map vb), .row 5 1 (.slice A14 0 c14) 0 (([] : List UInt8).map vb), .row 5 1 (.slice B14 0 d14) 0 (([] : List UInt8).map vb), .blk g14 31 [.int .u8 0, .int .i64 0, .int .u8 0, .int .i64 0, .int .i64 0, .slice A14 0 c14, .slice B14 0 d14], .row 5 1 (.slice (some ⟨g14s, 0, none⟩) 32 32) 32 ((List.replicate 32 0).map vb), .row 5 1 (.slice A16 0 c16) 0 (([] : List UInt8).map vb), .row 5 1 (.slice B16 0 d16) 0 (([] : List UInt8).map vb), .blk g16 31 [.int .u8 0, .int .i64 0, .int .u8 0, .int .i64 0, .int .i64 0, .slice A16 0 c16, .slice B16 0 d16]]) := H
  refine (samePut A5 (some ⟨g0, 0, none⟩) B5 none c5 2 d5 0 _ (H.rd 3 rfl) (H.rd 0 rfl) (H.rd 4 rfl) Rd.none_).mono ?_
  rintro e w42 ⟨rfl, hb⟩
  replace H := H.call hb
  clear hb
  go_wp2_with (first | (refine load_guard (by rfl) 31 (.tmp 1) rfl gp rfl _ _ _ _ (H.blk 1 rfl) Try.underlying31 rfl op_size ?_) | (refine wpList_load_row rfl 31 (.tmp 1) rfl gp rfl _ _ _ _ (H.blk 1 rfl) Try.underlying31 rfl op_size ?_) | (refine load_guard (by rfl) 31 (.tmp 5) rfl g5 rfl _ _ _ _ (H.blk 5 rfl) Try.underlying31 rfl op_size ?_) | (refine wpList_load_row rfl 31 (.tmp 5) rfl g5 rfl _ _ _ _ (H.blk 5 rfl) Try.underlying31 rfl op_size ?_) | (refine load_guard (by rfl) 31 (.tmp 11) rfl g11 rfl _ _ _ _ (H.blk 9 rfl) Try.underlying31 rfl op_size ?_) | (refine wpList_load_row rfl 31 (.tmp 11) rfl g11 rfl _ _ _ _ (H.blk 9 rfl) Try.underlying31 rfl op_size ?_) | (refine load_guard (by rfl) 31 (.tmp 16) rfl g16 rfl _ _ _ _ (H.blk 17 rfl) Try.underlying31 rfl op_size ?_) | (refine wpList_load_row rfl 31 (.tmp 16) rfl g16 rfl _ _ _ _ (H.blk 17 rfl) Try.underlying31 rfl op_size ?_))
  refine (samePut A11 (some ⟨g0, 0, none⟩) B11 none c11 2 d11 0 _ (H.rd 7 rfl) (H.rd 0 rfl) (H.rd 8 rfl) Rd.none_).mono ?_
  rintro e w43 ⟨rfl, hb⟩
  replace H := H.call hb
  clear hb
  go_wp2_with (first | (refine load_guard (by rfl) 31 (.tmp 1) rfl gp rfl _ _ _ _ (H.blk 1 rfl) Try.underlying31 rfl op_size ?_) | (refine wpList_load_row rfl 31 (.tmp 1) rfl gp rfl _ _ _ _ (H.blk 1 rfl) Try.underlying31 rfl op_size ?_) | (refine load_guard (by rfl) 31 (.tmp 5) rfl g5 rfl _ _ _ _ (H.blk 5 rfl) Try.underlying31 rfl op_size ?_) | (refine wpList_load_row rfl 31 (.tmp 5) rfl g5 rfl _ _ _ _ (H.blk 5 rfl) Try.underlying31 rfl op_size ?_) | (refine load_guard (by rfl) 31 (.tmp 11) rfl g11 rfl _ _ _ _ (H.blk 9 rfl) Try.underlying31 rfl op_size ?_) | (refine wpList_load_row rfl 31 (.tmp 11) rfl g11 rfl _ _ _ _ (H.blk 9 rfl) Try.underlying31 rfl op_size ?_) | (refine load_guard (by rfl) 31 (.tmp 16) rfl g16 rfl _ _ _ _ (H.blk 17 rfl) Try.underlying31 rfl op_size ?_) | (refine wpList_load_row rfl 31 (.tmp 16) rfl g16 rfl _ _ _ _ (H.blk 17 rfl) Try.underlying31 rfl op_size ?_))
  refine (sameNone A16 none B16 none c16 0 d16 0 _ (H.rd 15 rfl) Rd.none_ (H.rd 16 rfl) Rd.none_).mono ?_
  rintro e w44 ⟨rfl, hb⟩
  replace H := (H.call hb).front 2
  clear hb
  replace H : St w [] w44 (lay [.row 5 1 (.slice (some ⟨g0, 0, none⟩) 2 2) 2 (([7, 8] : List UInt8).map vb), .blk gp 31 [.int .u8 1, .int .i64 (-1), .int .u8 0, .int .i64 0, .int .i64 0, .slice (some ⟨g0, 0, none⟩) 2 2, .slice none 0 0]]) := H
  clear b33 b34 hcb hcM
  go_wp2
  go_loopw [19] (fun i wr => ∃ k : Nat, k ≤ 256 ∧ i = .int .i64 (k : Int) ∧ St w [] wr (lay [.row 5 1 (.slice (some ⟨g0, 0, none⟩) 2 2) 2 (([7, 8] : List UInt8).map vb), .blk gp 31 [.int .u8 1, .int .i64 (-1), .int .u8 0, .int .i64 0, .int .i64 0, .slice (some ⟨g0, 0, none⟩) 2 2, .slice none 0 0]])) (fun i _ => 256 - (intOf i).toNat)
  case atStart => exact ⟨0, Nat.zero_le _, rfl, H⟩
  case round =>
    clear H
    obtain ⟨k, hk, rfl, H⟩ := hrel
    by_cases hlt : k < 256
    · have hk1 : (k : Int) < 256 := by omega
      obtain ⟨u, hu⟩ : ∃ u : UInt8, IntKind.u8.wrap (k : Int) = (u.toNat : Int) := ⟨UInt8.ofNat (k % 256), u8_wrapT k⟩
      have hle := uses_le5 u
      go_wp2_with fail
      refine (opUses_s u _).mono ?_
      rintro e w50 ⟨vA, rfl, hoA, hbA⟩
      replace H := (H.pushRow 2 rfl hbA hoA).push_mk rfl
      clear hoA hbA
      obtain ⟨AA, cA, rfl, -, -⟩ := row_form (H.row 2 rfl)
      go_wp2_with fail
      refine (refUses_s u _).mono ?_
      rintro e w51 ⟨vB, rfl, hoB, hbB⟩
      replace H := (H.pushRow 3 rfl hbB hoB).push_mk rfl
      clear hoB hbB
      obtain ⟨AB2, cB, rfl, -, -⟩ := row_form (H.row 3 rfl)
      go_wp2_with fail
      refine (sameTexts_yes AA AB2 _ cA cB (usesOf u) _ (H.rd 2 rfl) (H.rd 3 rfl) (by omega)).mono ?_
      rintro e w52 ⟨rfl, hb⟩
      replace H := (H.call hb).front 2
      replace H : St w [] w52 (lay [.row 5 1 (.slice (some ⟨g0, 0, none⟩) 2 2) 2 (([7, 8] : List UInt8).map vb), .blk gp 31 [.int .u8 1, .int .i64 (-1), .int .u8 0, .int .i64 0, .int .i64 0, .slice (some ⟨g0, 0, none⟩) 2 2, .slice none 0 0]]) := H
      clear hb hu hle
      go_wp2
      go_roundw
      case rel => exact ⟨k + 1, by omega, by go_num, H⟩
      case measure => simp [intOf]; omega
    · obtain rfl : k = 256 := by omega
      rw [show ((256 : Nat) : Int) = 256 from rfl]
      go_wp2_with (first | (refine load_guard (by rfl) 31 (.tmp 1) rfl gp rfl _ _ _ _ (H.blk 1 rfl) Try.underlying31 rfl op_size ?_) | (refine wpList_load_row rfl 31 (.tmp 1) rfl gp rfl _ _ _ _ (H.blk 1 rfl) Try.underlying31 rfl op_size ?_))
      refine (plain_put (some ⟨g0, 0, none⟩) 2 _ (H.rd 0 rfl)).mono ?_
      rintro e w60 ⟨v5, v6, rfl, HN⟩
      replace H := H.also HN
      clear HN
      replace H : St w [] w60 (lay [.row 5 1 (.slice (some ⟨g0, 0, none⟩) 2 2) 2 (([7, 8] : List UInt8).map vb), .blk gp 31 [.int .u8 1, .int .i64 (-1), .int .u8 0, .int .i64 0, .int .i64 0, .slice (some ⟨g0, 0, none⟩) 2 2, .slice none 0 0], .row 5 1 v5 2 (([7, 8] : List UInt8).map vb), .row 5 1 v6 0 (([] : List UInt8).map vb)]) := H
      obtain ⟨A5, c5, rfl, -⟩ := row_form (H.row 2 rfl)
      obtain ⟨A6, c6, rfl, -⟩ := row_form (H.row 3 rfl)
      go_wp2_with fail
      refine absorb_calls (H.lit 4 rfl 5 #[.int .u8 7, .int .u8 8] 2 rfl (by omega) w60.heap.size rfl |>.push_mk rfl) ?_
      clear H
      intro w61 H
      generalize w60.heap.size = g61 at H ⊢
      refine (samePlain A5 (some ⟨g61, 0, none⟩) A6 none c5 2 c6 0 _ (H.rd 2 rfl) (H.rd 4 rfl) (H.rd 3 rfl) Rd.none_).mono ?_
      rintro e w62 ⟨rfl, hb⟩
      replace H := (H.call hb).front 0
      clear hb
      replace H : St w [] w62 (lay []) := H
      go_wp2_with fail
      refine (opUses_7 _).mono ?_
      rintro e w63 ⟨vA, rfl, hoA, hbA⟩
      rw [uses_7] at hoA
      replace H := (H.pushRow 0 rfl hbA hoA).push_mk rfl
      clear hoA hbA
      replace H : St w [] w63 (lay [.row 9 1 vA 5 ([0, 1, 3, 4, 5].map nmV)]) := H
      go_wp2_with fail
      refine (opUses_7 _).mono ?_
      rintro e w64 ⟨vB, rfl, hoA, hbA⟩
      rw [uses_7] at hoA
      replace H := (H.pushRow 1 rfl hbA hoA).push_mk rfl
      clear hoA hbA
      replace H : St w [] w64 (lay [.row 9 1 vA 5 ([0, 1, 3, 4, 5].map nmV), .row 9 1 vB 5 ([0, 1, 3, 4, 5].map nmV)]) := H
      obtain ⟨AX, cX, rfl, -, -⟩ := row_form (H.row 0 rfl)
      obtain ⟨AY, cY, rfl, -, -⟩ := row_form (H.row 1 rfl)
      go_wp2_with fail
      refine absorb_calls (H.allocAt 2 rfl w64.heap.size rfl #[.slice AX 5 cX, .slice AY 5 cY] 65 |>.push_mk rfl) ?_
      clear H
      intro w65 H
      generalize w64.heap.size = gL at H ⊢
      refine (apartT_two (.slice AX 5 cX) (.slice AY 5 cY) 5 5 gL _ _ H rfl rfl (by omega) (by omega)).mono ?_
      rintro e w66 ⟨rfl, hb⟩
      clear H
      have H := (St.start_lay w []).call hb
      clear hb
      go_wp2_with fail
      refine (opUses_7 _).mono ?_
      rintro e w67 ⟨vA, rfl, hoA, hbA⟩
      rw [uses_7] at hoA
      replace H := (H.pushRow 0 rfl hbA hoA).push_mk rfl
      clear hoA hbA
      replace H : St w [] w67 (lay [.row 9 1 vA 5 ([0, 1, 3, 4, 5].map nmV)]) := H
      obtain ⟨A7, c7, rfl, -, -⟩ := row_form (H.row 0 rfl)
      go_wp2_with fail
      refine (lives_s _).mono ?_
      rintro e w68 ⟨rfl, hb⟩
      replace H := H.call hb
      go_wp2
      go_ret
      exact ⟨rfl, H.below⟩
end Go.Proofs.Ytgfhnbjpdhdhgaa
