/- Which fields a kind uses, in op and in the document. -/
import Derived.Test.YtgfhnbjpdhdhgaaOpA
namespace Go.Proofs.Ytgfhnbjpdhdhgaa
open Go.RowKit
set_option linter.unusedVariables false

/-- a field's name: Handle, Alg, Count, Out, Data, More -/
def nm : Nat → ByteArray
  | 0 => ⟨#[72, 97, 110, 100, 108, 101]⟩
  | 1 => ⟨#[65, 108, 103]⟩
  | 2 => ⟨#[67, 111, 117, 110, 116]⟩
  | 3 => ⟨#[79, 117, 116]⟩
  | 4 => ⟨#[68, 97, 116, 97]⟩
  | _ => ⟨#[77, 111, 114, 101]⟩
abbrev nmV (i : Nat) : Value := .string (nm i)
def usesOf (k : UInt8) : List Nat :=
  if k = 1 then [4] else
  if k = 2 then [0, 1, 3, 4] else
  if k = 3 then [0, 4] else
  if k = 4 then [0] else
  if k = 5 then [0, 4] else
  if k = 6 then [0] else
  if k = 7 then [0, 1, 3, 4, 5] else
  if k = 8 then [0, 1, 2, 3, 4] else
  if k = 9 then [0] else
  if k = 10 then [0] else
  []
theorem uses_1 : usesOf 1 = [4] := rfl
theorem uses_2 : usesOf 2 = [0, 1, 3, 4] := rfl
theorem uses_3 : usesOf 3 = [0, 4] := rfl
theorem uses_4 : usesOf 4 = [0] := rfl
theorem uses_5 : usesOf 5 = [0, 4] := rfl
theorem uses_6 : usesOf 6 = [0] := rfl
theorem uses_7 : usesOf 7 = [0, 1, 3, 4, 5] := rfl
theorem uses_8 : usesOf 8 = [0, 1, 2, 3, 4] := rfl
theorem uses_9 : usesOf 9 = [0] := rfl
theorem uses_10 : usesOf 10 = [0] := rfl
theorem uses_no {k : UInt8} (h1 : k ≠ 1) (h2 : k ≠ 2) (h3 : k ≠ 3) (h4 : k ≠ 4) (h5 : k ≠ 5) (h6 : k ≠ 6) (h7 : k ≠ 7) (h8 : k ≠ 8) (h9 : k ≠ 9) (h10 : k ≠ 10) : usesOf k = [] := by unfold usesOf; simp [h1, h2, h3, h4, h5, h6, h7, h8, h9, h10]
theorem u8_is (k c : UInt8) (h : k ≠ c) (x : Int) (hx : x = (c.toNat : Int)) : ((k.toNat : Int) == x) = false := by
  subst hx
  simp only [beq_eq_false_iff_ne, ne_eq]
  exact fun e => h (UInt8.toNat_inj.1 (by omega))
theorem str_info : (Try.prog.info? 9).map (fun i => (i.zero, i.size, i.bytes)) = some (some (.string ⟨#[]⟩), 1, 16) := by kernel_rfl
theorem nm_one (l : List Nat) : ∀ u ∈ l.map nmV, u.oneCell' = true := by
  intro u hu
  obtain ⟨b, -, rfl⟩ := List.mem_map.1 hu
  rfl
/-- a row of names -/
def UsesP (k : UInt8) (w : World) (e : Ending) (w' : World) : Prop := ∃ v, e = .returned v ∧ w'.ownsRow w.heap.size 9 1 v (usesOf k).length ((usesOf k).map nmV) ∧ Below w.heap.size w w'
theorem refUses_1 (w : World) : Calls Try.prog 52 #[.int .u8 1] w (UsesP 1 w) := by
  unfold UsesP
  rw [uses_1]
  go_enter Try.func52, Try.ntmps52
  go_wp2
  go_ret
  exact ⟨_, rfl, World.ownsRow_lit w _ 1 (Nat.le_refl _) (by simp only [maxLen]; omega) rfl, (Below.refl _ _).alloc (Nat.le_refl _) _⟩
theorem refUses_2 (w : World) : Calls Try.prog 52 #[.int .u8 2] w (UsesP 2 w) := by
  unfold UsesP
  rw [uses_2]
  go_enter Try.func52, Try.ntmps52
  go_wp2
  go_ret
  exact ⟨_, rfl, World.ownsRow_lit w _ 4 (Nat.le_refl _) (by simp only [maxLen]; omega) rfl, (Below.refl _ _).alloc (Nat.le_refl _) _⟩
theorem refUses_3 (w : World) : Calls Try.prog 52 #[.int .u8 3] w (UsesP 3 w) := by
  unfold UsesP
  rw [uses_3]
  go_enter Try.func52, Try.ntmps52
  go_wp2
  go_ret
  exact ⟨_, rfl, World.ownsRow_lit w _ 2 (Nat.le_refl _) (by simp only [maxLen]; omega) rfl, (Below.refl _ _).alloc (Nat.le_refl _) _⟩
theorem refUses_4 (w : World) : Calls Try.prog 52 #[.int .u8 4] w (UsesP 4 w) := by
  unfold UsesP
  rw [uses_4]
  go_enter Try.func52, Try.ntmps52
  go_wp2
  go_ret
  exact ⟨_, rfl, World.ownsRow_lit w _ 1 (Nat.le_refl _) (by simp only [maxLen]; omega) rfl, (Below.refl _ _).alloc (Nat.le_refl _) _⟩
theorem refUses_5 (w : World) : Calls Try.prog 52 #[.int .u8 5] w (UsesP 5 w) := by
  unfold UsesP
  rw [uses_5]
  go_enter Try.func52, Try.ntmps52
  go_wp2
  go_ret
  exact ⟨_, rfl, World.ownsRow_lit w _ 2 (Nat.le_refl _) (by simp only [maxLen]; omega) rfl, (Below.refl _ _).alloc (Nat.le_refl _) _⟩
theorem refUses_6 (w : World) : Calls Try.prog 52 #[.int .u8 6] w (UsesP 6 w) := by
  unfold UsesP
  rw [uses_6]
  go_enter Try.func52, Try.ntmps52
  go_wp2
  go_ret
  exact ⟨_, rfl, World.ownsRow_lit w _ 1 (Nat.le_refl _) (by simp only [maxLen]; omega) rfl, (Below.refl _ _).alloc (Nat.le_refl _) _⟩
theorem refUses_7 (w : World) : Calls Try.prog 52 #[.int .u8 7] w (UsesP 7 w) := by
  unfold UsesP
  rw [uses_7]
  go_enter Try.func52, Try.ntmps52
  go_wp2
  go_ret
  exact ⟨_, rfl, World.ownsRow_lit w _ 5 (Nat.le_refl _) (by simp only [maxLen]; omega) rfl, (Below.refl _ _).alloc (Nat.le_refl _) _⟩
theorem refUses_8 (w : World) : Calls Try.prog 52 #[.int .u8 8] w (UsesP 8 w) := by
  unfold UsesP
  rw [uses_8]
  go_enter Try.func52, Try.ntmps52
  go_wp2
  go_ret
  exact ⟨_, rfl, World.ownsRow_lit w _ 5 (Nat.le_refl _) (by simp only [maxLen]; omega) rfl, (Below.refl _ _).alloc (Nat.le_refl _) _⟩
theorem refUses_9 (w : World) : Calls Try.prog 52 #[.int .u8 9] w (UsesP 9 w) := by
  unfold UsesP
  rw [uses_9]
  go_enter Try.func52, Try.ntmps52
  go_wp2
  go_ret
  exact ⟨_, rfl, World.ownsRow_lit w _ 1 (Nat.le_refl _) (by simp only [maxLen]; omega) rfl, (Below.refl _ _).alloc (Nat.le_refl _) _⟩
theorem refUses_10 (w : World) : Calls Try.prog 52 #[.int .u8 10] w (UsesP 10 w) := by
  unfold UsesP
  rw [uses_10]
  go_enter Try.func52, Try.ntmps52
  go_wp2
  go_ret
  exact ⟨_, rfl, World.ownsRow_lit w _ 1 (Nat.le_refl _) (by simp only [maxLen]; omega) rfl, (Below.refl _ _).alloc (Nat.le_refl _) _⟩
theorem opUses_2 (w : World) : Calls Try.prog 51 #[.int .u8 2] w (UsesP 2 w) := by
  unfold UsesP
  rw [uses_2]
  go_enter Try.func51, Try.ntmps51
  go_wp2
  go_ret
  exact ⟨_, rfl, World.ownsRow_lit w _ 4 (Nat.le_refl _) (by simp only [maxLen]; omega) rfl, (Below.refl _ _).alloc (Nat.le_refl _) _⟩
theorem opUses_7 (w : World) : Calls Try.prog 51 #[.int .u8 7] w (UsesP 7 w) := by
  unfold UsesP
  rw [uses_7]
  go_enter Try.func51, Try.ntmps51
  go_wp2
  go_ret
  exact ⟨_, rfl, World.ownsRow_lit w _ 5 (Nat.le_refl _) (by simp only [maxLen]; omega) rfl, (Below.refl _ _).alloc (Nat.le_refl _) _⟩
theorem opUses_8 (w : World) : Calls Try.prog 51 #[.int .u8 8] w (UsesP 8 w) := by
  unfold UsesP
  rw [uses_8]
  go_enter Try.func51, Try.ntmps51
  go_wp2
  go_ret
  exact ⟨_, rfl, World.ownsRow_lit w _ 5 (Nat.le_refl _) (by simp only [maxLen]; omega) rfl, (Below.refl _ _).alloc (Nat.le_refl _) _⟩
theorem opUses_1 (w : World) : Calls Try.prog 51 #[.int .u8 1] w (UsesP 1 w) := by
  obtain ⟨i0, hi0, hz0, hz1, hz2⟩ := info_parts str_info
  unfold UsesP
  rw [uses_1]
  go_enter Try.func51, Try.ntmps51
  go_wp2_with (at_builtin; refine wpList_append_any _ rfl (.tmp 31) (.tmp 32) _ rfl w.heap.size 9 i0 _ 1 16 Try.underlying65 hi0 hz0 hz1 hz2 rfl (by omega) (.slice none 0 0) 0 [] rfl (World.ownsRow_nil _ _ _ _) (some ⟨w.heap.size, 0, none⟩) 1 1 [nmV 4] rfl (rd_new0 w [nmV 4] _ 1 rfl) (nm_one [4]) (by simp only [maxLen]; omega) (by omega) (by simp) ?_; intro v1 w1 hown1 hg1 hat1)
  go_ret
  exact ⟨_, rfl, hown1, ((Below.refl _ _).alloc (Nat.le_refl _) _).grown hg1 (by simp) (fun g h => by simp [Value.ownBlock] at h)⟩
theorem opUses_4 (w : World) : Calls Try.prog 51 #[.int .u8 4] w (UsesP 4 w) := by
  obtain ⟨i0, hi0, hz0, hz1, hz2⟩ := info_parts str_info
  unfold UsesP
  rw [uses_4]
  go_enter Try.func51, Try.ntmps51
  go_wp2_with (at_builtin; refine wpList_append_any _ rfl (.tmp 27) (.tmp 28) _ rfl w.heap.size 9 i0 _ 1 16 Try.underlying65 hi0 hz0 hz1 hz2 rfl (by omega) (.slice none 0 0) 0 [] rfl (World.ownsRow_nil _ _ _ _) (some ⟨w.heap.size, 0, none⟩) 1 1 [nmV 0] rfl (rd_new0 w [nmV 0] _ 1 rfl) (nm_one [0]) (by simp only [maxLen]; omega) (by omega) (by simp) ?_; intro v1 w1 hown1 hg1 hat1)
  go_ret
  exact ⟨_, rfl, hown1, ((Below.refl _ _).alloc (Nat.le_refl _) _).grown hg1 (by simp) (fun g h => by simp [Value.ownBlock] at h)⟩
theorem opUses_6 (w : World) : Calls Try.prog 51 #[.int .u8 6] w (UsesP 6 w) := by
  obtain ⟨i0, hi0, hz0, hz1, hz2⟩ := info_parts str_info
  unfold UsesP
  rw [uses_6]
  go_enter Try.func51, Try.ntmps51
  go_wp2_with (at_builtin; refine wpList_append_any _ rfl (.tmp 27) (.tmp 28) _ rfl w.heap.size 9 i0 _ 1 16 Try.underlying65 hi0 hz0 hz1 hz2 rfl (by omega) (.slice none 0 0) 0 [] rfl (World.ownsRow_nil _ _ _ _) (some ⟨w.heap.size, 0, none⟩) 1 1 [nmV 0] rfl (rd_new0 w [nmV 0] _ 1 rfl) (nm_one [0]) (by simp only [maxLen]; omega) (by omega) (by simp) ?_; intro v1 w1 hown1 hg1 hat1)
  go_ret
  exact ⟨_, rfl, hown1, ((Below.refl _ _).alloc (Nat.le_refl _) _).grown hg1 (by simp) (fun g h => by simp [Value.ownBlock] at h)⟩
theorem opUses_9 (w : World) : Calls Try.prog 51 #[.int .u8 9] w (UsesP 9 w) := by
  obtain ⟨i0, hi0, hz0, hz1, hz2⟩ := info_parts str_info
  unfold UsesP
  rw [uses_9]
  go_enter Try.func51, Try.ntmps51
  go_wp2_with (at_builtin; refine wpList_append_any _ rfl (.tmp 27) (.tmp 28) _ rfl w.heap.size 9 i0 _ 1 16 Try.underlying65 hi0 hz0 hz1 hz2 rfl (by omega) (.slice none 0 0) 0 [] rfl (World.ownsRow_nil _ _ _ _) (some ⟨w.heap.size, 0, none⟩) 1 1 [nmV 0] rfl (rd_new0 w [nmV 0] _ 1 rfl) (nm_one [0]) (by simp only [maxLen]; omega) (by omega) (by simp) ?_; intro v1 w1 hown1 hg1 hat1)
  go_ret
  exact ⟨_, rfl, hown1, ((Below.refl _ _).alloc (Nat.le_refl _) _).grown hg1 (by simp) (fun g h => by simp [Value.ownBlock] at h)⟩
theorem opUses_10 (w : World) : Calls Try.prog 51 #[.int .u8 10] w (UsesP 10 w) := by
  obtain ⟨i0, hi0, hz0, hz1, hz2⟩ := info_parts str_info
  unfold UsesP
  rw [uses_10]
  go_enter Try.func51, Try.ntmps51
  go_wp2_with (at_builtin; refine wpList_append_any _ rfl (.tmp 27) (.tmp 28) _ rfl w.heap.size 9 i0 _ 1 16 Try.underlying65 hi0 hz0 hz1 hz2 rfl (by omega) (.slice none 0 0) 0 [] rfl (World.ownsRow_nil _ _ _ _) (some ⟨w.heap.size, 0, none⟩) 1 1 [nmV 0] rfl (rd_new0 w [nmV 0] _ 1 rfl) (nm_one [0]) (by simp only [maxLen]; omega) (by omega) (by simp) ?_; intro v1 w1 hown1 hg1 hat1)
  go_ret
  exact ⟨_, rfl, hown1, ((Below.refl _ _).alloc (Nat.le_refl _) _).grown hg1 (by simp) (fun g h => by simp [Value.ownBlock] at h)⟩
theorem opUses_3 (w : World) : Calls Try.prog 51 #[.int .u8 3] w (UsesP 3 w) := by
  obtain ⟨i0, hi0, hz0, hz1, hz2⟩ := info_parts str_info
  unfold UsesP
  rw [uses_3]
  go_enter Try.func51, Try.ntmps51
  go_wp2_with (first | (at_builtin; refine wpList_append_any _ rfl (.tmp 31) (.tmp 32) _ rfl w.heap.size 9 i0 _ 1 16 Try.underlying65 hi0 hz0 hz1 hz2 rfl (by omega) v1 1 [nmV 0] rfl (hown1.alloc _) (some ⟨w1.heap.size, 0, none⟩) 1 1 [nmV 4] rfl (rd_new0 w1 [nmV 4] _ 1 rfl) (nm_one [4]) (by simp only [maxLen]; omega) (by omega) (by have := hb1.size; simp; omega) ?_; intro v2 w2 hown2 hg2 hat2) | (at_builtin; refine wpList_append_any _ rfl (.tmp 27) (.tmp 28) _ rfl w.heap.size 9 i0 _ 1 16 Try.underlying65 hi0 hz0 hz1 hz2 rfl (by omega) (.slice none 0 0) 0 [] rfl (World.ownsRow_nil _ _ _ _) (some ⟨w.heap.size, 0, none⟩) 1 1 [nmV 0] rfl (rd_new0 w [nmV 0] _ 1 rfl) (nm_one [0]) (by simp only [maxLen]; omega) (by omega) (by simp) ?_; intro v1 w1 hown1 hg1 hat1; have hb1 : Below w.heap.size w w1 := ((Below.refl _ _).alloc (Nat.le_refl _) _).grown hg1 (by simp) (fun g h => by simp [Value.ownBlock] at h)))
  go_ret
  exact ⟨_, rfl, hown2, (hb1.alloc hb1.size _).grown hg2 (by have := hb1.size; simp; omega) (fun g h => (World.ownsRow.lt hown1 g h).1)⟩
theorem opUses_5 (w : World) : Calls Try.prog 51 #[.int .u8 5] w (UsesP 5 w) := by
  obtain ⟨i0, hi0, hz0, hz1, hz2⟩ := info_parts str_info
  unfold UsesP
  rw [uses_5]
  go_enter Try.func51, Try.ntmps51
  go_wp2_with (first | (at_builtin; refine wpList_append_any _ rfl (.tmp 31) (.tmp 32) _ rfl w.heap.size 9 i0 _ 1 16 Try.underlying65 hi0 hz0 hz1 hz2 rfl (by omega) v1 1 [nmV 0] rfl (hown1.alloc _) (some ⟨w1.heap.size, 0, none⟩) 1 1 [nmV 4] rfl (rd_new0 w1 [nmV 4] _ 1 rfl) (nm_one [4]) (by simp only [maxLen]; omega) (by omega) (by have := hb1.size; simp; omega) ?_; intro v2 w2 hown2 hg2 hat2) | (at_builtin; refine wpList_append_any _ rfl (.tmp 27) (.tmp 28) _ rfl w.heap.size 9 i0 _ 1 16 Try.underlying65 hi0 hz0 hz1 hz2 rfl (by omega) (.slice none 0 0) 0 [] rfl (World.ownsRow_nil _ _ _ _) (some ⟨w.heap.size, 0, none⟩) 1 1 [nmV 0] rfl (rd_new0 w [nmV 0] _ 1 rfl) (nm_one [0]) (by simp only [maxLen]; omega) (by omega) (by simp) ?_; intro v1 w1 hown1 hg1 hat1; have hb1 : Below w.heap.size w w1 := ((Below.refl _ _).alloc (Nat.le_refl _) _).grown hg1 (by simp) (fun g h => by simp [Value.ownBlock] at h)))
  go_ret
  exact ⟨_, rfl, hown2, (hb1.alloc hb1.size _).grown hg2 (by have := hb1.size; simp; omega) (fun g h => (World.ownsRow.lt hown1 g h).1)⟩
theorem opUses_no (k : UInt8) (w : World) (h1 : k ≠ 1) (h2 : k ≠ 2) (h3 : k ≠ 3) (h4 : k ≠ 4) (h5 : k ≠ 5) (h6 : k ≠ 6) (h7 : k ≠ 7) (h8 : k ≠ 8) (h9 : k ≠ 9) (h10 : k ≠ 10) : Calls Try.prog 51 #[.int .u8 (k.toNat : Int)] w (UsesP k w) := by
  have hu := uses_no h1 h2 h3 h4 h5 h6 h7 h8 h9 h10
  have e1 := u8_is k 1 h1 1 rfl
  have e2 := u8_is k 2 h2 2 rfl
  have e3 := u8_is k 3 h3 3 rfl
  have e4 := u8_is k 4 h4 4 rfl
  have e5 := u8_is k 5 h5 5 rfl
  have e6 := u8_is k 6 h6 6 rfl
  have e7 := u8_is k 7 h7 7 rfl
  have e8 := u8_is k 8 h8 8 rfl
  have e9 := u8_is k 9 h9 9 rfl
  have e10 := u8_is k 10 h10 10 rfl
  clear h1 h2 h3 h4 h5 h6 h7 h8 h9 h10
  unfold UsesP
  rw [hu]
  clear hu
  go_enter Try.func51, Try.ntmps51
  go_wp2
  go_ret
  exact ⟨_, rfl, World.ownsRow_nil _ _ _ _, Below.refl _ _⟩
theorem opUses_s (k : UInt8) (w : World) : Calls Try.prog 51 #[.int .u8 (k.toNat : Int)] w (UsesP k w) := by
  by_cases h1 : k = 1
  · subst h1; exact opUses_1 w
  by_cases h2 : k = 2
  · subst h2; exact opUses_2 w
  by_cases h3 : k = 3
  · subst h3; exact opUses_3 w
  by_cases h4 : k = 4
  · subst h4; exact opUses_4 w
  by_cases h5 : k = 5
  · subst h5; exact opUses_5 w
  by_cases h6 : k = 6
  · subst h6; exact opUses_6 w
  by_cases h7 : k = 7
  · subst h7; exact opUses_7 w
  by_cases h8 : k = 8
  · subst h8; exact opUses_8 w
  by_cases h9 : k = 9
  · subst h9; exact opUses_9 w
  by_cases h10 : k = 10
  · subst h10; exact opUses_10 w
  exact opUses_no k w h1 h2 h3 h4 h5 h6 h7 h8 h9 h10
theorem refUses_no (k : UInt8) (w : World) (h1 : k ≠ 1) (h2 : k ≠ 2) (h3 : k ≠ 3) (h4 : k ≠ 4) (h5 : k ≠ 5) (h6 : k ≠ 6) (h7 : k ≠ 7) (h8 : k ≠ 8) (h9 : k ≠ 9) (h10 : k ≠ 10) : Calls Try.prog 52 #[.int .u8 (k.toNat : Int)] w (UsesP k w) := by
  have hu := uses_no h1 h2 h3 h4 h5 h6 h7 h8 h9 h10
  have e1 := u8_is k 1 h1 1 rfl
  have e2 := u8_is k 2 h2 2 rfl
  have e3 := u8_is k 3 h3 3 rfl
  have e4 := u8_is k 4 h4 4 rfl
  have e5 := u8_is k 5 h5 5 rfl
  have e6 := u8_is k 6 h6 6 rfl
  have e7 := u8_is k 7 h7 7 rfl
  have e8 := u8_is k 8 h8 8 rfl
  have e9 := u8_is k 9 h9 9 rfl
  have e10 := u8_is k 10 h10 10 rfl
  clear h1 h2 h3 h4 h5 h6 h7 h8 h9 h10
  unfold UsesP
  rw [hu]
  clear hu
  go_enter Try.func52, Try.ntmps52
  go_wp2
  go_ret
  exact ⟨_, rfl, World.ownsRow_nil _ _ _ _, Below.refl _ _⟩
theorem refUses_s (k : UInt8) (w : World) : Calls Try.prog 52 #[.int .u8 (k.toNat : Int)] w (UsesP k w) := by
  by_cases h1 : k = 1
  · subst h1; exact refUses_1 w
  by_cases h2 : k = 2
  · subst h2; exact refUses_2 w
  by_cases h3 : k = 3
  · subst h3; exact refUses_3 w
  by_cases h4 : k = 4
  · subst h4; exact refUses_4 w
  by_cases h5 : k = 5
  · subst h5; exact refUses_5 w
  by_cases h6 : k = 6
  · subst h6; exact refUses_6 w
  by_cases h7 : k = 7
  · subst h7; exact refUses_7 w
  by_cases h8 : k = 8
  · subst h8; exact refUses_8 w
  by_cases h9 : k = 9
  · subst h9; exact refUses_9 w
  by_cases h10 : k = 10
  · subst h10; exact refUses_10 w
  exact refUses_no k w h1 h2 h3 h4 h5 h6 h7 h8 h9 h10
end Go.Proofs.Ytgfhnbjpdhdhgaa
