/- Operations as bytes: Encode, in op and in the document. -/
import Derived.Test.YtgfhnbjpdhdhgaaOpA
import Derived.LoopN
namespace Go.Proofs.Ytgfhnbjpdhdhgaa
open Go.RowKit
set_option linter.unusedVariables false

structure OpT where
  kind : UInt8
  handle : Int
  alg : UInt8
  count : Int
  out : Int
  data : List UInt8
  more : List UInt8
abbrev opV (k : UInt8) (h : Int) (a : UInt8) (c o : Int) (d m : Value) : Value := .agg #[.int .u8 (k.toNat : Int), .int .i64 h, .int .u8 (a.toNat : Int), .int .i64 c, .int .i64 o, d, m]
/-- a whole number as a word of 64 bits -/
def u64N (x : Int) : Nat := (x % 18446744073709551616).toNat
theorem u64N_le (x : Int) : u64N x ≤ 18446744073709551615 := by unfold u64N; omega
theorem u64N_eq (x : Int) : x % 18446744073709551616 = (u64N x : Int) := by unfold u64N; omega
theorem own_enc {w : World} {base n : Nat} {v : Value} {l : List UInt8} {xs : List Value} (h : l.map vb = xs) (ho : w.ownsRow base 5 1 v n xs) (hn : n = l.length) : OwnB w base v l := by
  subst h hn; exact ho
def encB (k : UInt8) (h : Int) (a : UInt8) (c o : Int) (d m : List UInt8) : List UInt8 := [k, a] ++ beL 8 (u64N h) ++ beL 8 (u64N c) ++ beL 8 (u64N o) ++ beL 3 d.length ++ beL 3 m.length ++ d ++ m
theorem St.pushOwnB {w0 w w' : World} {F0 : List Nat} {E : Env} {v : Value} {l : List UInt8} (H : St w0 F0 w E) (k : Nat) (hk : E k = none) (ho : OwnB w' w.heap.size v l) (hb : Below w.heap.size w w') : St w0 F0 w' (upd E k (.row 5 1 v l.length (l.map vb))) := H.pushRow k hk hb ho
theorem St.lit {w0 w : World} {F0 : List Nat} {E : Env} (H : St w0 F0 w E) (k : Nat) (hk : E k = none) (e : TypeId) (cs : Array Value) (n : Nat) (hn : cs.size = n) (h1 : n ≤ 1000) (b : Nat) (hb : b = w.heap.size) : St w0 F0 (w.alloc (.cells cs e)) (upd E k (.row e 1 (.slice (some ⟨b, 0, none⟩) n n) n cs.toList)) := by
  subst hb
  exact H.pushRow k hk ((Below.refl _ _).alloc (Nat.le_refl _) _) (World.ownsRow_lit w cs n (Nat.le_refl _) (by simp only [maxLen]; omega) (by omega))
theorem i3_size : (Try.prog.info? 3).map (·.size) = some 1 := by kernel_rfl
theorem i3_notAgg (w : World) : (isAgg 3).run Try.prog w = .ok false w := by simp [isAgg, run_underlying Try.underlying3]
theorem i3_0 (x y z : Int) (w : World) : (Instr.index 77 (.agg #[.int .i64 x, .int .i64 y, .int .i64 z]) (.int .i64 0)).run Try.prog w = .ok (.int .i64 x) w := run_index_agg (P := Try.prog) 77 3 3 #[.int .i64 x, .int .i64 y, .int .i64 z] 0 (.int .i64 x) Try.underlying77 i3_size i3_notAgg (by omega) rfl w
theorem i3_1 (x y z : Int) (w : World) : (Instr.index 77 (.agg #[.int .i64 x, .int .i64 y, .int .i64 z]) (.int .i64 1)).run Try.prog w = .ok (.int .i64 y) w := run_index_agg (P := Try.prog) 77 3 3 #[.int .i64 x, .int .i64 y, .int .i64 z] 1 (.int .i64 y) Try.underlying77 i3_size i3_notAgg (by omega) rfl w
theorem i3_2 (x y z : Int) (w : World) : (Instr.index 77 (.agg #[.int .i64 x, .int .i64 y, .int .i64 z]) (.int .i64 2)).run Try.prog w = .ok (.int .i64 z) w := run_index_agg (P := Try.prog) 77 3 3 #[.int .i64 x, .int .i64 y, .int .i64 z] 2 (.int .i64 z) Try.underlying77 i3_size i3_notAgg (by omega) rfl w

set_option maxHeartbeats 1000000 in
theorem encode_s (k : UInt8) (h : Int) (al : UInt8) (cn ou : Int) (A : Option Addr) (n c : Nat) (B : Option Addr) (m d : Nat) (xs ys : List UInt8) (w : World) (hd : Rd w 1 A n (xs.map vb)) (hm : Rd w 1 B m (ys.map vb)) (hn : n ≤ 16777215) (hn' : m ≤ 16777215) :
    Calls Try.prog 29 #[opV k h al cn ou (.slice A n c) (.slice B m d)] w fun e w' => ∃ v, e = .returned (.tuple #[v, .int .i64 0]) ∧ OwnB w' w.heap.size v (encB k h al cn ou xs ys) ∧ Below w.heap.size w w' := by
  obtain ⟨i0, hi0, hz0, hz1, hz2⟩ := info_parts u8_info
  have hlx : xs.length = n := by simpa using hd.1
  have hly : ys.length = m := by simpa using hm.1
  have Hx := Lib.hid hlx
  have Hy := Lib.hid hly
  clear hlx hly
  have hn1 : ¬ (16777215 : Int) < n := by omega
  have hn2 : ¬ (16777215 : Int) < m := by omega
  have g0 := i3_0 h cn ou
  have g1 := i3_1 h cn ou
  have g2 := i3_2 h cn ou
  have H0 := St.start_lay w []
  go_enter Try.func29, Try.ntmps29
  go_wp2_with fail
  refine absorb_wp (H0.allocAt 0 rfl w.heap.size rfl _ _ |>.push_mk rfl |>.lit 1 rfl _ _ 2 rfl (by omega) (w.heap.size + 1) (by simp) |>.push_mk rfl) ?_
  intro w1 H
  generalize w.heap.size + 1 = gb at H ⊢
  generalize hga : w.heap.size = ga at H ⊢
  clear hga H0
  have e1 := u64N_eq h
  have e2 := u64N_eq cn
  have e3 := u64N_eq ou
  refine wp_loop_rounds 4 ?_
  rw [rounds_succ]
  go_wp2_with fail
  refine (number_s 1 2 8 (u64N h) _ [k, al] H rfl e1 rfl (u64N_le h) (by omega) (by omega)).mono ?_
  rintro e w2 ⟨v2, rfl, H2⟩
  replace H2 := H2.upd_mk (by simp)
  clear H
  go_wp2_with fail
  rw [rounds_succ]
  go_wp2_with fail
  refine (number_s 1 10 8 (u64N cn) _ _ H2 rfl e2 rfl (u64N_le cn) (by omega) (by omega)).mono ?_
  rintro e w3 ⟨v3, rfl, H3⟩
  replace H3 := H3.upd_mk (by simp)
  clear H2
  go_wp2_with fail
  rw [rounds_succ]
  go_wp2_with fail
  refine (number_s 1 18 8 (u64N ou) _ _ H3 rfl e3 rfl (u64N_le ou) (by omega) (by omega)).mono ?_
  rintro e w4 ⟨v4, rfl, H4⟩
  replace H4 := H4.upd_mk (by simp)
  clear H3
  go_wp2_with fail
  rw [rounds_succ]
  go_wp2_with fail
  generalize hp4 : [k, al] ++ beL 8 (u64N h) ++ beL 8 (u64N cn) ++ beL 8 (u64N ou) = p4 at H4
  have P4 := Lib.hid hp4
  clear hp4
  replace H4 : St w [] w4 (lay [.blk ga 31 [.int .u8 (k.toNat : Int), .int .i64 h, .int .u8 (al.toNat : Int), .int .i64 cn, .int .i64 ou, .slice A n c, .slice B m d], .row 5 1 v4 26 (p4.map vb)]) := H4
  clear g0 g1 g2 e1 e2 e3
  have H5 := H4.drew
  clear H4
  go_region_held3 (fun w' => w'.cell? ⟨ga, 5, none⟩ = some (.slice A n c) ∧ w'.cell? ⟨ga, 6, none⟩ = some (.slice B m d)) (first | exact ⟨H7.cell 0 rfl rfl, H7.cell 0 rfl rfl⟩ | exact ⟨H6.cell 0 rfl rfl, H6.cell 0 rfl rfl⟩ | exact ⟨H5.cell 0 rfl rfl, H5.cell 0 rfl rfl⟩) ((first | (go_at_call 60; refine (number_s 1 29 3 m v6 _ H6 rfl (IntWalk.u64_in _ (by omega)) rfl (by omega) (by omega) (by omega)).mono ?_; rintro e w7 ⟨v7, rfl, H7⟩; replace H7 := H7.upd_mk (by simp)) | (go_at_call 60; refine (number_s 1 26 3 n v4 p4 H5 rfl (IntWalk.u64_in _ (by omega)) rfl (by omega) (by omega) (by omega)).mono ?_; rintro e w6 ⟨v6, rfl, H6⟩; replace H6 := H6.upd_mk (by simp))))
  generalize hp7 : p4 ++ beL 3 n ++ beL 3 m = p7 at H7
  have P7 := Lib.hid hp7
  clear hp7
  replace H7 : St w [] w7 (lay [.blk ga 31 [.int .u8 (k.toNat : Int), .int .i64 h, .int .u8 (al.toNat : Int), .int .i64 cn, .int .i64 ou, .slice A n c, .slice B m d], .row 5 1 v7 32 (p7.map vb)]) := H7
  clear H5 H6
  go_wp2
  have H8 := H7.drew
  clear H7
  have hr8 := H8.row 1 rfl
  go_region_held3 (fun w' => w'.cell? ⟨ga, 5, none⟩ = some (.slice A n c) ∧ w'.cell? ⟨ga, 6, none⟩ = some (.slice B m d)) (first | exact ⟨H10.cell 0 rfl rfl, H10.cell 0 rfl rfl⟩ | exact ⟨H9.cell 0 rfl rfl, H9.cell 0 rfl rfl⟩ | exact ⟨H8.cell 0 rfl rfl, H8.cell 0 rfl rfl⟩) ((first | (refine step_append_any _ (by rfl) (.tmp 51) (.tmp 53) _ (by rfl) 0 5 i0 (.int .u8 0) 1 1 Try.underlying25 hi0 hz0 hz1 hz2 rfl (by omega) v9 (32 + n) _ (by rfl) hr9 B m d (ys.map vb) (by rfl) (H9.arg0 hm) (vb_one _) (by simp only [maxLen]; omega) (by omega) (by omega) ?_; intro v10 w10 hown10 hg10 hat10; have H10 := H9.grow 1 rfl hown10 hg10 hat10) | (refine step_append_any _ (by rfl) (.tmp 48) (.tmp 50) _ (by rfl) 0 5 i0 (.int .u8 0) 1 1 Try.underlying25 hi0 hz0 hz1 hz2 rfl (by omega) v7 32 _ (by rfl) hr8 A n c (xs.map vb) (by rfl) (H8.arg0 hd) (vb_one _) (by simp only [maxLen]; omega) (by omega) (by omega) ?_; intro v9 w9 hown9 hg9 hat9; have H9 := (H8.grow 1 rfl hown9 hg9 hat9).upd_mk (by simp); have hr9 := H9.row 1 rfl)))
  all_goals go_wp2
  all_goals go_ret2
  all_goals
    refine ⟨v10, rfl, ?_, H10.below⟩
    refine own_enc ?_ (H10.ownRow 1 rfl) (by simp [encB, beL_length, Hx.out, Hy.out]; omega)
    rw [← P7.out, ← P4.out, ← Hx.out, ← Hy.out]
    simp [encB]

theorem encode_long (k : UInt8) (h : Int) (al : UInt8) (cn ou : Int) (A : Option Addr) (n c : Nat) (B : Option Addr) (m d : Nat) (w : World) (hn : 16777215 < n ∨ 16777215 < m) :
    Calls Try.prog 29 #[opV k h al cn ou (.slice A n c) (.slice B m d)] w fun e w' => e = .returned (.tuple #[.slice none 0 0, .int .i64 9]) ∧ Below w.heap.size w w' := by
  by_cases h1 : 16777215 < n
  · have hn1 : (16777215 : Int) < n := by omega
    clear hn h1
    go_enter Try.func29, Try.ntmps29
    go_wp2
    go_ret2
    exact ⟨rfl, (Below.refl _ _).alloc (Nat.le_refl _) _⟩
  · have hn1 : ¬ (16777215 : Int) < n := by omega
    have hn2 : (16777215 : Int) < m := by omega
    clear hn h1
    go_enter Try.func29, Try.ntmps29
    go_wp2
    go_ret2
    exact ⟨rfl, (Below.refl _ _).alloc (Nat.le_refl _) _⟩
theorem refEncode_long (k : UInt8) (h : Int) (al : UInt8) (cn ou : Int) (A : Option Addr) (n c : Nat) (B : Option Addr) (m d : Nat) (w : World) (hn : 16777215 < n ∨ 16777215 < m) :
    Calls Try.prog 46 #[opV k h al cn ou (.slice A n c) (.slice B m d)] w fun e w' => e = .returned (.tuple #[.slice none 0 0, .int .i64 9]) ∧ Below w.heap.size w w' := by
  by_cases h1 : 16777215 < n
  · have hn1 : (16777215 : Int) < n := by omega
    clear hn h1
    go_enter Try.func46, Try.ntmps46
    go_wp2
    go_ret2
    exact ⟨rfl, (Below.refl _ _).alloc (Nat.le_refl _) _⟩
  · have hn1 : ¬ (16777215 : Int) < n := by omega
    have hn2 : (16777215 : Int) < m := by omega
    clear hn h1
    go_enter Try.func46, Try.ntmps46
    go_wp2
    go_ret2
    exact ⟨rfl, (Below.refl _ _).alloc (Nat.le_refl _) _⟩

set_option maxHeartbeats 1000000 in
theorem refEncode_s (k : UInt8) (h : Int) (al : UInt8) (cn ou : Int) (A : Option Addr) (n c : Nat) (B : Option Addr) (m d : Nat) (xs ys : List UInt8) (w : World) (hd : Rd w 1 A n (xs.map vb)) (hm : Rd w 1 B m (ys.map vb)) (hn : n ≤ 16777215) (hn' : m ≤ 16777215) :
    Calls Try.prog 46 #[opV k h al cn ou (.slice A n c) (.slice B m d)] w fun e w' => ∃ v, e = .returned (.tuple #[v, .int .i64 0]) ∧ OwnB w' w.heap.size v (encB k h al cn ou xs ys) ∧ Below w.heap.size w w' := by
  obtain ⟨i0, hi0, hz0, hz1, hz2⟩ := info_parts u8_info
  have hlx : xs.length = n := by simpa using hd.1
  have hly : ys.length = m := by simpa using hm.1
  have Hx := Lib.hid hlx
  have Hy := Lib.hid hly
  clear hlx hly
  have hn1 : ¬ (16777215 : Int) < n := by omega
  have hn2 : ¬ (16777215 : Int) < m := by omega
  have H0 := St.start_lay w []
  go_enter Try.func46, Try.ntmps46
  go_wp2_with fail
  refine absorb_calls (H0.allocAt 0 rfl w.heap.size rfl _ _ |>.push_mk rfl |>.lit 1 rfl _ _ 2 rfl (by omega) (w.heap.size + 1) (by simp) |>.push_mk rfl) ?_
  intro w1 H
  generalize w.heap.size + 1 = gb at H ⊢
  generalize hga : w.heap.size = ga at H ⊢
  clear hga H0
  have c3 := H.cell 0 rfl (o := 3) rfl
  have c4 := H.cell 0 rfl (o := 4) rfl
  have c5 := H.cell 0 rfl (o := 5) rfl
  have c6 := H.cell 0 rfl (o := 6) rfl
  have e1 := u64N_eq h
  have e2 := u64N_eq cn
  have e3 := u64N_eq ou
  refine (refNumber_s 8 (u64N h) _ e1 rfl (u64N_le h) (by omega)).mono ?_
  rintro e w2 ⟨v2, rfl, ho2, hb2⟩
  obtain ⟨A2, n2, c2, rfl, hn2', hr2⟩ := ho2.shape
  have hl2 := hn2'.out
  rw [beL_length] at hl2
  subst hl2
  replace H := H.call hb2
  have r1 := H.row 1 rfl
  go_wp2_with (at_builtin; refine wpList_append_any _ rfl (.tmp 20) (.tmp 24) _ rfl 0 5 i0 (.int .u8 0) 1 1 Try.underlying25 hi0 hz0 hz1 hz2 rfl (by omega) (.slice (some ⟨gb, 0, none⟩) 2 2) 2 _ rfl r1 A2 8 c2 ((beL 8 (u64N h)).map vb) rfl hr2 (vb_one _) (by simp only [maxLen]; omega) (by omega) (by omega) ?_; intro v11 w3 hown3 hg3 hat3; refine absorb_list ((H.grow 1 rfl hown3 hg3 hat3).upd_mk (by simp)) ?_; clear hown3 hg3 hat3 H r1 hr2 c3 c4 c5 c6; intro w4 H; have c3 := H.cell 0 rfl (o := 3) rfl; have c4 := H.cell 0 rfl (o := 4) rfl; have c5 := H.cell 0 rfl (o := 5) rfl; have c6 := H.cell 0 rfl (o := 6) rfl)
  refine (refNumber_s 8 (u64N cn) _ e2 rfl (u64N_le cn) (by omega)).mono ?_
  rintro e w2 ⟨v2, rfl, ho2, hb2⟩
  obtain ⟨A2, n2, c2, rfl, hn2', hr2⟩ := ho2.shape
  have hl2 := hn2'.out
  rw [beL_length] at hl2
  subst hl2
  replace H := H.call hb2
  have r1 := H.row 1 rfl
  go_wp2_with (at_builtin; refine wpList_append_any _ rfl (.tmp 26) (.tmp 30) _ rfl 0 5 i0 (.int .u8 0) 1 1 Try.underlying25 hi0 hz0 hz1 hz2 rfl (by omega) v11 10 _ rfl r1 A2 8 c2 ((beL 8 (u64N cn)).map vb) rfl hr2 (vb_one _) (by simp only [maxLen]; omega) (by omega) (by omega) ?_; intro v12 w3 hown3 hg3 hat3; refine absorb_list ((H.grow 1 rfl hown3 hg3 hat3).upd_mk (by simp)) ?_; clear hown3 hg3 hat3 H r1 hr2 c3 c4 c5 c6; intro w4 H; have c3 := H.cell 0 rfl (o := 3) rfl; have c4 := H.cell 0 rfl (o := 4) rfl; have c5 := H.cell 0 rfl (o := 5) rfl; have c6 := H.cell 0 rfl (o := 6) rfl)
  refine (refNumber_s 8 (u64N ou) _ e3 rfl (u64N_le ou) (by omega)).mono ?_
  rintro e w2 ⟨v2, rfl, ho2, hb2⟩
  obtain ⟨A2, n2, c2, rfl, hn2', hr2⟩ := ho2.shape
  have hl2 := hn2'.out
  rw [beL_length] at hl2
  subst hl2
  replace H := H.call hb2
  have r1 := H.row 1 rfl
  go_wp2_with (at_builtin; refine wpList_append_any _ rfl (.tmp 32) (.tmp 36) _ rfl 0 5 i0 (.int .u8 0) 1 1 Try.underlying25 hi0 hz0 hz1 hz2 rfl (by omega) v12 18 _ rfl r1 A2 8 c2 ((beL 8 (u64N ou)).map vb) rfl hr2 (vb_one _) (by simp only [maxLen]; omega) (by omega) (by omega) ?_; intro v13 w3 hown3 hg3 hat3; refine absorb_list ((H.grow 1 rfl hown3 hg3 hat3).upd_mk (by simp)) ?_; clear hown3 hg3 hat3 H r1 hr2 c3 c4 c5 c6; intro w4 H; have c3 := H.cell 0 rfl (o := 3) rfl; have c4 := H.cell 0 rfl (o := 4) rfl; have c5 := H.cell 0 rfl (o := 5) rfl; have c6 := H.cell 0 rfl (o := 6) rfl)
  refine (refNumber_s 3 n _ rfl rfl (by omega) (by omega)).mono ?_
  rintro e w2 ⟨v2, rfl, ho2, hb2⟩
  obtain ⟨A2, n2, c2, rfl, hn2', hr2⟩ := ho2.shape
  have hl2 := hn2'.out
  rw [beL_length] at hl2
  subst hl2
  replace H := H.call hb2
  have r1 := H.row 1 rfl
  go_wp2_with (at_builtin; refine wpList_append_any _ rfl (.tmp 38) (.tmp 43) _ rfl 0 5 i0 (.int .u8 0) 1 1 Try.underlying25 hi0 hz0 hz1 hz2 rfl (by omega) v13 26 _ rfl r1 A2 3 c2 ((beL 3 n).map vb) rfl hr2 (vb_one _) (by simp only [maxLen]; omega) (by omega) (by omega) ?_; intro v14 w3 hown3 hg3 hat3; refine absorb_list ((H.grow 1 rfl hown3 hg3 hat3).upd_mk (by simp)) ?_; clear hown3 hg3 hat3 H r1 hr2 c3 c4 c5 c6; intro w4 H; have c3 := H.cell 0 rfl (o := 3) rfl; have c4 := H.cell 0 rfl (o := 4) rfl; have c5 := H.cell 0 rfl (o := 5) rfl; have c6 := H.cell 0 rfl (o := 6) rfl)
  refine (refNumber_s 3 m _ rfl rfl (by omega) (by omega)).mono ?_
  rintro e w2 ⟨v2, rfl, ho2, hb2⟩
  obtain ⟨A2, n2, c2, rfl, hn2', hr2⟩ := ho2.shape
  have hl2 := hn2'.out
  rw [beL_length] at hl2
  subst hl2
  replace H := H.call hb2
  have r1 := H.row 1 rfl
  go_wp2_with (first | (at_builtin; refine wpList_append_any _ rfl (.tmp 56) (.tmp 58) _ rfl 0 5 i0 (.int .u8 0) 1 1 Try.underlying25 hi0 hz0 hz1 hz2 rfl (by omega) v16 (32 + n) _ rfl rv B m d (ys.map vb) rfl (H.arg0 hm) (vb_one _) (by simp only [maxLen]; omega) (by omega) (by omega) ?_; intro v17 w3 hown3 hg3 hat3; refine absorb_list ((H.grow 1 rfl hown3 hg3 hat3).upd_mk (by simp)) ?_; clear hown3 hg3 hat3 H rv c5 c6; intro w4 H; have c5 := H.cell 0 rfl (o := 5) rfl; have c6 := H.cell 0 rfl (o := 6) rfl; have rv := H.row 1 rfl) | (at_builtin; refine wpList_append_any _ rfl (.tmp 52) (.tmp 54) _ rfl 0 5 i0 (.int .u8 0) 1 1 Try.underlying25 hi0 hz0 hz1 hz2 rfl (by omega) v15 (32) _ rfl rv A n c (xs.map vb) rfl (H.arg0 hd) (vb_one _) (by simp only [maxLen]; omega) (by omega) (by omega) ?_; intro v16 w3 hown3 hg3 hat3; refine absorb_list ((H.grow 1 rfl hown3 hg3 hat3).upd_mk (by simp)) ?_; clear hown3 hg3 hat3 H rv c5 c6; intro w4 H; have c5 := H.cell 0 rfl (o := 5) rfl; have c6 := H.cell 0 rfl (o := 6) rfl; have rv := H.row 1 rfl) | (at_builtin; refine wpList_append_any _ rfl (.tmp 45) (.tmp 50) _ rfl 0 5 i0 (.int .u8 0) 1 1 Try.underlying25 hi0 hz0 hz1 hz2 rfl (by omega) v14 29 _ rfl r1 A2 3 c2 ((beL 3 m).map vb) rfl hr2 (vb_one _) (by simp only [maxLen]; omega) (by omega) (by omega) ?_; intro v15 w3 hown3 hg3 hat3; refine absorb_list ((H.grow 1 rfl hown3 hg3 hat3).upd_mk (by simp)) ?_; clear hown3 hg3 hat3 H r1 hr2 c3 c4 c5 c6; intro w4 H; have c5 := H.cell 0 rfl (o := 5) rfl; have c6 := H.cell 0 rfl (o := 6) rfl; have rv := H.row 1 rfl))
  go_ret2
  refine ⟨v17, rfl, ?_, H.below⟩
  refine own_enc ?_ (H.ownRow 1 rfl) (by simp [encB, beL_length, Hx.out, Hy.out]; omega)
  rw [← Hx.out, ← Hy.out]
  simp [encB]
end Go.Proofs.Ytgfhnbjpdhdhgaa
