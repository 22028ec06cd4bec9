/- The law SpongeNames, walked. -/
import Derived.Test.YtgjlclihgpahbaaSpL
namespace Go.Proofs.Ytgjlclihgpahbaa
open Go.RowKit
set_option linter.unusedVariables false
set_option maxRecDepth 100000

theorem sha3_val : ((Sp.new 136 6).close.shut.read 32) = [0xa7, 0xff, 0xc6, 0xf8, 0xbf, 0x1e, 0xd7, 0x66, 0x51, 0xc1, 0x47, 0x56, 0xa0, 0x61, 0xd6, 0x62, 0xf5, 0x80, 0xff, 0x4d, 0xe4, 0x3b, 0x49, 0xfa, 0x82, 0xd8, 0x0a, 0x4b, 0x80, 0xf8, 0x43, 0x4a] := by decide +kernel
attribute [local irreducible] permB kBytes kPerm kFrom
theorem Sp.shut_of {x : Sp} (h : x.s = true) : x.shut = x ∧ x.shutN = 0 := ⟨by unfold Sp.shut; rw [if_pos h], by unfold Sp.shutN; rw [if_pos h]⟩
theorem Sp.after_p {x : Sp} (n : Nat) (h : x.p + n ≤ x.r) (h0 : 0 < x.r) : (x.after n).p = x.p + n := by
  rcases Nat.eq_zero_or_pos n with rfl | hn
  · rfl
  · obtain ⟨k, rfl⟩ : ∃ k, n = k + 1 := ⟨n - 1, by omega⟩
    have h1 : x.turn = x := Sp.turn_no (by omega)
    have h2 := Sp.after_go (x := x) 0 k (by rw [Sp.after_zero, h1]; omega)
    rw [Nat.zero_add, Sp.after_zero, h1] at h2
    rw [h2]; rfl
section
variable {w0 w : World} {F0 : List Nat} {E : Env}
theorem spRead_bad (l : Value) (g : Nat) (x : Sp) (n : Int) (H : St w0 F0 w E) (j : Nat) (hj : E j = some (.blk g 71 x.vs)) (hx : x.Ok) (hn : n < 0 ∨ 65536 < n) :
    Calls Try.prog 9 #[lptr g, l, .int .i64 n] w fun e w' => e = .returned (.tuple #[.slice none 0 0, .int .i64 2]) ∧ w = w' := by
  obtain ⟨k1, k2, k3, k4⟩ := Sp.cells hx.hb
  have h8 := hx.r8
  have c0 := H.cell j hj k1
  clear k1 k2 k3 k4 hx hj H
  by_cases h1 : n < 0
  · have d1 : decide (n < 0) = true := by simp; omega
    clear hn h1
    go_enter Try.func9, Try.ntmps9
    go_wp2_with fail
    refine (spNone_no g x.r w c0 (by omega)).mono ?_
    rintro e w1 ⟨rfl, rfl⟩
    unfold lptr
    go_wp2
    go_ret2
    exact ⟨rfl, rfl⟩
  · have d1 : decide (n < 0) = false := by simp; omega
    have d2 : decide (n > 65536) = true := by simp; omega
    clear hn h1
    go_enter Try.func9, Try.ntmps9
    go_wp2_with fail
    refine (spNone_no g x.r w c0 (by omega)).mono ?_
    rintro e w1 ⟨rfl, rfl⟩
    unfold lptr
    go_wp2
    go_ret2
    exact ⟨rfl, rfl⟩
end

set_option maxHeartbeats 4000000 in
theorem spongeNames_walk (w : World) : Calls Try.prog 3 #[] w fun e w' => e = .returned (.bool true) ∧ Below w.heap.size w w' := by
  have H := (St.start_lay w []).ledNil 0 rfl |>.push_mk rfl
  go_enter Try.func3, Try.ntmps3
  go_wp2_with fail
  refine (spNew_no 0 6 (.inl (by omega))).mono ?_
  rintro e w1 ⟨rfl, rfl⟩
  go_wp2_with fail
  refine (spNew_no 12 6 (.inr (.inr (by omega)))).mono ?_
  rintro e w1 ⟨rfl, rfl⟩
  go_wp2_with fail
  refine (spNew_no 200 6 (.inr (.inl (by omega)))).mono ?_
  rintro e w1 ⟨rfl, rfl⟩
  go_wp2_with fail
  refine (spNew_s 192 0 H 1 rfl (by omega) (by omega) (by omega)).mono ?_
  rintro e w1 ⟨g1, rfl, H1⟩
  replace H := H1.push_mk rfl
  clear H1
  unfold lptr
  go_wp2_with fail
  refine (spNew_s 136 6 H 2 rfl (by omega) (by omega) (by omega)).mono ?_
  rintro e w1 ⟨g2, rfl, H1⟩
  replace H := H1.push_mk rfl
  clear H1
  unfold lptr
  go_wp2_with fail
  refine (spClose_s (.pointer none) none 0 0 g2 (Sp.new 136 6) H 0 2 (by omega) rfl rfl (LW.none _ _) (by omega) (by omega) (Sp.new_ok _ _ (by omega) (by omega)) rfl).mono ?_
  rintro e w1 ⟨rfl, H1⟩
  rw [upd_laid (by simp), upd_laid (by simp)] at H1
  replace H := H1
  clear H1
  go_wp2_with fail
  refine (spRead_s (.pointer none) none 0 0 g2 (Sp.new 136 6).close 32 32 rfl H 0 2 3 (by omega) rfl rfl rfl (LW.none _ _) (by omega) (by omega) (Sp.close_ok (Sp.new_ok _ _ (by omega) (by omega))).1 (by omega)).mono ?_
  rintro e w1 ⟨v3, rfl, H1⟩
  rw [sha3_val, upd_laid (by simp), upd_laid (by simp)] at H1
  replace H := H1.push_mk rfl
  clear H1
  obtain ⟨A3, c3, rfl, -⟩ := row_form (H.row 3 rfl)
  go_wp2_with fail
  refine absorb_calls (H.allocAt 4 rfl w1.heap.size rfl _ _ |>.push_mk rfl) ?_
  clear H
  intro w2 H
  generalize w1.heap.size = gL at H ⊢
  refine (ledger_new H 5 rfl).mono ?_
  rintro e w3 ⟨l, rfl, H1⟩
  replace H := H1.push_mk rfl
  clear H1
  obtain ⟨S2, hS2⟩ : ∃ S2, ((Sp.new 136 6).close.shut.after 32) = S2 := ⟨_, rfl⟩
  rw [hS2] at H
  clear hS2
  obtain ⟨L3, hL3⟩ : ∃ L3 : List UInt8, L3 = [0xa7, 0xff, 0xc6, 0xf8, 0xbf, 0x1e, 0xd7, 0x66, 0x51, 0xc1, 0x47, 0x56, 0xa0, 0x61, 0xd6, 0x62, 0xf5, 0x80, 0xff, 0x4d, 0xe4, 0x3b, 0x49, 0xfa, 0x82, 0xd8, 0x0a, 0x4b, 0x80, 0xf8, 0x43, 0x4a] := ⟨_, rfl⟩
  replace H : St w [] w3 (lay [led (.pointer none) none, .blk g1 71 (Sp.new (Int.toNat 192) 0).vs, .blk g2 71 S2.vs, .row 5 1 (.slice A3 32 c3) 32 (L3.map vb), .blk gL 5 (L3.map vb), led l (some [])]) := by rw [hL3]; exact H
  have HL3 : Hid (L3.length = 32) := by rw [hL3]; rfl
  clear hL3
  go_wp2_with fail
  refine (spNew_s 168 31 H 6 rfl (by omega) (by omega) (by omega)).mono ?_
  rintro e w1 ⟨g6, rfl, H1⟩
  replace H := H1.push_mk rfl
  clear H1
  unfold lptr
  have hx : Hid (Sp.new 168 31).Ok := Sp.new_ok _ _ (by omega) (by omega)
  go_wp2_with fail
  refine (sameBytes_yes A3 (some ⟨gL, 0, none⟩) 32 32 c3 32 L3 L3 _ (H.rd 3 rfl) (H.rdBlk 4 rfl 1 32 (by rw [List.length_map, HL3.out])) (by omega) (by omega) rfl).mono ?_
  rintro e w4 ⟨rfl, hb⟩
  replace H := H.call hb
  clear hb
  go_wp2_with fail
  refine (spRead_bad l g6 (Sp.new 168 31) 65537 H 6 rfl hx.out (.inr (by omega))).mono ?_
  rintro e w5 ⟨rfl, rfl⟩
  go_wp2_with fail
  refine (spRead_bad l g6 (Sp.new 168 31) (-1) H 6 rfl hx.out (.inl (by omega))).mono ?_
  rintro e w5 ⟨rfl, rfl⟩
  go_wp2_with fail
  refine (spShut_s g6 (Sp.new 168 31) H 6 rfl hx.out).mono ?_
  rintro e w5 ⟨rfl, rfl⟩
  rw [show (Sp.new 168 31).s = false from rfl]
  go_wp2_with fail
  refine (ledger_len_w H 5 rfl).mono ?_
  rintro e w5 ⟨rfl, rfl⟩
  rw [total_nil]
  have hsh : Hid ((Sp.new 168 31).shut.Ok ∧ (Sp.new 168 31).shut.s = true ∧ (Sp.new 168 31).shut.r = 168 ∧ (Sp.new 168 31).shut.p = 0 ∧ (Sp.new 168 31).shutN = 1) := ⟨(Sp.shut_ok hx.out).1, (Sp.shut_ok hx.out).2.1, rfl, rfl, rfl⟩
  go_wp2_with fail
  refine (spRead_s l (some []) 0 0 g6 (Sp.new 168 31) 8 8 rfl H 5 6 7 (by omega) rfl rfl rfl LW.nil (by omega) (by omega) hx.out (by omega)).mono ?_
  rintro e w5 ⟨v7, rfl, H1⟩
  rw [hsh.out.2.2.2.1, hsh.out.2.2.2.2, show (Sp.new 168 31).r = 168 from rfl, show noteN (some []) 3 200 (1 + (0 + 8 - 1) / 168) = some [(3, 200, 1)] from rfl, upd_laid (by simp), upd_laid (by simp)] at H1
  replace H := (H1.push_mk rfl).front 7
  clear H1
  generalize (Sp.new 168 31).shut = x at H hsh
  replace H : St w [] w5 (lay [led (.pointer none) none, .blk g1 71 (Sp.new (Int.toNat 192) 0).vs, .blk g2 71 S2.vs, .row 5 1 (.slice A3 32 c3) 32 (L3.map vb), .blk gL 5 (L3.map vb), led l (some [(3, 200, 1)]), .blk g6 71 (x.after 8).vs]) := H
  have hx8 := Sp.after_ok hsh.out.1 hsh.out.2.1 8
  have hp8 := Sp.after_p (x := x) 8 (by rw [hsh.out.2.2.1, hsh.out.2.2.2.1]; omega) (by rw [hsh.out.2.2.1]; omega)
  rw [hsh.out.2.2.1] at hx8
  rw [hsh.out.2.2.2.1] at hp8
  have HX : Hid ((x.after 8).Ok ∧ (x.after 8).r = 168 ∧ (x.after 8).s = true ∧ (x.after 8).p = 8) := ⟨hx8.1, hx8.2.1, hx8.2.2.1, hp8⟩
  clear hx8 hp8 hsh
  generalize x.after 8 = y at H HX
  go_wp2_with fail
  refine (ledger_len_w H 5 rfl).mono ?_
  rintro e w6 ⟨rfl, rfl⟩
  rw [show total [(3, 200, 1)] = 1 from rfl]
  go_wp2_with fail
  refine (spWrite_no l g6 y none 0 0 (fun k u hu => H.cell 6 rfl hu) HX.out.1 HX.out.2.2.1).mono ?_
  rintro e w6 ⟨rfl, rfl⟩
  go_wp2_with fail
  refine (spClose_no l g6 y (fun k u hu => H.cell 6 rfl hu) HX.out.1 HX.out.2.2.1).mono ?_
  rintro e w6 ⟨rfl, rfl⟩
  go_wp2_with fail
  refine (spShut_s g6 y H 6 rfl HX.out.1).mono ?_
  rintro e w6 ⟨rfl, rfl⟩
  rw [HX.out.2.2.1]
  go_wp2_with fail
  refine (spRate_s g6 y H 6 rfl HX.out.1).mono ?_
  rintro e w6 ⟨rfl, rfl⟩
  rw [HX.out.2.1]
  go_wp2_with fail
  refine (spRead_s l (some [(3, 200, 1)]) 1 1 g6 y 160 160 rfl H 5 6 7 (by omega) rfl rfl rfl (LW.nil.noteN 3 200 1) (by omega) (by omega) HX.out.1 (by omega)).mono ?_
  rintro e w6 ⟨v7', rfl, H1⟩
  rw [(Sp.shut_of HX.out.2.2.1).1, (Sp.shut_of HX.out.2.2.1).2, HX.out.2.1, HX.out.2.2.2, show noteN (some [(3, 200, 1)]) 3 200 (0 + (8 + 160 - 1) / 168) = some [(3, 200, 1)] from rfl, upd_laid (by simp), upd_laid (by simp)] at H1
  replace H := (H1.push_mk rfl).front 7
  clear H1
  replace H : St w [] w6 (lay [led (.pointer none) none, .blk g1 71 (Sp.new (Int.toNat 192) 0).vs, .blk g2 71 S2.vs, .row 5 1 (.slice A3 32 c3) 32 (L3.map vb), .blk gL 5 (L3.map vb), led l (some [(3, 200, 1)]), .blk g6 71 (y.after 160).vs]) := H
  have hx8 := Sp.after_ok HX.out.1 HX.out.2.2.1 160
  have hp8 := Sp.after_p (x := y) 160 (by rw [HX.out.2.1, HX.out.2.2.2]; omega) (by rw [HX.out.2.1]; omega)
  rw [HX.out.2.1] at hx8
  rw [HX.out.2.2.2] at hp8
  have HZ : Hid ((y.after 160).Ok ∧ (y.after 160).r = 168 ∧ (y.after 160).s = true ∧ (y.after 160).p = 168) := ⟨hx8.1, hx8.2.1, hx8.2.2.1, hp8⟩
  clear hx8 hp8 HX
  generalize y.after 160 = z at H HZ
  go_wp2_with fail
  refine (ledger_len_w H 5 rfl).mono ?_
  rintro e w7 ⟨rfl, rfl⟩
  rw [show total [(3, 200, 1)] = 1 from rfl]
  go_wp2_with fail
  refine (spRead_s l (some [(3, 200, 1)]) 1 1 g6 z 1 1 rfl H 5 6 7 (by omega) rfl rfl rfl (LW.nil.noteN 3 200 1) (by omega) (by omega) HZ.out.1 (by omega)).mono ?_
  rintro e w7 ⟨v8, rfl, H1⟩
  rw [(Sp.shut_of HZ.out.2.2.1).1, (Sp.shut_of HZ.out.2.2.1).2, HZ.out.2.1, HZ.out.2.2.2, show noteN (some [(3, 200, 1)]) 3 200 (0 + (168 + 1 - 1) / 168) = some [(3, 200, 2)] from rfl, upd_laid (by simp), upd_laid (by simp)] at H1
  replace H := (H1.push_mk rfl).front 7
  clear H1
  replace H : St w [] w7 (lay [led (.pointer none) none, .blk g1 71 (Sp.new (Int.toNat 192) 0).vs, .blk g2 71 S2.vs, .row 5 1 (.slice A3 32 c3) 32 (L3.map vb), .blk gL 5 (L3.map vb), led l (some [(3, 200, 2)]), .blk g6 71 (z.after 1).vs]) := H
  have HY : Hid (z.after 1).Ok := (Sp.after_ok HZ.out.1 HZ.out.2.2.1 1).1
  clear HZ
  generalize z.after 1 = y2 at H HY
  go_wp2_with fail
  refine (ledger_runs_w 1 2 H 5 rfl (fun rs h => by injection h with h; subst h; exact ⟨by simp, by simp, by decide⟩) (by omega) 7 rfl).mono ?_
  rintro e w8 ⟨v9, rfl, H1⟩
  replace H := H1.push_mk rfl
  clear H1
  obtain ⟨A9, c9, rfl, -, -⟩ := row_shape (H.row 7 rfl)
  replace H : St w [] w8 (lay [led (.pointer none) none, .blk g1 71 (Sp.new (Int.toNat 192) 0).vs, .blk g2 71 S2.vs, .row 5 1 (.slice A3 32 c3) 32 (L3.map vb), .blk gL 5 (L3.map vb), led l (some [(3, 200, 2)]), .blk g6 71 y2.vs, .row 43 3 (.slice A9 1 c9) 1 (runsV [(3, 200, 2)])]) := H
  go_wp2_with fail
  refine absorb_calls (H.allocAt 8 rfl w8.heap.size rfl #[.int .u8 3, .int .i64 200, .int .i64 2] 43 |>.push_mk rfl) ?_
  clear H
  intro w9 H
  generalize w8.heap.size = gR at H ⊢
  refine (sameRuns_any A9 (some ⟨gR, 0, none⟩) c9 1 [(3, 200, 2)] [(3, 200, 2)] (H.rd 7 rfl) (H.rdBlk 8 rfl 3 1 rfl) (by simp) (by simp)).mono ?_
  rintro e w10 ⟨rfl, k10, rfl⟩
  replace H := (H.drewN k10).front 7
  replace H : St w [] (w9.drewN k10) (lay [led (.pointer none) none, .blk g1 71 (Sp.new (Int.toNat 192) 0).vs, .blk g2 71 S2.vs, .row 5 1 (.slice A3 32 c3) 32 (L3.map vb), .blk gL 5 (L3.map vb), led l (some [(3, 200, 2)]), .blk g6 71 y2.vs]) := H
  rw [decide_eq_true rfl]
  generalize w9.drewN k10 = w10 at H ⊢
  go_wp2_with fail
  refine (spRead_s (.pointer none) none 0 0 g6 y2 65536 65536 rfl H 0 6 7 (by omega) rfl rfl rfl (LW.none _ _) (by omega) (by omega) HY.out (by omega)).mono ?_
  rintro e w11 ⟨v11, rfl, H1⟩
  rw [upd_laid (by simp), upd_laid (by simp)] at H1
  replace H := H1.push_mk rfl
  clear H1
  obtain ⟨A11, c11, rfl, -⟩ := row_form (H.row 7 rfl)
  go_wp2_with fail
  refine (lives_s).mono ?_
  rintro e w12 ⟨rfl, hb12⟩
  replace H := H.call hb12
  go_wp2
  go_ret
  exact ⟨rfl, H.below⟩
end Go.Proofs.Ytgjlclihgpahbaa
