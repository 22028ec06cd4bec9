/- The program's sponge: Read. -/
import Derived.Test.YtgjlclihgpahbaaSpQ
import Derived.Test.YtgjlclihgpahbaaHeld2

namespace Go.Proofs.Ytgjlclihgpahbaa
open Go.RowKit
set_option linter.unusedVariables false
set_option maxRecDepth 100000

attribute [local irreducible] permB kBytes kPerm kFrom

section
variable {w0 w : World} {F0 : List Nat} {E : Env}

/-- a sponge, shut -/
def Sp.shut (x : Sp) : Sp := if x.s = true then x else x.close

def Sp.shutN (x : Sp) : Nat := if x.s = true then 0 else 1

theorem Sp.shut_ok {x : Sp} (h : x.Ok) : x.shut.Ok ∧ x.shut.s = true ∧ x.shut.r = x.r := by
  unfold Sp.shut
  by_cases hs : x.s = true
  · rw [if_pos hs]; exact ⟨h, hs, rfl⟩
  · rw [if_neg hs]; have := Sp.close_ok h; exact ⟨this.1, this.2.1, this.2.2.1⟩

theorem chunk_at {b : List UInt8} {xs : List Value} {p d j : Nat} {v : Value} (h : (((b.drop p).take d).map vb)[j]? = some v) : (b.map vb ++ xs)[p + j]? = some v := by
  rw [List.getElem?_map, List.getElem?_take] at h
  by_cases hj : j < d
  · rw [if_pos hj, List.getElem?_drop] at h
    have hl : p + j < b.length := by
      rcases Nat.lt_or_ge (p + j) b.length with h1 | h1
      · exact h1
      · rw [List.getElem?_eq_none h1] at h; cases h
    rw [List.getElem?_append_left (by rw [List.length_map]; exact hl), List.getElem?_map]
    exact h
  · rw [if_neg hj] at h; cases h

theorem spread_end {w0 w : World} {F0 : List Nat} {x y : Sp} {t e n g gO : Nat} {A : Own} (h1 : x.after (t + e) = y.go e) (h2 : x.read (t + e) = x.read t ++ (y.b.drop y.p).take e) (hb : y.b.length = 200) (he : t + e ≤ n ∧ y.p + e ≤ 200)
    (H : St w0 F0 w (lay ([A, .blk g 71 y.vs, .blk gO 5 ((x.read t ++ List.replicate (n - t) 0).map vb)].set 2 (.blk gO 5 (splice ((x.read t ++ List.replicate (n - t) 0).map vb) t (((y.b.drop y.p).take e).map vb)))))) :
    St w0 F0 (w.setCell ⟨g, 202, none⟩ (.int .i64 ((y.p : Int) + (e : Int)))) (lay [A, .blk g 71 (x.after (t + e)).vs, .blk gO 5 ((x.read (t + e) ++ List.replicate (n - (t + e)) 0).map vb)]) := by
  have hl : ((y.b.drop y.p).take e).length = e := by rw [List.length_take, List.length_drop, hb]; omega
  rw [splice_mid _ _ _ n t (Sp.read_length x t) (List.length_replicate ..) (by rw [hl]; omega), hl, ← h2, List.drop_replicate, show n - t - e = n - (t + e) by omega] at H
  have H2 := (H.store 1 rfl (o := 202) (u := .int .i64 ((y.p : Int) + (e : Int)))).upd_mk (by simp)
  unfold Sp.vs at H2
  rw [sp_put _ _ 2 _ hb rfl, show ((y.p : Int) + (e : Int)) = ((y.p + e : Nat) : Int) by rw [Int.natCast_add]] at H2
  rw [h1, show ((y.p : Int) + (e : Int)) = ((y.p + e : Nat) : Int) by rw [Int.natCast_add]]
  exact H2

set_option maxHeartbeats 4000000 in
theorem spRead_s (l : Value) (r : Option (List RunT)) (m : Nat) (b : Int) (g : Nat) (x0 : Sp) (n : Nat) (N : Int) (hN : N = n) (H : St w0 F0 w E) (i j k0 : Nat) (hij : i ≠ j) (hi : E i = some (led l r)) (hj : E j = some (.blk g 71 x0.vs)) (hk : E k0 = none) (hg : LW r m b) (hm : m ≤ 999999999999) (hb : b ≤ 4000000000000000000) (hx0 : x0.Ok) (hn : n ≤ 65536) :
    Calls Try.prog 9 #[lptr g, l, .int .i64 N] w fun e w' => ∃ v, e = .returned (.tuple #[v, .int .i64 0]) ∧ St w0 F0 w' (upd (upd (upd E i (led l (noteN r 3 200 (x0.shutN + (x0.shut.p + n - 1) / x0.r)))) j (.blk g 71 (x0.shut.after n).vs)) k0 (.row 5 1 v n ((x0.shut.read n).map vb))) := by
  subst hN
  obtain ⟨i0, hi0, hz0, hz1, hz2⟩ := info_parts u8_info
  obtain ⟨F, HF, -, -, hback⟩ := H.frame2 i j hij hi hj
  have HB := Lib.hid hback
  have HKK := Lib.hid hk
  have HIJ := Lib.hid hij
  have HI := Lib.hid hi
  have HJ := Lib.hid hj
  replace HF := HF.as2
  clear H hback hi hj hk hij
  obtain ⟨k1, k2, k3, k4⟩ := Sp.cells hx0.hb
  have h8 := hx0.r8
  have c0 := HF.cell 1 rfl k1
  have c3 := HF.cell 1 rfl k4
  clear k1 k2 k3 k4
  obtain ⟨x, c0', hxe, hce, hxok, hxs, hcl⟩ : ∃ (x : Sp) (c0' : Nat), Hid (x0.shut = x) ∧ Hid (x0.shutN = c0') ∧ Hid x.Ok ∧ Hid (x.s = true) ∧ c0' ≤ 1 := ⟨_, _, rfl, rfl, (Sp.shut_ok hx0).1, (Sp.shut_ok hx0).2.1, by unfold Sp.shutN; split <;> omega⟩
  have hrr : Hid (x.r = x0.r) := by unfold Hid; rw [← hxe.out]; exact (Sp.shut_ok hx0).2.2
  have hnn : decide ((n : Int) < 0) = false := by simp
  have hnn2 : decide ((n : Int) > 65536) = false := by simp; omega
  have HX0 := Lib.hid hx0
  clear hx0
  rcases hs : x0.s with _ | _
  all_goals rw [hs] at c3
  have hS := Lib.hid hs
  have e1 : Hid (x = x0.close) := by unfold Hid; rw [← hxe.out]; unfold Sp.shut; rw [if_neg (by rw [hs]; decide)]
  have e2 : Hid (c0' = 1) := by unfold Hid; rw [← hce.out]; unfold Sp.shutN; rw [if_neg (by rw [hs]; decide)]
  clear hs
  go_enter Try.func9, Try.ntmps9
  go_wp2_with fail
  refine (spNone_no g x0.r w c0 (by omega)).mono ?_
  rintro e w1 ⟨rfl, rfl⟩
  unfold lptr
  go_wp2_with fail
  refine (spClose_s l r m b g x0 HF 0 1 (by omega) rfl rfl hg hm hb HX0.out hS.out).mono ?_
  rintro e w2 ⟨rfl, H2⟩
  rw [upd_laid (by simp), upd_laid (by simp)] at H2
  replace H2 : St w F w2 (lay [led l (noteN r 3 200 c0'), .blk g 71 x.vs]) := by rw [e1.out, e2.out]; exact H2
  clear c0 c3 HF
  go_upto_region 7 with (fail)
  refine absorb_wp (E := lay [led l (noteN r 3 200 c0'), .blk g 71 x.vs]) H2 ?_
  clear H2 hnn hnn2
  intro w2 H2
  rotate_left
  have e1 : Hid (x = x0) := by unfold Hid; rw [← hxe.out]; unfold Sp.shut; rw [if_pos hs]
  have e2 : Hid (c0' = 0) := by unfold Hid; rw [← hce.out]; unfold Sp.shutN; rw [if_pos hs]
  clear hs
  go_enter Try.func9, Try.ntmps9
  go_wp2_with fail
  refine (spNone_no g x0.r w c0 (by omega)).mono ?_
  rintro e w1 ⟨rfl, rfl⟩
  unfold lptr
  replace HF : St w F w (lay [led l (noteN r 3 200 c0'), .blk g 71 x.vs]) := by rw [e1.out, e2.out, noteN_zero]; exact HF
  go_upto_region 7 with (fail)
  refine absorb_wp (E := lay [led l (noteN r 3 200 c0'), .blk g 71 x.vs]) HF ?_
  clear HF hnn hnn2 c0 c3
  intro w2 H2
  rotate_left
  all_goals
    have hmk1 : i0.bytes * n ≤ 281474976710656 := by rw [hz2]; omega
    have hmk2 : n ≤ maxLen := by simp only [maxLen]; omega
    obtain ⟨w3, hrun, ho3, hg3⟩ := run_make_full (P := Try.prog) w2 w2.heap.size 27 5 i0 (.int .u8 0) 1 Try.underlying27 hi0 hz0 hz1 .i64 .i64 n hmk1 hmk2 (Nat.le_refl _)
    go_wp2
    try (rw [hrun]; go_wp2)
    clear hrun
    have hb3 : Below w2.heap.size w2 w3 := (Below.refl _ _).grown hg3 (Nat.le_refl _) (fun _ h => by cases h)
    have H3 := (((H2.pushRow 2 rfl hb3 (made0 ho3)).push_mk rfl).rowFull 2 rfl).upd_mk (by simp)
    clear ho3 hg3 hb3 H2 e1 e2
    generalize w2.heap.size = gO at H3 ⊢
    go_loopw [9] (fun i wr => ∃ t c : Nat, t ≤ n ∧ i = .int .i64 t ∧ Hid (c * x.r + (x.after t).p = x.p + t ∧ (t = 0 → c = 0) ∧ (0 < t → 1 ≤ (x.after t).p)) ∧ St w F wr (lay [led l (noteN r 3 200 (c0' + c)), .blk g 71 (x.after t).vs, .blk gO 5 ((x.read t ++ List.replicate (n - t) 0).map vb)])) (fun i _ => n - (intOf i).toNat)
    case atStart => exact ⟨0, 0, Nat.zero_le _, rfl, ⟨by rw [Sp.after_zero]; omega, fun _ => rfl, fun h => absurd h (by omega)⟩, H3⟩
    case round =>
      clear H3
      obtain ⟨t, c, ht, rfl, HC, H⟩ := hrel
      by_cases hlt : t < n
      · have hz := Sp.after_ok hxok.out hxs.out t
        have HZ : Hid ((x.after t).Ok ∧ (x.after t).r = x.r ∧ (x.after t).s = true) := ⟨hz.1, hz.2.1, hz.2.2.1⟩
        have hcb : c ≤ 65800 := by
          have h1 := HC.out.1
          have h2 := hxok.out.pr
          have h3 := hxok.out.r192
          have h4 := hxok.out.r8
          have : c * 1 ≤ c * x.r := Nat.mul_le_mul_left c (by omega)
          omega
        generalize hzz : x.after t = z at H HC HZ
        have HZZ := Lib.hid hzz
        clear hzz hz
        obtain ⟨k1, k2, k3, k4⟩ := Sp.cells HZ.out.1.hb
        have b0 := H.cell 1 rfl k1
        have b2 := H.cell 1 rfl k3
        have hk1 : (t : Int) < n := by omega
        clear k1 k2 k3 k4
        by_cases he : z.p = z.r
        have he1 : ((z.p : Int) == (z.r : Int)) = true := by simp; omega
        have HY := Lib.hid (Sp.turn_yes he)
        have hzp := HZ.out.1.hb
        have HCC : Hid ((c + 1) * x.r + z.turn.p = x.p + t ∧ 1 = 1) := by
          refine ⟨?_, rfl⟩
          have h1 := HC.out.1
          rw [HY.out]
          show (c + 1) * x.r + 0 = x.p + t
          rw [Nat.add_mul, Nat.one_mul, ← h1, he, HZ.out.2.1, Nat.add_zero]
        clear he
        go_wp2
        go_quiet (fail)
        go_wp2_with fail
        refine (spPermute_s l _ (m + 1) (b + ((c0' + c : Nat) : Int)) g z (H.drewN nq) 0 1 (by omega) rfl rfl (hg.noteN 3 200 _) (by omega) (by omega) hzp).mono ?_
        rintro e w6 ⟨rfl, H6⟩
        rw [upd_laid (by simp), upd_laid (by simp), noteN_noteN] at H6
        go_upto_region 12 with (fail)
        obtain ⟨c', HCY, hcb', H7⟩ : ∃ c', Hid (c' * x.r + z.turn.p = x.p + t) ∧ c' ≤ 65801 ∧ St w F w6 (lay [led l (noteN r 3 200 (c0' + c')), .blk g 71 z.turn.vs, .blk gO 5 ((x.read t ++ List.replicate (n - t) 0).map vb)]) := ⟨c + 1, HCC.out.1, by omega, by rw [HY.out]; exact H6⟩
        refine absorb_wp H7 ?_
        clear H6 H7 H HCC he1
        intro w7 H
        rotate_left
        have he1 : ((z.p : Int) == (z.r : Int)) = false := by simp; omega
        have HY := Lib.hid (Sp.turn_no he)
        go_wp2
        go_quiet (fail)
        go_upto_region 12 with (fail)
        obtain ⟨c', HCY, hcb', H7⟩ : ∃ c', Hid (c' * x.r + z.turn.p = x.p + t) ∧ c' ≤ 65801 ∧ St w F (wr.drewN nq) (lay [led l (noteN r 3 200 (c0' + c')), .blk g 71 z.turn.vs, .blk gO 5 ((x.read t ++ List.replicate (n - t) 0).map vb)]) := ⟨c, by unfold Hid; rw [HY.out]; exact HC.out.1, by omega, by rw [HY.out]; exact H.drewN _⟩
        refine absorb_wp H7 ?_
        clear H7 H he1
        intro w7 H
        rotate_left
        all_goals
          clear HY HC b0 b2
          have hz1 := Sp.turn_lt HZ.out.1
          have hz2 := Sp.turn_r z
          have hze := HZZ.out
          have HAG : ∀ k, z.turn.p + (k + 1) ≤ z.turn.r → x.after (t + (k + 1)) = z.turn.go (k + 1) := by
            intro k hk
            have := Sp.after_go (x := x) t k
            rw [hze] at this
            exact this hk
          have HRM : ∀ k, z.turn.p + k ≤ z.turn.r → z.turn.r ≤ 192 → z.turn.b.length = 200 → x.read (t + k) = x.read t ++ (z.turn.b.drop z.turn.p).take k := by
            intro k
            have := Sp.read_more (x := x) t k
            rw [hze] at this
            exact this
          rw [hz2.1] at HAG HRM
          have hzr := HZ.out.2.1
          have h192 := HZ.out.1.r192
          have h88 := HZ.out.1.r8
          have hr1 : z.turn.r = z.r := hz2.1
          rw [hzr] at HAG HRM hr1 h192 h88
          obtain ⟨hp1, hb2⟩ := hz1
          rw [hzr] at hp1
          generalize z.turn = y at H HCY HAG HRM hp1 hb2 hr1
          clear hz2 hze hzr HZ HZZ
          obtain ⟨D, hK⟩ : ∃ D, min (n - t) (x.r - y.p) = D + 1 := ⟨min (n - t) (x.r - y.p) - 1, by omega⟩
          have hAG := HAG D (by omega)
          have hRM := HRM (D + 1) (by omega) (by omega) hb2
          obtain ⟨e, hE⟩ : ∃ e, D + 1 = e := ⟨_, rfl⟩
          rw [hE] at hAG hRM hK
          have he1 : 1 ≤ e := by omega
          clear HAG HRM hE
          clear D
          have HAG1 := Lib.hid hAG
          have HRM1 := Lib.hid hRM
          obtain ⟨k1, -, k3, -⟩ := Sp.cells hb2
          rw [hr1] at k1
          have HR1 := Lib.hid hr1
          have HK := Lib.hid hK
          have HB2 := Lib.hid hb2
          have hK1 : e ≤ n - t := by omega
          have hK2 : y.p + e ≤ x.r := by omega
          clear hAG hRM hr1 hK hb2
          have hnt : ¬ n = t := by omega
          have hpp : y.p ≤ 200 := by omega
          have hpr : (y.p : Int) ≤ x.r := by omega
          have hrx : (x.r : Int) ≤ 200 := by omega
          replace H := H.drew
          refine wp_region_held_drew (S := fun w' : World => ∃ Z, St w F w' (lay [led l (noteN r 3 200 (c0' + c')), .blk g 71 y.vs, .blk gO 5 Z])) (by kernel_rfl) ?_ (fun hHeld => ?_)
          · exact ⟨_, H⟩
          refine takeV 0 rfl (by intro w h; clear h; go_simp; try with_reducible rfl) (by kernel_rfl) (by kernel_rfl) (by kernel_rfl) (by exact fun _ _ _ h => h) (by rfl) (by assumption) ?_
          try simp only [Act.put, List.setIfInBounds_toArray, List.set_cons_zero, List.set_cons_succ]
          refine takeV 1 rfl (by intro w h; clear h; go_simp; try with_reducible rfl) (by kernel_rfl) (by kernel_rfl) (by kernel_rfl) (by exact fun _ _ _ h => h) (by rfl) (by assumption) ?_
          try simp only [Act.put, List.setIfInBounds_toArray, List.set_cons_zero, List.set_cons_succ]
          refine takeV 2 rfl (by intro w h; clear h; go_simp; try with_reducible rfl) (by kernel_rfl) (by kernel_rfl) (by kernel_rfl) (by exact fun _ _ _ h => h) (by rfl) (by assumption) ?_
          try simp only [Act.put, List.setIfInBounds_toArray, List.set_cons_zero, List.set_cons_succ]
          refine takeV 3 rfl (by intro w h; clear h; go_simp; try with_reducible rfl) (by kernel_rfl) (by kernel_rfl) (by kernel_rfl) (by exact fun _ _ _ h => h) (by rfl) (by assumption) ?_
          try simp only [Act.put, List.setIfInBounds_toArray, List.set_cons_zero, List.set_cons_succ]
          refine takeV 4 rfl (by intro w h; clear h; go_simp; try with_reducible rfl) (by kernel_rfl) (by kernel_rfl) (by kernel_rfl) (by exact fun _ _ _ h => h) (by rfl) (by assumption) ?_
          try simp only [Act.put, List.setIfInBounds_toArray, List.set_cons_zero, List.set_cons_succ]
          refine takeV 5 rfl (by intro w h; clear h; go_simp; try with_reducible rfl) (by kernel_rfl) (by kernel_rfl) (by kernel_rfl) (by exact fun _ _ _ h => h) (by rfl) (by assumption) ?_
          try simp only [Act.put, List.setIfInBounds_toArray, List.set_cons_zero, List.set_cons_succ]
          refine takeV 6 rfl (by intro w h; clear h; go_simp; try with_reducible rfl) (by kernel_rfl) (by kernel_rfl) (by kernel_rfl) (by exact fun _ _ _ h => h) (by rfl) (by assumption) ?_
          try simp only [Act.put, List.setIfInBounds_toArray, List.set_cons_zero, List.set_cons_succ]
          refine takeV 7 rfl (by intro w h; clear h; go_simp; try with_reducible rfl) (by kernel_rfl) (by kernel_rfl) (by kernel_rfl) (by exact fun _ _ _ h => h) (by rfl) (by assumption) ?_
          try simp only [Act.put, List.setIfInBounds_toArray, List.set_cons_zero, List.set_cons_succ]
          refine takeV 8 rfl (by intro w h; clear h; go_simp; try with_reducible rfl) (by kernel_rfl) (by kernel_rfl) (by kernel_rfl) (by exact fun _ _ _ h => h) (by rfl) (by assumption) ?_
          try simp only [Act.put, List.setIfInBounds_toArray, List.set_cons_zero, List.set_cons_succ]
          refine takeV 9 rfl (by intro w h; have hc := (h.elim fun Z h => h.cell 1 rfl k3); clear h; go_simp; try with_reducible rfl) (by kernel_rfl) (by kernel_rfl) (by kernel_rfl) (by exact fun _ _ _ h => h) (by rfl) (by assumption) ?_
          try simp only [Act.put, List.setIfInBounds_toArray, List.set_cons_zero, List.set_cons_succ]
          refine takeV 10 rfl (by intro w h; clear h; go_simp; try with_reducible rfl) (by kernel_rfl) (by kernel_rfl) (by kernel_rfl) (by exact fun _ _ _ h => h) (by rfl) (by assumption) ?_
          try simp only [Act.put, List.setIfInBounds_toArray, List.set_cons_zero, List.set_cons_succ]
          refine takeV 11 rfl (by intro w h; clear h; go_simp; try with_reducible rfl) (by kernel_rfl) (by kernel_rfl) (by kernel_rfl) (by exact fun _ _ _ h => h) (by rfl) (by assumption) ?_
          try simp only [Act.put, List.setIfInBounds_toArray, List.set_cons_zero, List.set_cons_succ]
          refine takeV 12 rfl (by intro w h; clear h; go_simp; try with_reducible rfl) (by kernel_rfl) (by kernel_rfl) (by kernel_rfl) (by exact fun _ _ _ h => h) (by rfl) (by assumption) ?_
          try simp only [Act.put, List.setIfInBounds_toArray, List.set_cons_zero, List.set_cons_succ]
          refine takeV 13 rfl (by intro w h; have hc := (h.elim fun Z h => h.cell 1 rfl k1); clear h; go_simp; try with_reducible rfl) (by kernel_rfl) (by kernel_rfl) (by kernel_rfl) (by exact fun _ _ _ h => h) (by rfl) (by assumption) ?_
          try simp only [Act.put, List.setIfInBounds_toArray, List.set_cons_zero, List.set_cons_succ]
          refine takeV 14 rfl (by intro w h; clear h; go_simp; try with_reducible rfl) (by kernel_rfl) (by kernel_rfl) (by kernel_rfl) (by exact fun _ _ _ h => h) (by rfl) (by assumption) ?_
          try simp only [Act.put, List.setIfInBounds_toArray, List.set_cons_zero, List.set_cons_succ]
          refine take_call 15 rfl (by kernel_rfl) (fun K hK => ?_)
          refine step_copy_st rfl (.tmp 48) (.tmp 60) _ _ rfl 5 Try.underlying27 u8_size _ _ _ _ _ _ (by rfl) (by rfl) H 2 gO t _ _ (by rfl) (((y.b.drop y.p).take e).map vb) ?_ ?_ ?_ (vb_one _) ?_
          · rw [List.length_map, List.length_take, List.length_drop, HB2.out]; have := HK.out; show min e (200 - y.p) = min (x.r - y.p) (n - t); omega
          · exact fun _ => ⟨rfl, ⟨g, y.p, none⟩, by rw [if_neg (by omega)], fun j v hv => by rw [Addr.add_mid]; exact H.cell 1 rfl (chunk_at hv)⟩
          · rw [List.length_map, List.length_map, List.length_append, Sp.read_length, List.length_replicate, List.length_take, List.length_drop, HB2.out]; omega
          intro w5 H5
          replace H5 := H5.upd_mk (by simp)
          refine hK.out _ _ ?_ (fun hHeld => ?_)
          · exact ⟨_, H5⟩
          clear hK K
          try simp only [Act.put, List.setIfInBounds_toArray, List.set_cons_zero, List.set_cons_succ]
          rw [show (((y.b.drop y.p).take e).map vb).length = e by rw [List.length_map, List.length_take, List.length_drop, HB2.out]; omega]
          refine takeV 16 rfl (by intro w h; clear h; go_simp; try with_reducible rfl) (by kernel_rfl) (by kernel_rfl) (by kernel_rfl) (by exact fun _ _ _ h => h) (by rfl) (by assumption) ?_
          try simp only [Act.put, List.setIfInBounds_toArray, List.set_cons_zero, List.set_cons_succ]
          refine wpAnyH_done (by kernel_rfl) ?_ _
          have c2 := H5.cell 1 rfl k3
          have f2 := H5.free 1 rfl 202
          clear hHeld
          go_wp2
          go_roundw
          case rel => exact ⟨t + e, c', by omega, by go_num, ⟨by rw [HAG1.out]; show c' * x.r + (y.p + e) = _; have := HCY.out; omega, fun h => absurd h (by omega), fun _ => by rw [HAG1.out]; show 1 ≤ y.p + e; omega⟩, spread_end HAG1.out HRM1.out HB2.out (by omega) H5⟩
          case measure => simp [intOf]; omega
      · obtain rfl : n = t := by omega
        have hcc : Hid (c = (x.p + n - 1) / x.r) := count_end HC.out.1 (by have h := Sp.after_ok hxok.out hxs.out n; rw [← h.2.1]; exact h.1.pr) HC.out.2.1 HC.out.2.2 (by have := hxok.out.r8; omega) hxok.out.pr
        rw [Nat.sub_self, List.replicate_zero, List.append_nil] at H
        have H8 := (H.blkRow 2 rfl (n := n) (by rw [List.length_map, Sp.read_length]) (by simp only [maxLen]; omega)).upd_mk (by simp)
        rw [hcc.out, hrr.out, ← hxe.out, ← hce.out] at H8
        clear H HC
        go_wp2
        go_ret2
        exact ⟨_, rfl, St.two_more HIJ.out HI.out HJ.out HKK.out HB.out H8⟩

end

end Go.Proofs.Ytgjlclihgpahbaa
